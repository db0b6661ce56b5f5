import Derived.Test.YtgcjhicpkmhbaaaDoorPkRunEnd
import Derived.Test.YtgcjhicpkmhbaaaDoorPkTokenAt3
import Derived.Test.YtgcjhicpkmhbaaaDoorPkLexSpec
/- Remarks are passed over in one step. Names no program. No condition. -/
namespace Go.Proofs.YtgcjhicpkmhbaaaDoor
theorem pass_true : ∀ L : List UInt8, passM true L = passM false (L.drop (runL noNl L))
  | [] => rfl
  | c :: t => by
    by_cases h : c = 10
    · subst h
      rw [passM, if_pos rfl, runL, if_neg (by decide), List.drop_zero, passM, if_pos (by decide)]
    · have hn : noNl c = true := by unfold noNl; simpa using h
      rw [passM, if_neg h, runL, if_pos hn, List.drop_succ_cons]
      exact pass_true t
theorem pass_remS {s : ByteArray} {k R : Nat} (h : k < s.size) (hc : (s[k] == 37) = true) (hR : k + runL noNl (s.data.toList.drop k) = R) : passM false (s.data.toList.drop k) = passM false (s.data.toList.drop R) := by
  have e : s[k] = 37 := by simpa using hc
  rw [run_stepS h (by rw [e]; decide)] at hR
  rw [dropS h, passM, if_neg (by rw [e]; decide), if_pos e, pass_true, List.drop_drop, show k + 1 + runL noNl (s.data.toList.drop (k + 1)) = R by omega]
end Go.Proofs.YtgcjhicpkmhbaaaDoor

/- Reading a text as tokens, by the program: the whole. It answers what the plain function says, in a row of its own. Conditions: the length; the library's variables. -/
namespace Go.Proofs.YtgcjhicpkmhbaaaDoor
open Go.RowKit
set_option maxRecDepth 100000
set_option maxHeartbeats 4000000
theorem lexF_pass3 {N n : Nat} {acc : List Vl} {R : List Vl × Int} {L L2 : List UInt8} (h : passM false L = passM false L2) (hl : lexF N n L acc = R) : lexF N n L2 acc = R := by
  rw [← hl]
  exact (lexF_pass2 h).symm
theorem implLex_any (s : ByteArray) (R : List Vl × Int) (w : World) (hs : s.size ≤ 1048576) (hR : lexed s = R) (ht : TabT w) (hv : VarE w) :
    Calls Tryd.prog 7 #[.string s] w fun e w' => ∃ v', e = .returned (.tuple #[v', .int .i64 R.2]) ∧ OwnT vC 3 w' w.heap.size 34 v' R.1 ∧ Below w.heap.size w w' ∧ w.heap.size ≤ w'.heap.size := by
  obtain ⟨i0, hi, hz0, hz1, hz2⟩ := info_parts infoToken
  have HI := Lib.hid hi; clear hi
  have HST := Lib.hid (show lexF s.size (s.size + 1) (s.data.toList.drop 0) [] = R from hR)
  have HTT := Lib.hid ht; have HVV := Lib.hid hv
  clear hR ht hv
  go_enter Tryd.func7, Tryd.ntmps7
  go_wp2
  go_loopw [4, 5] (fun v i wr => ∃ (k n : Nat) (acc : List Vl), i = .int .i64 k ∧ k ≤ s.size ∧ s.size ≤ k + n ∧ acc.length ≤ 3000 ∧ lexF s.size (n + 1) (s.data.toList.drop k) acc = R ∧ OwnT vC 3 wr w.heap.size 34 v acc ∧ Below w.heap.size w wr) (fun _ i _ => s.size - (intOf i).toNat)
  case atStart => exact ⟨0, s.size, [], rfl, Nat.zero_le _, by omega, by simp, HST.out, OwnT.nil_ _ _ _, (by repeat (first | with_reducible exact bel_refl _ | with_reducible assumption | with_reducible refine bel_set ?_ (by first | (simp; done) | (simp; omega) | omega) _ | with_reducible refine bel_alloc ?_ _ | with_reducible refine bel_drew ?_ | with_reducible refine bel_drewN ?_ _ | with_reducible refine bel_trans ?_ (by assumption)))⟩
  case round =>
    obtain ⟨k, n, acc, rfl, hk, hkn, hal, hlx, ho, hbel⟩ := hrel
    have hsz := hbel.size
    obtain ⟨A, c, rfl, hac, _⟩ := ho.form
    have HO := Lib.hid ho; clear ho
    have HX := Lib.hid hlx
    by_cases hlt : k < s.size
    · have hb := byte_le s[k]
      have e32 := beq_byte s[k] 32 32 rfl
      have e9 := beq_byte s[k] 9 9 rfl
      have e10 := beq_byte s[k] 10 10 rfl
      have e13 := beq_byte s[k] 13 13 rfl
      have e37 := beq_byte s[k] 37 37 rfl
      cases hbl : blankB s[k]
      · have hh : (s[k] == 32) = false ∧ (s[k] == 9) = false ∧ (s[k] == 10) = false ∧ (s[k] == 13) = false := by
          unfold blankB at hbl
          simpa [and_assoc] using hbl
        rw [hh.1] at e32; rw [hh.2.1] at e9; rw [hh.2.2.1] at e10; rw [hh.2.2.2] at e13
        clear hh
        cases h37 : (s[k] == 37)
        · rw [h37] at e37
          have hp := pass_stop hlt hbl h37
          have h0 : s.data.toList.drop k ≠ [] := by rw [dropS hlt]; simp
          obtain ⟨⟨⟨tk, tn, ts⟩, tl⟩, hone⟩ : ∃ r, oneL (s.data.toList.drop k) = r := ⟨_, rfl⟩
          have hlen := oneL_len (s.data.toList.drop k)
          rw [hone, List.length_drop, size_data] at hlen
          obtain ⟨_, htl⟩ := hlen
          dsimp only at htl
          have HONE := Lib.hid hone
          obtain ⟨tb, htb⟩ : ∃ tb, tokenOk ⟨tk, tn, ts⟩ = tb := ⟨_, rfl⟩
          have HTB := Lib.hid htb
          by_cases hgo : tb = true ∧ acc.length ≠ 3000
          · obtain ⟨rfl, hne⟩ := hgo
            have hpos : 1 ≤ tl := by
              have := oneL_pos (c := s[k]) (t := s.data.toList.drop (k + 1)) (by rw [← dropS hlt, hone]; exact htb)
              rw [← dropS hlt, hone] at this
              exact this
            have htl2 := htl htb
            obtain ⟨n, rfl⟩ : ∃ m, n = m + 1 := ⟨n - 1, by omega⟩
            have hl2 := lexF_go (N := s.size) (n := n + 1) h0 hp (by rw [hone]; exact htb) hne
            rw [hone, hlx, List.drop_drop] at hl2
            dsimp only at hl2
            have HL2 := Lib.hid hl2.symm
            have hne2 : ¬ (acc.length : Int) = 3000 := by omega
            have hne3 : ((acc.length : Int) == 3000) = false := by simp; omega
            clear h0 hp hlx hone htb htl hl2 h37 hbl HX
            go_wp2_with fail
            refine (tokenAt_any s k ⟨⟨tk, tn, ts⟩, tl⟩ true _ hs hlt HONE.out HTB.out (HTT.out.kept (by repeat (first | with_reducible exact bel_refl _ | with_reducible assumption | with_reducible refine bel_set ?_ (by first | (simp; done) | (simp; omega) | omega) _ | with_reducible refine bel_alloc ?_ _ | with_reducible refine bel_drew ?_ | with_reducible refine bel_drewN ?_ _ | with_reducible refine bel_trans ?_ (by assumption)))) (HVV.out.kept (by repeat (first | with_reducible exact bel_refl _ | with_reducible assumption | with_reducible refine bel_set ?_ (by first | (simp; done) | (simp; omega) | omega) _ | with_reducible refine bel_alloc ?_ _ | with_reducible refine bel_drew ?_ | with_reducible refine bel_drewN ?_ _ | with_reducible refine bel_trans ?_ (by assumption))))).mono ?_
            rintro e w1 ⟨t, e', rfl, hte, hb1⟩
            obtain ⟨rfl, rfl⟩ := hte rfl
            dsimp only [tupA]
            have ho1 := HO.out.kept hb1
            have hs1 := hb1.size
            have hnew : RdT vC 3 ((w1.alloc (.cells #[.int .i64 tk, .int .i64 tn, .string ts] 34)).alloc (.cells #[.int .i64 tk, .int .i64 tn, .string ts] 34)) (w1.heap.size + 1 + 1) (some ⟨w1.heap.size + 1, 0, none⟩) 1 [⟨tk, tn, ts⟩] := by
              have hh := RdT.new1 vC_sz (w1.alloc (.cells #[.int .i64 tk, .int .i64 tn, .string ts] 34)) 34 ⟨tk, tn, ts⟩
              rw [World.alloc_size2] at hh
              exact hh
            go_wp2_with (at_builtin; refine appT rfl (.tmp 43) (.tmp 45) _ rfl vC_sz w.heap.size 34 i0 Tryd.underlying22 HI.out hz0 hz1 hz2 rfl (by omega) _ acc rfl ((ho1.alloc _).alloc _) _ 1 1 [⟨tk, tn, ts⟩] rfl hnew (by intro u hu; simp [fl, vC] at hu; rcases hu with rfl | rfl | rfl <;> rfl) (by omega) (by simp; omega) ?_; intro v' w' ho' hb' hs')
            go_roundw
            case rel => exact ⟨k + tl, n, acc ++ [⟨tk, tn, ts⟩], rfl, by omega, by omega, by rw [List.length_append, List.length_singleton]; omega, HL2.out, ho', (bel_alloc (bel_alloc (bel_trans hbel hb1) _) _).trans hb'⟩
            case measure => simp [intOf]; omega
          · have hl2 := lexF_bad (N := s.size) (n := n) (acc := acc) h0 hp (by rw [hone]; dsimp only; rw [htb]; exact hgo)
            rw [hlx, List.length_drop, size_data] at hl2
            have HL2 := Lib.hid (show R = ([], (k : Int)) by rw [hl2]; congr 1; omega)
            clear h0 hp hlx hone htb htl hl2 h37 hbl HX
            go_wp2_with fail
            refine (tokenAt_any s k ⟨⟨tk, tn, ts⟩, tl⟩ tb _ hs hlt HONE.out HTB.out (HTT.out.kept (by repeat (first | with_reducible exact bel_refl _ | with_reducible assumption | with_reducible refine bel_set ?_ (by first | (simp; done) | (simp; omega) | omega) _ | with_reducible refine bel_alloc ?_ _ | with_reducible refine bel_drew ?_ | with_reducible refine bel_drewN ?_ _ | with_reducible refine bel_trans ?_ (by assumption)))) (HVV.out.kept (by repeat (first | with_reducible exact bel_refl _ | with_reducible assumption | with_reducible refine bel_set ?_ (by first | (simp; done) | (simp; omega) | omega) _ | with_reducible refine bel_alloc ?_ _ | with_reducible refine bel_drew ?_ | with_reducible refine bel_drewN ?_ _ | with_reducible refine bel_trans ?_ (by assumption))))).mono ?_
            rintro e w1 ⟨⟨uk, un, us⟩, e', rfl, hte, hb1⟩
            clear hte
            dsimp only [tupA]
            have hs1 := hb1.size
            cases tb
            · clear hgo
              go_wp2
              refine bodyPost_ret (v := .tuple #[.slice none 0 0, .int .i64 k]) (by simp [results, Tryd.results7, go_sem]) rfl ⟨_, by rw [HL2.out], by rw [HL2.out]; exact OwnT.nil_ _ _ _, bel_alloc (bel_trans hbel hb1) _, by simp; omega⟩
            · have he3 : (acc.length : Int) = 3000 := by
                rcases Nat.decEq acc.length 3000 with h | h
                · exact absurd ⟨rfl, h⟩ hgo
                · omega
              have he4 : ((acc.length : Int) == 3000) = true := by simp; omega
              clear hgo he3
              go_wp2
              refine bodyPost_ret (v := .tuple #[.slice none 0 0, .int .i64 k]) (by simp [results, Tryd.results7, go_sem]) rfl ⟨_, by rw [HL2.out], by rw [HL2.out]; exact OwnT.nil_ _ _ _, bel_alloc (bel_trans hbel hb1) _, by simp; omega⟩
        · obtain ⟨Q, hQ⟩ : ∃ Q, k + runL noNl (s.data.toList.drop k) = Q := ⟨_, rfl⟩
          have HF := Lib.hid (lexF_pass3 (pass_remS hlt h37 hQ) hlx)
          have hq1 : k < Q := by
            have e : s[k] = 37 := by simpa using h37
            rw [run_stepS hlt (by rw [e]; decide)] at hQ
            omega
          have hq2 : Q ≤ s.size := by have := run_leS noNl s k; omega
          have HQ := Lib.hid hQ
          rw [h37] at e37
          clear hbl h37 hlx hQ
          go_wp2_with (go_at_call 21; refine (runEndN_any s k Q _ hs hk HQ.out).mono ?_; rintro e w' ⟨rfl, rfl⟩)
          go_roundw
          case rel => exact ⟨Q, n, acc, rfl, hq2, by omega, hal, HF.out, HO.out, hbel⟩
          case measure => simp [intOf]; omega
      · have HF := Lib.hid (lexF_pass3 (pass_blank hlt hbl) hlx)
        have hh : (s[k] == 32) = true ∨ (s[k] == 32) = false ∧ (s[k] == 9) = true ∨ (s[k] == 32) = false ∧ (s[k] == 9) = false ∧ (s[k] == 10) = true ∨ (s[k] == 32) = false ∧ (s[k] == 9) = false ∧ (s[k] == 10) = false ∧ (s[k] == 13) = true := by
          unfold blankB at hbl
          cases h1 : (s[k] == 32) <;> cases h2 : (s[k] == 9) <;> cases h3 : (s[k] == 10) <;> cases h4 : (s[k] == 13) <;> simp_all
        clear hbl hlx
        rcases hh with h1 | ⟨h1, h2⟩ | ⟨h1, h2, h3⟩ | ⟨h1, h2, h3, h4⟩
        · rw [h1] at e32
          clear h1 e9 e10 e13 e37
          go_wp2
          go_roundw
          case rel => exact ⟨k + 1, n, acc, by go_num, by omega, by omega, hal, HF.out, HO.out, hbel⟩
          case measure => simp [intOf]; omega
        · rw [h1] at e32; rw [h2] at e9
          clear h1 h2 e10 e13 e37
          go_wp2
          go_roundw
          case rel => exact ⟨k + 1, n, acc, by go_num, by omega, by omega, hal, HF.out, HO.out, hbel⟩
          case measure => simp [intOf]; omega
        · rw [h1] at e32; rw [h2] at e9; rw [h3] at e10
          clear h1 h2 h3 e13 e37
          go_wp2
          go_roundw
          case rel => exact ⟨k + 1, n, acc, by go_num, by omega, by omega, hal, HF.out, HO.out, hbel⟩
          case measure => simp [intOf]; omega
        · rw [h1] at e32; rw [h2] at e9; rw [h3] at e10; rw [h4] at e13
          clear h1 h2 h3 h4 e37
          go_wp2
          go_roundw
          case rel => exact ⟨k + 1, n, acc, by go_num, by omega, by omega, hal, HF.out, HO.out, hbel⟩
          case measure => simp [intOf]; omega
    · have hl2 := lexF_stop s.size (n + 1) acc (L := s.data.toList.drop k) (pass_end false (by omega))
      rw [hlx] at hl2
      have HL2 := Lib.hid hl2
      clear hlx hl2
      go_wp2
      refine bodyPost_ret (v := .tuple #[.slice A acc.length c, .int .i64 (-1)]) (by simp [results, Tryd.results7, go_sem]) rfl ⟨_, by rw [HL2.out], by rw [HL2.out]; exact HO.out, (by repeat (first | with_reducible exact bel_refl _ | with_reducible assumption | with_reducible refine bel_set ?_ (by first | (simp; done) | (simp; omega) | omega) _ | with_reducible refine bel_alloc ?_ _ | with_reducible refine bel_drew ?_ | with_reducible refine bel_drewN ?_ _ | with_reducible refine bel_trans ?_ (by assumption))), by omega⟩
end Go.Proofs.YtgcjhicpkmhbaaaDoor
