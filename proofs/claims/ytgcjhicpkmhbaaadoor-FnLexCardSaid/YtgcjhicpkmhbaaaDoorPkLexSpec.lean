import Derived.Test.YtgcjhicpkmhbaaaDoorPkLexOne
import Derived.Test.YtgcjhicpkmhbaaaDoorPkTokenS
import Derived.Test.YtgcjhicpkmhbaaaDoorApp4
/- Reading a text as tokens, by the reference: the whole. It answers what the plain function says, in a row of its own. Condition: the length. -/
namespace Go.Proofs.YtgcjhicpkmhbaaaDoor
open Go.RowKit
set_option maxRecDepth 100000
set_option maxHeartbeats 4000000
theorem passM_drop : ∀ (b : Bool) (L : List UInt8), ∃ j, passM b L = L.drop j
  | b, [] => ⟨0, by cases b <;> rfl⟩
  | true, c :: t => by
    rw [passM]
    split
    · obtain ⟨j, h⟩ := passM_drop false t
      exact ⟨j + 1, h⟩
    · obtain ⟨j, h⟩ := passM_drop true t
      exact ⟨j + 1, h⟩
  | false, c :: t => by
    rw [passM]
    split
    · obtain ⟨j, h⟩ := passM_drop false t
      exact ⟨j + 1, h⟩
    · split
      · obtain ⟨j, h⟩ := passM_drop true t
        exact ⟨j + 1, h⟩
      · exact ⟨0, rfl⟩
theorem pass_at {s : ByteArray} {a R : Nat} (h : (passM false (s.data.toList.drop a)).length + R = s.size) : s.data.toList.drop R = passM false (s.data.toList.drop a) := by
  obtain ⟨j, hj⟩ := passM_drop false (s.data.toList.drop a)
  rw [hj] at h ⊢
  rw [List.drop_drop] at h ⊢
  rw [List.length_drop, size_data] at h
  rcases Nat.lt_or_ge s.size (a + j) with hl | hl
  · rw [List.drop_of_length_le (by rw [size_data]; omega), List.drop_of_length_le (by rw [size_data]; omega)]
  · rw [show R = a + j by omega]
theorem oneL_len : ∀ L : List UInt8, (oneL L).1.s.size ≤ L.length ∧ (tokenOk (oneL L).1 = true → (oneL L).2 ≤ L.length)
  | [] => by simp [oneL, noTok, ByteArray.size]
  | c :: t => by
    have hb : ∀ l : List UInt8, (bytesOf l).size = l.length := fun l => by simp [bytesOf, ByteArray.size]
    have h1 := runL_le digB (c :: t)
    have h2 := runL_le lett (c :: t)
    have h3 := runL_le larB (c :: t)
    have h4 := runL_le noQ t
    unfold oneL
    simp only
    split
    · exact ⟨Nat.zero_le _, fun _ => h1⟩
    · split
      · refine ⟨?_, fun _ => h2⟩
        simp only [hb, List.length_take]
        omega
      · split
        · refine ⟨?_, fun _ => h3⟩
          simp only [hb, List.length_take]
          omega
        · split
          · split
            · refine ⟨?_, fun _ => ?_⟩
              · simp only [hb, List.length_take, List.length_cons]
                omega
              · simp only [List.length_cons]
                omega
            · exact ⟨Nat.zero_le _, fun h => absurd (show tokenOk noTok = true from h) (by decide)⟩
          · split
            · rename_i h
              cases t with
              | nil => cases h.2
              | cons d t => simp [ByteArray.size]
            · simp [ByteArray.size]
theorem lexF_stop (N n : Nat) (acc : List Vl) {L : List UInt8} (h : passM false L = []) : lexF N n L acc = (acc, -1) := by
  cases n with
  | zero => rfl
  | succ n => rw [lexF, if_pos h]
theorem lexF_go {N n : Nat} {acc : List Vl} {L : List UInt8} (h0 : L ≠ []) (h : passM false L = L) (h1 : tokenOk (oneL L).1 = true) (h2 : acc.length ≠ 3000) : lexF N (n + 1) L acc = lexF N n (L.drop (oneL L).2) (acc ++ [(oneL L).1]) := by
  rw [lexF, h, if_neg h0, if_pos ⟨h1, h2⟩]
theorem lexF_bad {N n : Nat} {acc : List Vl} {L : List UInt8} (h0 : L ≠ []) (h : passM false L = L) (h1 : ¬ (tokenOk (oneL L).1 = true ∧ acc.length ≠ 3000)) : lexF N (n + 1) L acc = ([], (N : Int) - (L.length : Int)) := by
  rw [lexF, h, if_neg h0, if_neg h1]
theorem specLex_any (s : ByteArray) (R : List Vl × Int) (w : World) (hs : s.size ≤ 1048576) (hR : lexed s = R) :
    Calls Tryd.prog 6 #[.string s] w fun e w' => ∃ v', e = .returned (.tuple #[v', .int .i64 R.2]) ∧ OwnT vC 3 w' w.heap.size 34 v' R.1 ∧ Below w.heap.size w w' ∧ w.heap.size ≤ w'.heap.size := by
  obtain ⟨i0, hi, hz0, hz1, hz2⟩ := info_parts infoToken
  have HI := Lib.hid hi; clear hi
  obtain ⟨R0, hR0⟩ : ∃ R0, (passM false (s.data.toList.drop 0)).length + R0 = s.size := by
    have := passM_len false (s.data.toList.drop 0)
    rw [List.length_drop, size_data] at this
    exact ⟨s.size - (passM false (s.data.toList.drop 0)).length, by omega⟩
  have HR0 := Lib.hid hR0
  have hd0 := pass_at hR0
  have HST := Lib.hid (show lexF s.size (s.size + 1) (s.data.toList.drop R0) [] = R by rw [hd0, lexF_pass]; exact hR)
  have HP0 := Lib.hid (show passM false (s.data.toList.drop R0) = s.data.toList.drop R0 by rw [hd0, passM_again])
  have hR0s : R0 ≤ s.size := by omega
  clear hR hR0 hd0
  go_enter Tryd.func6, Tryd.ntmps6
  go_wp2_with (go_at_call 18; refine (l5Pass_any s 0 R0 _ hs (Nat.zero_le _) HR0.out).mono ?_; rintro e w' ⟨rfl, rfl⟩)
  go_loopw [4, 5] (fun v i wr => ∃ (k n : Nat) (acc : List Vl), i = .int .i64 k ∧ k ≤ s.size ∧ s.size ≤ k + n ∧ acc.length ≤ 3000 ∧ passM false (s.data.toList.drop k) = s.data.toList.drop k ∧ lexF s.size (n + 1) (s.data.toList.drop k) acc = R ∧ OwnT vC 3 wr w.heap.size 34 v acc ∧ Below w.heap.size w wr) (fun _ i _ => s.size - (intOf i).toNat)
  case atStart => exact ⟨R0, s.size, [], rfl, hR0s, by omega, by simp, HP0.out, HST.out, by have hh := lit0 (f := vC) (z := 3) w 34; simpa using hh, (by repeat (first | with_reducible exact bel_refl _ | with_reducible assumption | with_reducible refine bel_set ?_ (by first | (simp; done) | (simp; omega) | omega) _ | with_reducible refine bel_alloc ?_ _ | with_reducible refine bel_drew ?_ | with_reducible refine bel_drewN ?_ _ | with_reducible refine bel_trans ?_ (by assumption)))⟩
  case round =>
    obtain ⟨k, n, acc, rfl, hk, hkn, hal, hp, hlx, ho, hbel⟩ := hrel
    have hsz := hbel.size
    obtain ⟨A, c, rfl, hac, _⟩ := ho.form
    have HO := Lib.hid ho; clear ho
    by_cases hlt : k < s.size
    · have h0 : s.data.toList.drop k ≠ [] := by rw [dropS hlt]; simp
      obtain ⟨⟨⟨tk, tn, ts⟩, tl⟩, hone⟩ : ∃ r, oneL (s.data.toList.drop k) = r := ⟨_, rfl⟩
      have hlen := oneL_len (s.data.toList.drop k)
      rw [hone, List.length_drop, size_data] at hlen
      obtain ⟨hts, htl⟩ := hlen
      dsimp only at hts htl
      have HONE := Lib.hid hone
      obtain ⟨tb, htb⟩ : ∃ tb, tokenOk ⟨tk, tn, ts⟩ = tb := ⟨_, rfl⟩
      have HTB := Lib.hid htb
      by_cases hgo : tb = true ∧ acc.length ≠ 3000
      · obtain ⟨rfl, hne⟩ := hgo
        have hpos : 1 ≤ tl := by
          have := oneL_pos (c := s[k]) (t := s.data.toList.drop (k + 1)) (by rw [← dropS hlt, hone]; exact htb)
          rw [← dropS hlt, hone] at this
          exact this
        have htl2 := htl htb
        obtain ⟨n, rfl⟩ : ∃ m, n = m + 1 := ⟨n - 1, by omega⟩
        have hl2 := lexF_go (N := s.size) (n := n + 1) h0 hp (by rw [hone]; exact htb) hne
        rw [hone, hlx, List.drop_drop] at hl2
        dsimp only at hl2
        obtain ⟨R1, hR1⟩ : ∃ R1, (passM false (s.data.toList.drop (k + tl))).length + R1 = s.size := by
          have := passM_len false (s.data.toList.drop (k + tl))
          rw [List.length_drop, size_data] at this
          exact ⟨s.size - (passM false (s.data.toList.drop (k + tl))).length, by omega⟩
        have hd1 := pass_at hR1
        have HL2 := Lib.hid (show lexF s.size (n + 1) (s.data.toList.drop R1) (acc ++ [⟨tk, tn, ts⟩]) = R by rw [hd1, lexF_pass]; exact hl2.symm)
        have HP1 := Lib.hid (show passM false (s.data.toList.drop R1) = s.data.toList.drop R1 by rw [hd1, passM_again])
        have hR1s : R1 ≤ s.size := by omega
        have hkR : k + tl ≤ R1 := by
          have := passM_len false (s.data.toList.drop (k + tl))
          rw [List.length_drop, size_data] at this
          omega
        have HR1 := Lib.hid hR1
        have hne2 : ¬ (acc.length : Int) = 3000 := by omega
        clear h0 hp hlx hone htb htl hl2 hR1 hd1
        go_wp2_with (first | (go_at_call 19; refine (l5One_any s k ⟨⟨tk, tn, ts⟩, tl⟩ _ hs hlt HONE.out).mono ?_; dsimp only [tupL]; rintro e w1 ⟨rfl, hb1⟩) | (go_at_call 20; refine (specTokenOk_any tk tn ts _ (by omega)).mono ?_; rw [HTB.out]; rintro e w2 ⟨rfl, hb2⟩; have c0 := old_cell hb2 (b := w1.heap.size) (o := 0) (v := .int .i64 tk) (by go_simp); have c1 := old_cell hb2 (b := w1.heap.size) (o := 1) (v := .int .i64 tn) (by go_simp); have c2 := old_cell hb2 (b := w1.heap.size) (o := 2) (v := .string ts) (by go_simp)) | (at_builtin; refine appT rfl (.tmp 31) (.tmp 33) _ rfl vC_sz w.heap.size 34 i0 Tryd.underlying22 HI.out hz0 hz1 hz2 rfl (by omega) _ acc rfl ((((HO.out.kept hb1).alloc _).kept hb2).alloc _) _ 1 1 [⟨tk, tn, ts⟩] rfl (RdT.new1 vC_sz w2 34 ⟨tk, tn, ts⟩) (by intro u hu; simp [fl, vC] at hu; rcases hu with rfl | rfl | rfl <;> rfl) (by omega) (by have := hb1.size; have := hb2.size; simp at this ⊢; omega) ?_; intro v' w' ho' hb' hs') | (go_at_call 18; refine (l5Pass_any s (k + tl) R1 _ hs (by omega) HR1.out).mono ?_; rintro e w3 ⟨rfl, rfl⟩))
        go_roundw
        case rel => exact ⟨R1, n, acc ++ [⟨tk, tn, ts⟩], rfl, hR1s, by omega, by rw [List.length_append, List.length_singleton]; omega, HP1.out, HL2.out, ho', (bel_alloc (bel_trans (bel_alloc (bel_trans hbel hb1) _) hb2) _).trans hb'⟩
        case measure => simp [intOf]; omega
      · have hl2 := lexF_bad (N := s.size) (n := n) (acc := acc) h0 hp (by rw [hone]; dsimp only; rw [htb]; exact hgo)
        rw [hlx, List.length_drop, size_data] at hl2
        have HL2 := Lib.hid (show R = ([], (k : Int)) by rw [hl2]; congr 1; omega)
        clear h0 hp hlx hone htb htl hl2
        cases tb
        · clear hgo
          go_wp2_with (first | (go_at_call 19; refine (l5One_any s k ⟨⟨tk, tn, ts⟩, tl⟩ _ hs hlt HONE.out).mono ?_; dsimp only [tupL]; rintro e w1 ⟨rfl, hb1⟩) | (go_at_call 20; refine (specTokenOk_any tk tn ts _ (by omega)).mono ?_; rw [HTB.out]; rintro e w2 ⟨rfl, hb2⟩))
          refine bodyPost_ret (v := .tuple #[.slice (some ⟨w2.heap.size, 0, none⟩) 0 0, .int .i64 k]) (by simp [results, Tryd.results6, go_sem]) rfl ⟨_, by rw [HL2.out], by rw [HL2.out]; exact (lit0 w2 34).lower (by have := hb1.size; have := hb2.size; simp at *; omega), (by repeat (first | with_reducible exact bel_refl _ | with_reducible assumption | with_reducible refine bel_set ?_ (by first | (simp; done) | (simp; omega) | omega) _ | with_reducible refine bel_alloc ?_ _ | with_reducible refine bel_drew ?_ | with_reducible refine bel_drewN ?_ _ | with_reducible refine bel_trans ?_ (by assumption))), by have := hb1.size; have := hb2.size; simp at *; omega⟩
        · have he3 : acc.length = 3000 := by
            rcases Nat.decEq acc.length 3000 with h | h
            · exact absurd ⟨rfl, h⟩ hgo
            · exact h
          have hne2 : (acc.length : Int) = 3000 := by omega
          clear hgo he3
          go_wp2_with (first | (go_at_call 19; refine (l5One_any s k ⟨⟨tk, tn, ts⟩, tl⟩ _ hs hlt HONE.out).mono ?_; dsimp only [tupL]; rintro e w1 ⟨rfl, hb1⟩) | (go_at_call 20; refine (specTokenOk_any tk tn ts _ (by omega)).mono ?_; rw [HTB.out]; rintro e w2 ⟨rfl, hb2⟩))
          refine bodyPost_ret (v := .tuple #[.slice (some ⟨w2.heap.size, 0, none⟩) 0 0, .int .i64 k]) (by simp [results, Tryd.results6, go_sem]) rfl ⟨_, by rw [HL2.out], by rw [HL2.out]; exact (lit0 w2 34).lower (by have := hb1.size; have := hb2.size; simp at *; omega), (by repeat (first | with_reducible exact bel_refl _ | with_reducible assumption | with_reducible refine bel_set ?_ (by first | (simp; done) | (simp; omega) | omega) _ | with_reducible refine bel_alloc ?_ _ | with_reducible refine bel_drew ?_ | with_reducible refine bel_drewN ?_ _ | with_reducible refine bel_trans ?_ (by assumption))), by have := hb1.size; have := hb2.size; simp at *; omega⟩
    · have hl2 := lexF_stop s.size (n + 1) acc (L := s.data.toList.drop k) (pass_end false (by omega))
      rw [hlx] at hl2
      have HL2 := Lib.hid hl2
      clear hp hlx hl2
      go_wp2
      refine bodyPost_ret (v := .tuple #[.slice A acc.length c, .int .i64 (-1)]) (by simp [results, Tryd.results6, go_sem]) rfl ⟨_, by rw [HL2.out], by rw [HL2.out]; exact HO.out, (by repeat (first | with_reducible exact bel_refl _ | with_reducible assumption | with_reducible refine bel_set ?_ (by first | (simp; done) | (simp; omega) | omega) _ | with_reducible refine bel_alloc ?_ _ | with_reducible refine bel_drew ?_ | with_reducible refine bel_drewN ?_ _ | with_reducible refine bel_trans ?_ (by assumption))), by omega⟩
end Go.Proofs.YtgcjhicpkmhbaaaDoor
