/- The law FnPatTexts returns true at every input, and leaves what it was given as it was. No condition. -/
import Derived.Test.YtaacdnnjmiaaaaaDoorDraw12
import Derived.Test.YtaacdnnjmiaaaaaDoorPlainPat
import Derived.Test.YtaacdnnjmiaaaaaDoorArgOk
import Derived.Test.YtaacdnnjmiaaaaaDoorAt
import Derived.Test.YtaacdnnjmiaaaaaDoorRows
import Derived.Test.YtaacdnnjmiaaaaaDoorRead
import Derived.Test.YtaacdnnjmiaaaaaDoorDoor
import Derived.Test.YtaacdnnjmiaaaaaDoorCards
import Derived.Test.YtaacdnnjmiaaaaaDoorTie
import Derived.SevenTiedAt
namespace Go.Proofs.YtaacdnnjmiaaaaaDoor.fnPatTexts
open Go.ChangeShapes Go.WideShapes Go.ChangeAt Go.RowKit
open Go.ChangeMaps (open_string shut_string)
set_option linter.unusedVariables false
set_option maxRecDepth 100000
set_option maxHeartbeats 20000000

theorem hasText_any (A : Option Addr) (N n c : Nat) (xs : List ByteArray) (s : ByteArray) (w : World) (B : Nat) (hr : RdS sC 1 w B A N xs) (hn : N ≤ 4611686018427387904) (hN : n ≤ N) :
    Calls Tryd.prog 7 #[.slice A n c, .string s] w fun e w' => e = .returned (.bool (decide (s ∈ xs.take n))) ∧ w = w' := by
  have HL := Lib.hid hr.len
  go_enter Tryd.func7, Tryd.ntmps7
  go_wp2
  go_loop [5] (fun i => ∃ k : Nat, k ≤ n ∧ i = .int .i64 k ∧ ¬ s ∈ xs.take k) (fun i => n - (intOf i).toNat)
  case atStart => exact ⟨0, Nat.zero_le _, rfl, by simp⟩
  case round =>
    obtain ⟨k, hk, rfl, hno⟩ := hrel
    have HN := Lib.hid hno; clear hno
    by_cases hlt : k < n
    · obtain ⟨b, o, rfl, hb, hc⟩ := hr.2.string_ (by omega)
      obtain ⟨x, he, c0⟩ := hc k (by omega)
      clear hc
      have hkl : k < xs.length := by rw [HL.out]; omega
      have HE := Lib.hid he; clear he
      by_cases hs : x = s
      · subst hs
        have hss : (x.toList == x.toList) = true := by simp
        go_wp2
        go_ret
        exact ⟨ret_bool (by rw [eq_comm, decide_eq_true_eq, ← HE.out]; exact List.mem_take_iff_getElem.2 ⟨k, by rw [HL.out]; omega, rfl⟩), rfl⟩
      · have hss : (x.toList == s.toList) = false := by rw [str_eq, decide_eq_false hs]
        have HS := Lib.hid hs; clear hs
        go_wp2
        go_round
        case rel => exact ⟨k + 1, by omega, by go_num, notMem_succ hkl HE.out HN.out (fun h => HS.out h.symm)⟩
        case measure => simp [intOf]; omega
    · have hno : ¬ s ∈ xs.take n := by have := HN.out; rwa [show k = n by omega] at this
      have HNO := Lib.hid hno; clear hno
      go_wp2
      go_ret
      exact ⟨ret_bool (by rw [eq_comm, decide_eq_false_iff_not]; exact HNO.out), rfl⟩
theorem walk (A : Option Addr) (n c : Nat) (code : List UInt8) (W : World) (hs : n ≤ c ∧ c ≤ maxLen ∧ RdB W W.heap.size A n code) (ht : TabT W) :
    Calls Tryd.prog 3 #[.slice A n c] W fun e w' => e = .returned (.bool true) ∧ Below W.heap.size W w' := by
  obtain ⟨hnc, _, hr⟩ := hs
  have HTT := Lib.hid ht; clear ht
  by_cases hbig : (1048576 : Int) < n
  · go_enter Tryd.func3, Tryd.ntmps3
    go_wp2_with fail
    refine (big_any _ _ _ _).mono ?_
    rw [decide_eq_true hbig]
    rintro e w' ⟨rfl, rfl⟩
    go_wp2
    go_ret
    exact ⟨rfl, Below.refl _ _⟩
  · go_enter Tryd.func3, Tryd.ntmps3
    go_wp2_with fail
    refine (big_any _ _ _ _).mono ?_
    rw [decide_eq_false (by omega)]
    rintro e w' ⟨rfl, rfl⟩
    go_wp2_with fail
    refine (DrawPatOk_any A n c code W _ hr (Nat.le_refl _) (by omega)).mono ?_
    rintro e w1 ⟨kd, A2, c2, ags, nt, hkd, hal, hsm, rfl, r0, gW⟩
    have hgood : ∀ x ∈ ags, goodA x := fun x hx => ⟨by have := (hsm x hx).1; omega, by have := (hsm x hx).2; omega⟩
    have HG := Lib.hid hgood; clear hsm hgood
    go_wp2_with fail
    refine (implVarsOf_any kd A2 _ c2 ags nt _ w1.heap.size (r0.alloc _) (by omega)).mono ?_
    rintro e w2 ⟨v, rfl, hov, hb, hsz⟩
    obtain ⟨Al, cl, rfl, hcl, _⟩ := hov.form
    have g2 : Below W.heap.size W w2 := (by repeat (first | with_reducible exact bel_refl _ | with_reducible assumption | with_reducible refine bel_set ?_ (by first | (simp; done) | (simp; omega) | omega) _ | with_reducible refine bel_alloc ?_ _ | with_reducible refine bel_drew ?_ | with_reducible refine bel_drewN ?_ _ | with_reducible refine bel_trans ?_ (by assumption)))
    have x0 := old_cell hb (b := w1.heap.size) (o := 0) (v := .string kd) (by go_simp)
    have x1 := old_cell hb (b := w1.heap.size) (o := 1) (v := .slice A2 ags.length c2) (by go_simp)
    have x2 := old_cell hb (b := w1.heap.size) (o := 2) (v := .bool nt) (by go_simp)
    have rl : RdS sC 1 w2 w2.heap.size Al (varsOf ags).length (varsOf ags) := hov.rdO
    have r2 : RdS aC 5 w2 w1.heap.size A2 ags.length ags := (r0.alloc _).kept hb
    have zx := cell_lt x0
    dsimp only at zx
    clear hb hov r0 gW hsz
    have hvf : ∀ s ∈ varsOf ags, ∃ a ∈ ags, a.k = 1 ∧ a.s = s := fun s hs => vars_from hs
    have hvo : ∀ (i : Nat) (hi : i < (varsOf ags).length), ¬ (varsOf ags)[i] ∈ (varsOf ags).take i := fun i hi => vars_once ags hi
    obtain ⟨l, hl⟩ : ∃ l, varsOf ags = l := ⟨_, rfl⟩
    have hll : l.length ≤ 6 := by
      have := vars_len ags ags.length
      rw [List.take_length, hl] at this
      omega
    rw [hl] at hvf hvo rl hcl ⊢
    have HVF := Lib.hid hvf; have HVO := Lib.hid hvo; clear hvf hvo hl
    go_wp2
    go_loopw [5] (fun i wr => ∃ (k m : Nat), k ≤ l.length ∧ i = .int .i64 k ∧ wr = w2.drewN m) (fun i _ => l.length - (intOf i).toNat)
    case atStart => exact ⟨0, 0, Nat.zero_le _, rfl, rfl⟩
    case round =>
      obtain ⟨i, m, hi, rfl, rfl⟩ := hrel
      by_cases hlt : i < l.length
      · obtain ⟨bl, ol, rfl, _, hcs⟩ := rl.2.string_ (by omega)
        obtain ⟨li, hli, cl0⟩ := hcs i hlt
        clear hcs
        have hmem : li ∈ l := by rw [← hli]; exact List.getElem_mem _
        obtain ⟨a0, ha0, hak, has⟩ := HVF.out li hmem
        obtain ⟨j0, hj0, hja⟩ := List.getElem_of_mem ha0
        have HJ := Lib.hid (show ags[j0].k = 1 ∧ ags[j0].s = li by rw [hja]; exact ⟨hak, has⟩)
        have hnm : decide (li ∈ l.take i) = false := by rw [decide_eq_false_iff_not, ← hli]; exact HVO.out i hlt
        have HNM := Lib.hid hnm
        clear hnm hmem ha0 hak has hja
        have HLI := Lib.hid hli; clear hli
        have hi0 : (0:Int) ≤ (i:Int) := by omega
        have hi1 : (i:Int) < (l.length:Int) := by omega
        go_wp2
        go_loopw [6, 7] (fun cn ck wr => ∃ (q k m2 : Nat), k ≤ ags.length ∧ q ≤ k ∧ cn = .int .i64 q ∧ ck = .int .i64 k ∧ (q = 0 → ∀ j (hj : j < ags.length), j < k → ¬ (ags[j].k = 1 ∧ ags[j].s = li)) ∧ wr = w2.drewN m2) (fun _ k _ => ags.length - (intOf k).toNat)
        case atStart => exact ⟨0, 0, m, Nat.zero_le _, Nat.zero_le _, rfl, rfl, fun _ j _ h => absurd h (by omega), rfl⟩
        case round =>
          obtain ⟨q, k, m2, hk, hqk, rfl, rfl, hq, rfl⟩ := hrel
          have HQ := Lib.hid hq; clear hq
          by_cases hkl : k < ags.length
          · obtain ⟨ba, oa, rfl, _, hca⟩ := r2.2.arg_ (by omega)
            obtain ⟨ek, es, evk, evn, evs, he, y0, y1, y2, y3, y4⟩ := hca k hkl
            clear hca y2 y3 y4
            have HE := Lib.hid he; clear he
            have hk0 : (0:Int) ≤ (k:Int) := by omega
            have hk1 : (k:Int) < (ags.length:Int) := by omega
            by_cases h1 : ek = 1
            · subst h1
              by_cases h2 : es = li
              · subst h2
                have hss : (es.toList == es.toList) = true := by simp
                go_wp2_with (go_quiet (fail))
                go_roundw
                case rel => exact ⟨q + 1, k + 1, _, by omega, by omega, by go_num, by go_num, fun h => absurd h (by omega), rfl⟩
                case measure => simp [intOf]; omega
              · have hss : (es.toList == li.toList) = false := by rw [str_eq, decide_eq_false h2]
                have H2 := Lib.hid h2; clear h2
                go_wp2_with (go_quiet (fail))
                go_roundw
                case rel => exact ⟨q, k + 1, _, by omega, by omega, rfl, by go_num, fun h j hj hjk => (by
                  by_cases hjj : j < k
                  · exact HQ.out h j hj hjj
                  · obtain rfl : j = k := by omega
                    rw [HE.out]
                    exact fun h => H2.out h.2), rfl⟩
                case measure => simp [intOf]; omega
            · have hek : (ek == 1) = false := by simp; exact h1
              have H1 := Lib.hid h1; clear h1
              go_wp2_with (go_quiet (fail))
              go_roundw
              case rel => exact ⟨q, k + 1, _, by omega, by omega, rfl, by go_num, fun h j hj hjk => (by
                by_cases hjj : j < k
                · exact HQ.out h j hj hjj
                · obtain rfl : j = k := by omega
                  rw [HE.out]
                  exact fun h => H1.out h.1), rfl⟩
              case measure => simp [intOf]; omega
          · have hq0 : ((q : Int) == 0) = false := by
              have : q ≠ 0 := fun h => HQ.out h j0 hj0 (by omega) HJ.out
              simp; omega
            go_upto_region 14 with fail
            refine wp_region_held_drew (S := (fun w' => w'.cell? ⟨bl, ol + i, none⟩ = some (.string li) ∧ ∃ m, w' = w2.drewN m)) (by kernel_rfl) ?_ (fun hHeld => ?_)
            · (try dsimp only) <;> (first | exact ⟨cl0, m2 + 1, rfl⟩ | assumption)
            refine h_take 0 (some 50) (?_) rfl rfl (by kernel_rfl) (by kernel_rfl) (by kernel_rfl) (fun _ _ _ h => h) (by kernel_rfl) ?_ (by assumption) ?_
            rotate_left
            · intro w hSw; (try dsimp only at hSw); go_simp
              all_goals first | with_reducible rfl | omega | (simp; omega)
            try simp only [Act.put, List.setIfInBounds_toArray, List.set_cons_zero, List.set_cons_succ]
            refine h_take 1 (some 51) (.bool false) rfl rfl (by kernel_rfl) (by kernel_rfl) (by kernel_rfl) (fun _ _ _ h => h) (by kernel_rfl) ?_ (by assumption) ?_
            · intro w hSw; (try dsimp only at hSw); go_simp
              all_goals first | with_reducible rfl | omega | (simp; omega)
            try simp only [Act.put, List.setIfInBounds_toArray, List.set_cons_zero, List.set_cons_succ]
            refine h_take 2 (some 52) (.bool false) rfl rfl (by kernel_rfl) (by kernel_rfl) (by kernel_rfl) (fun _ _ _ h => h) (by kernel_rfl) ?_ (by assumption) ?_
            · intro w hSw; (try dsimp only at hSw); go_simp
              all_goals first | with_reducible rfl | omega | (simp; omega)
            try simp only [Act.put, List.setIfInBounds_toArray, List.set_cons_zero, List.set_cons_succ]
            refine h_take 3 (some 53) (?_) rfl rfl (by kernel_rfl) (by kernel_rfl) (by kernel_rfl) (fun _ _ _ h => h) (by kernel_rfl) ?_ (by assumption) ?_
            rotate_left
            · intro w hSw; (try dsimp only at hSw); go_simp
              all_goals first | with_reducible rfl | omega | (simp; omega)
            try simp only [Act.put, List.setIfInBounds_toArray, List.set_cons_zero, List.set_cons_succ]
            refine h_take 4 (some 54) (?_) rfl rfl (by kernel_rfl) (by kernel_rfl) (by kernel_rfl) (fun _ _ _ h => h) (by kernel_rfl) ?_ (by assumption) ?_
            rotate_left
            · intro w hSw; (try dsimp only at hSw); go_simp
              all_goals first | with_reducible rfl | omega | (simp; omega)
            try simp only [Act.put, List.setIfInBounds_toArray, List.set_cons_zero, List.set_cons_succ]
            refine h_take 5 (some 55) (.slice (some ⟨bl, ol, none⟩) i cl) rfl rfl (by kernel_rfl) (by kernel_rfl) (by kernel_rfl) (fun _ _ _ h => h) (by kernel_rfl) ?_ (by assumption) ?_
            · intro w hSw; (try dsimp only at hSw); go_simp
              all_goals (intro hx; exfalso; omega)
            try simp only [Act.put, List.setIfInBounds_toArray, List.set_cons_zero, List.set_cons_succ]
            refine h_take 6 (some 56) (?_) rfl rfl (by kernel_rfl) (by kernel_rfl) (by kernel_rfl) (fun _ _ _ h => h) (by kernel_rfl) ?_ (by assumption) ?_
            rotate_left
            · intro w hSw; (try dsimp only at hSw); go_simp
              all_goals first | with_reducible rfl | omega | (simp; omega)
            try simp only [Act.put, List.setIfInBounds_toArray, List.set_cons_zero, List.set_cons_succ]
            refine h_take 7 (some 57) (?_) rfl rfl (by kernel_rfl) (by kernel_rfl) (by kernel_rfl) (fun _ _ _ h => h) (by kernel_rfl) ?_ (by assumption) ?_
            rotate_left
            · intro w hSw; (try dsimp only at hSw); go_simp
              all_goals first | with_reducible rfl | omega | (simp; omega)
            try simp only [Act.put, List.setIfInBounds_toArray, List.set_cons_zero, List.set_cons_succ]
            refine h_take 8 (some 58) (?_) rfl rfl (by kernel_rfl) (by kernel_rfl) (by kernel_rfl) (fun _ _ _ h => h) (by kernel_rfl) ?_ (by assumption) ?_
            rotate_left
            · intro w hSw; (try dsimp only at hSw); go_simp
              all_goals first | with_reducible rfl | omega | (simp; omega)
            try simp only [Act.put, List.setIfInBounds_toArray, List.set_cons_zero, List.set_cons_succ]
            refine h_take 9 (some 59) (?_) rfl rfl (by kernel_rfl) (by kernel_rfl) (by kernel_rfl) (fun _ _ _ h => h) (by kernel_rfl) ?_ (by assumption) ?_
            rotate_left
            · intro w hSw; (try dsimp only at hSw); go_simp
              all_goals first | with_reducible rfl | omega | (simp; omega)
            try simp only [Act.put, List.setIfInBounds_toArray, List.set_cons_zero, List.set_cons_succ]
            refine h_call 10 (by kernel_rfl) rfl (by kernel_rfl) (fun K hK => ?_)
            go_simp
            refine (hasText_any (some ⟨bl, ol, none⟩) l.length i cl l li _ w2.heap.size (RdS.drew (RdS.drewN rl m2)) (by omega) (by omega)).mono ?_
            rw [HNM.out]
            rintro e w3 ⟨rfl, rfl⟩
            refine hK.out _ _ ?_ (fun hHeld => ?_)
            · (try dsimp only) <;> (first | exact ⟨cl0, m2 + 1, rfl⟩ | assumption)
            clear hK K
            try simp only [Act.put, List.setIfInBounds_toArray, List.set_cons_zero, List.set_cons_succ]
            refine h_take 11 (some 61) (.bool false) rfl rfl (by kernel_rfl) (by kernel_rfl) (by kernel_rfl) (fun _ _ _ h => h) (by kernel_rfl) ?_ (by assumption) ?_
            · intro w hSw; (try dsimp only at hSw); go_simp
              all_goals first | with_reducible rfl | omega | (simp; omega)
            try simp only [Act.put, List.setIfInBounds_toArray, List.set_cons_zero, List.set_cons_succ]
            refine wpAnyH_done (by kernel_rfl) ?_ _
            clear hHeld
            go_wp2
            go_roundw
            case rel => exact ⟨i + 1, m2 + 1, by omega, by go_num, rfl⟩
            case measure => simp [intOf]; omega
      · have gS := g2.size
        go_wp2_with fail
        refine (DrawArgOk_any A n c code _ W.heap.size (RdB.drewN (RdB.below hr g2) m) (by simpa using gS) (by omega)).mono ?_
        rintro e w3 ⟨ak, as_, avk, avn, avs, hq1, hq2, rfl, hb⟩
        replace hb : Below w2.heap.size w2 w3 := bel_trans (bel_drewN (bel_refl w2) m) hb
        have g3 : Below W.heap.size W w3 := bel_trans g2 hb
        replace x0 := old_cell hb x0
        replace x1 := old_cell hb x1
        replace x2 := old_cell hb x2
        have r3 := r2.kept hb
        have zx3 := cell_lt x0
        dsimp only at zx3
        clear hb rl r2 g2
        have hs1 : as_.size ≤ 9223372036854775807 := by omega
        have hs2 : avs.size ≤ 9223372036854775807 := by omega
        have hkk : kd.size ≤ 9223372036854775807 := by omega
        obtain ⟨d, hd⟩ : ∃ d, patOk ⟨kd, ags, nt⟩ = d := ⟨_, rfl⟩
        obtain ⟨d2, hd2⟩ : ∃ d2, argOk ⟨ak, as_, ⟨avk, avn, avs⟩⟩ = d2 := ⟨_, rfl⟩
        obtain ⟨tx, htx⟩ : ∃ tx, patText ⟨kd, ags, nt⟩ = tx := ⟨_, rfl⟩
        have hz : decide (tx = ⟨#[]⟩) = !d := by
          rw [← htx, ← hd]
          cases hd2 : patOk ⟨kd, ags, nt⟩
          · rw [patText_none hd2]; rfl
          · rw [patText_ne hd2]; rfl
        have HD := Lib.hid hd; have HTX := Lib.hid htx; have HD2 := Lib.hid hd2; clear hd htx hd2
        have hzz : (tx.toList == ([] : List UInt8)) = !d := by
          have := str_eq tx ⟨#[]⟩
          rw [hz, ByteArray.toList_eq ⟨#[]⟩] at this
          exact this
        clear hz
        have hxx : (tx.toList == tx.toList) = true := by simp
        have hdd : (d2 == d2) = true := by simp
        go_upto_region 17 with fail
        cases d
        · simp only [Bool.not_false] at hzz
          refine wp_region_held_drew (S := (fun w' => Below w3.heap.size w3 w' ∧ w'.cell? ⟨w1.heap.size, 0, none⟩ = some (.string kd) ∧ w'.cell? ⟨w1.heap.size, 1, none⟩ = some (.slice A2 ags.length c2) ∧ w'.cell? ⟨w1.heap.size, 2, none⟩ = some (.bool nt) ∧ w'.cell? ⟨w3.heap.size, 0, none⟩ = some (.int .i64 ak) ∧ w'.cell? ⟨w3.heap.size, 1, none⟩ = some (.string as_) ∧ w'.cell? ⟨w3.heap.size, 2, none⟩ = some (.int .i64 avk) ∧ w'.cell? ⟨w3.heap.size, 3, none⟩ = some (.int .i64 avn) ∧ w'.cell? ⟨w3.heap.size, 4, none⟩ = some (.string avs))) (by kernel_rfl) ?_ (fun hHeld => ?_)
          · (try dsimp only) <;> (first | exact (by refine ⟨bel_drew (bel_alloc (bel_refl _) _), old_cell (bel_drew (bel_alloc (bel_refl _) _)) x0, old_cell (bel_drew (bel_alloc (bel_refl _) _)) x1, old_cell (bel_drew (bel_alloc (bel_refl _) _)) x2, ?_⟩ <;> go_simp) | exact (let h := hHeld; ⟨bel_trans h.1 hb, old_cell hb h.2.1, old_cell hb h.2.2.1, old_cell hb h.2.2.2.1, old_cell hb h.2.2.2.2.1, old_cell hb h.2.2.2.2.2.1, old_cell hb h.2.2.2.2.2.2.1, old_cell hb h.2.2.2.2.2.2.2.1, old_cell hb h.2.2.2.2.2.2.2.2⟩))
          refine h_take 0 (some 64) (?_) rfl rfl (by kernel_rfl) (by kernel_rfl) (by kernel_rfl) (fun _ _ _ h => h) (by kernel_rfl) ?_ (by assumption) ?_
          rotate_left
          · intro w hSw; (try dsimp only at hSw); go_simp
            all_goals first | with_reducible rfl | omega | (simp; omega)
          try simp only [Act.put, List.setIfInBounds_toArray, List.set_cons_zero, List.set_cons_succ]
          refine h_take 2 (some 66) (?_) rfl rfl (by kernel_rfl) (by kernel_rfl) (by kernel_rfl) (fun _ _ _ h => h) (by kernel_rfl) ?_ (by assumption) ?_
          rotate_left
          · intro w hSw; (try dsimp only at hSw); go_simp
            all_goals first | with_reducible rfl | omega | (simp; omega)
          try simp only [Act.put, List.setIfInBounds_toArray, List.set_cons_zero, List.set_cons_succ]
          refine h_call 1 (by kernel_rfl) rfl (by kernel_rfl) (fun K hK => ?_)
          go_simp
          refine (implPatOk_any kd A2 _ c2 ags nt _ w1.heap.size (r3.kept (And.left (by assumption))) (by omega) hkk HG.out).mono ?_
          rw [HD.out]
          rintro e wx ⟨rfl, hb⟩
          refine hK.out _ _ ?_ (fun hHeld => ?_)
          · (try dsimp only) <;> (first | exact (by refine ⟨bel_drew (bel_alloc (bel_refl _) _), old_cell (bel_drew (bel_alloc (bel_refl _) _)) x0, old_cell (bel_drew (bel_alloc (bel_refl _) _)) x1, old_cell (bel_drew (bel_alloc (bel_refl _) _)) x2, ?_⟩ <;> go_simp) | exact (let h := hHeld; ⟨bel_trans h.1 hb, old_cell hb h.2.1, old_cell hb h.2.2.1, old_cell hb h.2.2.2.1, old_cell hb h.2.2.2.2.1, old_cell hb h.2.2.2.2.2.1, old_cell hb h.2.2.2.2.2.2.1, old_cell hb h.2.2.2.2.2.2.2.1, old_cell hb h.2.2.2.2.2.2.2.2⟩))
          clear hK K
          try simp only [Act.put, List.setIfInBounds_toArray, List.set_cons_zero, List.set_cons_succ]
          refine h_call 3 (by kernel_rfl) rfl (by kernel_rfl) (fun K hK => ?_)
          go_simp
          refine (specPatOk_any kd A2 _ c2 ags nt _ w1.heap.size (r3.kept (And.left (by assumption))) (by omega) hkk HG.out).mono ?_
          rw [HD.out]
          rintro e wx ⟨rfl, hb⟩
          refine hK.out _ _ ?_ (fun hHeld => ?_)
          · (try dsimp only) <;> (first | exact (by refine ⟨bel_drew (bel_alloc (bel_refl _) _), old_cell (bel_drew (bel_alloc (bel_refl _) _)) x0, old_cell (bel_drew (bel_alloc (bel_refl _) _)) x1, old_cell (bel_drew (bel_alloc (bel_refl _) _)) x2, ?_⟩ <;> go_simp) | exact (let h := hHeld; ⟨bel_trans h.1 hb, old_cell hb h.2.1, old_cell hb h.2.2.1, old_cell hb h.2.2.2.1, old_cell hb h.2.2.2.2.1, old_cell hb h.2.2.2.2.2.1, old_cell hb h.2.2.2.2.2.2.1, old_cell hb h.2.2.2.2.2.2.2.1, old_cell hb h.2.2.2.2.2.2.2.2⟩))
          clear hK K
          try simp only [Act.put, List.setIfInBounds_toArray, List.set_cons_zero, List.set_cons_succ]
          refine h_take 4 (some 68) (.bool true) rfl rfl (by kernel_rfl) (by kernel_rfl) (by kernel_rfl) (fun _ _ _ h => h) (by kernel_rfl) ?_ (by assumption) ?_
          · intro w hSw; (try dsimp only at hSw); go_simp
            all_goals first | with_reducible rfl | omega | (simp; omega)
          try simp only [Act.put, List.setIfInBounds_toArray, List.set_cons_zero, List.set_cons_succ]
          refine h_take 5 (some 69) (.bool true) rfl rfl (by kernel_rfl) (by kernel_rfl) (by kernel_rfl) (fun _ _ _ h => h) (by kernel_rfl) ?_ (by assumption) ?_
          · intro w hSw; (try dsimp only at hSw); go_simp
            all_goals first | with_reducible rfl | omega | (simp; omega)
          try simp only [Act.put, List.setIfInBounds_toArray, List.set_cons_zero, List.set_cons_succ]
          refine h_take 6 (some 70) (?_) rfl rfl (by kernel_rfl) (by kernel_rfl) (by kernel_rfl) (fun _ _ _ h => h) (by kernel_rfl) ?_ (by assumption) ?_
          rotate_left
          · intro w hSw; (try dsimp only at hSw); go_simp
            all_goals first | with_reducible rfl | omega | (simp; omega)
          try simp only [Act.put, List.setIfInBounds_toArray, List.set_cons_zero, List.set_cons_succ]
          refine h_take 9 (some 73) (?_) rfl rfl (by kernel_rfl) (by kernel_rfl) (by kernel_rfl) (fun _ _ _ h => h) (by kernel_rfl) ?_ (by assumption) ?_
          rotate_left
          · intro w hSw; (try dsimp only at hSw); go_simp
            all_goals first | with_reducible rfl | omega | (simp; omega)
          try simp only [Act.put, List.setIfInBounds_toArray, List.set_cons_zero, List.set_cons_succ]
          refine h_call 7 (by kernel_rfl) rfl (by kernel_rfl) (fun K hK => ?_)
          go_simp
          refine (implPatText_any kd A2 _ c2 ags nt _ w1.heap.size (HTT.out.kept (bel_trans g3 (And.left (by assumption)))) (r3.kept (And.left (by assumption))) (by omega) hkk HG.out).mono ?_
          rw [HTX.out]
          rintro e wx ⟨rfl, hb⟩
          refine hK.out _ _ ?_ (fun hHeld => ?_)
          · (try dsimp only) <;> (first | exact (by refine ⟨bel_drew (bel_alloc (bel_refl _) _), old_cell (bel_drew (bel_alloc (bel_refl _) _)) x0, old_cell (bel_drew (bel_alloc (bel_refl _) _)) x1, old_cell (bel_drew (bel_alloc (bel_refl _) _)) x2, ?_⟩ <;> go_simp) | exact (let h := hHeld; ⟨bel_trans h.1 hb, old_cell hb h.2.1, old_cell hb h.2.2.1, old_cell hb h.2.2.2.1, old_cell hb h.2.2.2.2.1, old_cell hb h.2.2.2.2.2.1, old_cell hb h.2.2.2.2.2.2.1, old_cell hb h.2.2.2.2.2.2.2.1, old_cell hb h.2.2.2.2.2.2.2.2⟩))
          clear hK K
          try simp only [Act.put, List.setIfInBounds_toArray, List.set_cons_zero, List.set_cons_succ]
          refine h_take 8 (some 72) (.bool true) rfl rfl (by kernel_rfl) (by kernel_rfl) (by kernel_rfl) (fun _ _ _ h => h) (by kernel_rfl) ?_ (by assumption) ?_
          · intro w hSw; (try dsimp only at hSw); go_simp
            all_goals first | with_reducible rfl | omega | (simp; omega)
          try simp only [Act.put, List.setIfInBounds_toArray, List.set_cons_zero, List.set_cons_succ]
          refine h_call 10 (by kernel_rfl) rfl (by kernel_rfl) (fun K hK => ?_)
          go_simp
          refine (specPatOk_any kd A2 _ c2 ags nt _ w1.heap.size (r3.kept (And.left (by assumption))) (by omega) hkk HG.out).mono ?_
          rw [HD.out]
          rintro e wx ⟨rfl, hb⟩
          refine hK.out _ _ ?_ (fun hHeld => ?_)
          · (try dsimp only) <;> (first | exact (by refine ⟨bel_drew (bel_alloc (bel_refl _) _), old_cell (bel_drew (bel_alloc (bel_refl _) _)) x0, old_cell (bel_drew (bel_alloc (bel_refl _) _)) x1, old_cell (bel_drew (bel_alloc (bel_refl _) _)) x2, ?_⟩ <;> go_simp) | exact (let h := hHeld; ⟨bel_trans h.1 hb, old_cell hb h.2.1, old_cell hb h.2.2.1, old_cell hb h.2.2.2.1, old_cell hb h.2.2.2.2.1, old_cell hb h.2.2.2.2.2.1, old_cell hb h.2.2.2.2.2.2.1, old_cell hb h.2.2.2.2.2.2.2.1, old_cell hb h.2.2.2.2.2.2.2.2⟩))
          clear hK K
          try simp only [Act.put, List.setIfInBounds_toArray, List.set_cons_zero, List.set_cons_succ]
          refine h_take 11 (some 75) (.bool true) rfl rfl (by kernel_rfl) (by kernel_rfl) (by kernel_rfl) (fun _ _ _ h => h) (by kernel_rfl) ?_ (by assumption) ?_
          · intro w hSw; (try dsimp only at hSw); go_simp
            all_goals first | with_reducible rfl | omega | (simp; omega)
          try simp only [Act.put, List.setIfInBounds_toArray, List.set_cons_zero, List.set_cons_succ]
          refine h_take 12 (some 76) (.bool true) rfl rfl (by kernel_rfl) (by kernel_rfl) (by kernel_rfl) (fun _ _ _ h => h) (by kernel_rfl) ?_ (by assumption) ?_
          · intro w hSw; (try dsimp only at hSw); go_simp
            all_goals first | with_reducible rfl | omega | (simp; omega)
          try simp only [Act.put, List.setIfInBounds_toArray, List.set_cons_zero, List.set_cons_succ]
          refine h_take 13 (some 77) (.bool true) rfl rfl (by kernel_rfl) (by kernel_rfl) (by kernel_rfl) (fun _ _ _ h => h) (by kernel_rfl) ?_ (by assumption) ?_
          · intro w hSw; (try dsimp only at hSw); go_simp
            all_goals first | with_reducible rfl | omega | (simp; omega)
          try simp only [Act.put, List.setIfInBounds_toArray, List.set_cons_zero, List.set_cons_succ]
          refine h_take 14 (some 78) (.bool true) rfl rfl (by kernel_rfl) (by kernel_rfl) (by kernel_rfl) (fun _ _ _ h => h) (by kernel_rfl) ?_ (by assumption) ?_
          · intro w hSw; (try dsimp only at hSw); go_simp
            all_goals first | with_reducible rfl | omega | (simp; omega)
          try simp only [Act.put, List.setIfInBounds_toArray, List.set_cons_zero, List.set_cons_succ]
          refine h_take 15 (some 79) (?_) rfl rfl (by kernel_rfl) (by kernel_rfl) (by kernel_rfl) (fun _ _ _ h => h) (by kernel_rfl) ?_ (by assumption) ?_
          rotate_left
          · intro w hSw; (try dsimp only at hSw); go_simp
            all_goals first | with_reducible rfl | omega | (simp; omega)
          try simp only [Act.put, List.setIfInBounds_toArray, List.set_cons_zero, List.set_cons_succ]
          refine h_take 17 (some 81) (?_) rfl rfl (by kernel_rfl) (by kernel_rfl) (by kernel_rfl) (fun _ _ _ h => h) (by kernel_rfl) ?_ (by assumption) ?_
          rotate_left
          · intro w hSw; (try dsimp only at hSw); go_simp
            all_goals first | with_reducible rfl | omega | (simp; omega)
          try simp only [Act.put, List.setIfInBounds_toArray, List.set_cons_zero, List.set_cons_succ]
          refine h_call 16 (by kernel_rfl) rfl (by kernel_rfl) (fun K hK => ?_)
          go_simp
          refine (implArgOk_any ak as_ avk avn avs _ hs1 hs2).mono ?_
          rw [HD2.out]
          rintro e wx ⟨rfl, hb⟩
          refine hK.out _ _ ?_ (fun hHeld => ?_)
          · (try dsimp only) <;> (first | exact (by refine ⟨bel_drew (bel_alloc (bel_refl _) _), old_cell (bel_drew (bel_alloc (bel_refl _) _)) x0, old_cell (bel_drew (bel_alloc (bel_refl _) _)) x1, old_cell (bel_drew (bel_alloc (bel_refl _) _)) x2, ?_⟩ <;> go_simp) | exact (let h := hHeld; ⟨bel_trans h.1 hb, old_cell hb h.2.1, old_cell hb h.2.2.1, old_cell hb h.2.2.2.1, old_cell hb h.2.2.2.2.1, old_cell hb h.2.2.2.2.2.1, old_cell hb h.2.2.2.2.2.2.1, old_cell hb h.2.2.2.2.2.2.2.1, old_cell hb h.2.2.2.2.2.2.2.2⟩))
          clear hK K
          try simp only [Act.put, List.setIfInBounds_toArray, List.set_cons_zero, List.set_cons_succ]
          refine h_call 18 (by kernel_rfl) rfl (by kernel_rfl) (fun K hK => ?_)
          go_simp
          refine (specArgOk_any ak as_ avk avn avs _ hs1 hs2).mono ?_
          rw [HD2.out]
          rintro e wx ⟨rfl, hb⟩
          refine hK.out _ _ ?_ (fun hHeld => ?_)
          · (try dsimp only) <;> (first | exact (by refine ⟨bel_drew (bel_alloc (bel_refl _) _), old_cell (bel_drew (bel_alloc (bel_refl _) _)) x0, old_cell (bel_drew (bel_alloc (bel_refl _) _)) x1, old_cell (bel_drew (bel_alloc (bel_refl _) _)) x2, ?_⟩ <;> go_simp) | exact (let h := hHeld; ⟨bel_trans h.1 hb, old_cell hb h.2.1, old_cell hb h.2.2.1, old_cell hb h.2.2.2.1, old_cell hb h.2.2.2.2.1, old_cell hb h.2.2.2.2.2.1, old_cell hb h.2.2.2.2.2.2.1, old_cell hb h.2.2.2.2.2.2.2.1, old_cell hb h.2.2.2.2.2.2.2.2⟩))
          clear hK K
          try simp only [Act.put, List.setIfInBounds_toArray, List.set_cons_zero, List.set_cons_succ]
          refine h_take 19 (some 83) (.bool true) rfl rfl (by kernel_rfl) (by kernel_rfl) (by kernel_rfl) (fun _ _ _ h => h) (by kernel_rfl) ?_ (by assumption) ?_
          · intro w hSw; (try dsimp only at hSw); go_simp
            all_goals first | with_reducible rfl | omega | (simp; omega)
          try simp only [Act.put, List.setIfInBounds_toArray, List.set_cons_zero, List.set_cons_succ]
          refine h_take 20 (some 84) (.bool true) rfl rfl (by kernel_rfl) (by kernel_rfl) (by kernel_rfl) (fun _ _ _ h => h) (by kernel_rfl) ?_ (by assumption) ?_
          · intro w hSw; (try dsimp only at hSw); go_simp
            all_goals first | with_reducible rfl | omega | (simp; omega)
          try simp only [Act.put, List.setIfInBounds_toArray, List.set_cons_zero, List.set_cons_succ]
          refine h_take 21 (some 85) (.bool true) rfl rfl (by kernel_rfl) (by kernel_rfl) (by kernel_rfl) (fun _ _ _ h => h) (by kernel_rfl) ?_ (by assumption) ?_
          · intro w hSw; (try dsimp only at hSw); go_simp
            all_goals first | with_reducible rfl | omega | (simp; omega)
          try simp only [Act.put, List.setIfInBounds_toArray, List.set_cons_zero, List.set_cons_succ]
          refine h_take 22 (some 86) (?_) rfl rfl (by kernel_rfl) (by kernel_rfl) (by kernel_rfl) (fun _ _ _ h => h) (by kernel_rfl) ?_ (by assumption) ?_
          rotate_left
          · intro w hSw; (try dsimp only at hSw); go_simp
            all_goals first | with_reducible rfl | omega | (simp; omega)
          try simp only [Act.put, List.setIfInBounds_toArray, List.set_cons_zero, List.set_cons_succ]
          refine h_take 24 (some 88) (?_) rfl rfl (by kernel_rfl) (by kernel_rfl) (by kernel_rfl) (fun _ _ _ h => h) (by kernel_rfl) ?_ (by assumption) ?_
          rotate_left
          · intro w hSw; (try dsimp only at hSw); go_simp
            all_goals first | with_reducible rfl | omega | (simp; omega)
          try simp only [Act.put, List.setIfInBounds_toArray, List.set_cons_zero, List.set_cons_succ]
          refine h_call 23 (by kernel_rfl) rfl (by kernel_rfl) (fun K hK => ?_)
          go_simp
          refine (implPatText_any kd A2 _ c2 ags nt _ w1.heap.size (HTT.out.kept (bel_trans g3 (And.left (by assumption)))) (r3.kept (And.left (by assumption))) (by omega) hkk HG.out).mono ?_
          rw [HTX.out]
          rintro e wx ⟨rfl, hb⟩
          refine hK.out _ _ ?_ (fun hHeld => ?_)
          · (try dsimp only) <;> (first | exact (by refine ⟨bel_drew (bel_alloc (bel_refl _) _), old_cell (bel_drew (bel_alloc (bel_refl _) _)) x0, old_cell (bel_drew (bel_alloc (bel_refl _) _)) x1, old_cell (bel_drew (bel_alloc (bel_refl _) _)) x2, ?_⟩ <;> go_simp) | exact (let h := hHeld; ⟨bel_trans h.1 hb, old_cell hb h.2.1, old_cell hb h.2.2.1, old_cell hb h.2.2.2.1, old_cell hb h.2.2.2.2.1, old_cell hb h.2.2.2.2.2.1, old_cell hb h.2.2.2.2.2.2.1, old_cell hb h.2.2.2.2.2.2.2.1, old_cell hb h.2.2.2.2.2.2.2.2⟩))
          clear hK K
          try simp only [Act.put, List.setIfInBounds_toArray, List.set_cons_zero, List.set_cons_succ]
          refine h_call 25 (by kernel_rfl) rfl (by kernel_rfl) (fun K hK => ?_)
          go_simp
          refine (specPatText_any kd A2 _ c2 ags nt _ w1.heap.size (r3.kept (And.left (by assumption))) (by omega) hkk HG.out).mono ?_
          rw [HTX.out]
          rintro e wx ⟨rfl, hb⟩
          refine hK.out _ _ ?_ (fun hHeld => ?_)
          · (try dsimp only) <;> (first | exact (by refine ⟨bel_drew (bel_alloc (bel_refl _) _), old_cell (bel_drew (bel_alloc (bel_refl _) _)) x0, old_cell (bel_drew (bel_alloc (bel_refl _) _)) x1, old_cell (bel_drew (bel_alloc (bel_refl _) _)) x2, ?_⟩ <;> go_simp) | exact (let h := hHeld; ⟨bel_trans h.1 hb, old_cell hb h.2.1, old_cell hb h.2.2.1, old_cell hb h.2.2.2.1, old_cell hb h.2.2.2.2.1, old_cell hb h.2.2.2.2.2.1, old_cell hb h.2.2.2.2.2.2.1, old_cell hb h.2.2.2.2.2.2.2.1, old_cell hb h.2.2.2.2.2.2.2.2⟩))
          clear hK K
          try simp only [Act.put, List.setIfInBounds_toArray, List.set_cons_zero, List.set_cons_succ]
          refine h_take 26 (some 90) (.bool true) rfl rfl (by kernel_rfl) (by kernel_rfl) (by kernel_rfl) (fun _ _ _ h => h) (by kernel_rfl) ?_ (by assumption) ?_
          · intro w hSw; (try dsimp only at hSw); go_simp
            all_goals first | with_reducible rfl | omega | (simp; omega)
          try simp only [Act.put, List.setIfInBounds_toArray, List.set_cons_zero, List.set_cons_succ]
          refine h_take 27 (some 91) (.bool true) rfl rfl (by kernel_rfl) (by kernel_rfl) (by kernel_rfl) (fun _ _ _ h => h) (by kernel_rfl) ?_ (by assumption) ?_
          · intro w hSw; (try dsimp only at hSw); go_simp
            all_goals first | with_reducible rfl | omega | (simp; omega)
          try simp only [Act.put, List.setIfInBounds_toArray, List.set_cons_zero, List.set_cons_succ]
          refine h_take 28 (some 2) (?_) rfl rfl (by kernel_rfl) (by kernel_rfl) (by kernel_rfl) (fun _ _ _ h => h) (by kernel_rfl) ?_ (by assumption) ?_
          rotate_left
          · intro w hSw; (try dsimp only at hSw); go_simp
            all_goals first | with_reducible rfl | omega | (simp; omega)
          try simp only [Act.put, List.setIfInBounds_toArray, List.set_cons_zero, List.set_cons_succ]
          refine wpAnyH_done (by kernel_rfl) ?_ _
          obtain ⟨hB, _⟩ := hHeld
          have hB1 : Below W.heap.size W _ := bel_trans g3 hB
          go_wp2
          go_ret
          exact ⟨rfl, hB1⟩
        · simp only [Bool.not_true] at hzz
          refine wp_region_held_drew (S := (fun w' => Below w3.heap.size w3 w' ∧ w'.cell? ⟨w1.heap.size, 0, none⟩ = some (.string kd) ∧ w'.cell? ⟨w1.heap.size, 1, none⟩ = some (.slice A2 ags.length c2) ∧ w'.cell? ⟨w1.heap.size, 2, none⟩ = some (.bool nt) ∧ w'.cell? ⟨w3.heap.size, 0, none⟩ = some (.int .i64 ak) ∧ w'.cell? ⟨w3.heap.size, 1, none⟩ = some (.string as_) ∧ w'.cell? ⟨w3.heap.size, 2, none⟩ = some (.int .i64 avk) ∧ w'.cell? ⟨w3.heap.size, 3, none⟩ = some (.int .i64 avn) ∧ w'.cell? ⟨w3.heap.size, 4, none⟩ = some (.string avs))) (by kernel_rfl) ?_ (fun hHeld => ?_)
          · (try dsimp only) <;> (first | exact (by refine ⟨bel_drew (bel_alloc (bel_refl _) _), old_cell (bel_drew (bel_alloc (bel_refl _) _)) x0, old_cell (bel_drew (bel_alloc (bel_refl _) _)) x1, old_cell (bel_drew (bel_alloc (bel_refl _) _)) x2, ?_⟩ <;> go_simp) | exact (let h := hHeld; ⟨bel_trans h.1 hb, old_cell hb h.2.1, old_cell hb h.2.2.1, old_cell hb h.2.2.2.1, old_cell hb h.2.2.2.2.1, old_cell hb h.2.2.2.2.2.1, old_cell hb h.2.2.2.2.2.2.1, old_cell hb h.2.2.2.2.2.2.2.1, old_cell hb h.2.2.2.2.2.2.2.2⟩))
          refine h_take 0 (some 64) (?_) rfl rfl (by kernel_rfl) (by kernel_rfl) (by kernel_rfl) (fun _ _ _ h => h) (by kernel_rfl) ?_ (by assumption) ?_
          rotate_left
          · intro w hSw; (try dsimp only at hSw); go_simp
            all_goals first | with_reducible rfl | omega | (simp; omega)
          try simp only [Act.put, List.setIfInBounds_toArray, List.set_cons_zero, List.set_cons_succ]
          refine h_take 2 (some 66) (?_) rfl rfl (by kernel_rfl) (by kernel_rfl) (by kernel_rfl) (fun _ _ _ h => h) (by kernel_rfl) ?_ (by assumption) ?_
          rotate_left
          · intro w hSw; (try dsimp only at hSw); go_simp
            all_goals first | with_reducible rfl | omega | (simp; omega)
          try simp only [Act.put, List.setIfInBounds_toArray, List.set_cons_zero, List.set_cons_succ]
          refine h_call 1 (by kernel_rfl) rfl (by kernel_rfl) (fun K hK => ?_)
          go_simp
          refine (implPatOk_any kd A2 _ c2 ags nt _ w1.heap.size (r3.kept (And.left (by assumption))) (by omega) hkk HG.out).mono ?_
          rw [HD.out]
          rintro e wx ⟨rfl, hb⟩
          refine hK.out _ _ ?_ (fun hHeld => ?_)
          · (try dsimp only) <;> (first | exact (by refine ⟨bel_drew (bel_alloc (bel_refl _) _), old_cell (bel_drew (bel_alloc (bel_refl _) _)) x0, old_cell (bel_drew (bel_alloc (bel_refl _) _)) x1, old_cell (bel_drew (bel_alloc (bel_refl _) _)) x2, ?_⟩ <;> go_simp) | exact (let h := hHeld; ⟨bel_trans h.1 hb, old_cell hb h.2.1, old_cell hb h.2.2.1, old_cell hb h.2.2.2.1, old_cell hb h.2.2.2.2.1, old_cell hb h.2.2.2.2.2.1, old_cell hb h.2.2.2.2.2.2.1, old_cell hb h.2.2.2.2.2.2.2.1, old_cell hb h.2.2.2.2.2.2.2.2⟩))
          clear hK K
          try simp only [Act.put, List.setIfInBounds_toArray, List.set_cons_zero, List.set_cons_succ]
          refine h_call 3 (by kernel_rfl) rfl (by kernel_rfl) (fun K hK => ?_)
          go_simp
          refine (specPatOk_any kd A2 _ c2 ags nt _ w1.heap.size (r3.kept (And.left (by assumption))) (by omega) hkk HG.out).mono ?_
          rw [HD.out]
          rintro e wx ⟨rfl, hb⟩
          refine hK.out _ _ ?_ (fun hHeld => ?_)
          · (try dsimp only) <;> (first | exact (by refine ⟨bel_drew (bel_alloc (bel_refl _) _), old_cell (bel_drew (bel_alloc (bel_refl _) _)) x0, old_cell (bel_drew (bel_alloc (bel_refl _) _)) x1, old_cell (bel_drew (bel_alloc (bel_refl _) _)) x2, ?_⟩ <;> go_simp) | exact (let h := hHeld; ⟨bel_trans h.1 hb, old_cell hb h.2.1, old_cell hb h.2.2.1, old_cell hb h.2.2.2.1, old_cell hb h.2.2.2.2.1, old_cell hb h.2.2.2.2.2.1, old_cell hb h.2.2.2.2.2.2.1, old_cell hb h.2.2.2.2.2.2.2.1, old_cell hb h.2.2.2.2.2.2.2.2⟩))
          clear hK K
          try simp only [Act.put, List.setIfInBounds_toArray, List.set_cons_zero, List.set_cons_succ]
          refine h_take 4 (some 68) (.bool true) rfl rfl (by kernel_rfl) (by kernel_rfl) (by kernel_rfl) (fun _ _ _ h => h) (by kernel_rfl) ?_ (by assumption) ?_
          · intro w hSw; (try dsimp only at hSw); go_simp
            all_goals first | with_reducible rfl | omega | (simp; omega)
          try simp only [Act.put, List.setIfInBounds_toArray, List.set_cons_zero, List.set_cons_succ]
          refine h_take 5 (some 69) (.bool true) rfl rfl (by kernel_rfl) (by kernel_rfl) (by kernel_rfl) (fun _ _ _ h => h) (by kernel_rfl) ?_ (by assumption) ?_
          · intro w hSw; (try dsimp only at hSw); go_simp
            all_goals first | with_reducible rfl | omega | (simp; omega)
          try simp only [Act.put, List.setIfInBounds_toArray, List.set_cons_zero, List.set_cons_succ]
          refine h_take 6 (some 70) (?_) rfl rfl (by kernel_rfl) (by kernel_rfl) (by kernel_rfl) (fun _ _ _ h => h) (by kernel_rfl) ?_ (by assumption) ?_
          rotate_left
          · intro w hSw; (try dsimp only at hSw); go_simp
            all_goals first | with_reducible rfl | omega | (simp; omega)
          try simp only [Act.put, List.setIfInBounds_toArray, List.set_cons_zero, List.set_cons_succ]
          refine h_take 9 (some 73) (?_) rfl rfl (by kernel_rfl) (by kernel_rfl) (by kernel_rfl) (fun _ _ _ h => h) (by kernel_rfl) ?_ (by assumption) ?_
          rotate_left
          · intro w hSw; (try dsimp only at hSw); go_simp
            all_goals first | with_reducible rfl | omega | (simp; omega)
          try simp only [Act.put, List.setIfInBounds_toArray, List.set_cons_zero, List.set_cons_succ]
          refine h_call 7 (by kernel_rfl) rfl (by kernel_rfl) (fun K hK => ?_)
          go_simp
          refine (implPatText_any kd A2 _ c2 ags nt _ w1.heap.size (HTT.out.kept (bel_trans g3 (And.left (by assumption)))) (r3.kept (And.left (by assumption))) (by omega) hkk HG.out).mono ?_
          rw [HTX.out]
          rintro e wx ⟨rfl, hb⟩
          refine hK.out _ _ ?_ (fun hHeld => ?_)
          · (try dsimp only) <;> (first | exact (by refine ⟨bel_drew (bel_alloc (bel_refl _) _), old_cell (bel_drew (bel_alloc (bel_refl _) _)) x0, old_cell (bel_drew (bel_alloc (bel_refl _) _)) x1, old_cell (bel_drew (bel_alloc (bel_refl _) _)) x2, ?_⟩ <;> go_simp) | exact (let h := hHeld; ⟨bel_trans h.1 hb, old_cell hb h.2.1, old_cell hb h.2.2.1, old_cell hb h.2.2.2.1, old_cell hb h.2.2.2.2.1, old_cell hb h.2.2.2.2.2.1, old_cell hb h.2.2.2.2.2.2.1, old_cell hb h.2.2.2.2.2.2.2.1, old_cell hb h.2.2.2.2.2.2.2.2⟩))
          clear hK K
          try simp only [Act.put, List.setIfInBounds_toArray, List.set_cons_zero, List.set_cons_succ]
          refine h_take 8 (some 72) (.bool false) rfl rfl (by kernel_rfl) (by kernel_rfl) (by kernel_rfl) (fun _ _ _ h => h) (by kernel_rfl) ?_ (by assumption) ?_
          · intro w hSw; (try dsimp only at hSw); go_simp
            all_goals first | with_reducible rfl | omega | (simp; omega)
          try simp only [Act.put, List.setIfInBounds_toArray, List.set_cons_zero, List.set_cons_succ]
          refine h_call 10 (by kernel_rfl) rfl (by kernel_rfl) (fun K hK => ?_)
          go_simp
          refine (specPatOk_any kd A2 _ c2 ags nt _ w1.heap.size (r3.kept (And.left (by assumption))) (by omega) hkk HG.out).mono ?_
          rw [HD.out]
          rintro e wx ⟨rfl, hb⟩
          refine hK.out _ _ ?_ (fun hHeld => ?_)
          · (try dsimp only) <;> (first | exact (by refine ⟨bel_drew (bel_alloc (bel_refl _) _), old_cell (bel_drew (bel_alloc (bel_refl _) _)) x0, old_cell (bel_drew (bel_alloc (bel_refl _) _)) x1, old_cell (bel_drew (bel_alloc (bel_refl _) _)) x2, ?_⟩ <;> go_simp) | exact (let h := hHeld; ⟨bel_trans h.1 hb, old_cell hb h.2.1, old_cell hb h.2.2.1, old_cell hb h.2.2.2.1, old_cell hb h.2.2.2.2.1, old_cell hb h.2.2.2.2.2.1, old_cell hb h.2.2.2.2.2.2.1, old_cell hb h.2.2.2.2.2.2.2.1, old_cell hb h.2.2.2.2.2.2.2.2⟩))
          clear hK K
          try simp only [Act.put, List.setIfInBounds_toArray, List.set_cons_zero, List.set_cons_succ]
          refine h_take 11 (some 75) (.bool false) rfl rfl (by kernel_rfl) (by kernel_rfl) (by kernel_rfl) (fun _ _ _ h => h) (by kernel_rfl) ?_ (by assumption) ?_
          · intro w hSw; (try dsimp only at hSw); go_simp
            all_goals first | with_reducible rfl | omega | (simp; omega)
          try simp only [Act.put, List.setIfInBounds_toArray, List.set_cons_zero, List.set_cons_succ]
          refine h_take 12 (some 76) (.bool true) rfl rfl (by kernel_rfl) (by kernel_rfl) (by kernel_rfl) (fun _ _ _ h => h) (by kernel_rfl) ?_ (by assumption) ?_
          · intro w hSw; (try dsimp only at hSw); go_simp
            all_goals first | with_reducible rfl | omega | (simp; omega)
          try simp only [Act.put, List.setIfInBounds_toArray, List.set_cons_zero, List.set_cons_succ]
          refine h_take 13 (some 77) (.bool true) rfl rfl (by kernel_rfl) (by kernel_rfl) (by kernel_rfl) (fun _ _ _ h => h) (by kernel_rfl) ?_ (by assumption) ?_
          · intro w hSw; (try dsimp only at hSw); go_simp
            all_goals first | with_reducible rfl | omega | (simp; omega)
          try simp only [Act.put, List.setIfInBounds_toArray, List.set_cons_zero, List.set_cons_succ]
          refine h_take 14 (some 78) (.bool true) rfl rfl (by kernel_rfl) (by kernel_rfl) (by kernel_rfl) (fun _ _ _ h => h) (by kernel_rfl) ?_ (by assumption) ?_
          · intro w hSw; (try dsimp only at hSw); go_simp
            all_goals first | with_reducible rfl | omega | (simp; omega)
          try simp only [Act.put, List.setIfInBounds_toArray, List.set_cons_zero, List.set_cons_succ]
          refine h_take 15 (some 79) (?_) rfl rfl (by kernel_rfl) (by kernel_rfl) (by kernel_rfl) (fun _ _ _ h => h) (by kernel_rfl) ?_ (by assumption) ?_
          rotate_left
          · intro w hSw; (try dsimp only at hSw); go_simp
            all_goals first | with_reducible rfl | omega | (simp; omega)
          try simp only [Act.put, List.setIfInBounds_toArray, List.set_cons_zero, List.set_cons_succ]
          refine h_take 17 (some 81) (?_) rfl rfl (by kernel_rfl) (by kernel_rfl) (by kernel_rfl) (fun _ _ _ h => h) (by kernel_rfl) ?_ (by assumption) ?_
          rotate_left
          · intro w hSw; (try dsimp only at hSw); go_simp
            all_goals first | with_reducible rfl | omega | (simp; omega)
          try simp only [Act.put, List.setIfInBounds_toArray, List.set_cons_zero, List.set_cons_succ]
          refine h_call 16 (by kernel_rfl) rfl (by kernel_rfl) (fun K hK => ?_)
          go_simp
          refine (implArgOk_any ak as_ avk avn avs _ hs1 hs2).mono ?_
          rw [HD2.out]
          rintro e wx ⟨rfl, hb⟩
          refine hK.out _ _ ?_ (fun hHeld => ?_)
          · (try dsimp only) <;> (first | exact (by refine ⟨bel_drew (bel_alloc (bel_refl _) _), old_cell (bel_drew (bel_alloc (bel_refl _) _)) x0, old_cell (bel_drew (bel_alloc (bel_refl _) _)) x1, old_cell (bel_drew (bel_alloc (bel_refl _) _)) x2, ?_⟩ <;> go_simp) | exact (let h := hHeld; ⟨bel_trans h.1 hb, old_cell hb h.2.1, old_cell hb h.2.2.1, old_cell hb h.2.2.2.1, old_cell hb h.2.2.2.2.1, old_cell hb h.2.2.2.2.2.1, old_cell hb h.2.2.2.2.2.2.1, old_cell hb h.2.2.2.2.2.2.2.1, old_cell hb h.2.2.2.2.2.2.2.2⟩))
          clear hK K
          try simp only [Act.put, List.setIfInBounds_toArray, List.set_cons_zero, List.set_cons_succ]
          refine h_call 18 (by kernel_rfl) rfl (by kernel_rfl) (fun K hK => ?_)
          go_simp
          refine (specArgOk_any ak as_ avk avn avs _ hs1 hs2).mono ?_
          rw [HD2.out]
          rintro e wx ⟨rfl, hb⟩
          refine hK.out _ _ ?_ (fun hHeld => ?_)
          · (try dsimp only) <;> (first | exact (by refine ⟨bel_drew (bel_alloc (bel_refl _) _), old_cell (bel_drew (bel_alloc (bel_refl _) _)) x0, old_cell (bel_drew (bel_alloc (bel_refl _) _)) x1, old_cell (bel_drew (bel_alloc (bel_refl _) _)) x2, ?_⟩ <;> go_simp) | exact (let h := hHeld; ⟨bel_trans h.1 hb, old_cell hb h.2.1, old_cell hb h.2.2.1, old_cell hb h.2.2.2.1, old_cell hb h.2.2.2.2.1, old_cell hb h.2.2.2.2.2.1, old_cell hb h.2.2.2.2.2.2.1, old_cell hb h.2.2.2.2.2.2.2.1, old_cell hb h.2.2.2.2.2.2.2.2⟩))
          clear hK K
          try simp only [Act.put, List.setIfInBounds_toArray, List.set_cons_zero, List.set_cons_succ]
          refine h_take 19 (some 83) (.bool true) rfl rfl (by kernel_rfl) (by kernel_rfl) (by kernel_rfl) (fun _ _ _ h => h) (by kernel_rfl) ?_ (by assumption) ?_
          · intro w hSw; (try dsimp only at hSw); go_simp
            all_goals first | with_reducible rfl | omega | (simp; omega)
          try simp only [Act.put, List.setIfInBounds_toArray, List.set_cons_zero, List.set_cons_succ]
          refine h_take 20 (some 84) (.bool true) rfl rfl (by kernel_rfl) (by kernel_rfl) (by kernel_rfl) (fun _ _ _ h => h) (by kernel_rfl) ?_ (by assumption) ?_
          · intro w hSw; (try dsimp only at hSw); go_simp
            all_goals first | with_reducible rfl | omega | (simp; omega)
          try simp only [Act.put, List.setIfInBounds_toArray, List.set_cons_zero, List.set_cons_succ]
          refine h_take 21 (some 85) (.bool true) rfl rfl (by kernel_rfl) (by kernel_rfl) (by kernel_rfl) (fun _ _ _ h => h) (by kernel_rfl) ?_ (by assumption) ?_
          · intro w hSw; (try dsimp only at hSw); go_simp
            all_goals first | with_reducible rfl | omega | (simp; omega)
          try simp only [Act.put, List.setIfInBounds_toArray, List.set_cons_zero, List.set_cons_succ]
          refine h_take 22 (some 86) (?_) rfl rfl (by kernel_rfl) (by kernel_rfl) (by kernel_rfl) (fun _ _ _ h => h) (by kernel_rfl) ?_ (by assumption) ?_
          rotate_left
          · intro w hSw; (try dsimp only at hSw); go_simp
            all_goals first | with_reducible rfl | omega | (simp; omega)
          try simp only [Act.put, List.setIfInBounds_toArray, List.set_cons_zero, List.set_cons_succ]
          refine h_take 24 (some 88) (?_) rfl rfl (by kernel_rfl) (by kernel_rfl) (by kernel_rfl) (fun _ _ _ h => h) (by kernel_rfl) ?_ (by assumption) ?_
          rotate_left
          · intro w hSw; (try dsimp only at hSw); go_simp
            all_goals first | with_reducible rfl | omega | (simp; omega)
          try simp only [Act.put, List.setIfInBounds_toArray, List.set_cons_zero, List.set_cons_succ]
          refine h_call 23 (by kernel_rfl) rfl (by kernel_rfl) (fun K hK => ?_)
          go_simp
          refine (implPatText_any kd A2 _ c2 ags nt _ w1.heap.size (HTT.out.kept (bel_trans g3 (And.left (by assumption)))) (r3.kept (And.left (by assumption))) (by omega) hkk HG.out).mono ?_
          rw [HTX.out]
          rintro e wx ⟨rfl, hb⟩
          refine hK.out _ _ ?_ (fun hHeld => ?_)
          · (try dsimp only) <;> (first | exact (by refine ⟨bel_drew (bel_alloc (bel_refl _) _), old_cell (bel_drew (bel_alloc (bel_refl _) _)) x0, old_cell (bel_drew (bel_alloc (bel_refl _) _)) x1, old_cell (bel_drew (bel_alloc (bel_refl _) _)) x2, ?_⟩ <;> go_simp) | exact (let h := hHeld; ⟨bel_trans h.1 hb, old_cell hb h.2.1, old_cell hb h.2.2.1, old_cell hb h.2.2.2.1, old_cell hb h.2.2.2.2.1, old_cell hb h.2.2.2.2.2.1, old_cell hb h.2.2.2.2.2.2.1, old_cell hb h.2.2.2.2.2.2.2.1, old_cell hb h.2.2.2.2.2.2.2.2⟩))
          clear hK K
          try simp only [Act.put, List.setIfInBounds_toArray, List.set_cons_zero, List.set_cons_succ]
          refine h_call 25 (by kernel_rfl) rfl (by kernel_rfl) (fun K hK => ?_)
          go_simp
          refine (specPatText_any kd A2 _ c2 ags nt _ w1.heap.size (r3.kept (And.left (by assumption))) (by omega) hkk HG.out).mono ?_
          rw [HTX.out]
          rintro e wx ⟨rfl, hb⟩
          refine hK.out _ _ ?_ (fun hHeld => ?_)
          · (try dsimp only) <;> (first | exact (by refine ⟨bel_drew (bel_alloc (bel_refl _) _), old_cell (bel_drew (bel_alloc (bel_refl _) _)) x0, old_cell (bel_drew (bel_alloc (bel_refl _) _)) x1, old_cell (bel_drew (bel_alloc (bel_refl _) _)) x2, ?_⟩ <;> go_simp) | exact (let h := hHeld; ⟨bel_trans h.1 hb, old_cell hb h.2.1, old_cell hb h.2.2.1, old_cell hb h.2.2.2.1, old_cell hb h.2.2.2.2.1, old_cell hb h.2.2.2.2.2.1, old_cell hb h.2.2.2.2.2.2.1, old_cell hb h.2.2.2.2.2.2.2.1, old_cell hb h.2.2.2.2.2.2.2.2⟩))
          clear hK K
          try simp only [Act.put, List.setIfInBounds_toArray, List.set_cons_zero, List.set_cons_succ]
          refine h_take 26 (some 90) (.bool true) rfl rfl (by kernel_rfl) (by kernel_rfl) (by kernel_rfl) (fun _ _ _ h => h) (by kernel_rfl) ?_ (by assumption) ?_
          · intro w hSw; (try dsimp only at hSw); go_simp
            all_goals first | with_reducible rfl | omega | (simp; omega)
          try simp only [Act.put, List.setIfInBounds_toArray, List.set_cons_zero, List.set_cons_succ]
          refine h_take 27 (some 91) (.bool true) rfl rfl (by kernel_rfl) (by kernel_rfl) (by kernel_rfl) (fun _ _ _ h => h) (by kernel_rfl) ?_ (by assumption) ?_
          · intro w hSw; (try dsimp only at hSw); go_simp
            all_goals first | with_reducible rfl | omega | (simp; omega)
          try simp only [Act.put, List.setIfInBounds_toArray, List.set_cons_zero, List.set_cons_succ]
          refine h_take 28 (some 2) (?_) rfl rfl (by kernel_rfl) (by kernel_rfl) (by kernel_rfl) (fun _ _ _ h => h) (by kernel_rfl) ?_ (by assumption) ?_
          rotate_left
          · intro w hSw; (try dsimp only at hSw); go_simp
            all_goals first | with_reducible rfl | omega | (simp; omega)
          try simp only [Act.put, List.setIfInBounds_toArray, List.set_cons_zero, List.set_cons_succ]
          refine wpAnyH_done (by kernel_rfl) ?_ _
          obtain ⟨hB, _⟩ := hHeld
          have hB1 : Below W.heap.size W _ := bel_trans g3 hB
          go_wp2
          go_ret
          exact ⟨rfl, hB1⟩

theorem own : ownKnob Tryd.prog.godebug = none := by kernel_rfl
theorem laidOut : laidOutB Tryd.prog = true := by kernel_rfl
theorem lifted (os : Os) (started : os.Started) (H : Type) (enc : TypeId × Value → H) :
    ReturnsInHanded {} Tryd.checked os 3 .any (fun w args => (Rows.fnPatTextsSpec.pre enc Tryd.prog Tryd.f3 [] false w args ∧ laidMetH Tryd.prog laidL w) ∧ sizedMet enc Tryd.prog Tryd.f3 (OpenSpec.ofChange Rows.fnPatTextsSpec) false w args) (Rows.fnPatTextsSpec.post enc Tryd.prog Tryd.f3 false true false false) := by
  refine returnsInHanded_of_change_and (C := Tryd.checked) (X := fun w _ => laidMetH Tryd.prog laidL w) (fun _ _ _ hh h => h.of_heap hh) own started (by kernel_rfl) Tryd.func3
    (ChangeSpec.witness_shaped (enc := enc) (C := Tryd.checked) (os := os) (X := fun w _ => laidMetH Tryd.prog laidL w) false (World.doorLaid Tryd.prog 400 os) #[.slice none 0 0] 8 rfl (World.shaped_of_RefB (by kernel_rfl) (by kernel_rfl)) (by kernel_rfl) (by kernel_rfl) (by kernel_rfl) (door_met os _)) ?_
  intro W base args ds gs before hval0 hW _ _ hL _
  have hval : ∀ (j : Nat) t v, Tryd.f3.params[j]? = some t → args[j]? = some v → Value.okWide Tryd.prog W .any base t v := hval0
  have hW' := hW
  obtain ⟨p, q, hA0, hV, rfl, hfz, hnd⟩ := hW
  have hA : DataW.TrodAll enc Tryd.prog W 0 (fun _ => true) true Tryd.f3.params.toList args.toList ds p := hA0
  rw [Tryd.params3] at hA hval
  obtain ⟨v0, vs0, d0, ds0, p0, q0, hargs, rfl, rfl, h0, r0⟩ := trodAll_cons hA
  obtain ⟨rfl, rfl, rfl⟩ := trodAll_nil r0
  obtain rfl : args = #[v0] := by cases args; simp_all
  obtain ⟨rfl, rfl⟩ := trodVars_none hV
  have lt0 : ∀ x ∈ p0, x.block < W.heap.size := by obtain ⟨m, hm⟩ := h0; exact DataW.trod_lt m _ _ _ hm
  obtain ⟨A0, n0, c0, b0, hv0, hs0⟩ := open_bytes Tryd.underlying22 Tryd.underlying5 (by kernel_rfl) (hval 0 22 v0 rfl rfl) h0
  subst hv0
  clear hA0 hval0
  refine (walk A0 n0 c0 b0 W hs0 (tabT_of_laid hL)).mono fun e W' ⟨he, bel⟩ => ?_
  subst he
  exact ⟨_, rfl, _, _, _, [], _, [], hW', trodAll_mk1 (shut_bool Tryd.underlying4 _), (trodAll_cons_mk (Below.trod laidOut (by kernel_rfl) (of_decide_eq_true (by kernel_rfl)) h0 bel lt0) trodAll_mk0), rfl, bel.frame _, fun h => by cases h⟩
theorem over : Rows.fnPatTextsRow.holds Tryd.pinned (OpenSpec.ofChange Rows.fnPatTextsSpec) :=
  OpenClaim.holds_of_wide 3 Tryd.f3 rfl rfl rfl rfl rfl rfl rfl ⟨rfl, rfl, rfl, rfl, rfl⟩ rfl rfl rfl rfl rfl (by kernel_rfl) Tryd.func3 (by kernel_rfl)
    (of_decide_eq_true (by kernel_rfl)) (by unfold Func.isWrapper; first | (rw [if_pos (by decide +kernel)]; kernel_rfl) | (rw [if_neg (by decide +kernel)]; exact ⟨rfl, rfl⟩))
    (fun os started H enc _ => lifted os started H enc)
theorem proved : Rows.FnPatTextsCardSaid :=
  Claim7.holds_tied_plain_at .later [] laidK true _ _ over (fun _ h => by cases h) (by kernel_rfl) (fun _ h => by cases h) fnPatTexts_row_tie rfl ⟨rfl, rfl⟩ (by kernel_rfl) rfl
    (fun f fn hf hfn => by
      obtain rfl : f = 3 := Option.some.inj ((show Tryd.prog.funcNamed "loop.example/g00282/laws.FnPatTexts" = some 3 by kernel_rfl).symm.trans hf) |>.symm
      obtain rfl : fn = Tryd.f3 := (Option.some.inj (Tryd.func3.symm.trans hfn)).symm
      exact ⟨by kernel_rfl, fun j t ht => by
        rw [Tryd.params3] at ht
        have hm : t ∈ [22] := by simpa using Array.mem_of_getElem? ht
        have hall : ([22].all fun u => !Tryd.prog.wantsStandIn u) = true := by kernel_rfl
        exact (show Tryd.prog.wantsStandIn t = false by simpa using List.all_eq_true.1 hall t hm)⟩)
    (by kernel_rfl)
end Go.Proofs.YtaacdnnjmiaaaaaDoor.fnPatTexts
