/- The law FnAsserted returns true at every input, and leaves what it was given as it was. No condition. -/
import Derived.Test.YtndhjijcicebkaaDraw16
import Derived.Test.YtndhjijcicebkaaAt
import Derived.Test.YtndhjijcicebkaaFactOf
import Derived.Test.YtndhjijcicebkaaSameSt
import Derived.Test.YtndhjijcicebkaaStoreB
import Derived.Test.YtndhjijcicebkaaRows
import Derived.Test.YtndhjijcicebkaaRead
namespace Go.Proofs.Ytndhjijcicebkaa.fnAsserted
open Go.ChangeShapes Go.WideShapes Go.ChangeAt Go.RowKit
open Go.ChangeMaps (open_string shut_string)
set_option linter.unusedVariables false
set_option maxRecDepth 100000
set_option maxHeartbeats 20000000

theorem small_good {rs : List IR} (h : ∀ r ∈ rs, smallR r) : (∀ r ∈ rs, r.fs.length ≤ 1048576) ∧ (∀ r ∈ rs, goodI r) := ⟨fun r hr => by have := (h r hr).2.1; omega, fun r hr => by
  obtain ⟨q1, q2, q3⟩ := h r hr
  exact ⟨by omega, by omega, fun x hx => by have := q3 x hx; omega⟩⟩
theorem good_right {rs : List IR} {nx : Int} (h : Right (rs.map itOf) nx) : (∀ r ∈ rs, r.fs.length ≤ 1048576) ∧ (∀ r ∈ rs, goodI r) := by
  have hb := right_big h
  have hf : ∀ r ∈ rs, factOk (itOf r).f = true := fun r hr => (h.2.2.1 _ (List.mem_map_of_mem hr)).1
  refine ⟨fs_of rfl hb, fun r hr => ?_⟩
  have h1 := hf r hr
  have h2 : r.fs.length ≤ 1048576 := fs_of rfl hb r hr
  unfold factOk at h1
  simp only [Bool.and_eq_true, List.all_eq_true, decide_eq_true_eq] at h1
  obtain ⟨hn, hv, _⟩ := h1
  refine ⟨?_, by omega, fun x hx => ?_⟩
  · have := nameOk_size hn
    have h3 : r.kd.size ≤ 12 := this
    omega
  · have := valOk_size (hv x hx)
    omega
where
  nameOk_size {s : ByteArray} (h : nameOk s = true) : s.size ≤ 12 := by
    unfold nameOk word at h
    simp only [Bool.and_eq_true, decide_eq_true_eq] at h
    have := h.2.1
    omega
  valOk_size {v : Vl} (h : valOk v = true) : v.s.size ≤ 20 := by
    unfold valOk at h
    split at h
    · simp only [Bool.and_eq_true, decide_eq_true_eq] at h
      omega
    · split at h
      · unfold word at h
        simp only [Bool.and_eq_true, decide_eq_true_eq] at h
        have := h.2.1
        omega
      · cases h
theorem walk (A : Option Addr) (n c : Nat) (code : List UInt8) (W : World) (hs : n ≤ c ∧ c ≤ maxLen ∧ RdB W W.heap.size A n code) :
    Calls Try.prog 6 #[.slice A n c] W fun e w' => e = .returned (.bool true) ∧ Below W.heap.size W w' := by
  obtain ⟨hnc, _, hr⟩ := hs
  by_cases hbig : (1048576 : Int) < n
  · go_enter Try.func6, Try.ntmps6
    go_wp2_with fail
    refine (big_any _ _ _ _).mono ?_
    rw [decide_eq_true hbig]
    rintro e w' ⟨rfl, rfl⟩
    go_wp2
    go_ret
    exact ⟨rfl, Below.refl _ _⟩
  · go_enter Try.func6, Try.ntmps6
    go_wp2_with fail
    refine (big_any _ _ _ _).mono ?_
    rw [decide_eq_false (by omega)]
    rintro e w' ⟨rfl, rfl⟩
    go_wp2_with fail
    refine (DrawAssert_any A n c code W _ hr (Nat.le_refl _) (by omega)).mono ?_
    rintro e w1 ⟨A2, c2, rs, nx, kd, A3, c3, fs, ⟨hl, hnx, hsm, hcc⟩, ⟨hkd, hfl, hfs⟩, rfl, hri, hrf, gW⟩
    obtain ⟨N, hN⟩ : ∃ N, rs.length = N := ⟨_, rfl⟩
    obtain ⟨M, hM⟩ : ∃ M, fs.length = M := ⟨_, rfl⟩
    rw [hN] at hl hcc hri ⊢
    rw [hM] at hfl hrf ⊢
    obtain ⟨hs1, hg1⟩ := small_good hsm
    have HL := Lib.hid hN; have HLM := Lib.hid hM; have HS := Lib.hid hs1; have HG := Lib.hid hg1
    have HFV := Lib.hid (show ∀ x ∈ fs, x.s.size ≤ 9223372036854775807 from fun x hx => by have := hfs x hx; omega)
    clear hN hM hsm hs1 hg1 hfs
    have hkz : kd.size ≤ 9223372036854775807 := by omega
    obtain ⟨⟨l', nx', id, ok⟩, hres⟩ : ∃ r, assertF (rs.map itOf) nx ⟨kd, fs⟩ = r := ⟨_, rfl⟩
    have HRES := Lib.hid hres; clear hres
    go_wp2_with fail
    refine (implAssert_any A2 N c2 rs nx kd A3 M c3 fs _ _ _ ((hri.alloc _).alloc _) ((hrf.alloc _).alloc _) (by omega) hcc (by omega) hkz HFV.out HS.out HG.out l' nx' id ok HRES.out).mono ?_
    dsimp only [tupAs]
    rintro e w2 ⟨A4, c4, rs4, rfl, hc4, hm4, ho4, hb⟩
    have x0 := old_cell hb (b := w1.heap.size) (o := 0) (v := .slice A2 N c2) (by go_simp)
    have x1 := old_cell hb (b := w1.heap.size) (o := 1) (v := .int .i64 nx) (by go_simp)
    have x2 := old_cell hb (b := w1.heap.size + 1) (o := 0) (v := .string kd) (by go_simp)
    have x3 := old_cell hb (b := w1.heap.size + 1) (o := 1) (v := .slice A3 M c3) (by go_simp)
    have g2 : Below W.heap.size W w2 := (by repeat (first | with_reducible exact bel_refl _ | with_reducible assumption | with_reducible refine bel_set ?_ (by first | (simp; done) | (simp; omega) | omega) _ | with_reducible refine bel_alloc ?_ _ | with_reducible refine bel_drew ?_ | with_reducible refine bel_drewN ?_ _ | with_reducible refine bel_trans ?_ (by assumption)))
    have hri2 : RdI w2 w1.heap.size A2 N rs := ((hri.alloc _).alloc _).kept hb
    have hrf2 : RdS vC 3 w2 w1.heap.size A3 M fs := ((hrf.alloc _).alloc _).kept hb
    obtain ⟨N4, hN4⟩ : ∃ N4, rs4.length = N4 := ⟨_, rfl⟩
    rw [hN4] at hc4 ho4 ⊢
    have hr4 := ho4.rdM hN4
    have HL4 := Lib.hid hN4; have HM4 := Lib.hid hm4
    have zx := cell_lt x0
    have zx2 := cell_lt x2
    dsimp only at zx zx2
    clear hb ho4 hN4 hm4 hri hrf gW
    go_wp2_with fail
    refine (specAssert_any A2 N c2 rs nx kd A3 M c3 fs _ _ _ (hri2.alloc _) (hrf2.alloc _) (by omega) (by omega) hkz HFV.out HS.out HG.out l' nx' id ok HRES.out).mono ?_
    dsimp only [tupAs]
    rintro e w3 ⟨A5, c5, rs5, rfl, hc5, _, _, hb⟩
    have gx : Below w2.heap.size w2 w3 := bel_trans (bel_alloc (bel_refl w2) _) hb
    have a0 := old_cell hb (b := w2.heap.size) (o := 0) (v := .slice A4 N4 c4) (by go_simp)
    have a1 := old_cell hb (b := w2.heap.size) (o := 1) (v := .int .i64 nx') (by go_simp)
    replace x0 := old_cell gx x0; replace x1 := old_cell gx x1; replace x2 := old_cell gx x2; replace x3 := old_cell gx x3
    replace hri2 := hri2.kept gx; replace hrf2 := hrf2.kept gx; replace hr4 := hr4.kept gx
    have g3 : Below W.heap.size W w3 := bel_trans g2 gx
    have zx := cell_lt x0
    have zx2 := cell_lt x2
    have za := cell_lt a0
    dsimp only at zx zx2 za
    clear hb gx g2
    cases ok
    · have hno := assert_no (l := rs.map itOf) (nx := nx) (f := ⟨kd, fs⟩) (by rw [HRES.out])
      rw [HRES.out] at hno
      injection hno with e1 hno; injection hno with e2 hno; injection hno with e3 _
      subst e1 e2 e3
      have hNN : N4 = N := by
        have := congrArg List.length HM4.out
        rw [List.length_map, List.length_map, HL4.out, HL.out] at this
        exact this
      subst hNN
      go_wp2_with fail
      refine (sameStore_any A4 A2 _ c4 c2 rs4 rs _ _ _ _ (hr4.alloc _) (hri2.alloc _) HM4.out (by omega) (fs_map HM4.out HS.out)).mono ?_
      rintro e w5 ⟨rfl, hb⟩
      go_wp2
      go_ret
      exact ⟨rfl, (by repeat (first | with_reducible exact bel_refl _ | with_reducible assumption | with_reducible refine bel_set ?_ (by first | (simp; done) | (simp; omega) | omega) _ | with_reducible refine bel_alloc ?_ _ | with_reducible refine bel_drew ?_ | with_reducible refine bel_drewN ?_ _ | with_reducible refine bel_trans ?_ (by assumption)))⟩
    obtain ⟨hR, hfo, has2, hfof, hidf, hlen, hall, _⟩ := assert_yes HRES.out
    have hR4 : Right (rs4.map itOf) nx' := by rw [HM4.out]; exact hR
    obtain ⟨hs4, hg4⟩ := good_right hR4
    have hN41 : N4 ≤ N + 1 := by
      have h1 := congrArg List.length HM4.out
      rw [List.length_map, HL4.out] at h1
      rw [List.length_map, HL.out] at hlen
      omega
    have HS4 := Lib.hid hs4; have HG4 := Lib.hid hg4
    have HAS2 := Lib.hid (show assertF (rs4.map itOf) nx' ⟨kd, fs⟩ = (l', nx', id, true) by rw [HM4.out]; exact has2)
    have HFOF := Lib.hid (show factOf (rs4.map itOf) id = (⟨kd, fs⟩, true) by rw [HM4.out]; exact hfof)
    have HIDF := Lib.hid (show idOf (rs4.map itOf) ⟨kd, fs⟩ = id by rw [HM4.out]; exact hidf)
    have HALL := Lib.hid (show ∀ x ∈ rs.map itOf, factOf (rs4.map itOf) x.id = (x.f, true) by rw [HM4.out]; exact hall)
    have HSOK := Lib.hid (right_storeOk hR4)
    clear hR hfo has2 hfof hidf hlen hall hR4 hs4 hg4
    go_wp2_with fail
    refine (implAssert_any A4 N4 c4 rs4 nx' kd A3 M c3 fs _ _ _ (hr4.alloc _) (hrf2.alloc _) (by omega) hc4 (by omega) hkz HFV.out HS4.out HG4.out l' nx' id true HAS2.out).mono ?_
    dsimp only [tupAs]
    rintro e w5 ⟨A6, c6, rs6, rfl, hc6, hm6, ho6, hb⟩
    have gx : Below w3.heap.size w3 w5 := bel_trans (bel_alloc (bel_refl w3) _) hb
    replace x0 := old_cell gx x0; replace x1 := old_cell gx x1; replace x2 := old_cell gx x2; replace x3 := old_cell gx x3; replace a0 := old_cell gx a0; replace a1 := old_cell gx a1
    replace hri2 := hri2.kept gx; replace hrf2 := hrf2.kept gx; replace hr4 := hr4.kept gx
    have g5 : Below W.heap.size W w5 := bel_trans g3 gx
    have hNN : rs6.length = N4 := by
      have h1 := congrArg List.length hm6
      have h2 := congrArg List.length HM4.out
      rw [List.length_map] at h1 h2
      rw [HL4.out] at h2
      omega
    rw [hNN] at ho6 hc6 ⊢
    have hr6 := ho6.rdM hNN
    have HM6 := Lib.hid (hm6.trans HM4.out.symm)
    have zx := cell_lt x0
    have zx2 := cell_lt x2
    have za := cell_lt a0
    dsimp only at zx zx2 za
    clear hb gx g3 hNN hm6 ho6
    go_wp2_with fail
    refine (implFactOf_any A4 N4 c4 rs4 nx' id kd fs true _ _ (hr4.alloc _) (by omega) HS4.out HFOF.out).mono ?_
    dsimp only [tupF]
    rintro e w6 ⟨A7, c7, rfl, ho7, hb⟩
    rw [HLM.out] at ho7 ⊢
    have gx : Below w5.heap.size w5 w6 := bel_trans (bel_alloc (bel_refl w5) _) hb
    have d0 := old_cell hb (b := w5.heap.size) (o := 0) (v := .slice A6 N4 c6) (by go_simp)
    have d1 := old_cell hb (b := w5.heap.size) (o := 1) (v := .int .i64 nx') (by go_simp)
    replace x0 := old_cell gx x0; replace x1 := old_cell gx x1; replace x2 := old_cell gx x2; replace x3 := old_cell gx x3; replace a0 := old_cell gx a0; replace a1 := old_cell gx a1
    replace hri2 := hri2.kept gx; replace hrf2 := hrf2.kept gx; replace hr4 := hr4.kept gx; replace hr6 := hr6.kept gx
    have hr7 := ho7.rdM HLM.out
    have g6 : Below W.heap.size W w6 := bel_trans g5 gx
    clear hb gx g5 ho7
    have gv : Below w6.heap.size w6 (w6.alloc (.cells #[.string kd, .slice A7 M c7] 38)) := bel_alloc (bel_refl w6) _
    have f0 : (w6.alloc (.cells #[.string kd, .slice A7 M c7] 38)).cell? ⟨w6.heap.size, 0, none⟩ = some (.string kd) := by go_simp
    have f1 : (w6.alloc (.cells #[.string kd, .slice A7 M c7] 38)).cell? ⟨w6.heap.size, 1, none⟩ = some (.slice A7 M c7) := by go_simp
    have zx := cell_lt x0
    have zx2 := cell_lt x2
    have za := cell_lt a0
    have zd := cell_lt d0
    dsimp only at zx zx2 za zd
    replace x0 := old_cell gv x0; replace x1 := old_cell gv x1; replace x2 := old_cell gv x2; replace x3 := old_cell gv x3; replace a0 := old_cell gv a0; replace a1 := old_cell gv a1; replace d0 := old_cell gv d0; replace d1 := old_cell gv d1
    replace hri2 := hri2.kept gv; replace hrf2 := hrf2.kept gv; replace hr4 := hr4.kept gv; replace hr6 := hr6.kept gv; replace hr7 := hr7.kept gv; replace g6 := bel_trans g6 gv
    go_wp2
    generalize hvv : w6.alloc (.cells #[.string kd, .slice A7 M c7] 38) = v at x0 x1 x2 x3 a0 a1 d0 d1 f0 f1 hri2 hrf2 hr4 hr6 hr7 g6 ⊢
    clear hvv gv
    go_loopw [16] (fun i wr => ∃ k : Nat, k ≤ N ∧ i = .int .i64 k ∧ Below v.heap.size v wr) (fun i _ => N - (intOf i).toNat)
    case atStart => exact ⟨0, Nat.zero_le _, rfl, bel_refl _⟩
    case round =>
      obtain ⟨k, hk, rfl, hbel⟩ := hrel
      have X0 := old_cell hbel x0
      have A0 := old_cell hbel a0
      have A1 := old_cell hbel a1
      by_cases hlt : k < N
      · have hri3 := hri2.kept hbel
        have hr43 := hr4.kept hbel
        obtain ⟨b1, o1, rfl, _, hcs⟩ := hri3.at_ (by omega)
        obtain ⟨rid, rkd, Ai, ci, ffs, he1, p0, p1, p2, hrr⟩ := hcs k hlt
        have hmem : (⟨rid, ⟨rkd, ffs⟩⟩ : It) ∈ rs.map itOf := by
          have h9 : rs[k]'(by rw [HL.out]; exact hlt) ∈ rs := List.getElem_mem _
          rw [he1] at h9
          exact List.mem_map_of_mem h9
        have HFK := Lib.hid (HALL.out _ hmem)
        have hffl : ffs.length ≤ 4611686018427387904 := by
          have h9 := HS.out (rs[k]'(by rw [HL.out]; exact hlt)) (List.getElem_mem _)
          rw [he1] at h9
          have h8 : ffs.length ≤ 1048576 := h9
          omega
        clear hcs he1 hmem
        have hj0 : (0:Int) ≤ (k : Int) := by omega
        have hj1 : (k:Int) < (N : Int) := by omega
        go_upto_region 13 with fail
        refine wp_region_held_drew (S := (fun w' => Below wr.heap.size wr w' ∧ w'.cell? ⟨w1.heap.size, 0, none⟩ = some (.slice (some ⟨b1, o1, none⟩) N c2) ∧ w'.cell? ⟨w2.heap.size, 0, none⟩ = some (.slice A4 N4 c4) ∧ w'.cell? ⟨w2.heap.size, 1, none⟩ = some (.int .i64 nx') ∧ w'.cell? ⟨b1, o1 + k * 3, none⟩ = some (.int .i64 rid) ∧ w'.cell? ⟨b1, o1 + k * 3 + 1, none⟩ = some (.string rkd) ∧ w'.cell? ⟨b1, o1 + k * 3 + 2, none⟩ = some (.slice Ai ffs.length ci))) (by kernel_rfl) ?_ (fun hHeld => ?_)
        · (try dsimp only) <;> (((refine (fun hB => ⟨hB, old_cell hB X0, old_cell hB A0, old_cell hB A1, old_cell hB p0, old_cell hB p1, old_cell hB p2⟩ : Below wr.heap.size wr _ → _) ?_); (first | exact bel_drew (bel_refl _) | exact bel_trans (And.left (by assumption)) (by assumption) | assumption | exact bel_alloc (And.left (by assumption)) _ | exact bel_set (bel_set (And.left (by assumption)) hzb _) hzb _)))
        refine h_take 0 (some 80) (?_) rfl rfl (by kernel_rfl) (by kernel_rfl) (by kernel_rfl) (fun _ _ _ h => h) (by kernel_rfl) ?_ (by assumption) ?_
        rotate_left
        · intro w hSw; (try dsimp only at hSw); go_simp
          all_goals first | with_reducible rfl | omega | (simp; omega)
        try simp only [Act.put, List.setIfInBounds_toArray, List.set_cons_zero, List.set_cons_succ]
        refine h_take 1 (some 81) (?_) rfl rfl (by kernel_rfl) (by kernel_rfl) (by kernel_rfl) (fun _ _ _ h => h) (by kernel_rfl) ?_ (by assumption) ?_
        rotate_left
        · intro w hSw; (try dsimp only at hSw); go_simp
          all_goals first | with_reducible rfl | omega | (simp; omega)
        try simp only [Act.put, List.setIfInBounds_toArray, List.set_cons_zero, List.set_cons_succ]
        refine h_take 2 (some 82) (?_) rfl rfl (by kernel_rfl) (by kernel_rfl) (by kernel_rfl) (fun _ _ _ h => h) (by kernel_rfl) ?_ (by assumption) ?_
        rotate_left
        · intro w hSw; (try dsimp only at hSw); go_simp
          all_goals first | with_reducible rfl | omega | (simp; omega)
        try simp only [Act.put, List.setIfInBounds_toArray, List.set_cons_zero, List.set_cons_succ]
        refine h_take 3 (some 83) (?_) rfl rfl (by kernel_rfl) (by kernel_rfl) (by kernel_rfl) (fun _ _ _ h => h) (by kernel_rfl) ?_ (by assumption) ?_
        rotate_left
        · intro w hSw; (try dsimp only at hSw); go_simp
          all_goals first | with_reducible rfl | omega | (simp; omega)
        try simp only [Act.put, List.setIfInBounds_toArray, List.set_cons_zero, List.set_cons_succ]
        refine h_take 4 (some 84) (?_) rfl rfl (by kernel_rfl) (by kernel_rfl) (by kernel_rfl) (fun _ _ _ h => h) (by kernel_rfl) ?_ (by assumption) ?_
        rotate_left
        · intro w hSw; (try dsimp only at hSw); go_simp
          all_goals first | with_reducible rfl | omega | (simp; omega)
        try simp only [Act.put, List.setIfInBounds_toArray, List.set_cons_zero, List.set_cons_succ]
        refine h_take 5 (some 85) (?_) rfl rfl (by kernel_rfl) (by kernel_rfl) (by kernel_rfl) (fun _ _ _ h => h) (by kernel_rfl) ?_ (by assumption) ?_
        rotate_left
        · intro w hSw; (try dsimp only at hSw); go_simp
          all_goals first | with_reducible rfl | omega | (simp; omega)
        try simp only [Act.put, List.setIfInBounds_toArray, List.set_cons_zero, List.set_cons_succ]
        refine h_take 6 (some 86) (?_) rfl rfl (by kernel_rfl) (by kernel_rfl) (by kernel_rfl) (fun _ _ _ h => h) (by kernel_rfl) ?_ (by assumption) ?_
        rotate_left
        · intro w hSw; (try dsimp only at hSw); go_simp
          all_goals first | with_reducible rfl | omega | (simp; omega)
        try simp only [Act.put, List.setIfInBounds_toArray, List.set_cons_zero, List.set_cons_succ]
        refine wpAnyH_ready (rs := [7, 11]) (by kernel_rfl) (by simp) ?_
        refine AllReadyH.cons rfl (fun K hK => ?_) (AllReadyH.cons rfl (fun K hK => ?_) AllReadyH.nil)
        · rw [if_pos (by kernel_rfl)]
          go_simp
          refine (implFactOf_any A4 N4 c4 rs4 nx' rid rkd ffs true _ _ (hr43.kept (And.left (by assumption))) (by omega) HS4.out HFK.out).mono ?_
          dsimp only [tupF]
          rintro e wx ⟨A8, c8, rfl, ho8, hb⟩
          replace ho8 := ho8.lower (b2 := wr.heap.size) (by simp)
          refine hK.out _ _ ?_ (fun hHeld => ?_)
          · (try dsimp only) <;> (((refine (fun hB => ⟨hB, old_cell hB X0, old_cell hB A0, old_cell hB A1, old_cell hB p0, old_cell hB p1, old_cell hB p2⟩ : Below wr.heap.size wr _ → _) ?_); (first | exact bel_drew (bel_refl _) | exact bel_trans (And.left (by assumption)) (by assumption) | assumption | exact bel_alloc (And.left (by assumption)) _ | exact bel_set (bel_set (And.left (by assumption)) hzb _) hzb _)))
          clear hK K
          try simp only [Act.put, List.setIfInBounds_toArray, List.set_cons_zero, List.set_cons_succ]
          refine h_take 8 (some 79) (?_) rfl rfl (by kernel_rfl) (by kernel_rfl) (by kernel_rfl) (fun _ _ _ h => h) (by kernel_rfl) ?_ (by assumption) ?_
          rotate_left
          · intro w hSw; (try dsimp only at hSw); go_simp
            all_goals first | with_reducible rfl | omega | (simp; omega)
          try simp only [Act.put, List.setIfInBounds_toArray, List.set_cons_zero, List.set_cons_succ]
          refine h_take 9 (some 88) (?_) rfl rfl (by kernel_rfl) (by kernel_rfl) (by kernel_rfl) (fun _ _ _ h => h) (by kernel_rfl) ?_ (by assumption) ?_
          rotate_left
          · intro w hSw; (try dsimp only at hSw); go_simp
            all_goals first | with_reducible rfl | omega | (simp; omega)
          try simp only [Act.put, List.setIfInBounds_toArray, List.set_cons_zero, List.set_cons_succ]
          refine h_take 10 (some 89) (?_) rfl rfl (by kernel_rfl) (by kernel_rfl) (by kernel_rfl) (fun _ _ _ h => h) (by kernel_rfl) ?_ (by assumption) ?_
          rotate_left
          · intro w hSw; (try dsimp only at hSw); go_simp
            all_goals first | with_reducible rfl | omega | (simp; omega)
          try simp only [Act.put, List.setIfInBounds_toArray, List.set_cons_zero, List.set_cons_succ]
          refine h_call 11 (by kernel_rfl) rfl (by kernel_rfl) (fun K hK => ?_)
          have hzb : wr.heap.size ≤ wx.heap.size := (And.left (by assumption) : Below wr.heap.size wr wx).size
          go_simp
          refine hK.out _ _ ?_ (fun hHeld => ?_)
          · (try dsimp only) <;> (((refine (fun hB => ⟨hB, old_cell hB X0, old_cell hB A0, old_cell hB A1, old_cell hB p0, old_cell hB p1, old_cell hB p2⟩ : Below wr.heap.size wr _ → _) ?_); (first | exact bel_drew (bel_refl _) | exact bel_trans (And.left (by assumption)) (by assumption) | assumption | exact bel_alloc (And.left (by assumption)) _ | exact bel_set (bel_set (And.left (by assumption)) hzb _) hzb _)))
          clear hK K
          try simp only [Act.put, List.setIfInBounds_toArray, List.set_cons_zero, List.set_cons_succ]
          refine h_call 12 (by kernel_rfl) rfl (by kernel_rfl) (fun K hK => ?_)
          go_simp
          refine hK.out _ _ ?_ (fun hHeld => ?_)
          · (try dsimp only) <;> (((refine (fun hB => ⟨hB, old_cell hB X0, old_cell hB A0, old_cell hB A1, old_cell hB p0, old_cell hB p1, old_cell hB p2⟩ : Below wr.heap.size wr _ → _) ?_); (first | exact bel_drew (bel_refl _) | exact bel_trans (And.left (by assumption)) (by assumption) | assumption | exact bel_alloc (And.left (by assumption)) _ | exact bel_set (bel_set (And.left (by assumption)) hzb _) hzb _)))
          clear hK K
          try simp only [Act.put, List.setIfInBounds_toArray, List.set_cons_zero, List.set_cons_succ]
          refine h_take 13 (some 18) (?_) rfl rfl (by kernel_rfl) (by kernel_rfl) (by kernel_rfl) (fun _ _ _ h => h) (by kernel_rfl) ?_ (by assumption) ?_
          rotate_left
          · intro w hSw; (try dsimp only at hSw); go_simp
            all_goals first | with_reducible rfl | omega | (simp; omega)
          try simp only [Act.put, List.setIfInBounds_toArray, List.set_cons_zero, List.set_cons_succ]
          refine wpAnyH_done (by kernel_rfl) ?_ _
          have HBz := Blk.new wx 38 #[.string rkd, .slice A8 ffs.length c8]
          have hr8 := ho8.rdO.alloc (.cells #[.string rkd, .slice A8 ffs.length c8] 38)
          have hBB := (And.left hHeld)
          skip
          generalize hwz : wx.alloc (.cells #[.string rkd, .slice A8 ffs.length c8] 38) = wz at hHeld HBz hr8 ⊢
          clear hwz
          obtain ⟨hB, X0z, A0z, A1z, p0z, p1z, p2z⟩ := hHeld
          obtain ⟨h80, h81, _, _⟩ := HBz.two
          have hrrz := hrr.kept hB
          go_upto_region 14 with fail
          refine wp_region_held_drew (S := (fun w' => Below wz.heap.size wz w' ∧ w'.cell? ⟨w1.heap.size, 0, none⟩ = some (.slice (some ⟨b1, o1, none⟩) N c2) ∧ w'.cell? ⟨b1, o1 + k * 3 + 1, none⟩ = some (.string rkd) ∧ w'.cell? ⟨b1, o1 + k * 3 + 2, none⟩ = some (.slice Ai ffs.length ci) ∧ w'.cell? ⟨wx.heap.size, 0, none⟩ = some (.string rkd) ∧ w'.cell? ⟨wx.heap.size, 1, none⟩ = some (.slice A8 ffs.length c8))) (by kernel_rfl) ?_ (fun hHeld => ?_)
          · (try dsimp only) <;> (((refine (fun hB => ⟨hB, old_cell hB X0z, old_cell hB p1z, old_cell hB p2z, old_cell hB h80, old_cell hB h81⟩ : Below wz.heap.size wz _ → _) ?_); (first | exact bel_drew (bel_refl _) | exact bel_trans (And.left (by assumption)) (by assumption) | assumption)))
          refine h_take 0 (some 90) (?_) rfl rfl (by kernel_rfl) (by kernel_rfl) (by kernel_rfl) (fun _ _ _ h => h) (by kernel_rfl) ?_ (by assumption) ?_
          rotate_left
          · intro w hSw; (try dsimp only at hSw); go_simp
            all_goals first | with_reducible rfl | omega | (simp; omega)
          try simp only [Act.put, List.setIfInBounds_toArray, List.set_cons_zero, List.set_cons_succ]
          refine h_take 1 (some 91) (.bool false) rfl rfl (by kernel_rfl) (by kernel_rfl) (by kernel_rfl) (fun _ _ _ h => h) (by kernel_rfl) ?_ (by assumption) ?_
          · intro w hSw; (try dsimp only at hSw); go_simp
            all_goals first | with_reducible rfl | omega | (simp; omega)
          try simp only [Act.put, List.setIfInBounds_toArray, List.set_cons_zero, List.set_cons_succ]
          refine h_take 2 (some 92) (.bool false) rfl rfl (by kernel_rfl) (by kernel_rfl) (by kernel_rfl) (fun _ _ _ h => h) (by kernel_rfl) ?_ (by assumption) ?_
          · intro w hSw; (try dsimp only at hSw); go_simp
            all_goals first | with_reducible rfl | omega | (simp; omega)
          try simp only [Act.put, List.setIfInBounds_toArray, List.set_cons_zero, List.set_cons_succ]
          refine h_take 3 (some 93) (?_) rfl rfl (by kernel_rfl) (by kernel_rfl) (by kernel_rfl) (fun _ _ _ h => h) (by kernel_rfl) ?_ (by assumption) ?_
          rotate_left
          · intro w hSw; (try dsimp only at hSw); go_simp
            all_goals first | with_reducible rfl | omega | (simp; omega)
          try simp only [Act.put, List.setIfInBounds_toArray, List.set_cons_zero, List.set_cons_succ]
          refine h_take 4 (some 94) (?_) rfl rfl (by kernel_rfl) (by kernel_rfl) (by kernel_rfl) (fun _ _ _ h => h) (by kernel_rfl) ?_ (by assumption) ?_
          rotate_left
          · intro w hSw; (try dsimp only at hSw); go_simp
            all_goals first | with_reducible rfl | omega | (simp; omega)
          try simp only [Act.put, List.setIfInBounds_toArray, List.set_cons_zero, List.set_cons_succ]
          refine h_take 5 (some 95) (?_) rfl rfl (by kernel_rfl) (by kernel_rfl) (by kernel_rfl) (fun _ _ _ h => h) (by kernel_rfl) ?_ (by assumption) ?_
          rotate_left
          · intro w hSw; (try dsimp only at hSw); go_simp
            all_goals first | with_reducible rfl | omega | (simp; omega)
          try simp only [Act.put, List.setIfInBounds_toArray, List.set_cons_zero, List.set_cons_succ]
          refine h_take 6 (some 96) (?_) rfl rfl (by kernel_rfl) (by kernel_rfl) (by kernel_rfl) (fun _ _ _ h => h) (by kernel_rfl) ?_ (by assumption) ?_
          rotate_left
          · intro w hSw; (try dsimp only at hSw); go_simp
            all_goals first | with_reducible rfl | omega | (simp; omega)
          try simp only [Act.put, List.setIfInBounds_toArray, List.set_cons_zero, List.set_cons_succ]
          refine h_take 7 (some 97) (?_) rfl rfl (by kernel_rfl) (by kernel_rfl) (by kernel_rfl) (fun _ _ _ h => h) (by kernel_rfl) ?_ (by assumption) ?_
          rotate_left
          · intro w hSw; (try dsimp only at hSw); go_simp
            all_goals first | with_reducible rfl | omega | (simp; omega)
          try simp only [Act.put, List.setIfInBounds_toArray, List.set_cons_zero, List.set_cons_succ]
          refine h_take 8 (some 98) (?_) rfl rfl (by kernel_rfl) (by kernel_rfl) (by kernel_rfl) (fun _ _ _ h => h) (by kernel_rfl) ?_ (by assumption) ?_
          rotate_left
          · intro w hSw; (try dsimp only at hSw); go_simp
            all_goals first | with_reducible rfl | omega | (simp; omega)
          try simp only [Act.put, List.setIfInBounds_toArray, List.set_cons_zero, List.set_cons_succ]
          refine h_take 9 (some 99) (?_) rfl rfl (by kernel_rfl) (by kernel_rfl) (by kernel_rfl) (fun _ _ _ h => h) (by kernel_rfl) ?_ (by assumption) ?_
          rotate_left
          · intro w hSw; (try dsimp only at hSw); go_simp
            all_goals first | with_reducible rfl | omega | (simp; omega)
          try simp only [Act.put, List.setIfInBounds_toArray, List.set_cons_zero, List.set_cons_succ]
          refine h_call 10 (by kernel_rfl) rfl (by kernel_rfl) (fun K hK => ?_)
          go_simp
          refine (implSameFact_any rkd rkd A8 Ai _ c8 _ ci ffs ffs _ _ _ (show RdS vC 3 wz.drew _ A8 ffs.length ffs from hr8) (show RdS vC 3 wz.drew _ Ai ffs.length ffs from hrrz) hffl).mono ?_
          rw [decide_eq_true rfl]
          rintro e wy ⟨rfl, hb⟩
          refine hK.out _ _ ?_ (fun hHeld => ?_)
          · (try dsimp only) <;> (((refine (fun hB => ⟨hB, old_cell hB X0z, old_cell hB p1z, old_cell hB p2z, old_cell hB h80, old_cell hB h81⟩ : Below wz.heap.size wz _ → _) ?_); (first | exact bel_drew (bel_refl _) | exact bel_trans (And.left (by assumption)) (by assumption) | assumption)))
          clear hK K
          try simp only [Act.put, List.setIfInBounds_toArray, List.set_cons_zero, List.set_cons_succ]
          refine h_take 11 (some 101) (.bool false) rfl rfl (by kernel_rfl) (by kernel_rfl) (by kernel_rfl) (fun _ _ _ h => h) (by kernel_rfl) ?_ (by assumption) ?_
          · intro w hSw; (try dsimp only at hSw); go_simp
            all_goals first | with_reducible rfl | omega | (simp; omega)
          try simp only [Act.put, List.setIfInBounds_toArray, List.set_cons_zero, List.set_cons_succ]
          refine h_take 12 (some 102) (.bool false) rfl rfl (by kernel_rfl) (by kernel_rfl) (by kernel_rfl) (fun _ _ _ h => h) (by kernel_rfl) ?_ (by assumption) ?_
          · intro w hSw; (try dsimp only at hSw); go_simp
            all_goals first | with_reducible rfl | omega | (simp; omega)
          try simp only [Act.put, List.setIfInBounds_toArray, List.set_cons_zero, List.set_cons_succ]
          refine wpAnyH_done (by kernel_rfl) ?_ _
          obtain ⟨hB2, _⟩ := hHeld
          go_wp2
          go_roundw
          case rel => exact ⟨k + 1, by omega, by go_num, bel_trans hbel (bel_trans hB hB2)⟩
          case measure => simp [intOf]; omega
        · rw [if_pos (by kernel_rfl)]
          have HBa : Blk ((wr.drew).alloc (.cells #[.string ⟨#[]⟩, .slice none 0 0] 38)) wr.heap.size 38 #[.string ⟨#[]⟩, .slice none 0 0] := Blk.new (wr.drew) 38 #[.string ⟨#[]⟩, .slice none 0 0]
          have hzb : wr.heap.size ≤ wr.heap.size := Nat.le_refl _
          go_simp
          refine hK.out _ _ ?_ (fun hHeld => ?_)
          · (try dsimp only) <;> (((refine (fun hB => ⟨hB, old_cell hB X0, old_cell hB A0, old_cell hB A1, old_cell hB p0, old_cell hB p1, old_cell hB p2⟩ : Below wr.heap.size wr _ → _) ?_); (first | exact bel_drew (bel_refl _) | exact bel_trans (And.left (by assumption)) (by assumption) | assumption | exact bel_alloc (And.left (by assumption)) _ | exact bel_set (bel_set (And.left (by assumption)) hzb _) hzb _)))
          clear hK K
          try simp only [Act.put, List.setIfInBounds_toArray, List.set_cons_zero, List.set_cons_succ]
          refine h_call 7 (by kernel_rfl) rfl (by kernel_rfl) (fun K hK => ?_)
          go_simp
          refine (implFactOf_any A4 N4 c4 rs4 nx' rid rkd ffs true _ _ (hr43.kept (And.left (by assumption))) (by omega) HS4.out HFK.out).mono ?_
          dsimp only [tupF]
          rintro e wx ⟨A8, c8, rfl, ho8, hb⟩
          replace HBa := HBa.kept hb
          replace ho8 := ho8.lower (b2 := wr.heap.size + 1) (by simp)
          refine hK.out _ _ ?_ (fun hHeld => ?_)
          · (try dsimp only) <;> (((refine (fun hB => ⟨hB, old_cell hB X0, old_cell hB A0, old_cell hB A1, old_cell hB p0, old_cell hB p1, old_cell hB p2⟩ : Below wr.heap.size wr _ → _) ?_); (first | exact bel_drew (bel_refl _) | exact bel_trans (And.left (by assumption)) (by assumption) | assumption | exact bel_alloc (And.left (by assumption)) _ | exact bel_set (bel_set (And.left (by assumption)) hzb _) hzb _)))
          clear hK K
          try simp only [Act.put, List.setIfInBounds_toArray, List.set_cons_zero, List.set_cons_succ]
          refine h_take 8 (some 79) (?_) rfl rfl (by kernel_rfl) (by kernel_rfl) (by kernel_rfl) (fun _ _ _ h => h) (by kernel_rfl) ?_ (by assumption) ?_
          rotate_left
          · intro w hSw; (try dsimp only at hSw); go_simp
            all_goals first | with_reducible rfl | omega | (simp; omega)
          try simp only [Act.put, List.setIfInBounds_toArray, List.set_cons_zero, List.set_cons_succ]
          refine h_take 9 (some 88) (?_) rfl rfl (by kernel_rfl) (by kernel_rfl) (by kernel_rfl) (fun _ _ _ h => h) (by kernel_rfl) ?_ (by assumption) ?_
          rotate_left
          · intro w hSw; (try dsimp only at hSw); go_simp
            all_goals first | with_reducible rfl | omega | (simp; omega)
          try simp only [Act.put, List.setIfInBounds_toArray, List.set_cons_zero, List.set_cons_succ]
          refine h_take 10 (some 89) (?_) rfl rfl (by kernel_rfl) (by kernel_rfl) (by kernel_rfl) (fun _ _ _ h => h) (by kernel_rfl) ?_ (by assumption) ?_
          rotate_left
          · intro w hSw; (try dsimp only at hSw); go_simp
            all_goals first | with_reducible rfl | omega | (simp; omega)
          try simp only [Act.put, List.setIfInBounds_toArray, List.set_cons_zero, List.set_cons_succ]
          refine h_call 12 (by kernel_rfl) rfl (by kernel_rfl) (fun K hK => ?_)
          obtain ⟨ha0, ha1, hfa0, hfa1⟩ := HBa.two
          have hal := HBa.lt
          go_simp
          refine hK.out _ _ ?_ (fun hHeld => ?_)
          · (try dsimp only) <;> (((refine (fun hB => ⟨hB, old_cell hB X0, old_cell hB A0, old_cell hB A1, old_cell hB p0, old_cell hB p1, old_cell hB p2⟩ : Below wr.heap.size wr _ → _) ?_); (first | exact bel_drew (bel_refl _) | exact bel_trans (And.left (by assumption)) (by assumption) | assumption | exact bel_alloc (And.left (by assumption)) _ | exact bel_set (bel_set (And.left (by assumption)) hzb _) hzb _)))
          clear hK K
          try simp only [Act.put, List.setIfInBounds_toArray, List.set_cons_zero, List.set_cons_succ]
          refine h_take 13 (some 18) (?_) rfl rfl (by kernel_rfl) (by kernel_rfl) (by kernel_rfl) (fun _ _ _ h => h) (by kernel_rfl) ?_ (by assumption) ?_
          rotate_left
          · intro w hSw; (try dsimp only at hSw); go_simp
            all_goals first | with_reducible rfl | omega | (simp; omega)
          try simp only [Act.put, List.setIfInBounds_toArray, List.set_cons_zero, List.set_cons_succ]
          refine wpAnyH_done (by kernel_rfl) ?_ _
          have HBz : Blk ((wx.setCell ⟨wr.heap.size, 0, none⟩ (.string rkd)).setCell ⟨wr.heap.size, 1, none⟩ (.slice A8 ffs.length c8)) wr.heap.size 38 #[.string rkd, .slice A8 ffs.length c8] := by have := (HBa.set_ 0 (.string rkd)).set_ 1 (.slice A8 ffs.length c8); simpa using this
          have hr8 := ((ho8.low (p := ⟨wr.heap.size, 0, none⟩) (by simp) (.string rkd)).low (p := ⟨wr.heap.size, 1, none⟩) (by simp) (.slice A8 ffs.length c8)).rdO
          skip
          generalize hwz : (wx.setCell ⟨wr.heap.size, 0, none⟩ (.string rkd)).setCell ⟨wr.heap.size, 1, none⟩ (.slice A8 ffs.length c8) = wz at hHeld HBz hr8 ⊢
          clear hwz
          obtain ⟨hB, X0z, A0z, A1z, p0z, p1z, p2z⟩ := hHeld
          obtain ⟨h80, h81, _, _⟩ := HBz.two
          have hrrz := hrr.kept hB
          go_upto_region 14 with fail
          refine wp_region_held_drew (S := (fun w' => Below wz.heap.size wz w' ∧ w'.cell? ⟨w1.heap.size, 0, none⟩ = some (.slice (some ⟨b1, o1, none⟩) N c2) ∧ w'.cell? ⟨b1, o1 + k * 3 + 1, none⟩ = some (.string rkd) ∧ w'.cell? ⟨b1, o1 + k * 3 + 2, none⟩ = some (.slice Ai ffs.length ci) ∧ w'.cell? ⟨wr.heap.size, 0, none⟩ = some (.string rkd) ∧ w'.cell? ⟨wr.heap.size, 1, none⟩ = some (.slice A8 ffs.length c8))) (by kernel_rfl) ?_ (fun hHeld => ?_)
          · (try dsimp only) <;> (((refine (fun hB => ⟨hB, old_cell hB X0z, old_cell hB p1z, old_cell hB p2z, old_cell hB h80, old_cell hB h81⟩ : Below wz.heap.size wz _ → _) ?_); (first | exact bel_drew (bel_refl _) | exact bel_trans (And.left (by assumption)) (by assumption) | assumption)))
          refine h_take 0 (some 90) (?_) rfl rfl (by kernel_rfl) (by kernel_rfl) (by kernel_rfl) (fun _ _ _ h => h) (by kernel_rfl) ?_ (by assumption) ?_
          rotate_left
          · intro w hSw; (try dsimp only at hSw); go_simp
            all_goals first | with_reducible rfl | omega | (simp; omega)
          try simp only [Act.put, List.setIfInBounds_toArray, List.set_cons_zero, List.set_cons_succ]
          refine h_take 1 (some 91) (.bool false) rfl rfl (by kernel_rfl) (by kernel_rfl) (by kernel_rfl) (fun _ _ _ h => h) (by kernel_rfl) ?_ (by assumption) ?_
          · intro w hSw; (try dsimp only at hSw); go_simp
            all_goals first | with_reducible rfl | omega | (simp; omega)
          try simp only [Act.put, List.setIfInBounds_toArray, List.set_cons_zero, List.set_cons_succ]
          refine h_take 2 (some 92) (.bool false) rfl rfl (by kernel_rfl) (by kernel_rfl) (by kernel_rfl) (fun _ _ _ h => h) (by kernel_rfl) ?_ (by assumption) ?_
          · intro w hSw; (try dsimp only at hSw); go_simp
            all_goals first | with_reducible rfl | omega | (simp; omega)
          try simp only [Act.put, List.setIfInBounds_toArray, List.set_cons_zero, List.set_cons_succ]
          refine h_take 3 (some 93) (?_) rfl rfl (by kernel_rfl) (by kernel_rfl) (by kernel_rfl) (fun _ _ _ h => h) (by kernel_rfl) ?_ (by assumption) ?_
          rotate_left
          · intro w hSw; (try dsimp only at hSw); go_simp
            all_goals first | with_reducible rfl | omega | (simp; omega)
          try simp only [Act.put, List.setIfInBounds_toArray, List.set_cons_zero, List.set_cons_succ]
          refine h_take 4 (some 94) (?_) rfl rfl (by kernel_rfl) (by kernel_rfl) (by kernel_rfl) (fun _ _ _ h => h) (by kernel_rfl) ?_ (by assumption) ?_
          rotate_left
          · intro w hSw; (try dsimp only at hSw); go_simp
            all_goals first | with_reducible rfl | omega | (simp; omega)
          try simp only [Act.put, List.setIfInBounds_toArray, List.set_cons_zero, List.set_cons_succ]
          refine h_take 5 (some 95) (?_) rfl rfl (by kernel_rfl) (by kernel_rfl) (by kernel_rfl) (fun _ _ _ h => h) (by kernel_rfl) ?_ (by assumption) ?_
          rotate_left
          · intro w hSw; (try dsimp only at hSw); go_simp
            all_goals first | with_reducible rfl | omega | (simp; omega)
          try simp only [Act.put, List.setIfInBounds_toArray, List.set_cons_zero, List.set_cons_succ]
          refine h_take 6 (some 96) (?_) rfl rfl (by kernel_rfl) (by kernel_rfl) (by kernel_rfl) (fun _ _ _ h => h) (by kernel_rfl) ?_ (by assumption) ?_
          rotate_left
          · intro w hSw; (try dsimp only at hSw); go_simp
            all_goals first | with_reducible rfl | omega | (simp; omega)
          try simp only [Act.put, List.setIfInBounds_toArray, List.set_cons_zero, List.set_cons_succ]
          refine h_take 7 (some 97) (?_) rfl rfl (by kernel_rfl) (by kernel_rfl) (by kernel_rfl) (fun _ _ _ h => h) (by kernel_rfl) ?_ (by assumption) ?_
          rotate_left
          · intro w hSw; (try dsimp only at hSw); go_simp
            all_goals first | with_reducible rfl | omega | (simp; omega)
          try simp only [Act.put, List.setIfInBounds_toArray, List.set_cons_zero, List.set_cons_succ]
          refine h_take 8 (some 98) (?_) rfl rfl (by kernel_rfl) (by kernel_rfl) (by kernel_rfl) (fun _ _ _ h => h) (by kernel_rfl) ?_ (by assumption) ?_
          rotate_left
          · intro w hSw; (try dsimp only at hSw); go_simp
            all_goals first | with_reducible rfl | omega | (simp; omega)
          try simp only [Act.put, List.setIfInBounds_toArray, List.set_cons_zero, List.set_cons_succ]
          refine h_take 9 (some 99) (?_) rfl rfl (by kernel_rfl) (by kernel_rfl) (by kernel_rfl) (fun _ _ _ h => h) (by kernel_rfl) ?_ (by assumption) ?_
          rotate_left
          · intro w hSw; (try dsimp only at hSw); go_simp
            all_goals first | with_reducible rfl | omega | (simp; omega)
          try simp only [Act.put, List.setIfInBounds_toArray, List.set_cons_zero, List.set_cons_succ]
          refine h_call 10 (by kernel_rfl) rfl (by kernel_rfl) (fun K hK => ?_)
          go_simp
          refine (implSameFact_any rkd rkd A8 Ai _ c8 _ ci ffs ffs _ _ _ (show RdS vC 3 wz.drew _ A8 ffs.length ffs from hr8) (show RdS vC 3 wz.drew _ Ai ffs.length ffs from hrrz) hffl).mono ?_
          rw [decide_eq_true rfl]
          rintro e wy ⟨rfl, hb⟩
          refine hK.out _ _ ?_ (fun hHeld => ?_)
          · (try dsimp only) <;> (((refine (fun hB => ⟨hB, old_cell hB X0z, old_cell hB p1z, old_cell hB p2z, old_cell hB h80, old_cell hB h81⟩ : Below wz.heap.size wz _ → _) ?_); (first | exact bel_drew (bel_refl _) | exact bel_trans (And.left (by assumption)) (by assumption) | assumption)))
          clear hK K
          try simp only [Act.put, List.setIfInBounds_toArray, List.set_cons_zero, List.set_cons_succ]
          refine h_take 11 (some 101) (.bool false) rfl rfl (by kernel_rfl) (by kernel_rfl) (by kernel_rfl) (fun _ _ _ h => h) (by kernel_rfl) ?_ (by assumption) ?_
          · intro w hSw; (try dsimp only at hSw); go_simp
            all_goals first | with_reducible rfl | omega | (simp; omega)
          try simp only [Act.put, List.setIfInBounds_toArray, List.set_cons_zero, List.set_cons_succ]
          refine h_take 12 (some 102) (.bool false) rfl rfl (by kernel_rfl) (by kernel_rfl) (by kernel_rfl) (fun _ _ _ h => h) (by kernel_rfl) ?_ (by assumption) ?_
          · intro w hSw; (try dsimp only at hSw); go_simp
            all_goals first | with_reducible rfl | omega | (simp; omega)
          try simp only [Act.put, List.setIfInBounds_toArray, List.set_cons_zero, List.set_cons_succ]
          refine wpAnyH_done (by kernel_rfl) ?_ _
          obtain ⟨hB2, _⟩ := hHeld
          go_wp2
          go_roundw
          case rel => exact ⟨k + 1, by omega, by go_num, bel_trans hbel (bel_trans hB hB2)⟩
          case measure => simp [intOf]; omega
      · have hj1 : ¬ (k:Int) < (N : Int) := by omega
        have X1 := old_cell hbel x1
        have X2 := old_cell hbel x2
        have X3 := old_cell hbel x3
        have D0 := old_cell hbel d0
        have D1 := old_cell hbel d1
        have F0 := old_cell hbel f0
        have F1 := old_cell hbel f1
        have hr43 := hr4.kept hbel
        have hr63 := hr6.kept hbel
        have hr73 := hr7.kept hbel
        have hrf3 := hrf2.kept hbel
        have g9 := bel_trans g6 hbel
        have hii : (id == id) = true := by simp
        clear x0 x1 x2 x3 a0 a1 d0 d1 f0 f1 hri2 hrf2 hr4 hr6 hr7 g6
        go_wp2_with fail
        refine (sameStore_any A4 A6 N4 c4 c6 rs4 rs6 nx' _ _ _ hr43 hr63 HM6.out.symm (by omega) HS4.out).mono ?_
        rintro e wa ⟨rfl, hb⟩
        replace X0 := old_cell hb X0; replace X2 := old_cell hb X2; replace X3 := old_cell hb X3; replace A0 := old_cell hb A0; replace A1 := old_cell hb A1; replace F0 := old_cell hb F0; replace F1 := old_cell hb F1
        replace hr43 := hr43.kept hb; replace hr73 := hr73.kept hb; replace hrf3 := hrf3.kept hb; replace g9 := bel_trans g9 hb
        clear hb D0 D1 X1
        go_wp2_with fail
        refine (implSameFact_any kd kd A7 A3 M c7 M c3 fs fs _ _ _ hr73 hrf3 (by omega)).mono ?_
        rw [decide_eq_true rfl]
        rintro e wb ⟨rfl, hb⟩
        replace X0 := old_cell hb X0; replace X2 := old_cell hb X2; replace X3 := old_cell hb X3; replace A0 := old_cell hb A0; replace A1 := old_cell hb A1
        replace hr43 := hr43.kept hb; replace hrf3 := hrf3.kept hb; replace g9 := bel_trans g9 hb
        clear hb F0 F1
        go_wp2_with fail
        refine (implIdOf_any A4 N4 c4 rs4 nx' kd A3 M c3 fs _ _ _ hr43 hrf3 (by omega) (fun r h => Nat.le_trans (HS4.out r h) (by decide))).mono ?_
        rw [HIDF.out]
        rintro e wc ⟨rfl, hb⟩
        replace X0 := old_cell hb X0; replace A0 := old_cell hb A0; replace A1 := old_cell hb A1
        replace hr43 := hr43.kept hb; replace g9 := bel_trans g9 hb
        clear hb X2 X3
        go_wp2_with fail
        refine (implStoreOk_any A4 N4 c4 rs4 nx' _ _ hr43 (by omega) hc4 (fun r h => ⟨HG4.out r h, Nat.le_trans (HS4.out r h) (by decide)⟩)).mono ?_
        rw [HSOK.out]
        rintro e wd ⟨rfl, hb⟩
        replace X0 := old_cell hb X0; replace A0 := old_cell hb A0
        replace g9 := bel_trans g9 hb
        have hle : (N4 : Int) ≤ (N : Int) + 1 := by omega
        clear hb
        go_wp2
        go_ret
        exact ⟨rfl, g9⟩

theorem own : ownKnob Try.prog.godebug = none := by kernel_rfl
theorem laidOut : laidOutB Try.prog = true := by kernel_rfl
theorem lifted (os : Os) (started : os.Started) (H : Type) (enc : TypeId × Value → H) :
    ReturnsInHanded {} Try.checked os 6 .any (Rows.fnAssertedSpec.pre6 enc Try.prog Try.f6 Rows.fnAssertedRow.domain false) (Rows.fnAssertedSpec.post enc Try.prog Try.f6 false true false false) := by
  refine returnsInHanded_of_change (C := Try.checked) own started (by kernel_rfl) Try.func6
    (ChangeSpec.witness6 (enc := enc) (C := Try.checked) false ⟨#[], #[.slice none 0 0], []⟩ 8 (by kernel_rfl) (by kernel_rfl) (by kernel_rfl) (by kernel_rfl)) ?_
  intro W base args ds gs before hval0 hW hcnd _
  have hval : ∀ (j : Nat) t v, Try.f6.params[j]? = some t → args[j]? = some v → Value.okWide Try.prog W .any base t v := hval0
  have hW' := hW
  obtain ⟨p, q, hA0, hV, rfl, hfz, hnd⟩ := hW
  have hA : DataW.TrodAll enc Try.prog W 0 (fun _ => true) true Try.f6.params.toList args.toList ds p := hA0
  rw [Try.params6] at hA hval
  obtain ⟨v0, vs0, d0, ds0, p0, q0, hargs, rfl, rfl, h0, r0⟩ := trodAll_cons hA
  obtain ⟨rfl, rfl, rfl⟩ := trodAll_nil r0
  obtain rfl : args = #[v0] := by cases args; simp_all
  obtain ⟨rfl, rfl⟩ := trodVars_none hV
  have lt0 : ∀ x ∈ p0, x.block < W.heap.size := by obtain ⟨m, hm⟩ := h0; exact DataW.trod_lt m _ _ _ hm
  obtain ⟨A0, n0, c0, b0, hv0, hs0⟩ := open_bytes Try.underlying48 Try.underlying5 (by kernel_rfl) (hval 0 48 v0 rfl rfl) h0
  subst hv0
  clear hA0 hval0
  refine (walk A0 n0 c0 b0 W hs0).mono fun e W' ⟨he, bel⟩ => ?_
  subst he
  exact ⟨_, rfl, _, _, _, [], _, [], hW', trodAll_mk1 (shut_bool Try.underlying4 _), (trodAll_cons_mk (Below.trod laidOut (by kernel_rfl) (of_decide_eq_true (by kernel_rfl)) h0 bel lt0) trodAll_mk0), rfl, bel.frame _, fun h => by cases h⟩
theorem over : Rows.fnAssertedRow.holds Try.pinned (OpenSpec.ofChange Rows.fnAssertedSpec) :=
  OpenClaim.holds_of_wide 6 Try.f6 rfl rfl rfl rfl rfl rfl rfl ⟨rfl, rfl, rfl, rfl, rfl⟩ rfl rfl rfl rfl rfl (by kernel_rfl) Try.func6 (by kernel_rfl)
    (of_decide_eq_true (by kernel_rfl)) (by unfold Func.isWrapper; first | (rw [if_pos (by decide +kernel)]; kernel_rfl) | (rw [if_neg (by decide +kernel)]; exact ⟨rfl, rfl⟩))
    (fun os started H enc _ => lifted os started H enc)
theorem proved : Rows.FnAssertedSaid := over
end Go.Proofs.Ytndhjijcicebkaa.fnAsserted
