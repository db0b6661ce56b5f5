/- The law FnRetracted returns true at every input, and leaves what it was given as it was. No condition. -/
import Derived.Test.YtndhjijcicebkaaDraw16
import Derived.Test.YtndhjijcicebkaaAt
import Derived.Test.YtndhjijcicebkaaFactOf
import Derived.Test.YtndhjijcicebkaaSameSt
import Derived.Test.YtndhjijcicebkaaStoreB
import Derived.Test.YtndhjijcicebkaaRows
import Derived.Test.YtndhjijcicebkaaRead
namespace Go.Proofs.Ytndhjijcicebkaa.fnRetracted
open Go.ChangeShapes Go.WideShapes Go.ChangeAt Go.RowKit
open Go.ChangeMaps (open_string shut_string)
set_option linter.unusedVariables false
set_option maxRecDepth 100000
set_option maxHeartbeats 20000000

theorem small_good {rs : List IR} (h : ∀ r ∈ rs, smallR r) : (∀ r ∈ rs, r.fs.length ≤ 1048576) ∧ (∀ r ∈ rs, goodI r) := ⟨fun r hr => by have := (h r hr).2.1; omega, fun r hr => by
  obtain ⟨q1, q2, q3⟩ := h r hr
  exact ⟨by omega, by omega, fun x hx => by have := q3 x hx; omega⟩⟩
theorem good_right {rs : List IR} {nx : Int} (h : Right (rs.map itOf) nx) : (∀ r ∈ rs, r.fs.length ≤ 1048576) ∧ (∀ r ∈ rs, goodI r) := by
  have hb := right_big h
  have hf : ∀ r ∈ rs, factOk (itOf r).f = true := fun r hr => (h.2.2.1 _ (List.mem_map_of_mem hr)).1
  refine ⟨fs_of rfl hb, fun r hr => ?_⟩
  have h1 := hf r hr
  have h2 : r.fs.length ≤ 1048576 := fs_of rfl hb r hr
  unfold factOk at h1
  simp only [Bool.and_eq_true, List.all_eq_true, decide_eq_true_eq] at h1
  obtain ⟨hn, hv, _⟩ := h1
  refine ⟨?_, by omega, fun x hx => ?_⟩
  · have := nameOk_size hn
    have h3 : r.kd.size ≤ 12 := this
    omega
  · have := valOk_size (hv x hx)
    omega
where
  nameOk_size {s : ByteArray} (h : nameOk s = true) : s.size ≤ 12 := by
    unfold nameOk word at h
    simp only [Bool.and_eq_true, decide_eq_true_eq] at h
    have := h.2.1
    omega
  valOk_size {v : Vl} (h : valOk v = true) : v.s.size ≤ 20 := by
    unfold valOk at h
    split at h
    · simp only [Bool.and_eq_true, decide_eq_true_eq] at h
      omega
    · split at h
      · unfold word at h
        simp only [Bool.and_eq_true, decide_eq_true_eq] at h
        have := h.2.1
        omega
      · cases h
theorem fact_small {f : Ft} (h : factOk f = true) : f.kd.size ≤ 12 ∧ f.fs.length ≤ 5 ∧ ∀ x ∈ f.fs, x.s.size ≤ 20 := by
  have h0 := h
  unfold factOk at h
  simp only [Bool.and_eq_true, List.all_eq_true, decide_eq_true_eq] at h
  obtain ⟨hn, hv, hl⟩ := h
  exact ⟨good_right.nameOk_size hn, hl, fun x hx => good_right.valOk_size (hv x hx)⟩
theorem walk (A : Option Addr) (n c : Nat) (code : List UInt8) (W : World) (hs : n ≤ c ∧ c ≤ maxLen ∧ RdB W W.heap.size A n code) :
    Calls Try.prog 7 #[.slice A n c] W fun e w' => e = .returned (.bool true) ∧ Below W.heap.size W w' := by
  obtain ⟨hnc, _, hr⟩ := hs
  by_cases hbig : (1048576 : Int) < n
  · go_enter Try.func7, Try.ntmps7
    go_wp2_with fail
    refine (big_any _ _ _ _).mono ?_
    rw [decide_eq_true hbig]
    rintro e w' ⟨rfl, rfl⟩
    go_wp2
    go_ret
    exact ⟨rfl, Below.refl _ _⟩
  · go_enter Try.func7, Try.ntmps7
    go_wp2_with fail
    refine (big_any _ _ _ _).mono ?_
    rw [decide_eq_false (by omega)]
    rintro e w' ⟨rfl, rfl⟩
    go_wp2_with fail
    refine (DrawRetract_any A n c code W _ hr (Nat.le_refl _) (by omega)).mono ?_
    rintro e w1 ⟨A2, c2, rs, nx, id, ⟨hl, hnx, hsm, hcc⟩, rfl, hri, gW⟩
    obtain ⟨N, hN⟩ : ∃ N, rs.length = N := ⟨_, rfl⟩
    rw [hN] at hl hcc hri ⊢
    obtain ⟨hs1, hg1⟩ := small_good hsm
    have HL := Lib.hid hN; have HS := Lib.hid hs1; have HG := Lib.hid hg1
    clear hN hsm hs1 hg1
    obtain ⟨⟨l', ok⟩, hres⟩ : ∃ r, retractF (rs.map itOf) nx id = r := ⟨_, rfl⟩
    have HRES := Lib.hid hres; clear hres
    go_wp2_with fail
    refine (implRetract_any A2 N c2 rs nx id _ _ (hri.alloc _) (by omega) hcc HS.out HG.out l' ok HRES.out).mono ?_
    dsimp only [tupRt]
    rintro e w2 ⟨A4, c4, rs4, rfl, hc4, hm4, ho4, hb⟩
    have x0 := old_cell hb (b := w1.heap.size) (o := 0) (v := .slice A2 N c2) (by go_simp)
    have x1 := old_cell hb (b := w1.heap.size) (o := 1) (v := .int .i64 nx) (by go_simp)
    have g2 : Below W.heap.size W w2 := (by repeat (first | with_reducible exact bel_refl _ | with_reducible assumption | with_reducible refine bel_set ?_ (by first | (simp; done) | (simp; omega) | omega) _ | with_reducible refine bel_alloc ?_ _ | with_reducible refine bel_drew ?_ | with_reducible refine bel_drewN ?_ _ | with_reducible refine bel_trans ?_ (by assumption)))
    have hri2 : RdI w2 w1.heap.size A2 N rs := (hri.alloc _).kept hb
    obtain ⟨N4, hN4⟩ : ∃ N4, rs4.length = N4 := ⟨_, rfl⟩
    rw [hN4] at hc4 ho4 ⊢
    have hr4 := ho4.rdM hN4
    have HL4 := Lib.hid hN4; have HM4 := Lib.hid hm4
    have zx := cell_lt x0
    dsimp only at zx
    clear hb ho4 hN4 hm4 hri gW
    go_wp2_with fail
    refine (specRetract_any A2 N c2 rs nx id _ _ (hri2.alloc _) (by omega) HS.out HG.out l' ok HRES.out).mono ?_
    dsimp only [tupRt]
    rintro e w3 ⟨A5, c5, rs5, rfl, hc5, _, _, hb⟩
    have gx : Below w2.heap.size w2 w3 := bel_trans (bel_alloc (bel_refl w2) _) hb
    have a0 := old_cell hb (b := w2.heap.size) (o := 0) (v := .slice A4 N4 c4) (by go_simp)
    have a1 := old_cell hb (b := w2.heap.size) (o := 1) (v := .int .i64 nx) (by go_simp)
    replace x0 := old_cell gx x0; replace x1 := old_cell gx x1
    replace hri2 := hri2.kept gx; replace hr4 := hr4.kept gx
    have g3 : Below W.heap.size W w3 := bel_trans g2 gx
    have zx := cell_lt x0
    have za := cell_lt a0
    dsimp only at zx za
    clear hb gx g2
    cases ok
    · have hno := retract_no (l := rs.map itOf) (nx := nx) (id := id) (by rw [HRES.out])
      rw [HRES.out] at hno
      injection hno with e1 _
      subst e1
      have hNN : N4 = N := by
        have := congrArg List.length HM4.out
        rw [List.length_map, List.length_map, HL4.out, HL.out] at this
        exact this
      subst hNN
      go_wp2_with fail
      refine (sameStore_any A4 A2 _ c4 c2 rs4 rs _ _ _ _ (hr4.alloc _) (hri2.alloc _) HM4.out (by omega) (fs_map HM4.out HS.out)).mono ?_
      rintro e w5 ⟨rfl, hb⟩
      go_wp2
      go_ret
      exact ⟨rfl, (by repeat (first | with_reducible exact bel_refl _ | with_reducible assumption | with_reducible refine bel_set ?_ (by first | (simp; done) | (simp; omega) | omega) _ | with_reducible refine bel_alloc ?_ _ | with_reducible refine bel_drew ?_ | with_reducible refine bel_drewN ?_ _ | with_reducible refine bel_trans ?_ (by assumption)))⟩
    obtain ⟨⟨kd, fs⟩, hR, hfo, hfn, hR2, hlen, hid0, hidn⟩ := retract_yes HRES.out
    obtain ⟨x, hx, _, hxf⟩ := factOf_some hfo
    have hfk : factOk ⟨kd, fs⟩ = true := by rw [← hxf]; exact (hR.2.2.1 x hx).1
    obtain ⟨hkd, hfl, hfv⟩ := fact_small hfk
    dsimp only at hkd hfl hfv
    have hR4 : Right (rs4.map itOf) nx := by rw [HM4.out]; exact hR2
    obtain ⟨hs4, hg4⟩ := good_right hR4
    have hN41 : N4 + 1 = N := by
      have h1 := congrArg List.length HM4.out
      rw [List.length_map, HL4.out] at h1
      rw [List.length_map, HL.out] at hlen
      omega
    obtain ⟨M, hM⟩ : ∃ M, fs.length = M := ⟨_, rfl⟩
    rw [hM] at hfl
    have hkz : kd.size ≤ 9223372036854775807 := by omega
    obtain ⟨⟨l3, nx3, id3, good⟩, hres3⟩ : ∃ r, assertF (rs4.map itOf) nx ⟨kd, fs⟩ = r := ⟨_, rfl⟩
    have hyes : good = true → Right l3 nx3 ∧ id < id3 := fun hgd => by
      rw [hgd] at hres3
      obtain ⟨q1, _, _, _, _, _, _, q8⟩ := assert_yes hres3
      have q9 := q8 (by rw [HM4.out]; exact hid0)
      exact ⟨q1, by omega⟩
    have HLM := Lib.hid hM; have HS4 := Lib.hid hs4; have HG4 := Lib.hid hg4; have HFO := Lib.hid hfo
    have HFN := Lib.hid (show factOf (rs4.map itOf) id = (⟨⟨#[]⟩, []⟩, false) by rw [HM4.out]; exact hfn)
    have HIDF := Lib.hid (show idOf (rs4.map itOf) ⟨kd, fs⟩ = 0 by rw [HM4.out]; exact hid0)
    have HSOK := Lib.hid (right_storeOk hR4)
    have HFV := Lib.hid (show ∀ x ∈ fs, x.s.size ≤ 9223372036854775807 from fun x hx => by have := hfv x hx; omega)
    have HRES3 := Lib.hid hres3; have HYES := Lib.hid hyes
    have hNI : (N4 : Int) = (N : Int) - 1 := by omega
    have HNI := Lib.hid hNI
    have hnb : ((N4 : Int) == (N : Int) - 1) = true := by simp; exact hNI
    clear hR hfo hfn hR2 hlen hid0 hidn hx hxf hfk hR4 hs4 hg4 hM hfv hres3 hyes hNI
    go_wp2_with fail
    refine (implFactOf_any A2 N c2 rs nx id kd fs true _ _ (hri2.alloc _) (by omega) HS.out HFO.out).mono ?_
    dsimp only [tupF]
    rintro e w5 ⟨A6, c6, rfl, ho6, hb⟩
    rw [HLM.out] at ho6 ⊢
    have gx : Below w3.heap.size w3 w5 := bel_trans (bel_alloc (bel_refl w3) _) hb
    replace x0 := old_cell gx x0; replace x1 := old_cell gx x1; replace a0 := old_cell gx a0; replace a1 := old_cell gx a1
    replace hr4 := hr4.kept gx
    have hr6 := ho6.rdM HLM.out
    have g5 : Below W.heap.size W w5 := bel_trans g3 gx
    have zx := cell_lt x0
    have za := cell_lt a0
    dsimp only at zx za
    clear hb gx g3 ho6 hri2
    go_wp2_with fail
    refine (implFactOf_any A4 N4 c4 rs4 nx id ⟨#[]⟩ [] false _ _ (hr4.alloc _) (by omega) HS4.out HFN.out).mono ?_
    dsimp only [tupF]
    rintro e w6 ⟨A7, c7, rfl, _, hb⟩
    have gx : Below w5.heap.size w5 w6 := bel_trans (bel_alloc (bel_refl w5) _) hb
    have d0 := old_cell hb (b := w5.heap.size) (o := 0) (v := .string kd) (by go_simp)
    have d1 := old_cell hb (b := w5.heap.size) (o := 1) (v := .slice A6 M c6) (by go_simp)
    replace x0 := old_cell gx x0; replace x1 := old_cell gx x1; replace a0 := old_cell gx a0; replace a1 := old_cell gx a1
    replace hr4 := hr4.kept gx; replace hr6 := hr6.kept gx
    have g6 : Below W.heap.size W w6 := bel_trans g5 gx
    have zx := cell_lt x0
    have za := cell_lt a0
    have zd := cell_lt d0
    dsimp only at zx za zd
    clear hb gx g5
    go_wp2_with fail
    refine (implAssert_any A4 N4 c4 rs4 nx kd A6 M c6 fs _ _ _ (hr4.alloc _) (hr6.alloc _) (by omega) hc4 (by omega) hkz HFV.out HS4.out HG4.out l3 nx3 id3 good HRES3.out).mono ?_
    dsimp only [tupAs]
    rintro e w7 ⟨A8, c8, rs8, rfl, hc8, hm8, ho8, hb⟩
    have gx : Below w6.heap.size w6 w7 := bel_trans (bel_alloc (bel_refl w6) _) hb
    replace x0 := old_cell gx x0; replace x1 := old_cell gx x1; replace a0 := old_cell gx a0; replace a1 := old_cell gx a1; replace d0 := old_cell gx d0; replace d1 := old_cell gx d1
    replace hr4 := hr4.kept gx; replace hr6 := hr6.kept gx
    have g7 : Below W.heap.size W w7 := bel_trans g6 gx
    obtain ⟨N8, hN8⟩ : ∃ N8, rs8.length = N8 := ⟨_, rfl⟩
    rw [hN8] at hc8 ho8 ⊢
    have hr8 := ho8.rdM hN8
    have HM8 := Lib.hid hm8; have HL8 := Lib.hid hN8
    have zx := cell_lt x0
    have za := cell_lt a0
    have zd := cell_lt d0
    dsimp only at zx za zd
    clear hb gx g6 ho8 hN8 hm8
    go_wp2_with fail
    refine (implStoreOk_any A4 N4 c4 rs4 nx _ _ (hr4.alloc _) (by omega) hc4 (fun r h => ⟨HG4.out r h, Nat.le_trans (HS4.out r h) (by decide)⟩)).mono ?_
    rw [HSOK.out]
    rintro e w8 ⟨rfl, hb⟩
    have gx : Below w7.heap.size w7 w8 := bel_trans (bel_alloc (bel_refl w7) _) hb
    have u0 := old_cell hb (b := w7.heap.size) (o := 0) (v := .slice A8 N8 c8) (by go_simp)
    have u1 := old_cell hb (b := w7.heap.size) (o := 1) (v := .int .i64 nx3) (by go_simp)
    replace x0 := old_cell gx x0; replace x1 := old_cell gx x1; replace a0 := old_cell gx a0; replace a1 := old_cell gx a1; replace d0 := old_cell gx d0; replace d1 := old_cell gx d1
    replace hr4 := hr4.kept gx; replace hr6 := hr6.kept gx; replace hr8 := hr8.kept gx
    have g8 : Below W.heap.size W w8 := bel_trans g7 gx
    clear hb gx g7
    go_wp2_with fail
    refine (implIdOf_any A4 N4 c4 rs4 nx kd A6 M c6 fs _ _ _ hr4 hr6 (by omega) (fun r h => Nat.le_trans (HS4.out r h) (by decide))).mono ?_
    rw [HIDF.out]
    rintro e w9 ⟨rfl, hb⟩
    replace x0 := old_cell hb x0; replace x1 := old_cell hb x1; replace a0 := old_cell hb a0; replace a1 := old_cell hb a1; replace d0 := old_cell hb d0; replace d1 := old_cell hb d1; replace u0 := old_cell hb u0; replace u1 := old_cell hb u1
    replace hr8 := hr8.kept hb
    have g9 := bel_trans g8 hb
    clear hb g8
    cases good
    · go_wp2
      go_ret
      exact ⟨rfl, g9⟩
    obtain ⟨hR8, hid3⟩ := HYES.out rfl
    have hR9 : Right (rs8.map itOf) nx3 := by rw [HM8.out]; exact hR8
    obtain ⟨hs8, hg8⟩ := good_right hR9
    have hN9 : N8 ≤ 1048576 := by rw [← HL8.out]; exact len_of rfl (right_big hR9)
    have HSOK8 := Lib.hid (right_storeOk hR9); have HS8 := Lib.hid hs8; have HG8 := Lib.hid hg8
    clear hR8 hR9 hs8 hg8
    go_wp2_with fail
    refine (implStoreOk_any A8 N8 c8 rs8 nx3 _ _ hr8 (by omega) hc8 (fun r h => ⟨HG8.out r h, Nat.le_trans (HS8.out r h) (by decide)⟩)).mono ?_
    rw [HSOK8.out]
    rintro e wa ⟨rfl, hb⟩
    go_wp2
    go_ret
    exact ⟨rfl, bel_trans g9 hb⟩

theorem own : ownKnob Try.prog.godebug = none := by kernel_rfl
theorem laidOut : laidOutB Try.prog = true := by kernel_rfl
theorem lifted (os : Os) (started : os.Started) (H : Type) (enc : TypeId × Value → H) :
    ReturnsInHanded {} Try.checked os 7 .any (Rows.fnRetractedSpec.pre6 enc Try.prog Try.f7 Rows.fnRetractedRow.domain false) (Rows.fnRetractedSpec.post enc Try.prog Try.f7 false true false false) := by
  refine returnsInHanded_of_change (C := Try.checked) own started (by kernel_rfl) Try.func7
    (ChangeSpec.witness6 (enc := enc) (C := Try.checked) false ⟨#[], #[.slice none 0 0], []⟩ 8 (by kernel_rfl) (by kernel_rfl) (by kernel_rfl) (by kernel_rfl)) ?_
  intro W base args ds gs before hval0 hW hcnd _
  have hval : ∀ (j : Nat) t v, Try.f7.params[j]? = some t → args[j]? = some v → Value.okWide Try.prog W .any base t v := hval0
  have hW' := hW
  obtain ⟨p, q, hA0, hV, rfl, hfz, hnd⟩ := hW
  have hA : DataW.TrodAll enc Try.prog W 0 (fun _ => true) true Try.f7.params.toList args.toList ds p := hA0
  rw [Try.params7] at hA hval
  obtain ⟨v0, vs0, d0, ds0, p0, q0, hargs, rfl, rfl, h0, r0⟩ := trodAll_cons hA
  obtain ⟨rfl, rfl, rfl⟩ := trodAll_nil r0
  obtain rfl : args = #[v0] := by cases args; simp_all
  obtain ⟨rfl, rfl⟩ := trodVars_none hV
  have lt0 : ∀ x ∈ p0, x.block < W.heap.size := by obtain ⟨m, hm⟩ := h0; exact DataW.trod_lt m _ _ _ hm
  obtain ⟨A0, n0, c0, b0, hv0, hs0⟩ := open_bytes Try.underlying48 Try.underlying5 (by kernel_rfl) (hval 0 48 v0 rfl rfl) h0
  subst hv0
  clear hA0 hval0
  refine (walk A0 n0 c0 b0 W hs0).mono fun e W' ⟨he, bel⟩ => ?_
  subst he
  exact ⟨_, rfl, _, _, _, [], _, [], hW', trodAll_mk1 (shut_bool Try.underlying4 _), (trodAll_cons_mk (Below.trod laidOut (by kernel_rfl) (of_decide_eq_true (by kernel_rfl)) h0 bel lt0) trodAll_mk0), rfl, bel.frame _, fun h => by cases h⟩
theorem over : Rows.fnRetractedRow.holds Try.pinned (OpenSpec.ofChange Rows.fnRetractedSpec) :=
  OpenClaim.holds_of_wide 7 Try.f7 rfl rfl rfl rfl rfl rfl rfl ⟨rfl, rfl, rfl, rfl, rfl⟩ rfl rfl rfl rfl rfl (by kernel_rfl) Try.func7 (by kernel_rfl)
    (of_decide_eq_true (by kernel_rfl)) (by unfold Func.isWrapper; first | (rw [if_pos (by decide +kernel)]; kernel_rfl) | (rw [if_neg (by decide +kernel)]; exact ⟨rfl, rfl⟩))
    (fun os started H enc _ => lifted os started H enc)
theorem proved : Rows.FnRetractedSaid := over
end Go.Proofs.Ytndhjijcicebkaa.fnRetracted
