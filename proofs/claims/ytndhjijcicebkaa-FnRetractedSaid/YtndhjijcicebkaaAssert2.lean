/- Assert of the program and of the reference: each answers what the plain function says, in memory of its own. No condition but lengths. -/
import Derived.Test.YtndhjijcicebkaaAssert
import Derived.Test.YtndhjijcicebkaaStoreX
namespace Go.Proofs.Ytndhjijcicebkaa
open Go.RowKit
set_option maxRecDepth 100000
set_option maxHeartbeats 4000000
def tupAs (A : Option Addr) (n c : Nat) (nx id : Int) (b : Bool) : Value := .tuple #[.agg #[.slice A n c, .int .i64 nx], .int .i64 id, .bool b]
theorem asrt_id {l : List It} {nx : Int} {f : Ft} {l' : List It} {nx' id : Int} (hr : Right l nx) (h : asrt l nx f = (l', nx', id)) : 0 ≤ id := by
  unfold asrt at h
  split at h
  · rename_i h1
    injection h with _ h
    injection h with _ h
    obtain ⟨x, hx, _, h2⟩ := idOf_some h1
    have := (hr.2.2.1 x hx).2.1
    omega
  · split at h
    · injection h with _ h
      injection h with _ h
      omega
    · injection h with _ h
      injection h with _ h
      have := hr.1.1
      omega
theorem ids_map {rs rs' : List IR} (h : rs'.map itOf = rs.map itOf) (hs : ∀ r ∈ rs, 1 ≤ (itOf r).id) : ∀ r ∈ rs', 1 ≤ r.id := fun r hr => by
  have h1 : itOf r ∈ rs.map itOf := by rw [← h]; exact List.mem_map_of_mem hr
  obtain ⟨q, hq, e⟩ := List.mem_map.1 h1
  have := hs q hq
  rw [e] at this
  exact this
theorem implAssert_any (A : Option Addr) (n c : Nat) (rs : List IR) (nx : Int) (kd : ByteArray) (A2 : Option Addr) (n2 c2 : Nat) (fs : List Vl) (w : World) (B B2 : Nat) (hr : RdI w B A n rs) (hr2 : RdS vC 3 w B2 A2 n2 fs) (hn : n ≤ 1048576) (hnc : n ≤ c) (hn2 : n2 ≤ 1048576) (hk : kd.size ≤ 9223372036854775807) (hv : ∀ x ∈ fs, x.s.size ≤ 9223372036854775807) (hs : ∀ r ∈ rs, r.fs.length ≤ 1048576) (hg : ∀ r ∈ rs, goodI r) (l' : List It) (nx' id : Int) (ok : Bool) (hres : assertF (rs.map itOf) nx ⟨kd, fs⟩ = (l', nx', id, ok)) :
    Calls Try.prog 13 #[.agg #[.slice A n c, .int .i64 nx], .agg #[.string kd, .slice A2 n2 c2]] w fun e w' => ∃ A' c' rs', e = .returned (tupAs A' rs'.length c' nx' id ok) ∧ rs'.length ≤ c' ∧ rs'.map itOf = l' ∧ OwnI w' w.heap.size (.slice A' rs'.length c') rs' ∧ Below w.heap.size w w' := by
  have HS := Lib.hid hs; have HG := Lib.hid hg; have HV := Lib.hid hv; clear hs hg hv
  have HRES := Lib.hid hres; clear hres
  obtain ⟨so, hso⟩ : ∃ so, storeOk ⟨rs.map itOf, nx⟩ = so := ⟨_, rfl⟩
  obtain ⟨fo, hfo⟩ : ∃ fo, factOk ⟨kd, fs⟩ = fo := ⟨_, rfl⟩
  have HSO := Lib.hid hso; have HFO := Lib.hid hfo; clear hso hfo
  have HZ := Blk.new ((w.alloc (.cells #[.slice A n c, .int .i64 nx] 32)).alloc (.cells #[.string kd, .slice A2 n2 c2] 38)) 32 #[.slice none 0 0, .int .i64 0]
  have es2 : ((w.alloc (.cells #[.slice A n c, .int .i64 nx] 32)).alloc (.cells #[.string kd, .slice A2 n2 c2] 38)).heap.size = w.heap.size + 2 := by simp
  rw [es2] at HZ
  clear es2
  go_enter Try.func13, Try.ntmps13
  go_wp2_with fail
  refine (copyStore_any A n c rs nx _ B (((hr.alloc _).alloc _).alloc _) hn HS.out).mono ?_
  rintro e w1 ⟨A1, c1, rs1, rfl, hc1, hm1, ho1, hb1⟩
  have x0 := old_cell hb1 (b := w.heap.size) (o := 0) (v := .slice A n c) (by go_simp)
  have x1 := old_cell hb1 (b := w.heap.size) (o := 1) (v := .int .i64 nx) (by go_simp)
  have x2 := old_cell hb1 (b := w.heap.size + 1) (o := 0) (v := .string kd) (by go_simp)
  have x3 := old_cell hb1 (b := w.heap.size + 1) (o := 1) (v := .slice A2 n2 c2) (by go_simp)
  replace HZ := HZ.kept hb1
  have g1 : Below w.heap.size w w1 := (by repeat (first | with_reducible exact bel_refl _ | with_reducible assumption | with_reducible refine bel_set ?_ (by first | (simp; done) | (simp; omega) | omega) _ | with_reducible refine bel_alloc ?_ _ | with_reducible refine bel_drew ?_ | with_reducible refine bel_drewN ?_ _ | with_reducible refine bel_trans ?_ (by assumption)))
  have hr1 : RdI w1 B A n rs := (((hr.alloc _).alloc _).alloc _).kept hb1
  have hr21 : RdS vC 3 w1 B2 A2 n2 fs := (((hr2.alloc _).alloc _).alloc _).kept hb1
  replace ho1 := ho1.lower (b2 := w.heap.size + 3) (by simp)
  have hzl := HZ.lt
  clear hb1 hr hr2
  obtain ⟨N, hN⟩ : ∃ N, rs1.length = N := ⟨_, rfl⟩
  have hN1 : N ≤ 1048576 := by
    have h1 := map_len hm1
    have h2 := hr1.len
    omega
  rw [hN] at hc1 ho1 ⊢
  have HL := Lib.hid hN; have HM := Lib.hid hm1
  clear hN hm1
  have gv : Below w1.heap.size w1 (w1.alloc (.cells #[.slice A1 N c1, .int .i64 nx] 32)) := bel_alloc (bel_refl w1) _
  have HB := Blk.new w1 32 #[.slice A1 N c1, .int .i64 nx]
  replace x0 := old_cell gv x0; replace x1 := old_cell gv x1; replace x2 := old_cell gv x2; replace x3 := old_cell gv x3
  replace HZ := HZ.kept gv; replace g1 := bel_trans g1 gv; replace hr1 := hr1.kept gv; replace hr21 := hr21.kept gv; replace ho1 := ho1.kept gv
  clear gv
  obtain ⟨y0, y1, fy0, fy1⟩ := HB.two
  go_wp2_with fail
  refine (implStoreOk_any A _ c rs nx _ B hr1 (by omega) hnc (fun r h => ⟨HG.out r h, Nat.le_trans (HS.out r h) (by decide)⟩)).mono ?_
  rw [HSO.out]
  rintro e w2 ⟨rfl, hb2⟩
  replace x0 := old_cell hb2 x0; replace x1 := old_cell hb2 x1; replace x2 := old_cell hb2 x2; replace x3 := old_cell hb2 x3
  replace HZ := HZ.kept hb2; replace HB := HB.kept hb2; replace g1 := bel_trans g1 hb2; replace hr1 := hr1.kept hb2; replace hr21 := hr21.kept hb2; replace ho1 := ho1.kept hb2
  clear hb2 y0 y1 fy0 fy1
  obtain ⟨y0, y1, fy0, fy1⟩ := HB.two
  have hbl := HB.lt
  cases so
  · have e0 : assertF (rs.map itOf) nx ⟨kd, fs⟩ = (rs.map itOf, nx, 0, false) := by unfold assertF; rw [HSO.out]; rfl
    rw [HRES.out] at e0
    injection e0 with e1 e0; injection e0 with e2 e0; injection e0 with e3 e4
    subst e1 e2 e3 e4
    obtain ⟨z0, z1, fz0, fz1⟩ := HZ.two
    clear HRES
    go_wp2
    refine bodyPost_ret (v := tupAs A1 N c1 nx' 0 false) (by simp [results, Try.results13, go_sem, tupAs, z0, z1]) rfl ⟨A1, c1, rs1, by rw [HL.out], by rw [HL.out]; exact hc1, HM.out, ?_, (by repeat (first | with_reducible exact bel_refl _ | with_reducible assumption | with_reducible refine bel_set ?_ (by first | (simp; done) | (simp; omega) | omega) _ | with_reducible refine bel_alloc ?_ _ | with_reducible refine bel_drew ?_ | with_reducible refine bel_drewN ?_ _ | with_reducible refine bel_trans ?_ (by assumption)))⟩
    rw [HL.out]
    exact ((ho1.low (by first | (simp; done) | (simp; omega)) _).low (by first | (simp; done) | (simp; omega)) _).lower (by omega)
  go_wp2_with fail
  refine (implFactOk_any kd A2 n2 c2 fs _ B2 hr21 (by omega) hk HV.out).mono ?_
  rw [HFO.out]
  rintro e w3 ⟨rfl, hb2⟩
  replace x0 := old_cell hb2 x0; replace x1 := old_cell hb2 x1; replace x2 := old_cell hb2 x2; replace x3 := old_cell hb2 x3
  replace HZ := HZ.kept hb2; replace HB := HB.kept hb2; replace g1 := bel_trans g1 hb2; replace hr1 := hr1.kept hb2; replace hr21 := hr21.kept hb2; replace ho1 := ho1.kept hb2
  clear hb2 y0 y1 fy0 fy1 hbl
  obtain ⟨y0, y1, fy0, fy1⟩ := HB.two
  have hbl := HB.lt
  cases fo
  · have e0 : assertF (rs.map itOf) nx ⟨kd, fs⟩ = (rs.map itOf, nx, 0, false) := by unfold assertF; rw [HSO.out, HFO.out]; rfl
    rw [HRES.out] at e0
    injection e0 with e1 e0; injection e0 with e2 e0; injection e0 with e3 e4
    subst e1 e2 e3 e4
    obtain ⟨z0, z1, fz0, fz1⟩ := HZ.two
    clear HRES
    go_wp2
    refine bodyPost_ret (v := tupAs A1 N c1 nx' 0 false) (by simp [results, Try.results13, go_sem, tupAs, z0, z1]) rfl ⟨A1, c1, rs1, by rw [HL.out], by rw [HL.out]; exact hc1, HM.out, ?_, (by repeat (first | with_reducible exact bel_refl _ | with_reducible assumption | with_reducible refine bel_set ?_ (by first | (simp; done) | (simp; omega) | omega) _ | with_reducible refine bel_alloc ?_ _ | with_reducible refine bel_drew ?_ | with_reducible refine bel_drewN ?_ _ | with_reducible refine bel_trans ?_ (by assumption)))⟩
    rw [HL.out]
    exact ((ho1.low (by first | (simp; done) | (simp; omega)) _).low (by first | (simp; done) | (simp; omega)) _).lower (by omega)
  have hR := storeOk_right HSO.out
  obtain ⟨hx1, hx2⟩ := hR.1
  obtain ⟨l2, nx2, id2, has⟩ : ∃ l2 nx2 id2, asrt (rs.map itOf) nx ⟨kd, fs⟩ = (l2, nx2, id2) := ⟨_, _, _, rfl⟩
  have hid0 := asrt_id hR has
  have e0 : assertF (rs.map itOf) nx ⟨kd, fs⟩ = (l2, nx2, id2, decide (id2 ≠ 0)) := by unfold assertF; rw [HSO.out, HFO.out, has, Bool.and_self, if_pos rfl]
  rw [HRES.out] at e0
  injection e0 with e1 e0; injection e0 with e2 e0; injection e0 with e3 e4
  subst e1 e2 e3 e4
  have HAS := Lib.hid has
  clear has HRES hR
  go_wp2_with fail
  refine (implAssertP_any w1.heap.size A1 N c1 rs1 nx kd A2 n2 c2 fs _ B2 (w.heap.size + 3) HB ho1 HL.out (by omega) hr21 hN1 hn2 (fs_map HM.out HS.out) ⟨hx1, hx2⟩ l' nx' id (by rw [HM.out]; exact HAS.out)).mono ?_
  rintro e w4 ⟨A4, c4, rs4, rfl, hc4, hm4, HB4, ho4, hb4⟩
  have HZ4 := blkB HZ hb4 (by omega)
  have g4 : Below w.heap.size w w4 := g1.trans (hb4.mono (by omega))
  have hs4 := hb4.size
  clear hb4 HB HZ ho1 g1 hr1 hr21 y0 y1 fy0 fy1 x0 x1 x2 x3 hbl
  obtain ⟨N4, hN4⟩ : ∃ N4, rs4.length = N4 := ⟨_, rfl⟩
  rw [hN4] at hc4 ho4 HB4
  have HL4 := Lib.hid hN4; have HM4 := Lib.hid hm4
  clear hN4 hm4
  obtain ⟨y0, y1, fy0, fy1⟩ := HB4.two
  obtain ⟨z0, z1, fz0, fz1⟩ := HZ4.two
  go_wp2
  refine bodyPost_ret (v := tupAs A4 N4 c4 nx' id (decide (id ≠ 0))) (by simp [results, Try.results13, go_sem, tupAs, z0, z1]) rfl ⟨A4, c4, rs4, (by rw [HL4.out] <;> first | rfl | simp [tupAs]), by rw [HL4.out]; exact hc4, HM4.out, ?_, (by repeat (first | with_reducible exact bel_refl _ | with_reducible assumption | with_reducible refine bel_set ?_ (by first | (simp; done) | (simp; omega) | omega) _ | with_reducible refine bel_alloc ?_ _ | with_reducible refine bel_drew ?_ | with_reducible refine bel_drewN ?_ _ | with_reducible refine bel_trans ?_ (by assumption)))⟩
  rw [HL4.out]
  exact ((ho4.low (by first | (simp; done) | (simp; omega)) _).low (by first | (simp; done) | (simp; omega)) _).lower (by omega)
theorem specAssert_any (A : Option Addr) (n c : Nat) (rs : List IR) (nx : Int) (kd : ByteArray) (A2 : Option Addr) (n2 c2 : Nat) (fs : List Vl) (w : World) (B B2 : Nat) (hr : RdI w B A n rs) (hr2 : RdS vC 3 w B2 A2 n2 fs) (hn : n ≤ 1048576) (hn2 : n2 ≤ 1048576) (hk : kd.size ≤ 9223372036854775807) (hv : ∀ x ∈ fs, x.s.size ≤ 9223372036854775807) (hs : ∀ r ∈ rs, r.fs.length ≤ 1048576) (hg : ∀ r ∈ rs, goodI r) (l' : List It) (nx' id : Int) (ok : Bool) (hres : assertF (rs.map itOf) nx ⟨kd, fs⟩ = (l', nx', id, ok)) :
    Calls Try.prog 10 #[.agg #[.slice A n c, .int .i64 nx], .agg #[.string kd, .slice A2 n2 c2]] w fun e w' => ∃ A' c' rs', e = .returned (tupAs A' rs'.length c' nx' id ok) ∧ rs'.length ≤ c' ∧ rs'.map itOf = l' ∧ OwnI w' w.heap.size (.slice A' rs'.length c') rs' ∧ Below w.heap.size w w' := by
  have HS := Lib.hid hs; have HG := Lib.hid hg; have HV := Lib.hid hv; clear hs hg hv
  have HRES := Lib.hid hres; clear hres
  obtain ⟨so, hso⟩ : ∃ so, storeOk ⟨rs.map itOf, nx⟩ = so := ⟨_, rfl⟩
  obtain ⟨fo, hfo⟩ : ∃ fo, factOk ⟨kd, fs⟩ = fo := ⟨_, rfl⟩
  have HSO := Lib.hid hso; have HFO := Lib.hid hfo; clear hso hfo
  have HZ := Blk.new ((w.alloc (.cells #[.slice A n c, .int .i64 nx] 32)).alloc (.cells #[.string kd, .slice A2 n2 c2] 38)) 32 #[.slice none 0 0, .int .i64 0]
  have es2 : ((w.alloc (.cells #[.slice A n c, .int .i64 nx] 32)).alloc (.cells #[.string kd, .slice A2 n2 c2] 38)).heap.size = w.heap.size + 2 := by simp
  rw [es2] at HZ
  clear es2
  go_enter Try.func10, Try.ntmps10
  go_wp2_with fail
  refine (l4Copy_any A n c rs nx _ B (((hr.alloc _).alloc _).alloc _) hn HS.out).mono ?_
  rintro e w1 ⟨A1, c1, rs1, rfl, hc1, hm1, ho1, hb1⟩
  have x0 := old_cell hb1 (b := w.heap.size) (o := 0) (v := .slice A n c) (by go_simp)
  have x1 := old_cell hb1 (b := w.heap.size) (o := 1) (v := .int .i64 nx) (by go_simp)
  have x2 := old_cell hb1 (b := w.heap.size + 1) (o := 0) (v := .string kd) (by go_simp)
  have x3 := old_cell hb1 (b := w.heap.size + 1) (o := 1) (v := .slice A2 n2 c2) (by go_simp)
  replace HZ := HZ.kept hb1
  have g1 : Below w.heap.size w w1 := (by repeat (first | with_reducible exact bel_refl _ | with_reducible assumption | with_reducible refine bel_set ?_ (by first | (simp; done) | (simp; omega) | omega) _ | with_reducible refine bel_alloc ?_ _ | with_reducible refine bel_drew ?_ | with_reducible refine bel_drewN ?_ _ | with_reducible refine bel_trans ?_ (by assumption)))
  have hr1 : RdI w1 B A n rs := (((hr.alloc _).alloc _).alloc _).kept hb1
  have hr21 : RdS vC 3 w1 B2 A2 n2 fs := (((hr2.alloc _).alloc _).alloc _).kept hb1
  replace ho1 := ho1.lower (b2 := w.heap.size + 3) (by simp)
  have hzl := HZ.lt
  clear hb1 hr hr2
  obtain ⟨N, hN⟩ : ∃ N, rs1.length = N := ⟨_, rfl⟩
  have hN1 : N ≤ 1048576 := by
    have h1 := map_len hm1
    have h2 := hr1.len
    omega
  rw [hN] at hc1 ho1 ⊢
  have HL := Lib.hid hN; have HM := Lib.hid hm1
  clear hN hm1
  have gv : Below w1.heap.size w1 (w1.alloc (.cells #[.slice A1 N c1, .int .i64 nx] 32)) := bel_alloc (bel_refl w1) _
  have HB := Blk.new w1 32 #[.slice A1 N c1, .int .i64 nx]
  replace x0 := old_cell gv x0; replace x1 := old_cell gv x1; replace x2 := old_cell gv x2; replace x3 := old_cell gv x3
  replace HZ := HZ.kept gv; replace g1 := bel_trans g1 gv; replace hr1 := hr1.kept gv; replace hr21 := hr21.kept gv; replace ho1 := ho1.kept gv
  clear gv
  obtain ⟨y0, y1, fy0, fy1⟩ := HB.two
  go_wp2_with fail
  refine (specStoreOk_any A _ c rs nx _ B hr1 (by omega) (fun r h => ⟨HG.out r h, Nat.le_trans (HS.out r h) (by decide)⟩)).mono ?_
  rw [HSO.out]
  rintro e w2 ⟨rfl, hb2⟩
  replace x0 := old_cell hb2 x0; replace x1 := old_cell hb2 x1; replace x2 := old_cell hb2 x2; replace x3 := old_cell hb2 x3
  replace HZ := HZ.kept hb2; replace HB := HB.kept hb2; replace g1 := bel_trans g1 hb2; replace hr1 := hr1.kept hb2; replace hr21 := hr21.kept hb2; replace ho1 := ho1.kept hb2
  clear hb2 y0 y1 fy0 fy1
  obtain ⟨y0, y1, fy0, fy1⟩ := HB.two
  have hbl := HB.lt
  cases so
  · have e0 : assertF (rs.map itOf) nx ⟨kd, fs⟩ = (rs.map itOf, nx, 0, false) := by unfold assertF; rw [HSO.out]; rfl
    rw [HRES.out] at e0
    injection e0 with e1 e0; injection e0 with e2 e0; injection e0 with e3 e4
    subst e1 e2 e3 e4
    obtain ⟨z0, z1, fz0, fz1⟩ := HZ.two
    clear HRES
    go_wp2
    refine bodyPost_ret (v := tupAs A1 N c1 nx' 0 false) (by simp [results, Try.results10, go_sem, tupAs, z0, z1]) rfl ⟨A1, c1, rs1, by rw [HL.out], by rw [HL.out]; exact hc1, HM.out, ?_, (by repeat (first | with_reducible exact bel_refl _ | with_reducible assumption | with_reducible refine bel_set ?_ (by first | (simp; done) | (simp; omega) | omega) _ | with_reducible refine bel_alloc ?_ _ | with_reducible refine bel_drew ?_ | with_reducible refine bel_drewN ?_ _ | with_reducible refine bel_trans ?_ (by assumption)))⟩
    rw [HL.out]
    exact ((ho1.low (by first | (simp; done) | (simp; omega)) _).low (by first | (simp; done) | (simp; omega)) _).lower (by omega)
  go_wp2_with fail
  refine (specFactOk_any kd A2 n2 c2 fs _ B2 hr21 (by omega) hk HV.out).mono ?_
  rw [HFO.out]
  rintro e w3 ⟨rfl, hb2⟩
  replace x0 := old_cell hb2 x0; replace x1 := old_cell hb2 x1; replace x2 := old_cell hb2 x2; replace x3 := old_cell hb2 x3
  replace HZ := HZ.kept hb2; replace HB := HB.kept hb2; replace g1 := bel_trans g1 hb2; replace hr1 := hr1.kept hb2; replace hr21 := hr21.kept hb2; replace ho1 := ho1.kept hb2
  clear hb2 y0 y1 fy0 fy1 hbl
  obtain ⟨y0, y1, fy0, fy1⟩ := HB.two
  have hbl := HB.lt
  cases fo
  · have e0 : assertF (rs.map itOf) nx ⟨kd, fs⟩ = (rs.map itOf, nx, 0, false) := by unfold assertF; rw [HSO.out, HFO.out]; rfl
    rw [HRES.out] at e0
    injection e0 with e1 e0; injection e0 with e2 e0; injection e0 with e3 e4
    subst e1 e2 e3 e4
    obtain ⟨z0, z1, fz0, fz1⟩ := HZ.two
    clear HRES
    go_wp2
    refine bodyPost_ret (v := tupAs A1 N c1 nx' 0 false) (by simp [results, Try.results10, go_sem, tupAs, z0, z1]) rfl ⟨A1, c1, rs1, by rw [HL.out], by rw [HL.out]; exact hc1, HM.out, ?_, (by repeat (first | with_reducible exact bel_refl _ | with_reducible assumption | with_reducible refine bel_set ?_ (by first | (simp; done) | (simp; omega) | omega) _ | with_reducible refine bel_alloc ?_ _ | with_reducible refine bel_drew ?_ | with_reducible refine bel_drewN ?_ _ | with_reducible refine bel_trans ?_ (by assumption)))⟩
    rw [HL.out]
    exact ((ho1.low (by first | (simp; done) | (simp; omega)) _).low (by first | (simp; done) | (simp; omega)) _).lower (by omega)
  have hR := storeOk_right HSO.out
  obtain ⟨hx1, hx2⟩ := hR.1
  obtain ⟨l2, nx2, id2, has⟩ : ∃ l2 nx2 id2, asrt (rs.map itOf) nx ⟨kd, fs⟩ = (l2, nx2, id2) := ⟨_, _, _, rfl⟩
  have hid0 := asrt_id hR has
  have e0 : assertF (rs.map itOf) nx ⟨kd, fs⟩ = (l2, nx2, id2, decide (id2 ≠ 0)) := by unfold assertF; rw [HSO.out, HFO.out, has, Bool.and_self, if_pos rfl]
  rw [HRES.out] at e0
  injection e0 with e1 e0; injection e0 with e2 e0; injection e0 with e3 e4
  subst e1 e2 e3 e4
  have HAS := Lib.hid has
  have HID := Lib.hid (fun r (hr : r ∈ rs) => (hR.2.2.1 _ (List.mem_map_of_mem hr)).2.1)
  clear has HRES hR
  go_wp2_with fail
  refine (l4Assert_any w1.heap.size A1 N c1 rs1 nx kd A2 n2 c2 fs _ B2 (w.heap.size + 3) HB ho1 HL.out (by omega) hr21 hN1 hn2 (fs_map HM.out HS.out) ⟨hx1, hx2⟩ (ids_map HM.out HID.out) l' nx' id (by rw [HM.out]; exact HAS.out)).mono ?_
  rintro e w4 ⟨A4, c4, rs4, rfl, hc4, hm4, HB4, ho4, hb4⟩
  have HZ4 := blkB HZ hb4 (by omega)
  have g4 : Below w.heap.size w w4 := g1.trans (hb4.mono (by omega))
  have hs4 := hb4.size
  clear hb4 HB HZ ho1 g1 hr1 hr21 y0 y1 fy0 fy1 x0 x1 x2 x3 hbl
  obtain ⟨N4, hN4⟩ : ∃ N4, rs4.length = N4 := ⟨_, rfl⟩
  rw [hN4] at hc4 ho4 HB4
  have HL4 := Lib.hid hN4; have HM4 := Lib.hid hm4
  clear hN4 hm4
  obtain ⟨y0, y1, fy0, fy1⟩ := HB4.two
  obtain ⟨z0, z1, fz0, fz1⟩ := HZ4.two
  rcases Int.lt_or_le 0 id with hpos | hpos
  · have hne : id ≠ 0 := by omega
    go_wp2
    refine bodyPost_ret (v := tupAs A4 N4 c4 nx' id (decide (id ≠ 0))) (by simp [results, Try.results10, go_sem, tupAs, z0, z1]; omega) rfl ⟨A4, c4, rs4, (by rw [HL4.out] <;> first | rfl | simp [tupAs]), by rw [HL4.out]; exact hc4, HM4.out, ?_, (by repeat (first | with_reducible exact bel_refl _ | with_reducible assumption | with_reducible refine bel_set ?_ (by first | (simp; done) | (simp; omega) | omega) _ | with_reducible refine bel_alloc ?_ _ | with_reducible refine bel_drew ?_ | with_reducible refine bel_drewN ?_ _ | with_reducible refine bel_trans ?_ (by assumption)))⟩
    rw [HL4.out]
    exact ((ho4.low (by first | (simp; done) | (simp; omega)) _).low (by first | (simp; done) | (simp; omega)) _).lower (by omega)
  · obtain rfl : id = 0 := by omega
    go_wp2
    refine bodyPost_ret (v := tupAs A4 N4 c4 nx' 0 (decide (0 ≠ 0))) (by simp [results, Try.results10, go_sem, tupAs, z0, z1]) rfl ⟨A4, c4, rs4, (by rw [HL4.out] <;> first | rfl | simp [tupAs]), by rw [HL4.out]; exact hc4, HM4.out, ?_, (by repeat (first | with_reducible exact bel_refl _ | with_reducible assumption | with_reducible refine bel_set ?_ (by first | (simp; done) | (simp; omega) | omega) _ | with_reducible refine bel_alloc ?_ _ | with_reducible refine bel_drew ?_ | with_reducible refine bel_drewN ?_ _ | with_reducible refine bel_trans ?_ (by assumption)))⟩
    rw [HL4.out]
    exact ((ho4.low (by first | (simp; done) | (simp; omega)) _).low (by first | (simp; done) | (simp; omega)) _).lower (by omega)
end Go.Proofs.Ytndhjijcicebkaa
