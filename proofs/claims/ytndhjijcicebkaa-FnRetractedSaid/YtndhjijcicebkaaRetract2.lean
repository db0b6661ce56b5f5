/- Retract of the program and of the reference: each answers what the plain function says, in memory of its own. No condition but lengths. -/
import Derived.Test.YtndhjijcicebkaaRetract
namespace Go.Proofs.Ytndhjijcicebkaa
open Go.RowKit
set_option maxRecDepth 100000
set_option maxHeartbeats 4000000
def tupRt (A : Option Addr) (n c : Nat) (nx : Int) (b : Bool) : Value := .tuple #[.agg #[.slice A n c, .int .i64 nx], .bool b]
theorem rdI_bel {w w' : World} {B n b2 : Nat} {A : Option Addr} {rs : List IR} (h : RdI w B A n rs) (hb : Below b2 w w') (hB : B ≤ b2) : RdI w' B A n rs := h.belowB (hb.mono hB)
theorem implRetract_any (A : Option Addr) (n c : Nat) (rs : List IR) (nx id : Int) (w : World) (B : Nat) (hr : RdI w B A n rs) (hn : n ≤ 1048576) (hnc : n ≤ c) (hs : ∀ r ∈ rs, r.fs.length ≤ 1048576) (hg : ∀ r ∈ rs, goodI r) (l' : List It) (ok : Bool) (hres : retractF (rs.map itOf) nx id = (l', ok)) :
    Calls Try.prog 20 #[.agg #[.slice A n c, .int .i64 nx], .int .i64 id] w fun e w' => ∃ A' c' rs', e = .returned (tupRt A' rs'.length c' nx ok) ∧ rs'.length ≤ c' ∧ rs'.map itOf = l' ∧ OwnI w' w.heap.size (.slice A' rs'.length c') rs' ∧ Below w.heap.size w w' := by
  have HS := Lib.hid hs; have HG := Lib.hid hg; clear hs hg
  have HRES := Lib.hid hres; clear hres
  obtain ⟨so, hso⟩ : ∃ so, storeOk ⟨rs.map itOf, nx⟩ = so := ⟨_, rfl⟩
  have HSO := Lib.hid hso; clear hso
  have HZ := Blk.new (w.alloc (.cells #[.slice A n c, .int .i64 nx] 32)) 32 #[.slice none 0 0, .int .i64 0]
  have es2 : (w.alloc (.cells #[.slice A n c, .int .i64 nx] 32)).heap.size = w.heap.size + 1 := by simp
  rw [es2] at HZ
  clear es2
  go_enter Try.func20, Try.ntmps20
  go_wp2_with fail
  refine (copyStore_any A n c rs nx _ B ((hr.alloc _).alloc _) hn HS.out).mono ?_
  rintro e w1 ⟨A1, c1, rs1, rfl, hc1, hm1, ho1, hb1⟩
  have x0 := old_cell hb1 (b := w.heap.size) (o := 0) (v := .slice A n c) (by go_simp)
  have x1 := old_cell hb1 (b := w.heap.size) (o := 1) (v := .int .i64 nx) (by go_simp)
  replace HZ := HZ.kept hb1
  have g1 : Below w.heap.size w w1 := (by repeat (first | with_reducible exact bel_refl _ | with_reducible assumption | with_reducible refine bel_set ?_ (by first | (simp; done) | (simp; omega) | omega) _ | with_reducible refine bel_alloc ?_ _ | with_reducible refine bel_drew ?_ | with_reducible refine bel_drewN ?_ _ | with_reducible refine bel_trans ?_ (by assumption)))
  have hr1 : RdI w1 B A n rs := ((hr.alloc _).alloc _).kept hb1
  replace ho1 := ho1.lower (b2 := w.heap.size + 2) (by simp)
  have hzl := HZ.lt
  clear hb1 hr
  obtain ⟨N, hN⟩ : ∃ N, rs1.length = N := ⟨_, rfl⟩
  have hNn : N = n := by
    have h1 := map_len hm1
    have h2 := hr1.len
    omega
  rw [hN] at hc1 ho1 ⊢
  have HL := Lib.hid hN; have HM := Lib.hid hm1; have HNN := Lib.hid hNn
  have hN1 : N ≤ 1048576 := by omega
  clear hN hm1 hNn
  have gv : Below w1.heap.size w1 (w1.alloc (.cells #[.slice A1 N c1, .int .i64 nx] 32)) := bel_alloc (bel_refl w1) _
  have HB := Blk.new w1 32 #[.slice A1 N c1, .int .i64 nx]
  replace x0 := old_cell gv x0; replace x1 := old_cell gv x1
  replace HZ := HZ.kept gv; replace g1 := bel_trans g1 gv; replace hr1 := hr1.kept gv; replace ho1 := ho1.kept gv
  clear gv
  obtain ⟨y0, y1, fy0, fy1⟩ := HB.two
  go_wp2_with fail
  refine (implStoreOk_any A _ c rs nx _ B hr1 (by omega) hnc (fun r h => ⟨HG.out r h, Nat.le_trans (HS.out r h) (by decide)⟩)).mono ?_
  rw [HSO.out]
  rintro e w2 ⟨rfl, hb2⟩
  replace x0 := old_cell hb2 x0; replace x1 := old_cell hb2 x1
  replace HZ := HZ.kept hb2; replace HB := HB.kept hb2; replace g1 := bel_trans g1 hb2; replace hr1 := hr1.kept hb2; replace ho1 := ho1.kept hb2
  clear hb2 y0 y1 fy0 fy1
  obtain ⟨y0, y1, fy0, fy1⟩ := HB.two
  have hbl := HB.lt
  cases so
  · have e0 : retractF (rs.map itOf) nx id = (rs.map itOf, false) := by unfold retractF; rw [HSO.out]; rfl
    rw [HRES.out] at e0
    injection e0 with e1 e2
    subst e1 e2
    clear HRES
    obtain ⟨z0, z1, fz0, fz1⟩ := HZ.two
    go_wp2
    refine bodyPost_ret (v := tupRt A1 N c1 nx false) (by simp [results, Try.results20, go_sem, tupRt, z0, z1]) rfl ⟨A1, c1, rs1, by rw [HL.out], by rw [HL.out]; exact hc1, HM.out, ?_, (by repeat (first | with_reducible exact bel_refl _ | with_reducible assumption | with_reducible refine bel_set ?_ (by first | (simp; done) | (simp; omega) | omega) _ | with_reducible refine bel_alloc ?_ _ | with_reducible refine bel_drew ?_ | with_reducible refine bel_drewN ?_ _ | with_reducible refine bel_trans ?_ (by assumption)))⟩
    rw [HL.out]
    exact ((ho1.low (by first | (simp; done) | (simp; omega)) _).low (by first | (simp; done) | (simp; omega)) _).lower (by omega)
  have hR := storeOk_right HSO.out
  have hDR := Lib.hid (show retractF (rs.map itOf) nx id = if decide ((dropI (rs.map itOf) id).length < (rs.map itOf).length) = true then (dropI (rs.map itOf) id, true) else (rs.map itOf, false) by unfold retractF; rw [HSO.out, Bool.true_and])
  obtain ⟨db, hdb⟩ : ∃ db, decide ((dropI (rs.map itOf) id).length < N) = db := ⟨_, rfl⟩
  have hdn : decide ((dropI (rs.map itOf) id).length < (rs.map itOf).length) = db := by rw [List.length_map, hr1.len, ← HNN.out, hdb]
  have hdz : db = false → dropI (rs.map itOf) id = rs.map itOf := fun h => by
    rw [h, decide_eq_false_iff_not] at hdn
    have hsub : (dropI (rs.map itOf) id).Sublist (rs.map itOf) := List.filter_sublist
    exact hsub.eq_of_length_le (by omega)
  have HDB := Lib.hid hdb; have HDN := Lib.hid hdn; have HDZ := Lib.hid hdz
  have HPW := Lib.hid hR.2.2.2.1
  clear hdb hdn hdz hR
  go_wp2_with fail
  refine (implRetractP_any w1.heap.size A1 N c1 rs1 nx id _ (w.heap.size + 2) HB ho1 HL.out (by omega) hN1 (by rw [HM.out]; exact HPW.out)).mono ?_
  rw [HM.out, HDB.out]
  rintro e w4 ⟨A4, c4, rs4, rfl, hc4, hm4, HB4, ho4, hb4⟩
  replace x0 := (hb4.cell (p := ⟨w.heap.size, 0, none⟩) (by simp)).trans x0
  replace x1 := (hb4.cell (p := ⟨w.heap.size, 1, none⟩) (by simp)).trans x1
  replace HZ := blkB HZ hb4 (by omega)
  replace g1 := g1.trans (hb4.mono (by omega))
  have hs4 := hb4.size
  clear hb4 HB ho1 y0 y1 fy0 fy1
  obtain ⟨N4, hN4⟩ : ∃ N4, rs4.length = N4 := ⟨_, rfl⟩
  rw [hN4] at hc4 ho4 HB4
  have HL4 := Lib.hid hN4; have HM4 := Lib.hid hm4
  clear hN4 hm4
  obtain ⟨y0, y1, fy0, fy1⟩ := HB4.two
  cases db
  · have e0 : retractF (rs.map itOf) nx id = (rs.map itOf, false) := by rw [hDR.out, HDN.out]; rfl
    rw [HRES.out] at e0
    injection e0 with e1 e2
    subst e1 e2
    have HDD := Lib.hid (HDZ.out rfl)
    clear HRES HDZ
    obtain ⟨z0, z1, fz0, fz1⟩ := HZ.two
    go_wp2
    refine bodyPost_ret (v := tupRt A4 N4 c4 nx false) (by simp [results, Try.results20, go_sem, tupRt, z0, z1]) rfl ⟨A4, c4, rs4, by rw [HL4.out], by rw [HL4.out]; exact hc4, (HM4.out.trans HDD.out), ?_, (by repeat (first | with_reducible exact bel_refl _ | with_reducible assumption | with_reducible refine bel_set ?_ (by first | (simp; done) | (simp; omega) | omega) _ | with_reducible refine bel_alloc ?_ _ | with_reducible refine bel_drew ?_ | with_reducible refine bel_drewN ?_ _ | with_reducible refine bel_trans ?_ (by assumption)))⟩
    rw [HL4.out]
    exact ((ho4.low (by first | (simp; done) | (simp; omega)) _).low (by first | (simp; done) | (simp; omega)) _).lower (by omega)
  · have e0 : retractF (rs.map itOf) nx id = (dropI (rs.map itOf) id, true) := by rw [hDR.out, HDN.out]; rfl
    rw [HRES.out] at e0
    injection e0 with e1 e2
    subst e1 e2
    clear HRES
    obtain ⟨z0, z1, fz0, fz1⟩ := HZ.two
    go_wp2
    refine bodyPost_ret (v := tupRt A4 N4 c4 nx true) (by simp [results, Try.results20, go_sem, tupRt, z0, z1]) rfl ⟨A4, c4, rs4, by rw [HL4.out], by rw [HL4.out]; exact hc4, HM4.out, ?_, (by repeat (first | with_reducible exact bel_refl _ | with_reducible assumption | with_reducible refine bel_set ?_ (by first | (simp; done) | (simp; omega) | omega) _ | with_reducible refine bel_alloc ?_ _ | with_reducible refine bel_drew ?_ | with_reducible refine bel_drewN ?_ _ | with_reducible refine bel_trans ?_ (by assumption)))⟩
    rw [HL4.out]
    exact ((ho4.low (by first | (simp; done) | (simp; omega)) _).low (by first | (simp; done) | (simp; omega)) _).lower (by omega)
theorem specRetract_any (A : Option Addr) (n c : Nat) (rs : List IR) (nx id : Int) (w : World) (B : Nat) (hr : RdI w B A n rs) (hn : n ≤ 1048576) (hs : ∀ r ∈ rs, r.fs.length ≤ 1048576) (hg : ∀ r ∈ rs, goodI r) (l' : List It) (ok : Bool) (hres : retractF (rs.map itOf) nx id = (l', ok)) :
    Calls Try.prog 19 #[.agg #[.slice A n c, .int .i64 nx], .int .i64 id] w fun e w' => ∃ A' c' rs', e = .returned (tupRt A' rs'.length c' nx ok) ∧ rs'.length ≤ c' ∧ rs'.map itOf = l' ∧ OwnI w' w.heap.size (.slice A' rs'.length c') rs' ∧ Below w.heap.size w w' := by
  have HS := Lib.hid hs; have HG := Lib.hid hg; clear hs hg
  have HRES := Lib.hid hres; clear hres
  have hBw : B ≤ w.heap.size := hr.1.1
  obtain ⟨so, hso⟩ : ∃ so, storeOk ⟨rs.map itOf, nx⟩ = so := ⟨_, rfl⟩
  have HSO := Lib.hid hso; clear hso
  have HZ := Blk.new (w.alloc (.cells #[.slice A n c, .int .i64 nx] 32)) 32 #[.slice none 0 0, .int .i64 0]
  have es2 : (w.alloc (.cells #[.slice A n c, .int .i64 nx] 32)).heap.size = w.heap.size + 1 := by simp
  rw [es2] at HZ
  clear es2
  go_enter Try.func19, Try.ntmps19
  go_wp2_with fail
  refine (l4Copy_any A n c rs nx _ B ((hr.alloc _).alloc _) hn HS.out).mono ?_
  rintro e w1 ⟨A1, c1, rs1, rfl, hc1, hm1, ho1, hb1⟩
  have x0 := old_cell hb1 (b := w.heap.size) (o := 0) (v := .slice A n c) (by go_simp)
  have x1 := old_cell hb1 (b := w.heap.size) (o := 1) (v := .int .i64 nx) (by go_simp)
  replace HZ := HZ.kept hb1
  have g1 : Below w.heap.size w w1 := (by repeat (first | with_reducible exact bel_refl _ | with_reducible assumption | with_reducible refine bel_set ?_ (by first | (simp; done) | (simp; omega) | omega) _ | with_reducible refine bel_alloc ?_ _ | with_reducible refine bel_drew ?_ | with_reducible refine bel_drewN ?_ _ | with_reducible refine bel_trans ?_ (by assumption)))
  have hr1 : RdI w1 B A n rs := ((hr.alloc _).alloc _).kept hb1
  replace ho1 := ho1.lower (b2 := w.heap.size + 2) (by simp)
  have hzl := HZ.lt
  clear hb1 hr
  obtain ⟨N, hN⟩ : ∃ N, rs1.length = N := ⟨_, rfl⟩
  have hNn : N = n := by
    have h1 := map_len hm1
    have h2 := hr1.len
    omega
  rw [hN] at hc1 ho1 ⊢
  have HL := Lib.hid hN; have HM := Lib.hid hm1; have HNN := Lib.hid hNn
  have hN1 : N ≤ 1048576 := by omega
  clear hN hm1 hNn
  have gv : Below w1.heap.size w1 (w1.alloc (.cells #[.slice A1 N c1, .int .i64 nx] 32)) := bel_alloc (bel_refl w1) _
  have HB := Blk.new w1 32 #[.slice A1 N c1, .int .i64 nx]
  replace x0 := old_cell gv x0; replace x1 := old_cell gv x1
  replace HZ := HZ.kept gv; replace g1 := bel_trans g1 gv; replace hr1 := hr1.kept gv; replace ho1 := ho1.kept gv
  clear gv
  obtain ⟨y0, y1, fy0, fy1⟩ := HB.two
  go_wp2_with fail
  refine (specStoreOk_any A _ c rs nx _ B hr1 (by omega) (fun r h => ⟨HG.out r h, Nat.le_trans (HS.out r h) (by decide)⟩)).mono ?_
  rw [HSO.out]
  rintro e w2 ⟨rfl, hb2⟩
  replace x0 := old_cell hb2 x0; replace x1 := old_cell hb2 x1
  replace HZ := HZ.kept hb2; replace HB := HB.kept hb2; replace g1 := bel_trans g1 hb2; replace hr1 := hr1.kept hb2; replace ho1 := ho1.kept hb2
  clear hb2 y0 y1 fy0 fy1
  obtain ⟨y0, y1, fy0, fy1⟩ := HB.two
  have hbl := HB.lt
  cases so
  · have e0 : retractF (rs.map itOf) nx id = (rs.map itOf, false) := by unfold retractF; rw [HSO.out]; rfl
    rw [HRES.out] at e0
    injection e0 with e1 e2
    subst e1 e2
    clear HRES
    go_wp2_with fail
    refine (l4Copy_any A n c rs nx _ B hr1 hn HS.out).mono ?_
    rintro e w5 ⟨A5, c5, rs5, rfl, hc5, hm5, ho5, hb5⟩
    have hs5 := hb5.size
    replace HZ := HZ.kept hb5; replace g1 := bel_trans g1 hb5
    replace ho5 := ho5.lower (b2 := w.heap.size + 2) (by omega)
    obtain ⟨N5, hN5⟩ : ∃ N5, rs5.length = N5 := ⟨_, rfl⟩
    rw [hN5] at hc5 ho5 ⊢
    have HL5 := Lib.hid hN5; have HM5 := Lib.hid hm5
    clear hN5 hm5 hb5
    obtain ⟨z0, z1, fz0, fz1⟩ := HZ.two
    go_wp2
    refine bodyPost_ret (v := tupRt A5 N5 c5 nx false) (by simp [results, Try.results19, go_sem, tupRt, z0, z1]) rfl ⟨A5, c5, rs5, by rw [HL5.out], by rw [HL5.out]; exact hc5, HM5.out, ?_, (by repeat (first | with_reducible exact bel_refl _ | with_reducible assumption | with_reducible refine bel_set ?_ (by first | (simp; done) | (simp; omega) | omega) _ | with_reducible refine bel_alloc ?_ _ | with_reducible refine bel_drew ?_ | with_reducible refine bel_drewN ?_ _ | with_reducible refine bel_trans ?_ (by assumption)))⟩
    rw [HL5.out]
    exact ((ho5.low (by first | (simp; done) | (simp; omega)) _).low (by first | (simp; done) | (simp; omega)) _).lower (by omega)
  have hR := storeOk_right HSO.out
  have hDR := Lib.hid (show retractF (rs.map itOf) nx id = if decide ((dropI (rs.map itOf) id).length < (rs.map itOf).length) = true then (dropI (rs.map itOf) id, true) else (rs.map itOf, false) by unfold retractF; rw [HSO.out, Bool.true_and])
  obtain ⟨db, hdb⟩ : ∃ db, decide ((dropI (rs.map itOf) id).length < N) = db := ⟨_, rfl⟩
  have hdn : decide ((dropI (rs.map itOf) id).length < (rs.map itOf).length) = db := by rw [List.length_map, hr1.len, ← HNN.out, hdb]
  have hdz : db = false → dropI (rs.map itOf) id = rs.map itOf := fun h => by
    rw [h, decide_eq_false_iff_not] at hdn
    have hsub : (dropI (rs.map itOf) id).Sublist (rs.map itOf) := List.filter_sublist
    exact hsub.eq_of_length_le (by omega)
  have HDB := Lib.hid hdb; have HDN := Lib.hid hdn; have HDZ := Lib.hid hdz
  have HPW := Lib.hid hR.2.2.2.1
  clear hdb hdn hdz hR
  go_wp2_with fail
  refine (l4Drop_any w1.heap.size A1 N c1 rs1 nx id _ (w.heap.size + 2) HB ho1 HL.out (by omega) hN1).mono ?_
  rw [HM.out, HDB.out]
  rintro e w4 ⟨A4, c4, rs4, rfl, hc4, hm4, HB4, ho4, hb4⟩
  replace x0 := (hb4.cell (p := ⟨w.heap.size, 0, none⟩) (by simp)).trans x0
  replace x1 := (hb4.cell (p := ⟨w.heap.size, 1, none⟩) (by simp)).trans x1
  replace HZ := blkB HZ hb4 (by omega)
  replace g1 := g1.trans (hb4.mono (by omega))
  have hs4 := hb4.size
  replace hr1 : RdI w4 B A n rs := rdI_bel hr1 hb4 (by omega)
  clear hb4 HB ho1 y0 y1 fy0 fy1
  obtain ⟨N4, hN4⟩ : ∃ N4, rs4.length = N4 := ⟨_, rfl⟩
  rw [hN4] at hc4 ho4 HB4
  have HL4 := Lib.hid hN4; have HM4 := Lib.hid hm4
  clear hN4 hm4
  obtain ⟨y0, y1, fy0, fy1⟩ := HB4.two
  cases db
  · have e0 : retractF (rs.map itOf) nx id = (rs.map itOf, false) := by rw [hDR.out, HDN.out]; rfl
    rw [HRES.out] at e0
    injection e0 with e1 e2
    subst e1 e2
    have HDD := Lib.hid (HDZ.out rfl)
    clear HRES HDZ
    go_wp2_with fail
    refine (l4Copy_any A n c rs nx _ B hr1 hn HS.out).mono ?_
    rintro e w5 ⟨A5, c5, rs5, rfl, hc5, hm5, ho5, hb5⟩
    have hs5 := hb5.size
    replace HZ := HZ.kept hb5; replace g1 := bel_trans g1 hb5
    replace ho5 := ho5.lower (b2 := w.heap.size + 2) (by omega)
    obtain ⟨N5, hN5⟩ : ∃ N5, rs5.length = N5 := ⟨_, rfl⟩
    rw [hN5] at hc5 ho5 ⊢
    have HL5 := Lib.hid hN5; have HM5 := Lib.hid hm5
    clear hN5 hm5 hb5
    obtain ⟨z0, z1, fz0, fz1⟩ := HZ.two
    go_wp2
    refine bodyPost_ret (v := tupRt A5 N5 c5 nx false) (by simp [results, Try.results19, go_sem, tupRt, z0, z1]) rfl ⟨A5, c5, rs5, by rw [HL5.out], by rw [HL5.out]; exact hc5, HM5.out, ?_, (by repeat (first | with_reducible exact bel_refl _ | with_reducible assumption | with_reducible refine bel_set ?_ (by first | (simp; done) | (simp; omega) | omega) _ | with_reducible refine bel_alloc ?_ _ | with_reducible refine bel_drew ?_ | with_reducible refine bel_drewN ?_ _ | with_reducible refine bel_trans ?_ (by assumption)))⟩
    rw [HL5.out]
    exact ((ho5.low (by first | (simp; done) | (simp; omega)) _).low (by first | (simp; done) | (simp; omega)) _).lower (by omega)
  · have e0 : retractF (rs.map itOf) nx id = (dropI (rs.map itOf) id, true) := by rw [hDR.out, HDN.out]; rfl
    rw [HRES.out] at e0
    injection e0 with e1 e2
    subst e1 e2
    clear HRES
    obtain ⟨z0, z1, fz0, fz1⟩ := HZ.two
    go_wp2
    refine bodyPost_ret (v := tupRt A4 N4 c4 nx true) (by simp [results, Try.results19, go_sem, tupRt, z0, z1]) rfl ⟨A4, c4, rs4, by rw [HL4.out], by rw [HL4.out]; exact hc4, HM4.out, ?_, (by repeat (first | with_reducible exact bel_refl _ | with_reducible assumption | with_reducible refine bel_set ?_ (by first | (simp; done) | (simp; omega) | omega) _ | with_reducible refine bel_alloc ?_ _ | with_reducible refine bel_drew ?_ | with_reducible refine bel_drewN ?_ _ | with_reducible refine bel_trans ?_ (by assumption)))⟩
    rw [HL4.out]
    exact ((ho4.low (by first | (simp; done) | (simp; omega)) _).low (by first | (simp; done) | (simp; omega)) _).lower (by omega)
end Go.Proofs.Ytndhjijcicebkaa
