/- Texts of conditions, of the program and of the reference. Each answers what the plain function says and makes at most new blocks. Conditions: lengths; the library's table of powers of ten is as its text lays it. -/
import Derived.Test.YtgpinhamgdganaaDoorArgText
import Derived.Test.YtgpinhamgdganaaDoorCondOk
import Derived.Test.YtgpinhamgdganaaDoorHeld2
namespace Go.Proofs.YtgpinhamgdganaaDoor
open Go.RowKit
set_option maxRecDepth 100000
set_option maxHeartbeats 4000000
def condText (c : Cd) : ByteArray := if condOk c then ((argText c.l ++ (if c.op = 2 then ⟨#[32, 35, 32]⟩ else if c.op = 3 then ⟨#[32, 60, 32]⟩ else ⟨#[32, 61, 32]⟩)) ++ argText c.r) else ⟨#[]⟩
theorem cat5 (x y : ByteArray) (c : UInt8) : ((((x ++ ⟨#[32]⟩) ++ ⟨#[c]⟩) ++ ⟨#[32]⟩) ++ y : ByteArray) = (x ++ ⟨#[32, c, 32]⟩) ++ y := by
  apply ByteArray.ext
  apply Array.ext'
  simp
theorem numT_len {n : Int} (h0 : -1000000000 ≤ n) (h1 : n ≤ 1000000000) : (numT n).size ≤ 21 := by
  have := Lib.itoa_length_le n (by omega) (by omega)
  unfold numT ByteArray.size
  simpa using this
theorem rawText_len {v : Vl} (h : valOk v = true) : (rawText v).size ≤ 30 := by
  obtain ⟨k, n, s⟩ := v
  unfold rawText
  split
  · rename_i hk
    have := valOk_num h hk
    have := numT_len this.1 this.2
    simp only at *
    omega
  · have := valOk_len h
    show ((⟨#[39]⟩ ++ s) ++ ⟨#[39]⟩ : ByteArray).size ≤ 30
    rw [ByteArray.size_append, ByteArray.size_append]
    have h1 : (⟨#[39]⟩ : ByteArray).size = 1 := rfl
    omega
theorem varOk_len {s : ByteArray} (h : varOk s = true) : s.size ≤ 12 := by
  unfold varOk at h
  simp at h
  omega
theorem argText_len {a : Ag} (h : argOk a = true) : (argText a).size ≤ 100 := by
  obtain ⟨k, s, v⟩ := a
  unfold argText
  by_cases h1 : k = 1
  · subst h1
    simp [argOk] at h
    have := varOk_len h.1
    simp
    omega
  · by_cases h2 : k = 2
    · have := rawText_len (argOk_val h h2)
      simp [h2]
      omega
    · rw [if_neg h1, if_neg h2]
      show (⟨#[95]⟩ : ByteArray).size ≤ 100
      decide
theorem condOk_parts {op : Int} {l r : Ag} (h : condOk ⟨op, l, r⟩ = true) : (op = 1 ∨ op = 2 ∨ op = 3) ∧ (l.k = 2 → valOk l.v = true) ∧ (r.k = 2 → valOk r.v = true) ∧ (argText l).size ≤ 100 ∧ (argText r).size ≤ 100 := by
  obtain ⟨lk, ls, lv⟩ := l
  obtain ⟨rk, rs, rv⟩ := r
  simp [condOk, termOk, inB] at h
  obtain ⟨⟨h1, h2⟩, ⟨_, h3⟩, _, h4⟩ := h
  exact ⟨by omega, argOk_val h3, argOk_val h4, argText_len h3, argText_len h4⟩
theorem argVal_len {k vk vn : Int} {vs : ByteArray} (_ : k = 2 → valOk ⟨vk, vn, vs⟩ = true) (hvs : vs.size ≤ 9223372036854775807) : vs.size ≤ 9223372036854775807 := hvs
theorem implCondText_any (op lk : Int) (ls : ByteArray) (lvk lvn : Int) (lvs : ByteArray) (rk : Int) (rs : ByteArray) (rvk rvn : Int) (rvs : ByteArray) (w : World) (ht : TabT w) (hls : ls.size ≤ 9223372036854775807) (hlvs : lvs.size ≤ 9223372036854775807) (hrs : rs.size ≤ 9223372036854775807) (hrvs : rvs.size ≤ 9223372036854775807) :
    Calls Tryd.prog 12 #[.agg #[.int .i64 op, .int .i64 lk, .string ls, .int .i64 lvk, .int .i64 lvn, .string lvs, .int .i64 rk, .string rs, .int .i64 rvk, .int .i64 rvn, .string rvs]] w fun e w' => e = .returned (.string (condText ⟨op, ⟨lk, ls, ⟨lvk, lvn, lvs⟩⟩, ⟨rk, rs, ⟨rvk, rvn, rvs⟩⟩⟩)) ∧ Below w.heap.size w w' := by
  have HT := Lib.hid ht; clear ht
  obtain ⟨r, hr⟩ : ∃ r, condOk ⟨op, ⟨lk, ls, ⟨lvk, lvn, lvs⟩⟩, ⟨rk, rs, ⟨rvk, rvn, rvs⟩⟩⟩ = r := ⟨_, rfl⟩
  have HR := Lib.hid hr
  cases r
  · clear hr
    go_enter Tryd.func12, Tryd.ntmps12
    go_wp2_with fail
    refine (implCondOk_any _ lk ls lvk lvn lvs rk rs rvk rvn rvs _ hls hlvs hrs hrvs).mono ?_
    rw [HR.out]
    rintro e w1 ⟨rfl, hb⟩
    have g1 : Below w.heap.size w w1 := (by repeat (first | with_reducible exact bel_refl _ | with_reducible assumption | with_reducible refine bel_set ?_ (by first | (simp; done) | (simp; omega) | omega) _ | with_reducible refine bel_alloc ?_ _ | with_reducible refine bel_drew ?_ | with_reducible refine bel_drewN ?_ _ | with_reducible refine bel_trans ?_ (by assumption)))
    go_wp2
    go_ret
    exact ⟨ret_str (by simp [condText, HR.out]), (by repeat (first | with_reducible exact bel_refl _ | with_reducible assumption | with_reducible refine bel_set ?_ (by first | (simp; done) | (simp; omega) | omega) _ | with_reducible refine bel_alloc ?_ _ | with_reducible refine bel_drew ?_ | with_reducible refine bel_drewN ?_ _ | with_reducible refine bel_trans ?_ (by assumption)))⟩
  obtain ⟨hop, hvl, hvr, hvl1, hvr1⟩ := condOk_parts hr
  obtain ⟨x1, hx1, hz1⟩ : ∃ x, argText ⟨lk, ls, ⟨lvk, lvn, lvs⟩⟩ = x ∧ x.size ≤ 100 := ⟨_, rfl, hvl1⟩
  obtain ⟨x2, hx2, hz2⟩ : ∃ x, argText ⟨rk, rs, ⟨rvk, rvn, rvs⟩⟩ = x ∧ x.size ≤ 100 := ⟨_, rfl, hvr1⟩
  have HX1 := Lib.hid hx1; have HX2 := Lib.hid hx2; have HVL := Lib.hid hvl; have HVR := Lib.hid hvr
  have hsl := argVal_len hvl hlvs
  have hsr := argVal_len hvr hrvs
  clear hx1 hx2 hvl hvr hvl1 hvr1 hr
  rcases hop with hop | hop | hop
  · subst hop
    go_enter Tryd.func12, Tryd.ntmps12
    go_wp2_with fail
    refine (implCondOk_any _ lk ls lvk lvn lvs rk rs rvk rvn rvs _ hls hlvs hrs hrvs).mono ?_
    rw [HR.out]
    rintro e w1 ⟨rfl, hb⟩
    have g1 : Below w.heap.size w w1 := (by repeat (first | with_reducible exact bel_refl _ | with_reducible assumption | with_reducible refine bel_set ?_ (by first | (simp; done) | (simp; omega) | omega) _ | with_reducible refine bel_alloc ?_ _ | with_reducible refine bel_drew ?_ | with_reducible refine bel_drewN ?_ _ | with_reducible refine bel_trans ?_ (by assumption)))
    have c0 := old_cell hb (b := w.heap.size) (o := 0) (v := .int .i64 1) (by go_simp)
    have c1 := old_cell hb (b := w.heap.size) (o := 1) (v := .int .i64 lk) (by go_simp)
    have c2 := old_cell hb (b := w.heap.size) (o := 2) (v := .string ls) (by go_simp)
    have c3 := old_cell hb (b := w.heap.size) (o := 3) (v := .int .i64 lvk) (by go_simp)
    have c4 := old_cell hb (b := w.heap.size) (o := 4) (v := .int .i64 lvn) (by go_simp)
    have c5 := old_cell hb (b := w.heap.size) (o := 5) (v := .string lvs) (by go_simp)
    have c6 := old_cell hb (b := w.heap.size) (o := 6) (v := .int .i64 rk) (by go_simp)
    have c7 := old_cell hb (b := w.heap.size) (o := 7) (v := .string rs) (by go_simp)
    have c8 := old_cell hb (b := w.heap.size) (o := 8) (v := .int .i64 rvk) (by go_simp)
    have c9 := old_cell hb (b := w.heap.size) (o := 9) (v := .int .i64 rvn) (by go_simp)
    have c10 := old_cell hb (b := w.heap.size) (o := 10) (v := .string rvs) (by go_simp)
    clear hb
    have z1 := cell_lt c0
    go_upto_region 9 with fail
    refine wp_region_held_drew (S := (fun w' => Below w1.heap.size w1 w' ∧ w'.cell? ⟨w.heap.size, 0, none⟩ = some (.int .i64 1) ∧ w'.cell? ⟨w.heap.size, 1, none⟩ = some (.int .i64 lk) ∧ w'.cell? ⟨w.heap.size, 2, none⟩ = some (.string ls) ∧ w'.cell? ⟨w.heap.size, 3, none⟩ = some (.int .i64 lvk) ∧ w'.cell? ⟨w.heap.size, 4, none⟩ = some (.int .i64 lvn) ∧ w'.cell? ⟨w.heap.size, 5, none⟩ = some (.string lvs) ∧ w'.cell? ⟨w.heap.size, 6, none⟩ = some (.int .i64 rk) ∧ w'.cell? ⟨w.heap.size, 7, none⟩ = some (.string rs) ∧ w'.cell? ⟨w.heap.size, 8, none⟩ = some (.int .i64 rvk) ∧ w'.cell? ⟨w.heap.size, 9, none⟩ = some (.int .i64 rvn) ∧ w'.cell? ⟨w.heap.size, 10, none⟩ = some (.string rvs))) (by kernel_rfl) ?_ (fun hHeld => ?_)
    · (try dsimp only) <;> (((refine (fun hB => ⟨hB, old_cell hB c0, old_cell hB c1, old_cell hB c2, old_cell hB c3, old_cell hB c4, old_cell hB c5, old_cell hB c6, old_cell hB c7, old_cell hB c8, old_cell hB c9, old_cell hB c10⟩ : Below w1.heap.size w1 _ → _) ?_); (repeat (first | exact bel_refl _ | exact bel_drew (bel_refl _) | exact bel_trans (And.left (by assumption)) (by assumption) | assumption))))
    refine h_take 0 (some 13) (?_) rfl rfl (by kernel_rfl) (by kernel_rfl) (by kernel_rfl) (fun _ _ _ h => h) (by kernel_rfl) ?_ (by assumption) ?_
    rotate_left
    · intro w hSw; (try dsimp only at hSw); go_simp
      all_goals first | with_reducible rfl | omega | (simp; omega)
    try simp only [Act.put, List.setIfInBounds_toArray, List.set_cons_zero, List.set_cons_succ]
    refine h_take 1 (some 14) (?_) rfl rfl (by kernel_rfl) (by kernel_rfl) (by kernel_rfl) (fun _ _ _ h => h) (by kernel_rfl) ?_ (by assumption) ?_
    rotate_left
    · intro w hSw; (try dsimp only at hSw); go_simp
      all_goals first | with_reducible rfl | omega | (simp; omega)
    try simp only [Act.put, List.setIfInBounds_toArray, List.set_cons_zero, List.set_cons_succ]
    refine h_take 3 (some 16) (?_) rfl rfl (by kernel_rfl) (by kernel_rfl) (by kernel_rfl) (fun _ _ _ h => h) (by kernel_rfl) ?_ (by assumption) ?_
    rotate_left
    · intro w hSw; (try dsimp only at hSw); go_simp
      all_goals first | with_reducible rfl | omega | (simp; omega)
    try simp only [Act.put, List.setIfInBounds_toArray, List.set_cons_zero, List.set_cons_succ]
    refine h_take 5 (some 18) (?_) rfl rfl (by kernel_rfl) (by kernel_rfl) (by kernel_rfl) (fun _ _ _ h => h) (by kernel_rfl) ?_ (by assumption) ?_
    rotate_left
    · intro w hSw; (try dsimp only at hSw); go_simp
      all_goals first | with_reducible rfl | omega | (simp; omega)
    try simp only [Act.put, List.setIfInBounds_toArray, List.set_cons_zero, List.set_cons_succ]
    refine h_take 6 (some 19) (?_) rfl rfl (by kernel_rfl) (by kernel_rfl) (by kernel_rfl) (fun _ _ _ h => h) (by kernel_rfl) ?_ (by assumption) ?_
    rotate_left
    · intro w hSw; (try dsimp only at hSw); go_simp
      all_goals first | with_reducible rfl | omega | (simp; omega)
    try simp only [Act.put, List.setIfInBounds_toArray, List.set_cons_zero, List.set_cons_succ]
    refine h_call 2 (by kernel_rfl) rfl (by kernel_rfl) (fun K hK => ?_)
    go_simp
    refine (implArgText_any lk ls lvk lvn lvs _ (HT.out.kept (bel_trans g1 (And.left (by assumption)))) hsl HVL.out).mono ?_
    rw [HX1.out]
    rintro e wa ⟨rfl, hb⟩
    refine hK.out _ _ ?_ (fun hHeld => ?_)
    · (try dsimp only) <;> (((refine (fun hB => ⟨hB, old_cell hB c0, old_cell hB c1, old_cell hB c2, old_cell hB c3, old_cell hB c4, old_cell hB c5, old_cell hB c6, old_cell hB c7, old_cell hB c8, old_cell hB c9, old_cell hB c10⟩ : Below w1.heap.size w1 _ → _) ?_); (repeat (first | exact bel_refl _ | exact bel_drew (bel_refl _) | exact bel_trans (And.left (by assumption)) (by assumption) | assumption))))
    clear hK K
    try simp only [Act.put, List.setIfInBounds_toArray, List.set_cons_zero, List.set_cons_succ]
    refine h_take 4 (some 17) (.string (x1 ++ ⟨#[32, 61, 32]⟩)) rfl rfl (by kernel_rfl) (by kernel_rfl) (by kernel_rfl) (fun _ _ _ h => h) (by kernel_rfl) ?_ (by assumption) ?_
    · intro w hSw; (try dsimp only at hSw); go_simp
      all_goals (first | omega | rw [if_neg (by first | omega | (simp [ByteArray.size] at *; omega))])
    try simp only [Act.put, List.setIfInBounds_toArray, List.set_cons_zero, List.set_cons_succ]
    refine h_call 7 (by kernel_rfl) rfl (by kernel_rfl) (fun K hK => ?_)
    go_simp
    refine (implArgText_any rk rs rvk rvn rvs _ (HT.out.kept (bel_trans g1 (And.left (by assumption)))) hsr HVR.out).mono ?_
    rw [HX2.out]
    rintro e wa ⟨rfl, hb⟩
    refine hK.out _ _ ?_ (fun hHeld => ?_)
    · (try dsimp only) <;> (((refine (fun hB => ⟨hB, old_cell hB c0, old_cell hB c1, old_cell hB c2, old_cell hB c3, old_cell hB c4, old_cell hB c5, old_cell hB c6, old_cell hB c7, old_cell hB c8, old_cell hB c9, old_cell hB c10⟩ : Below w1.heap.size w1 _ → _) ?_); (repeat (first | exact bel_refl _ | exact bel_drew (bel_refl _) | exact bel_trans (And.left (by assumption)) (by assumption) | assumption))))
    clear hK K
    try simp only [Act.put, List.setIfInBounds_toArray, List.set_cons_zero, List.set_cons_succ]
    refine h_take 8 (some 21) (.string ((x1 ++ ⟨#[32, 61, 32]⟩) ++ x2)) rfl rfl (by kernel_rfl) (by kernel_rfl) (by kernel_rfl) (fun _ _ _ h => h) (by kernel_rfl) ?_ (by assumption) ?_
    · intro w hSw; (try dsimp only at hSw); go_simp
      all_goals (first | omega | rw [if_neg (by first | omega | (simp [ByteArray.size] at *; omega))])
    try simp only [Act.put, List.setIfInBounds_toArray, List.set_cons_zero, List.set_cons_succ]
    refine h_take 9 (some 2) (.string ((x1 ++ ⟨#[32, 61, 32]⟩) ++ x2)) rfl rfl (by kernel_rfl) (by kernel_rfl) (by kernel_rfl) (fun _ _ _ h => h) (by kernel_rfl) ?_ (by assumption) ?_
    · intro w hSw; (try dsimp only at hSw); go_simp
      all_goals first | with_reducible rfl | omega | (simp; omega) | (rw [IntKind.wrap_i64]; omega) | (rw [IntKind.wrap_u8]; omega) | exact Int.tmod_eq_emod_of_nonneg (by omega) | (simp [IntKind.wrap_i64, IntKind.wrap_u8]; omega)
    try simp only [Act.put, List.setIfInBounds_toArray, List.set_cons_zero, List.set_cons_succ]
    refine wpAnyH_done (by kernel_rfl) ?_ _
    obtain ⟨hB, _⟩ := hHeld
    have hB1 : Below w.heap.size w _ := bel_trans g1 hB
    go_wp2
    go_ret
    exact ⟨ret_str (by rw [condText, HR.out]; simp [HX1.out, HX2.out]), hB1⟩
  · subst hop
    go_enter Tryd.func12, Tryd.ntmps12
    go_wp2_with fail
    refine (implCondOk_any _ lk ls lvk lvn lvs rk rs rvk rvn rvs _ hls hlvs hrs hrvs).mono ?_
    rw [HR.out]
    rintro e w1 ⟨rfl, hb⟩
    have g1 : Below w.heap.size w w1 := (by repeat (first | with_reducible exact bel_refl _ | with_reducible assumption | with_reducible refine bel_set ?_ (by first | (simp; done) | (simp; omega) | omega) _ | with_reducible refine bel_alloc ?_ _ | with_reducible refine bel_drew ?_ | with_reducible refine bel_drewN ?_ _ | with_reducible refine bel_trans ?_ (by assumption)))
    have c0 := old_cell hb (b := w.heap.size) (o := 0) (v := .int .i64 2) (by go_simp)
    have c1 := old_cell hb (b := w.heap.size) (o := 1) (v := .int .i64 lk) (by go_simp)
    have c2 := old_cell hb (b := w.heap.size) (o := 2) (v := .string ls) (by go_simp)
    have c3 := old_cell hb (b := w.heap.size) (o := 3) (v := .int .i64 lvk) (by go_simp)
    have c4 := old_cell hb (b := w.heap.size) (o := 4) (v := .int .i64 lvn) (by go_simp)
    have c5 := old_cell hb (b := w.heap.size) (o := 5) (v := .string lvs) (by go_simp)
    have c6 := old_cell hb (b := w.heap.size) (o := 6) (v := .int .i64 rk) (by go_simp)
    have c7 := old_cell hb (b := w.heap.size) (o := 7) (v := .string rs) (by go_simp)
    have c8 := old_cell hb (b := w.heap.size) (o := 8) (v := .int .i64 rvk) (by go_simp)
    have c9 := old_cell hb (b := w.heap.size) (o := 9) (v := .int .i64 rvn) (by go_simp)
    have c10 := old_cell hb (b := w.heap.size) (o := 10) (v := .string rvs) (by go_simp)
    clear hb
    have z1 := cell_lt c0
    go_upto_region 9 with fail
    refine wp_region_held_drew (S := (fun w' => Below w1.heap.size w1 w' ∧ w'.cell? ⟨w.heap.size, 0, none⟩ = some (.int .i64 2) ∧ w'.cell? ⟨w.heap.size, 1, none⟩ = some (.int .i64 lk) ∧ w'.cell? ⟨w.heap.size, 2, none⟩ = some (.string ls) ∧ w'.cell? ⟨w.heap.size, 3, none⟩ = some (.int .i64 lvk) ∧ w'.cell? ⟨w.heap.size, 4, none⟩ = some (.int .i64 lvn) ∧ w'.cell? ⟨w.heap.size, 5, none⟩ = some (.string lvs) ∧ w'.cell? ⟨w.heap.size, 6, none⟩ = some (.int .i64 rk) ∧ w'.cell? ⟨w.heap.size, 7, none⟩ = some (.string rs) ∧ w'.cell? ⟨w.heap.size, 8, none⟩ = some (.int .i64 rvk) ∧ w'.cell? ⟨w.heap.size, 9, none⟩ = some (.int .i64 rvn) ∧ w'.cell? ⟨w.heap.size, 10, none⟩ = some (.string rvs))) (by kernel_rfl) ?_ (fun hHeld => ?_)
    · (try dsimp only) <;> (((refine (fun hB => ⟨hB, old_cell hB c0, old_cell hB c1, old_cell hB c2, old_cell hB c3, old_cell hB c4, old_cell hB c5, old_cell hB c6, old_cell hB c7, old_cell hB c8, old_cell hB c9, old_cell hB c10⟩ : Below w1.heap.size w1 _ → _) ?_); (repeat (first | exact bel_refl _ | exact bel_drew (bel_refl _) | exact bel_trans (And.left (by assumption)) (by assumption) | assumption))))
    refine h_take 0 (some 13) (?_) rfl rfl (by kernel_rfl) (by kernel_rfl) (by kernel_rfl) (fun _ _ _ h => h) (by kernel_rfl) ?_ (by assumption) ?_
    rotate_left
    · intro w hSw; (try dsimp only at hSw); go_simp
      all_goals first | with_reducible rfl | omega | (simp; omega)
    try simp only [Act.put, List.setIfInBounds_toArray, List.set_cons_zero, List.set_cons_succ]
    refine h_take 1 (some 14) (?_) rfl rfl (by kernel_rfl) (by kernel_rfl) (by kernel_rfl) (fun _ _ _ h => h) (by kernel_rfl) ?_ (by assumption) ?_
    rotate_left
    · intro w hSw; (try dsimp only at hSw); go_simp
      all_goals first | with_reducible rfl | omega | (simp; omega)
    try simp only [Act.put, List.setIfInBounds_toArray, List.set_cons_zero, List.set_cons_succ]
    refine h_take 3 (some 16) (?_) rfl rfl (by kernel_rfl) (by kernel_rfl) (by kernel_rfl) (fun _ _ _ h => h) (by kernel_rfl) ?_ (by assumption) ?_
    rotate_left
    · intro w hSw; (try dsimp only at hSw); go_simp
      all_goals first | with_reducible rfl | omega | (simp; omega)
    try simp only [Act.put, List.setIfInBounds_toArray, List.set_cons_zero, List.set_cons_succ]
    refine h_take 5 (some 18) (?_) rfl rfl (by kernel_rfl) (by kernel_rfl) (by kernel_rfl) (fun _ _ _ h => h) (by kernel_rfl) ?_ (by assumption) ?_
    rotate_left
    · intro w hSw; (try dsimp only at hSw); go_simp
      all_goals first | with_reducible rfl | omega | (simp; omega)
    try simp only [Act.put, List.setIfInBounds_toArray, List.set_cons_zero, List.set_cons_succ]
    refine h_take 6 (some 19) (?_) rfl rfl (by kernel_rfl) (by kernel_rfl) (by kernel_rfl) (fun _ _ _ h => h) (by kernel_rfl) ?_ (by assumption) ?_
    rotate_left
    · intro w hSw; (try dsimp only at hSw); go_simp
      all_goals first | with_reducible rfl | omega | (simp; omega)
    try simp only [Act.put, List.setIfInBounds_toArray, List.set_cons_zero, List.set_cons_succ]
    refine h_call 2 (by kernel_rfl) rfl (by kernel_rfl) (fun K hK => ?_)
    go_simp
    refine (implArgText_any lk ls lvk lvn lvs _ (HT.out.kept (bel_trans g1 (And.left (by assumption)))) hsl HVL.out).mono ?_
    rw [HX1.out]
    rintro e wa ⟨rfl, hb⟩
    refine hK.out _ _ ?_ (fun hHeld => ?_)
    · (try dsimp only) <;> (((refine (fun hB => ⟨hB, old_cell hB c0, old_cell hB c1, old_cell hB c2, old_cell hB c3, old_cell hB c4, old_cell hB c5, old_cell hB c6, old_cell hB c7, old_cell hB c8, old_cell hB c9, old_cell hB c10⟩ : Below w1.heap.size w1 _ → _) ?_); (repeat (first | exact bel_refl _ | exact bel_drew (bel_refl _) | exact bel_trans (And.left (by assumption)) (by assumption) | assumption))))
    clear hK K
    try simp only [Act.put, List.setIfInBounds_toArray, List.set_cons_zero, List.set_cons_succ]
    refine h_take 4 (some 17) (.string (x1 ++ ⟨#[32, 35, 32]⟩)) rfl rfl (by kernel_rfl) (by kernel_rfl) (by kernel_rfl) (fun _ _ _ h => h) (by kernel_rfl) ?_ (by assumption) ?_
    · intro w hSw; (try dsimp only at hSw); go_simp
      all_goals (first | omega | rw [if_neg (by first | omega | (simp [ByteArray.size] at *; omega))])
    try simp only [Act.put, List.setIfInBounds_toArray, List.set_cons_zero, List.set_cons_succ]
    refine h_call 7 (by kernel_rfl) rfl (by kernel_rfl) (fun K hK => ?_)
    go_simp
    refine (implArgText_any rk rs rvk rvn rvs _ (HT.out.kept (bel_trans g1 (And.left (by assumption)))) hsr HVR.out).mono ?_
    rw [HX2.out]
    rintro e wa ⟨rfl, hb⟩
    refine hK.out _ _ ?_ (fun hHeld => ?_)
    · (try dsimp only) <;> (((refine (fun hB => ⟨hB, old_cell hB c0, old_cell hB c1, old_cell hB c2, old_cell hB c3, old_cell hB c4, old_cell hB c5, old_cell hB c6, old_cell hB c7, old_cell hB c8, old_cell hB c9, old_cell hB c10⟩ : Below w1.heap.size w1 _ → _) ?_); (repeat (first | exact bel_refl _ | exact bel_drew (bel_refl _) | exact bel_trans (And.left (by assumption)) (by assumption) | assumption))))
    clear hK K
    try simp only [Act.put, List.setIfInBounds_toArray, List.set_cons_zero, List.set_cons_succ]
    refine h_take 8 (some 21) (.string ((x1 ++ ⟨#[32, 35, 32]⟩) ++ x2)) rfl rfl (by kernel_rfl) (by kernel_rfl) (by kernel_rfl) (fun _ _ _ h => h) (by kernel_rfl) ?_ (by assumption) ?_
    · intro w hSw; (try dsimp only at hSw); go_simp
      all_goals (first | omega | rw [if_neg (by first | omega | (simp [ByteArray.size] at *; omega))])
    try simp only [Act.put, List.setIfInBounds_toArray, List.set_cons_zero, List.set_cons_succ]
    refine h_take 9 (some 2) (.string ((x1 ++ ⟨#[32, 35, 32]⟩) ++ x2)) rfl rfl (by kernel_rfl) (by kernel_rfl) (by kernel_rfl) (fun _ _ _ h => h) (by kernel_rfl) ?_ (by assumption) ?_
    · intro w hSw; (try dsimp only at hSw); go_simp
      all_goals first | with_reducible rfl | omega | (simp; omega) | (rw [IntKind.wrap_i64]; omega) | (rw [IntKind.wrap_u8]; omega) | exact Int.tmod_eq_emod_of_nonneg (by omega) | (simp [IntKind.wrap_i64, IntKind.wrap_u8]; omega)
    try simp only [Act.put, List.setIfInBounds_toArray, List.set_cons_zero, List.set_cons_succ]
    refine wpAnyH_done (by kernel_rfl) ?_ _
    obtain ⟨hB, _⟩ := hHeld
    have hB1 : Below w.heap.size w _ := bel_trans g1 hB
    go_wp2
    go_ret
    exact ⟨ret_str (by rw [condText, HR.out]; simp [HX1.out, HX2.out]), hB1⟩
  · subst hop
    go_enter Tryd.func12, Tryd.ntmps12
    go_wp2_with fail
    refine (implCondOk_any _ lk ls lvk lvn lvs rk rs rvk rvn rvs _ hls hlvs hrs hrvs).mono ?_
    rw [HR.out]
    rintro e w1 ⟨rfl, hb⟩
    have g1 : Below w.heap.size w w1 := (by repeat (first | with_reducible exact bel_refl _ | with_reducible assumption | with_reducible refine bel_set ?_ (by first | (simp; done) | (simp; omega) | omega) _ | with_reducible refine bel_alloc ?_ _ | with_reducible refine bel_drew ?_ | with_reducible refine bel_drewN ?_ _ | with_reducible refine bel_trans ?_ (by assumption)))
    have c0 := old_cell hb (b := w.heap.size) (o := 0) (v := .int .i64 3) (by go_simp)
    have c1 := old_cell hb (b := w.heap.size) (o := 1) (v := .int .i64 lk) (by go_simp)
    have c2 := old_cell hb (b := w.heap.size) (o := 2) (v := .string ls) (by go_simp)
    have c3 := old_cell hb (b := w.heap.size) (o := 3) (v := .int .i64 lvk) (by go_simp)
    have c4 := old_cell hb (b := w.heap.size) (o := 4) (v := .int .i64 lvn) (by go_simp)
    have c5 := old_cell hb (b := w.heap.size) (o := 5) (v := .string lvs) (by go_simp)
    have c6 := old_cell hb (b := w.heap.size) (o := 6) (v := .int .i64 rk) (by go_simp)
    have c7 := old_cell hb (b := w.heap.size) (o := 7) (v := .string rs) (by go_simp)
    have c8 := old_cell hb (b := w.heap.size) (o := 8) (v := .int .i64 rvk) (by go_simp)
    have c9 := old_cell hb (b := w.heap.size) (o := 9) (v := .int .i64 rvn) (by go_simp)
    have c10 := old_cell hb (b := w.heap.size) (o := 10) (v := .string rvs) (by go_simp)
    clear hb
    have z1 := cell_lt c0
    go_upto_region 9 with fail
    refine wp_region_held_drew (S := (fun w' => Below w1.heap.size w1 w' ∧ w'.cell? ⟨w.heap.size, 0, none⟩ = some (.int .i64 3) ∧ w'.cell? ⟨w.heap.size, 1, none⟩ = some (.int .i64 lk) ∧ w'.cell? ⟨w.heap.size, 2, none⟩ = some (.string ls) ∧ w'.cell? ⟨w.heap.size, 3, none⟩ = some (.int .i64 lvk) ∧ w'.cell? ⟨w.heap.size, 4, none⟩ = some (.int .i64 lvn) ∧ w'.cell? ⟨w.heap.size, 5, none⟩ = some (.string lvs) ∧ w'.cell? ⟨w.heap.size, 6, none⟩ = some (.int .i64 rk) ∧ w'.cell? ⟨w.heap.size, 7, none⟩ = some (.string rs) ∧ w'.cell? ⟨w.heap.size, 8, none⟩ = some (.int .i64 rvk) ∧ w'.cell? ⟨w.heap.size, 9, none⟩ = some (.int .i64 rvn) ∧ w'.cell? ⟨w.heap.size, 10, none⟩ = some (.string rvs))) (by kernel_rfl) ?_ (fun hHeld => ?_)
    · (try dsimp only) <;> (((refine (fun hB => ⟨hB, old_cell hB c0, old_cell hB c1, old_cell hB c2, old_cell hB c3, old_cell hB c4, old_cell hB c5, old_cell hB c6, old_cell hB c7, old_cell hB c8, old_cell hB c9, old_cell hB c10⟩ : Below w1.heap.size w1 _ → _) ?_); (repeat (first | exact bel_refl _ | exact bel_drew (bel_refl _) | exact bel_trans (And.left (by assumption)) (by assumption) | assumption))))
    refine h_take 0 (some 13) (?_) rfl rfl (by kernel_rfl) (by kernel_rfl) (by kernel_rfl) (fun _ _ _ h => h) (by kernel_rfl) ?_ (by assumption) ?_
    rotate_left
    · intro w hSw; (try dsimp only at hSw); go_simp
      all_goals first | with_reducible rfl | omega | (simp; omega)
    try simp only [Act.put, List.setIfInBounds_toArray, List.set_cons_zero, List.set_cons_succ]
    refine h_take 1 (some 14) (?_) rfl rfl (by kernel_rfl) (by kernel_rfl) (by kernel_rfl) (fun _ _ _ h => h) (by kernel_rfl) ?_ (by assumption) ?_
    rotate_left
    · intro w hSw; (try dsimp only at hSw); go_simp
      all_goals first | with_reducible rfl | omega | (simp; omega)
    try simp only [Act.put, List.setIfInBounds_toArray, List.set_cons_zero, List.set_cons_succ]
    refine h_take 3 (some 16) (?_) rfl rfl (by kernel_rfl) (by kernel_rfl) (by kernel_rfl) (fun _ _ _ h => h) (by kernel_rfl) ?_ (by assumption) ?_
    rotate_left
    · intro w hSw; (try dsimp only at hSw); go_simp
      all_goals first | with_reducible rfl | omega | (simp; omega)
    try simp only [Act.put, List.setIfInBounds_toArray, List.set_cons_zero, List.set_cons_succ]
    refine h_take 5 (some 18) (?_) rfl rfl (by kernel_rfl) (by kernel_rfl) (by kernel_rfl) (fun _ _ _ h => h) (by kernel_rfl) ?_ (by assumption) ?_
    rotate_left
    · intro w hSw; (try dsimp only at hSw); go_simp
      all_goals first | with_reducible rfl | omega | (simp; omega)
    try simp only [Act.put, List.setIfInBounds_toArray, List.set_cons_zero, List.set_cons_succ]
    refine h_take 6 (some 19) (?_) rfl rfl (by kernel_rfl) (by kernel_rfl) (by kernel_rfl) (fun _ _ _ h => h) (by kernel_rfl) ?_ (by assumption) ?_
    rotate_left
    · intro w hSw; (try dsimp only at hSw); go_simp
      all_goals first | with_reducible rfl | omega | (simp; omega)
    try simp only [Act.put, List.setIfInBounds_toArray, List.set_cons_zero, List.set_cons_succ]
    refine h_call 2 (by kernel_rfl) rfl (by kernel_rfl) (fun K hK => ?_)
    go_simp
    refine (implArgText_any lk ls lvk lvn lvs _ (HT.out.kept (bel_trans g1 (And.left (by assumption)))) hsl HVL.out).mono ?_
    rw [HX1.out]
    rintro e wa ⟨rfl, hb⟩
    refine hK.out _ _ ?_ (fun hHeld => ?_)
    · (try dsimp only) <;> (((refine (fun hB => ⟨hB, old_cell hB c0, old_cell hB c1, old_cell hB c2, old_cell hB c3, old_cell hB c4, old_cell hB c5, old_cell hB c6, old_cell hB c7, old_cell hB c8, old_cell hB c9, old_cell hB c10⟩ : Below w1.heap.size w1 _ → _) ?_); (repeat (first | exact bel_refl _ | exact bel_drew (bel_refl _) | exact bel_trans (And.left (by assumption)) (by assumption) | assumption))))
    clear hK K
    try simp only [Act.put, List.setIfInBounds_toArray, List.set_cons_zero, List.set_cons_succ]
    refine h_take 4 (some 17) (.string (x1 ++ ⟨#[32, 60, 32]⟩)) rfl rfl (by kernel_rfl) (by kernel_rfl) (by kernel_rfl) (fun _ _ _ h => h) (by kernel_rfl) ?_ (by assumption) ?_
    · intro w hSw; (try dsimp only at hSw); go_simp
      all_goals (first | omega | rw [if_neg (by first | omega | (simp [ByteArray.size] at *; omega))])
    try simp only [Act.put, List.setIfInBounds_toArray, List.set_cons_zero, List.set_cons_succ]
    refine h_call 7 (by kernel_rfl) rfl (by kernel_rfl) (fun K hK => ?_)
    go_simp
    refine (implArgText_any rk rs rvk rvn rvs _ (HT.out.kept (bel_trans g1 (And.left (by assumption)))) hsr HVR.out).mono ?_
    rw [HX2.out]
    rintro e wa ⟨rfl, hb⟩
    refine hK.out _ _ ?_ (fun hHeld => ?_)
    · (try dsimp only) <;> (((refine (fun hB => ⟨hB, old_cell hB c0, old_cell hB c1, old_cell hB c2, old_cell hB c3, old_cell hB c4, old_cell hB c5, old_cell hB c6, old_cell hB c7, old_cell hB c8, old_cell hB c9, old_cell hB c10⟩ : Below w1.heap.size w1 _ → _) ?_); (repeat (first | exact bel_refl _ | exact bel_drew (bel_refl _) | exact bel_trans (And.left (by assumption)) (by assumption) | assumption))))
    clear hK K
    try simp only [Act.put, List.setIfInBounds_toArray, List.set_cons_zero, List.set_cons_succ]
    refine h_take 8 (some 21) (.string ((x1 ++ ⟨#[32, 60, 32]⟩) ++ x2)) rfl rfl (by kernel_rfl) (by kernel_rfl) (by kernel_rfl) (fun _ _ _ h => h) (by kernel_rfl) ?_ (by assumption) ?_
    · intro w hSw; (try dsimp only at hSw); go_simp
      all_goals (first | omega | rw [if_neg (by first | omega | (simp [ByteArray.size] at *; omega))])
    try simp only [Act.put, List.setIfInBounds_toArray, List.set_cons_zero, List.set_cons_succ]
    refine h_take 9 (some 2) (.string ((x1 ++ ⟨#[32, 60, 32]⟩) ++ x2)) rfl rfl (by kernel_rfl) (by kernel_rfl) (by kernel_rfl) (fun _ _ _ h => h) (by kernel_rfl) ?_ (by assumption) ?_
    · intro w hSw; (try dsimp only at hSw); go_simp
      all_goals first | with_reducible rfl | omega | (simp; omega) | (rw [IntKind.wrap_i64]; omega) | (rw [IntKind.wrap_u8]; omega) | exact Int.tmod_eq_emod_of_nonneg (by omega) | (simp [IntKind.wrap_i64, IntKind.wrap_u8]; omega)
    try simp only [Act.put, List.setIfInBounds_toArray, List.set_cons_zero, List.set_cons_succ]
    refine wpAnyH_done (by kernel_rfl) ?_ _
    obtain ⟨hB, _⟩ := hHeld
    have hB1 : Below w.heap.size w _ := bel_trans g1 hB
    go_wp2
    go_ret
    exact ⟨ret_str (by rw [condText, HR.out]; simp [HX1.out, HX2.out]), hB1⟩
end Go.Proofs.YtgpinhamgdganaaDoor
