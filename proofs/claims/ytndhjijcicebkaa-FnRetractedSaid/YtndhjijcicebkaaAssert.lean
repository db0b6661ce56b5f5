/- A fact is asserted in a store through a pointer, by the program and by the reference. No condition but lengths. -/
import Derived.Test.YtndhjijcicebkaaPlainStore
import Derived.Test.YtndhjijcicebkaaCopyS2
namespace Go.Proofs.Ytndhjijcicebkaa
open Go.RowKit
set_option maxRecDepth 100000
set_option maxHeartbeats 4000000
theorem own_blk_ne {α : Type} {f : α → List Value} {z : Nat} {w : World} {base : Nat} {e : TypeId} {v : Value} {xs : List α} (h : OwnT f z w base e v xs) {b : Nat} {t : TypeId} {cs : Array Value} (hB : Blk w b t cs) (hne : e ≠ t) : v.ownBlock ≠ some b := by
  intro hv
  rcases h.2 with ⟨rfl, _⟩ | ⟨g, cap, cur, rfl, _, hg, _⟩
  · cases hv
  · injection hv with hv
    have hv : g = b := hv
    subst hv
    unfold Blk at hB
    rw [hg] at hB
    injection hB with hB
    injection hB with h1 h2
    exact hne h2
theorem own_set_ne {α : Type} {f : α → List Value} {z : Nat} {w : World} {base : Nat} {e : TypeId} {v : Value} {xs : List α} (h : OwnT f z w base e v xs) {p : Addr} (hp : v.ownBlock ≠ some p.block) (u : Value) : OwnT f z (w.setCell p u) base e v xs :=
  World.ownsRow.kept h (row := some p.block) ⟨rfl, rfl, rfl, by simp, fun k _ hk => heap_setCell_other w p k u (fun e => hk (by rw [e]))⟩ (.inr hp)
theorem OwnI.setBlk {w : World} {base g : Nat} {v : Value} {rs : List IR} {cs : Array Value} (h : OwnI w base v rs) (HB : Blk w g 32 cs) (i : Nat) (u : Value) : OwnI (w.setCell ⟨g, i, none⟩ u) base v rs :=
  ⟨own_set_ne h.1 (own_blk_ne h.1 HB (by decide)) u, fun r hr => own_set_ne (h.2.1 r hr) (own_blk_ne (h.2.1 r hr) HB (by decide)) u, h.2.2⟩
theorem OwnI.rdM {w : World} {base : Nat} {A : Option Addr} {n c : Nat} {rs : List IR} (h : OwnI w base (.slice A n c) rs) (hl : rs.length = n) : RdI w w.heap.size A n rs := by
  subst hl; exact h.rdO
theorem Blk.grownR {w w' : World} {b : Nat} {t : TypeId} {cs : Array Value} {row : Option Nat} (h : Blk w b t cs) (hg : w.grownBy w' row) (hne : row ≠ some b) : Blk w' b t cs := (hg.block b h.lt (fun e => hne e.symm)).trans h
theorem cell_off {w : World} {g i j : Nat} {u v : Value} (h : w.cell? ⟨g, i, none⟩ = some v) (hne : i ≠ j) : (w.setCell ⟨g, j, none⟩ u).cell? ⟨g, i, none⟩ = some v :=
  (World.cell?_setCell_other w ⟨g, j, none⟩ ⟨g, i, none⟩ u (fun e => hne (by injection e with _ e; first | exact e | exact e.symm))).trans h
theorem implAssertP_any (g : Nat) (A : Option Addr) (n c : Nat) (rs : List IR) (nx : Int) (kd : ByteArray) (A2 : Option Addr) (n2 c2 : Nat) (fs : List Vl) (w : World) (B2 base : Nat) (HB : Blk w g 32 #[.slice A n c, .int .i64 nx]) (ho : OwnI w base (.slice A n c) rs) (hl : rs.length = n) (hg : base ≤ g) (hr2 : RdS vC 3 w B2 A2 n2 fs) (hn : n ≤ 1048576) (hn2 : n2 ≤ 1048576) (hs : ∀ r ∈ rs, r.fs.length ≤ 1048576) (hx : 1 ≤ nx ∧ nx ≤ 1000000) (l' : List It) (nx' id : Int) (has : asrt (rs.map itOf) nx ⟨kd, fs⟩ = (l', nx', id)) :
    Calls Try.prog 42 #[.pointer (some ⟨g, 0, none⟩), .agg #[.string kd, .slice A2 n2 c2]] w fun e w' => ∃ A' c' rs', e = .returned (.tuple #[.int .i64 id, .bool (decide (id ≠ 0))]) ∧ rs'.length ≤ c' ∧ rs'.map itOf = l' ∧ Blk w' g 32 #[.slice A' rs'.length c', .int .i64 nx'] ∧ OwnI w' base (.slice A' rs'.length c') rs' ∧ Below base w w' := by
  obtain ⟨i0, hi, hz0, hz1, hz2⟩ := info_parts infoItem
  have HI := Lib.hid hi; clear hi
  have HL := Lib.hid hl; clear hl
  have HS := Lib.hid hs; clear hs
  obtain ⟨hx1, hx2⟩ := hx
  have hgl := HB.lt
  have hbw : base ≤ w.heap.size := by omega
  have hnc : n ≤ c := by obtain ⟨_, _, e, h⟩ := ho.form; injection e with _ e1 e2; omega
  obtain ⟨k0, hk0⟩ : ∃ k0, idOf (rs.map itOf) ⟨kd, fs⟩ = k0 := ⟨_, rfl⟩
  unfold asrt at has
  rw [hk0, List.length_map, HL.out] at has
  have HK := Lib.hid hk0
  clear hk0
  have hnw0 : (Value.slice A n c).ownBlock ≠ some w.heap.size := fun he => by have := (World.ownsRow.lt ho.1 _ he).2; omega
  have gv : Below w.heap.size w (w.alloc (.cells #[.string kd, .slice A2 n2 c2] 38)) := bel_alloc (bel_refl w) _
  have x0 : (w.alloc (.cells #[.string kd, .slice A2 n2 c2] 38)).cell? ⟨w.heap.size, 0, none⟩ = some (.string kd) := by go_simp
  have x1 : (w.alloc (.cells #[.string kd, .slice A2 n2 c2] 38)).cell? ⟨w.heap.size, 1, none⟩ = some (.slice A2 n2 c2) := by go_simp
  have hsv : w.heap.size < (w.alloc (.cells #[.string kd, .slice A2 n2 c2] 38)).heap.size := by simp
  go_enter Try.func42, Try.ntmps42
  go_upto_region 1 with fail
  generalize hv : w.alloc (.cells #[.string kd, .slice A2 n2 c2] 38) = v at x0 x1 gv hsv ⊢
  clear hv
  replace HB := HB.kept gv
  replace ho := ho.kept gv
  replace hr2 := hr2.kept gv
  obtain ⟨y0, y1, fy0, fy1⟩ := HB.two
  refine wp_region_held_drew (S := (fun w' => w'.cell? ⟨w.heap.size, 0, none⟩ = some (.string kd) ∧ w'.cell? ⟨w.heap.size, 1, none⟩ = some (.slice A2 n2 c2) ∧ w'.cell? ⟨g, 0, none⟩ = some (.slice A n c) ∧ w'.cell? ⟨g, 1, none⟩ = some (.int .i64 nx))) (by kernel_rfl) ?_ (fun hHeld => ?_)
  · (try dsimp only) <;> (first | exact ⟨x0, x1, y0, y1⟩ | exact hHeld | exact ⟨old_cell hb2 hHeld.1, old_cell hb2 hHeld.2.1, old_cell hb2 hHeld.2.2.1, old_cell hb2 hHeld.2.2.2⟩)
  refine h_take 0 (some 7) (?_) rfl rfl (by kernel_rfl) (by kernel_rfl) (by kernel_rfl) (fun _ _ _ h => h) (by kernel_rfl) ?_ (by assumption) ?_
  rotate_left
  · intro w hSw; (try dsimp only at hSw); go_simp
    all_goals first | with_reducible rfl | omega | (simp; omega)
  try simp only [Act.put, List.setIfInBounds_toArray, List.set_cons_zero, List.set_cons_succ]
  refine h_take 1 (some 8) (?_) rfl rfl (by kernel_rfl) (by kernel_rfl) (by kernel_rfl) (fun _ _ _ h => h) (by kernel_rfl) ?_ (by assumption) ?_
  rotate_left
  · intro w hSw; (try dsimp only at hSw); go_simp
    all_goals first | with_reducible rfl | omega | (simp; omega)
  try simp only [Act.put, List.setIfInBounds_toArray, List.set_cons_zero, List.set_cons_succ]
  refine h_take 2 (some 9) (?_) rfl rfl (by kernel_rfl) (by kernel_rfl) (by kernel_rfl) (fun _ _ _ h => h) (by kernel_rfl) ?_ (by assumption) ?_
  rotate_left
  · intro w hSw; (try dsimp only at hSw); go_simp
    all_goals first | with_reducible rfl | omega | (simp; omega)
  try simp only [Act.put, List.setIfInBounds_toArray, List.set_cons_zero, List.set_cons_succ]
  refine h_take 3 (some 10) (?_) rfl rfl (by kernel_rfl) (by kernel_rfl) (by kernel_rfl) (fun _ _ _ h => h) (by kernel_rfl) ?_ (by assumption) ?_
  rotate_left
  · intro w hSw; (try dsimp only at hSw); go_simp
    all_goals first | with_reducible rfl | omega | (simp; omega)
  try simp only [Act.put, List.setIfInBounds_toArray, List.set_cons_zero, List.set_cons_succ]
  refine h_call 4 (by kernel_rfl) rfl (by kernel_rfl) (fun K hK => ?_)
  go_simp
  refine (implIdOf_any A _ c rs nx kd A2 _ c2 fs _ _ _ (show RdI v.drew _ A n rs from ho.rdM HL.out) (show RdS vC 3 v.drew B2 A2 n2 fs from hr2) (by omega) (fun r h => Nat.le_trans (HS.out r h) (by decide))).mono ?_
  rw [HK.out]
  rintro e w2 ⟨rfl, hb2⟩
  refine hK.out _ _ ?_ (fun hHeld => ?_)
  · (try dsimp only) <;> (first | exact ⟨x0, x1, y0, y1⟩ | exact hHeld | exact ⟨old_cell hb2 hHeld.1, old_cell hb2 hHeld.2.1, old_cell hb2 hHeld.2.2.1, old_cell hb2 hHeld.2.2.2⟩)
  clear hK K
  try simp only [Act.put, List.setIfInBounds_toArray, List.set_cons_zero, List.set_cons_succ]
  refine h_take 5 (some 6) (?_) rfl rfl (by kernel_rfl) (by kernel_rfl) (by kernel_rfl) (fun _ _ _ h => h) (by kernel_rfl) ?_ (by assumption) ?_
  rotate_left
  · intro w hSw; (try dsimp only at hSw); go_simp
    all_goals first | with_reducible rfl | omega | (simp; omega)
  try simp only [Act.put, List.setIfInBounds_toArray, List.set_cons_zero, List.set_cons_succ]
  refine wpAnyH_done (by kernel_rfl) ?_ _
  obtain ⟨x0, x1, y0, y1⟩ := hHeld
  replace HB := Blk.kept (w := v.drew) HB hb2
  replace ho := OwnI.kept (w := v.drew) ho hb2
  replace hr2 := RdS.kept (w := v.drew) hr2 hb2
  replace gv : Below w.heap.size w w2 := bel_trans (bel_drew gv) hb2
  have hs2 := hb2.size
  have hs3 : w.heap.size < w2.heap.size := Nat.lt_of_lt_of_le hsv hs2
  clear hb2 hs2 hsv
  obtain ⟨_, _, fy0, fy1⟩ := HB.two
  by_cases hk : k0 = 0
  case neg =>
    rw [if_pos hk] at has
    injection has with e1 has
    injection has with e2 e3
    subst e1 e2 e3
    have hkb : (k0 == 0) = false := by simp; exact hk
    go_wp2
    go_ret2
    exact ⟨A, c, rs, by rw [decide_eq_true hk]; rfl, by rw [HL.out]; exact hnc, rfl, by rw [HL.out]; exact HB, by rw [HL.out]; exact ho, gv.mono hbw⟩
  subst hk
  rw [if_neg (by decide : ¬ (0 : Int) ≠ 0)] at has
  by_cases h40 : 40 ≤ n
  · have h40b : (40 : Int) ≤ (n : Int) := by omega
    rw [if_pos (Or.inl h40)] at has
    injection has with e1 has
    injection has with e2 e3
    subst e1 e2 e3
    go_wp2
    go_ret2
    first | exact ⟨A, c, rs, rfl, by rw [HL.out]; exact hnc, rfl, by rw [HL.out]; exact HB, by rw [HL.out]; exact ho, gv.mono hbw⟩ | exact ⟨rfl, A, c, rs, by rw [HL.out]; exact hnc, rfl, by rw [HL.out]; exact HB, by rw [HL.out]; exact ho, gv.mono hbw⟩
  have h40b : ¬ ((40 : Int) ≤ (n : Int)) := by omega
  have h40c : (n : Int) < 40 := by omega
  by_cases hM : nx = 1000000
  · rw [if_pos (Or.inr (by omega))] at has
    injection has with e1 has
    injection has with e2 e3
    subst e1 e2 e3
    have hMb : (nx == 1000000) = true := by simp; exact hM
    clear hM
    go_wp2
    go_ret2
    first | exact ⟨A, c, rs, rfl, by rw [HL.out]; exact hnc, rfl, by rw [HL.out]; exact HB, by rw [HL.out]; exact ho, gv.mono hbw⟩ | exact ⟨rfl, A, c, rs, by rw [HL.out]; exact hnc, rfl, by rw [HL.out]; exact HB, by rw [HL.out]; exact ho, gv.mono hbw⟩
  rw [if_neg (by omega)] at has
  have HAS := Lib.hid has
  have hMb : (nx == 1000000) = false := by simp; exact hM
  clear has hM
  go_upto_region 6 with fail
  have HNW := Lib.hid (hnw0 : (Value.slice A n c).ownBlock ≠ some w.heap.size)
  refine wp_region_held_drew (S := (fun w' => w'.cell? ⟨w.heap.size, 0, none⟩ = some (.string kd) ∧ w'.cell? ⟨w.heap.size, 1, none⟩ = some (.slice A2 n2 c2) ∧ w'.cell? ⟨g, 1, none⟩ = some (.int .i64 nx))) (by kernel_rfl) ?_ (fun hHeld => ?_)
  · (try dsimp only) <;> (first | exact ⟨x0, x1, y1⟩ | exact hHeld | exact ⟨old_cell hb5 hHeld.1, old_cell hb5 hHeld.2.1, old_cell hb5 hHeld.2.2⟩ | exact ⟨old_cell (bel_alloc (bel_refl _) _) hHeld.1, old_cell (bel_alloc (bel_refl _) _) hHeld.2.1, old_cell (bel_alloc (bel_refl _) _) hHeld.2.2⟩ | exact ⟨hg6.cell (a := ⟨w.heap.size, 0, none⟩) hHeld.1 (fun e => hnw e.symm), hg6.cell (a := ⟨w.heap.size, 1, none⟩) hHeld.2.1 (fun e => hnw e.symm), hg6.cell (a := ⟨g, 1, none⟩) hHeld.2.2 (fun e => hng e.symm)⟩ | exact ⟨cell_other hHeld.1 (by simp; omega), cell_other hHeld.2.1 (by simp; omega), cell_off hHeld.2.2 (by decide)⟩)
  refine h_take 0 (some 28) (?_) rfl rfl (by kernel_rfl) (by kernel_rfl) (by kernel_rfl) (fun _ _ _ h => h) (by kernel_rfl) ?_ (by assumption) ?_
  rotate_left
  · intro w hSw; (try dsimp only at hSw); go_simp
    all_goals first | with_reducible rfl | omega | (simp; omega)
  try simp only [Act.put, List.setIfInBounds_toArray, List.set_cons_zero, List.set_cons_succ]
  refine h_take 1 (some 29) (?_) rfl rfl (by kernel_rfl) (by kernel_rfl) (by kernel_rfl) (fun _ _ _ h => h) (by kernel_rfl) ?_ (by assumption) ?_
  rotate_left
  · intro w hSw; (try dsimp only at hSw); go_simp
    all_goals first | with_reducible rfl | omega | (simp; omega)
  try simp only [Act.put, List.setIfInBounds_toArray, List.set_cons_zero, List.set_cons_succ]
  refine h_take 2 (some 30) (?_) rfl rfl (by kernel_rfl) (by kernel_rfl) (by kernel_rfl) (fun _ _ _ h => h) (by kernel_rfl) ?_ (by assumption) ?_
  rotate_left
  · intro w hSw; (try dsimp only at hSw); go_simp
    all_goals first | with_reducible rfl | omega | (simp; omega)
  try simp only [Act.put, List.setIfInBounds_toArray, List.set_cons_zero, List.set_cons_succ]
  refine h_take 3 (some 31) (?_) rfl rfl (by kernel_rfl) (by kernel_rfl) (by kernel_rfl) (fun _ _ _ h => h) (by kernel_rfl) ?_ (by assumption) ?_
  rotate_left
  · intro w hSw; (try dsimp only at hSw); go_simp
    all_goals first | with_reducible rfl | omega | (simp; omega)
  try simp only [Act.put, List.setIfInBounds_toArray, List.set_cons_zero, List.set_cons_succ]
  refine h_take 5 (some 33) (?_) rfl rfl (by kernel_rfl) (by kernel_rfl) (by kernel_rfl) (fun _ _ _ h => h) (by kernel_rfl) ?_ (by assumption) ?_
  rotate_left
  · intro w hSw; (try dsimp only at hSw); go_simp
    all_goals first | with_reducible rfl | omega | (simp; omega)
  try simp only [Act.put, List.setIfInBounds_toArray, List.set_cons_zero, List.set_cons_succ]
  refine h_take 6 (some 34) (?_) rfl rfl (by kernel_rfl) (by kernel_rfl) (by kernel_rfl) (fun _ _ _ h => h) (by kernel_rfl) ?_ (by assumption) ?_
  rotate_left
  · intro w hSw; (try dsimp only at hSw); go_simp
    all_goals first | with_reducible rfl | omega | (simp; omega)
  try simp only [Act.put, List.setIfInBounds_toArray, List.set_cons_zero, List.set_cons_succ]
  refine h_take 7 (some 35) (?_) rfl rfl (by kernel_rfl) (by kernel_rfl) (by kernel_rfl) (fun _ _ _ h => h) (by kernel_rfl) ?_ (by assumption) ?_
  rotate_left
  · intro w hSw; (try dsimp only at hSw); go_simp
    all_goals first | with_reducible rfl | omega | (simp; omega)
  try simp only [Act.put, List.setIfInBounds_toArray, List.set_cons_zero, List.set_cons_succ]
  refine h_take 8 (some 36) (?_) rfl rfl (by kernel_rfl) (by kernel_rfl) (by kernel_rfl) (fun _ _ _ h => h) (by kernel_rfl) ?_ (by assumption) ?_
  rotate_left
  · intro w hSw; (try dsimp only at hSw); go_simp
    all_goals first | with_reducible rfl | omega | (simp; omega)
  try simp only [Act.put, List.setIfInBounds_toArray, List.set_cons_zero, List.set_cons_succ]
  refine h_take 9 (some 37) (?_) rfl rfl (by kernel_rfl) (by kernel_rfl) (by kernel_rfl) (fun _ _ _ h => h) (by kernel_rfl) ?_ (by assumption) ?_
  rotate_left
  · intro w hSw; (try dsimp only at hSw); go_simp
    all_goals first | with_reducible rfl | omega | (simp; omega)
  try simp only [Act.put, List.setIfInBounds_toArray, List.set_cons_zero, List.set_cons_succ]
  refine wpAnyH_ready (rs := [4, 10]) (by kernel_rfl) (by simp) ?_
  refine AllReadyH.cons rfl (fun K hK => ?_) (AllReadyH.cons rfl (fun K hK => ?_) AllReadyH.nil)
  · rw [if_pos (by kernel_rfl)]
    go_simp
    refine hK.out _ _ ?_ (fun hHeld => ?_)
    · (try dsimp only) <;> (first | exact ⟨x0, x1, y1⟩ | exact hHeld | exact ⟨old_cell hb5 hHeld.1, old_cell hb5 hHeld.2.1, old_cell hb5 hHeld.2.2⟩ | exact ⟨old_cell (bel_alloc (bel_refl _) _) hHeld.1, old_cell (bel_alloc (bel_refl _) _) hHeld.2.1, old_cell (bel_alloc (bel_refl _) _) hHeld.2.2⟩ | exact ⟨hg6.cell (a := ⟨w.heap.size, 0, none⟩) hHeld.1 (fun e => hnw e.symm), hg6.cell (a := ⟨w.heap.size, 1, none⟩) hHeld.2.1 (fun e => hnw e.symm), hg6.cell (a := ⟨g, 1, none⟩) hHeld.2.2 (fun e => hng e.symm)⟩ | exact ⟨cell_other hHeld.1 (by simp; omega), cell_other hHeld.2.1 (by simp; omega), cell_off hHeld.2.2 (by decide)⟩)
    clear hK K
    try simp only [Act.put, List.setIfInBounds_toArray, List.set_cons_zero, List.set_cons_succ]
    refine h_call 10 (by kernel_rfl) rfl (by kernel_rfl) (fun K hK => ?_)
    go_simp
    refine (copyFact_any kd A2 _ c2 fs _ _ (show RdS vC 3 w2.drew B2 A2 n2 fs from hr2) (by omega)).mono ?_
    rintro e w5 ⟨A5, c5, rfl, ho5, hb5⟩
    have HB5 := Blk.kept (w := w2.drew) HB hb5
    have hoi5 := OwnI.kept (w := w2.drew) ho hb5
    have hfr := fresh_row (w := w2.drew) (r := ⟨nx, kd, A5, c5, fs⟩) ho ho5
    obtain ⟨q0, q1, q2, q3⟩ := HB5.two
    have hs5 := hb5.size
    simp at hs5
    have hq5 : g < w5.heap.size := by omega
    have hng := own_blk_ne ho.1 HB (by decide)
    have hnw : (Value.slice A n c).ownBlock ≠ some w.heap.size := HNW.out
    try dsimp only
    refine hK.out _ _ ?_ (fun hHeld => ?_)
    · (try dsimp only) <;> (first | exact ⟨x0, x1, y1⟩ | exact hHeld | exact ⟨old_cell hb5 hHeld.1, old_cell hb5 hHeld.2.1, old_cell hb5 hHeld.2.2⟩ | exact ⟨old_cell (bel_alloc (bel_refl _) _) hHeld.1, old_cell (bel_alloc (bel_refl _) _) hHeld.2.1, old_cell (bel_alloc (bel_refl _) _) hHeld.2.2⟩ | exact ⟨hg6.cell (a := ⟨w.heap.size, 0, none⟩) hHeld.1 (fun e => hnw e.symm), hg6.cell (a := ⟨w.heap.size, 1, none⟩) hHeld.2.1 (fun e => hnw e.symm), hg6.cell (a := ⟨g, 1, none⟩) hHeld.2.2 (fun e => hng e.symm)⟩ | exact ⟨cell_other hHeld.1 (by simp; omega), cell_other hHeld.2.1 (by simp; omega), cell_off hHeld.2.2 (by decide)⟩)
    clear hK K
    try simp only [Act.put, List.setIfInBounds_toArray, List.set_cons_zero, List.set_cons_succ]
    refine h_take 11 (some 39) (?_) rfl rfl (by kernel_rfl) (by kernel_rfl) (by kernel_rfl) (fun _ _ _ h => h) (by kernel_rfl) ?_ (by assumption) ?_
    rotate_left
    · intro w hSw; (try dsimp only at hSw); go_simp
      all_goals first | with_reducible rfl | omega | (simp; omega)
    try simp only [Act.put, List.setIfInBounds_toArray, List.set_cons_zero, List.set_cons_succ]
    refine h_call 12 (by kernel_rfl) rfl (by kernel_rfl) (fun K hK => ?_)
    go_simp
    refine hK.out _ _ ?_ (fun hHeld => ?_)
    · (try dsimp only) <;> (first | exact ⟨x0, x1, y1⟩ | exact hHeld | exact ⟨old_cell hb5 hHeld.1, old_cell hb5 hHeld.2.1, old_cell hb5 hHeld.2.2⟩ | exact ⟨old_cell (bel_alloc (bel_refl _) _) hHeld.1, old_cell (bel_alloc (bel_refl _) _) hHeld.2.1, old_cell (bel_alloc (bel_refl _) _) hHeld.2.2⟩ | exact ⟨hg6.cell (a := ⟨w.heap.size, 0, none⟩) hHeld.1 (fun e => hnw e.symm), hg6.cell (a := ⟨w.heap.size, 1, none⟩) hHeld.2.1 (fun e => hnw e.symm), hg6.cell (a := ⟨g, 1, none⟩) hHeld.2.2 (fun e => hng e.symm)⟩ | exact ⟨cell_other hHeld.1 (by simp; omega), cell_other hHeld.2.1 (by simp; omega), cell_off hHeld.2.2 (by decide)⟩)
    clear hK K
    try simp only [Act.put, List.setIfInBounds_toArray, List.set_cons_zero, List.set_cons_succ]
    refine h_call 13 (by kernel_rfl) rfl (by kernel_rfl) (fun K hK => ?_)
    refine appG (.tmp 32) (.tmp 40) _ rfl irC_sz base 55 i0 Try.underlying30 HI.out hz0 hz1 hz2 rfl (by omega) _ rs rfl (hoi5.1.alloc _) _ 1 1 [⟨nx, kd, A5, c5, fs⟩] rfl (RdT.new1 irC_sz w5 55 ⟨nx, kd, A5, c5, fs⟩) (irC_one _) (by have := HL.out; omega) (by simp; omega) ?_ (by have := HL.out; omega)
    intro v' w6 ho6 hb6 hg6
    have hoi6 := OwnI.snoc (hoi5.alloc _) (OwnT.alloc (OwnT.lower ho5 (by simp; omega)) _) hfr ho6 hg6
    have hl6 : (rs ++ [(⟨nx, kd, A5, c5, fs⟩ : IR)]).length = n + 1 := by rw [List.length_append, HL.out]; rfl
    obtain ⟨A6, c6, hv6, hc6⟩ := hoi6.form
    rw [hl6] at hv6 hc6
    subst hv6
    have HB6 := Blk.grownR (HB5.alloc _) hg6 hng
    have hs6 := hg6.size
    simp at hs6
    obtain ⟨r0, r1, r2, r3⟩ := HB6.two
    have HL6 := Lib.hid hl6; clear hl6
    change K (Act.put _ (some 41) _) _
    refine hK.out _ _ ?_ (fun hHeld => ?_)
    · (try dsimp only) <;> (first | exact ⟨x0, x1, y1⟩ | exact hHeld | exact ⟨old_cell hb5 hHeld.1, old_cell hb5 hHeld.2.1, old_cell hb5 hHeld.2.2⟩ | exact ⟨old_cell (bel_alloc (bel_refl _) _) hHeld.1, old_cell (bel_alloc (bel_refl _) _) hHeld.2.1, old_cell (bel_alloc (bel_refl _) _) hHeld.2.2⟩ | exact ⟨hg6.cell (a := ⟨w.heap.size, 0, none⟩) hHeld.1 (fun e => hnw e.symm), hg6.cell (a := ⟨w.heap.size, 1, none⟩) hHeld.2.1 (fun e => hnw e.symm), hg6.cell (a := ⟨g, 1, none⟩) hHeld.2.2 (fun e => hng e.symm)⟩ | exact ⟨cell_other hHeld.1 (by simp; omega), cell_other hHeld.2.1 (by simp; omega), cell_off hHeld.2.2 (by decide)⟩)
    clear hK K
    try simp only [Act.put, List.setIfInBounds_toArray, List.set_cons_zero, List.set_cons_succ]
    refine h_take 14 (some 42) (?_) rfl rfl (by kernel_rfl) (by kernel_rfl) (by kernel_rfl) (fun _ _ _ h => h) (by kernel_rfl) ?_ (by assumption) ?_
    rotate_left
    · intro w hSw; (try dsimp only at hSw); go_simp
      all_goals first | with_reducible rfl | omega | (simp; omega)
    try simp only [Act.put, List.setIfInBounds_toArray, List.set_cons_zero, List.set_cons_succ]
    refine h_take 15 (some 43) (?_) rfl rfl (by kernel_rfl) (by kernel_rfl) (by kernel_rfl) (fun _ _ _ h => h) (by kernel_rfl) ?_ (by assumption) ?_
    rotate_left
    · intro w hSw; (try dsimp only at hSw); go_simp
      all_goals first | with_reducible rfl | omega | (simp; omega)
    try simp only [Act.put, List.setIfInBounds_toArray, List.set_cons_zero, List.set_cons_succ]
    refine h_call 16 (by kernel_rfl) rfl (by kernel_rfl) (fun K hK => ?_)
    go_simp
    refine hK.out _ _ ?_ (fun hHeld => ?_)
    · (try dsimp only) <;> (first | exact ⟨x0, x1, y1⟩ | exact hHeld | exact ⟨old_cell hb5 hHeld.1, old_cell hb5 hHeld.2.1, old_cell hb5 hHeld.2.2⟩ | exact ⟨old_cell (bel_alloc (bel_refl _) _) hHeld.1, old_cell (bel_alloc (bel_refl _) _) hHeld.2.1, old_cell (bel_alloc (bel_refl _) _) hHeld.2.2⟩ | exact ⟨hg6.cell (a := ⟨w.heap.size, 0, none⟩) hHeld.1 (fun e => hnw e.symm), hg6.cell (a := ⟨w.heap.size, 1, none⟩) hHeld.2.1 (fun e => hnw e.symm), hg6.cell (a := ⟨g, 1, none⟩) hHeld.2.2 (fun e => hng e.symm)⟩ | exact ⟨cell_other hHeld.1 (by simp; omega), cell_other hHeld.2.1 (by simp; omega), cell_off hHeld.2.2 (by decide)⟩)
    clear hK K
    try simp only [Act.put, List.setIfInBounds_toArray, List.set_cons_zero, List.set_cons_succ]
    refine wpAnyH_done (by kernel_rfl) ?_ _
    have HB7 : Blk (w6.setCell ⟨g, 0, none⟩ (.slice A6 (n + 1) c6)) g 32 #[.slice A6 (n + 1) c6, .int .i64 nx] := by have := HB6.set_ 0 (.slice A6 (n + 1) c6); simpa using this
    have hoi7 := hoi6.setBlk HB6 0 (.slice A6 (n + 1) c6)
    have hb7 : Below base w (w6.setCell ⟨g, 0, none⟩ (.slice A6 (n + 1) c6)) := (((gv.mono hbw).trans ((bel_drew (bel_refl w2)).mono (by omega))).trans ((hb5.mono (by simp; omega)).trans ((Below.alloc (Below.refl base w5) (by omega) _).trans hb6))).setCell hg _
    have hs7 : w.heap.size < (w6.setCell ⟨g, 0, none⟩ (.slice A6 (n + 1) c6)).heap.size := by simp; omega
    generalize hv7 : w6.setCell ⟨g, 0, none⟩ (.slice A6 (n + 1) c6) = w7 at hHeld HB7 hoi7 hb7 hs7 ⊢
    clear hv7 hHeld HB6 HB5 hoi5 hoi6 ho5 ho6 hb5 hb6 hg6 hfr hs5 hs6 q0 q1 q2 q3 r0 r1 r2 r3 y0 y1 x0 x1 HB ho hr2 gv
    obtain ⟨u0, u1, u2, u3⟩ := HB7.two
    go_wp2
    go_ret2
    obtain ⟨e1, e2, e3⟩ : rs.map itOf ++ [⟨nx, ⟨kd, fs⟩⟩] = l' ∧ nx + 1 = nx' ∧ nx = id := by (have := HAS.out; injection this with e1 e2; injection e2 with e2 e3; exact ⟨e1, e2, e3⟩)
    subst e1 e2 e3
    first | refine ⟨A6, c6, rs ++ [⟨nx, kd, A5, c5, fs⟩], ?_, by rw [HL6.out]; exact hc6, by rw [List.map_append]; rfl, ?_, ?_, hb7.setCell hg _⟩ | refine ⟨?_, A6, c6, rs ++ [⟨nx, kd, A5, c5, fs⟩], by rw [HL6.out]; exact hc6, by rw [List.map_append]; rfl, ?_, ?_, hb7.setCell hg _⟩
    · first | (rw [decide_eq_true (by omega)]; first | rfl | (congr 4; omega)) | (simp; omega)
    · rw [HL6.out]; have := HB7.set_ 1 (.int .i64 (nx + 1)); simpa using this
    · rw [HL6.out]; exact hoi7.setBlk HB7 1 _
  · rw [if_pos (by kernel_rfl)]
    go_simp
    refine (copyFact_any kd A2 _ c2 fs _ _ (show RdS vC 3 w2.drew B2 A2 n2 fs from hr2) (by omega)).mono ?_
    rintro e w5 ⟨A5, c5, rfl, ho5, hb5⟩
    have HB5 := Blk.kept (w := w2.drew) HB hb5
    have hoi5 := OwnI.kept (w := w2.drew) ho hb5
    have hfr := fresh_row (w := w2.drew) (r := ⟨nx, kd, A5, c5, fs⟩) ho ho5
    obtain ⟨q0, q1, q2, q3⟩ := HB5.two
    have hs5 := hb5.size
    simp at hs5
    have hq5 : g < w5.heap.size := by omega
    have hng := own_blk_ne ho.1 HB (by decide)
    have hnw : (Value.slice A n c).ownBlock ≠ some w.heap.size := HNW.out
    try dsimp only
    refine hK.out _ _ ?_ (fun hHeld => ?_)
    · (try dsimp only) <;> (first | exact ⟨x0, x1, y1⟩ | exact hHeld | exact ⟨old_cell hb5 hHeld.1, old_cell hb5 hHeld.2.1, old_cell hb5 hHeld.2.2⟩ | exact ⟨old_cell (bel_alloc (bel_refl _) _) hHeld.1, old_cell (bel_alloc (bel_refl _) _) hHeld.2.1, old_cell (bel_alloc (bel_refl _) _) hHeld.2.2⟩ | exact ⟨hg6.cell (a := ⟨w.heap.size, 0, none⟩) hHeld.1 (fun e => hnw e.symm), hg6.cell (a := ⟨w.heap.size, 1, none⟩) hHeld.2.1 (fun e => hnw e.symm), hg6.cell (a := ⟨g, 1, none⟩) hHeld.2.2 (fun e => hng e.symm)⟩ | exact ⟨cell_other hHeld.1 (by simp; omega), cell_other hHeld.2.1 (by simp; omega), cell_off hHeld.2.2 (by decide)⟩)
    clear hK K
    try simp only [Act.put, List.setIfInBounds_toArray, List.set_cons_zero, List.set_cons_succ]
    refine h_take 11 (some 39) (?_) rfl rfl (by kernel_rfl) (by kernel_rfl) (by kernel_rfl) (fun _ _ _ h => h) (by kernel_rfl) ?_ (by assumption) ?_
    rotate_left
    · intro w hSw; (try dsimp only at hSw); go_simp
      all_goals first | with_reducible rfl | omega | (simp; omega)
    try simp only [Act.put, List.setIfInBounds_toArray, List.set_cons_zero, List.set_cons_succ]
    refine wpAnyH_ready (rs := [4, 12]) (by kernel_rfl) (by simp) ?_
    refine AllReadyH.cons rfl (fun K hK => ?_) (AllReadyH.cons rfl (fun K hK => ?_) AllReadyH.nil)
    · rw [if_pos (by kernel_rfl)]
      go_simp
      refine hK.out _ _ ?_ (fun hHeld => ?_)
      · (try dsimp only) <;> (first | exact ⟨x0, x1, y1⟩ | exact hHeld | exact ⟨old_cell hb5 hHeld.1, old_cell hb5 hHeld.2.1, old_cell hb5 hHeld.2.2⟩ | exact ⟨old_cell (bel_alloc (bel_refl _) _) hHeld.1, old_cell (bel_alloc (bel_refl _) _) hHeld.2.1, old_cell (bel_alloc (bel_refl _) _) hHeld.2.2⟩ | exact ⟨hg6.cell (a := ⟨w.heap.size, 0, none⟩) hHeld.1 (fun e => hnw e.symm), hg6.cell (a := ⟨w.heap.size, 1, none⟩) hHeld.2.1 (fun e => hnw e.symm), hg6.cell (a := ⟨g, 1, none⟩) hHeld.2.2 (fun e => hng e.symm)⟩ | exact ⟨cell_other hHeld.1 (by simp; omega), cell_other hHeld.2.1 (by simp; omega), cell_off hHeld.2.2 (by decide)⟩)
      clear hK K
      try simp only [Act.put, List.setIfInBounds_toArray, List.set_cons_zero, List.set_cons_succ]
      refine h_call 12 (by kernel_rfl) rfl (by kernel_rfl) (fun K hK => ?_)
      go_simp
      refine hK.out _ _ ?_ (fun hHeld => ?_)
      · (try dsimp only) <;> (first | exact ⟨x0, x1, y1⟩ | exact hHeld | exact ⟨old_cell hb5 hHeld.1, old_cell hb5 hHeld.2.1, old_cell hb5 hHeld.2.2⟩ | exact ⟨old_cell (bel_alloc (bel_refl _) _) hHeld.1, old_cell (bel_alloc (bel_refl _) _) hHeld.2.1, old_cell (bel_alloc (bel_refl _) _) hHeld.2.2⟩ | exact ⟨hg6.cell (a := ⟨w.heap.size, 0, none⟩) hHeld.1 (fun e => hnw e.symm), hg6.cell (a := ⟨w.heap.size, 1, none⟩) hHeld.2.1 (fun e => hnw e.symm), hg6.cell (a := ⟨g, 1, none⟩) hHeld.2.2 (fun e => hng e.symm)⟩ | exact ⟨cell_other hHeld.1 (by simp; omega), cell_other hHeld.2.1 (by simp; omega), cell_off hHeld.2.2 (by decide)⟩)
      clear hK K
      try simp only [Act.put, List.setIfInBounds_toArray, List.set_cons_zero, List.set_cons_succ]
      refine h_call 13 (by kernel_rfl) rfl (by kernel_rfl) (fun K hK => ?_)
      refine appG (.tmp 32) (.tmp 40) _ rfl irC_sz base 55 i0 Try.underlying30 HI.out hz0 hz1 hz2 rfl (by omega) _ rs rfl (hoi5.1.alloc _) _ 1 1 [⟨nx, kd, A5, c5, fs⟩] rfl (RdT.new1 irC_sz w5 55 ⟨nx, kd, A5, c5, fs⟩) (irC_one _) (by have := HL.out; omega) (by simp; omega) ?_ (by have := HL.out; omega)
      intro v' w6 ho6 hb6 hg6
      have hoi6 := OwnI.snoc (hoi5.alloc _) (OwnT.alloc (OwnT.lower ho5 (by simp; omega)) _) hfr ho6 hg6
      have hl6 : (rs ++ [(⟨nx, kd, A5, c5, fs⟩ : IR)]).length = n + 1 := by rw [List.length_append, HL.out]; rfl
      obtain ⟨A6, c6, hv6, hc6⟩ := hoi6.form
      rw [hl6] at hv6 hc6
      subst hv6
      have HB6 := Blk.grownR (HB5.alloc _) hg6 hng
      have hs6 := hg6.size
      simp at hs6
      obtain ⟨r0, r1, r2, r3⟩ := HB6.two
      have HL6 := Lib.hid hl6; clear hl6
      change K (Act.put _ (some 41) _) _
      refine hK.out _ _ ?_ (fun hHeld => ?_)
      · (try dsimp only) <;> (first | exact ⟨x0, x1, y1⟩ | exact hHeld | exact ⟨old_cell hb5 hHeld.1, old_cell hb5 hHeld.2.1, old_cell hb5 hHeld.2.2⟩ | exact ⟨old_cell (bel_alloc (bel_refl _) _) hHeld.1, old_cell (bel_alloc (bel_refl _) _) hHeld.2.1, old_cell (bel_alloc (bel_refl _) _) hHeld.2.2⟩ | exact ⟨hg6.cell (a := ⟨w.heap.size, 0, none⟩) hHeld.1 (fun e => hnw e.symm), hg6.cell (a := ⟨w.heap.size, 1, none⟩) hHeld.2.1 (fun e => hnw e.symm), hg6.cell (a := ⟨g, 1, none⟩) hHeld.2.2 (fun e => hng e.symm)⟩ | exact ⟨cell_other hHeld.1 (by simp; omega), cell_other hHeld.2.1 (by simp; omega), cell_off hHeld.2.2 (by decide)⟩)
      clear hK K
      try simp only [Act.put, List.setIfInBounds_toArray, List.set_cons_zero, List.set_cons_succ]
      refine h_take 14 (some 42) (?_) rfl rfl (by kernel_rfl) (by kernel_rfl) (by kernel_rfl) (fun _ _ _ h => h) (by kernel_rfl) ?_ (by assumption) ?_
      rotate_left
      · intro w hSw; (try dsimp only at hSw); go_simp
        all_goals first | with_reducible rfl | omega | (simp; omega)
      try simp only [Act.put, List.setIfInBounds_toArray, List.set_cons_zero, List.set_cons_succ]
      refine h_take 15 (some 43) (?_) rfl rfl (by kernel_rfl) (by kernel_rfl) (by kernel_rfl) (fun _ _ _ h => h) (by kernel_rfl) ?_ (by assumption) ?_
      rotate_left
      · intro w hSw; (try dsimp only at hSw); go_simp
        all_goals first | with_reducible rfl | omega | (simp; omega)
      try simp only [Act.put, List.setIfInBounds_toArray, List.set_cons_zero, List.set_cons_succ]
      refine h_call 16 (by kernel_rfl) rfl (by kernel_rfl) (fun K hK => ?_)
      go_simp
      refine hK.out _ _ ?_ (fun hHeld => ?_)
      · (try dsimp only) <;> (first | exact ⟨x0, x1, y1⟩ | exact hHeld | exact ⟨old_cell hb5 hHeld.1, old_cell hb5 hHeld.2.1, old_cell hb5 hHeld.2.2⟩ | exact ⟨old_cell (bel_alloc (bel_refl _) _) hHeld.1, old_cell (bel_alloc (bel_refl _) _) hHeld.2.1, old_cell (bel_alloc (bel_refl _) _) hHeld.2.2⟩ | exact ⟨hg6.cell (a := ⟨w.heap.size, 0, none⟩) hHeld.1 (fun e => hnw e.symm), hg6.cell (a := ⟨w.heap.size, 1, none⟩) hHeld.2.1 (fun e => hnw e.symm), hg6.cell (a := ⟨g, 1, none⟩) hHeld.2.2 (fun e => hng e.symm)⟩ | exact ⟨cell_other hHeld.1 (by simp; omega), cell_other hHeld.2.1 (by simp; omega), cell_off hHeld.2.2 (by decide)⟩)
      clear hK K
      try simp only [Act.put, List.setIfInBounds_toArray, List.set_cons_zero, List.set_cons_succ]
      refine wpAnyH_done (by kernel_rfl) ?_ _
      have HB7 : Blk (w6.setCell ⟨g, 0, none⟩ (.slice A6 (n + 1) c6)) g 32 #[.slice A6 (n + 1) c6, .int .i64 nx] := by have := HB6.set_ 0 (.slice A6 (n + 1) c6); simpa using this
      have hoi7 := hoi6.setBlk HB6 0 (.slice A6 (n + 1) c6)
      have hb7 : Below base w (w6.setCell ⟨g, 0, none⟩ (.slice A6 (n + 1) c6)) := (((gv.mono hbw).trans ((bel_drew (bel_refl w2)).mono (by omega))).trans ((hb5.mono (by simp; omega)).trans ((Below.alloc (Below.refl base w5) (by omega) _).trans hb6))).setCell hg _
      have hs7 : w.heap.size < (w6.setCell ⟨g, 0, none⟩ (.slice A6 (n + 1) c6)).heap.size := by simp; omega
      generalize hv7 : w6.setCell ⟨g, 0, none⟩ (.slice A6 (n + 1) c6) = w7 at hHeld HB7 hoi7 hb7 hs7 ⊢
      clear hv7 hHeld HB6 HB5 hoi5 hoi6 ho5 ho6 hb5 hb6 hg6 hfr hs5 hs6 q0 q1 q2 q3 r0 r1 r2 r3 y0 y1 x0 x1 HB ho hr2 gv
      obtain ⟨u0, u1, u2, u3⟩ := HB7.two
      go_wp2
      go_ret2
      obtain ⟨e1, e2, e3⟩ : rs.map itOf ++ [⟨nx, ⟨kd, fs⟩⟩] = l' ∧ nx + 1 = nx' ∧ nx = id := by (have := HAS.out; injection this with e1 e2; injection e2 with e2 e3; exact ⟨e1, e2, e3⟩)
      subst e1 e2 e3
      first | refine ⟨A6, c6, rs ++ [⟨nx, kd, A5, c5, fs⟩], ?_, by rw [HL6.out]; exact hc6, by rw [List.map_append]; rfl, ?_, ?_, hb7.setCell hg _⟩ | refine ⟨?_, A6, c6, rs ++ [⟨nx, kd, A5, c5, fs⟩], by rw [HL6.out]; exact hc6, by rw [List.map_append]; rfl, ?_, ?_, hb7.setCell hg _⟩
      · first | (rw [decide_eq_true (by omega)]; first | rfl | (congr 4; omega)) | (simp; omega)
      · rw [HL6.out]; have := HB7.set_ 1 (.int .i64 (nx + 1)); simpa using this
      · rw [HL6.out]; exact hoi7.setBlk HB7 1 _
    · rw [if_pos (by kernel_rfl)]
      go_simp
      refine hK.out _ _ ?_ (fun hHeld => ?_)
      · (try dsimp only) <;> (first | exact ⟨x0, x1, y1⟩ | exact hHeld | exact ⟨old_cell hb5 hHeld.1, old_cell hb5 hHeld.2.1, old_cell hb5 hHeld.2.2⟩ | exact ⟨old_cell (bel_alloc (bel_refl _) _) hHeld.1, old_cell (bel_alloc (bel_refl _) _) hHeld.2.1, old_cell (bel_alloc (bel_refl _) _) hHeld.2.2⟩ | exact ⟨hg6.cell (a := ⟨w.heap.size, 0, none⟩) hHeld.1 (fun e => hnw e.symm), hg6.cell (a := ⟨w.heap.size, 1, none⟩) hHeld.2.1 (fun e => hnw e.symm), hg6.cell (a := ⟨g, 1, none⟩) hHeld.2.2 (fun e => hng e.symm)⟩ | exact ⟨cell_other hHeld.1 (by simp; omega), cell_other hHeld.2.1 (by simp; omega), cell_off hHeld.2.2 (by decide)⟩)
      clear hK K
      try simp only [Act.put, List.setIfInBounds_toArray, List.set_cons_zero, List.set_cons_succ]
      refine h_call 4 (by kernel_rfl) rfl (by kernel_rfl) (fun K hK => ?_)
      go_simp
      refine hK.out _ _ ?_ (fun hHeld => ?_)
      · (try dsimp only) <;> (first | exact ⟨x0, x1, y1⟩ | exact hHeld | exact ⟨old_cell hb5 hHeld.1, old_cell hb5 hHeld.2.1, old_cell hb5 hHeld.2.2⟩ | exact ⟨old_cell (bel_alloc (bel_refl _) _) hHeld.1, old_cell (bel_alloc (bel_refl _) _) hHeld.2.1, old_cell (bel_alloc (bel_refl _) _) hHeld.2.2⟩ | exact ⟨hg6.cell (a := ⟨w.heap.size, 0, none⟩) hHeld.1 (fun e => hnw e.symm), hg6.cell (a := ⟨w.heap.size, 1, none⟩) hHeld.2.1 (fun e => hnw e.symm), hg6.cell (a := ⟨g, 1, none⟩) hHeld.2.2 (fun e => hng e.symm)⟩ | exact ⟨cell_other hHeld.1 (by simp; omega), cell_other hHeld.2.1 (by simp; omega), cell_off hHeld.2.2 (by decide)⟩)
      clear hK K
      try simp only [Act.put, List.setIfInBounds_toArray, List.set_cons_zero, List.set_cons_succ]
      refine h_call 13 (by kernel_rfl) rfl (by kernel_rfl) (fun K hK => ?_)
      refine appG (.tmp 32) (.tmp 40) _ rfl irC_sz base 55 i0 Try.underlying30 HI.out hz0 hz1 hz2 rfl (by omega) _ rs rfl (hoi5.1.alloc _) _ 1 1 [⟨nx, kd, A5, c5, fs⟩] rfl (RdT.new1 irC_sz w5 55 ⟨nx, kd, A5, c5, fs⟩) (irC_one _) (by have := HL.out; omega) (by simp; omega) ?_ (by have := HL.out; omega)
      intro v' w6 ho6 hb6 hg6
      have hoi6 := OwnI.snoc (hoi5.alloc _) (OwnT.alloc (OwnT.lower ho5 (by simp; omega)) _) hfr ho6 hg6
      have hl6 : (rs ++ [(⟨nx, kd, A5, c5, fs⟩ : IR)]).length = n + 1 := by rw [List.length_append, HL.out]; rfl
      obtain ⟨A6, c6, hv6, hc6⟩ := hoi6.form
      rw [hl6] at hv6 hc6
      subst hv6
      have HB6 := Blk.grownR (HB5.alloc _) hg6 hng
      have hs6 := hg6.size
      simp at hs6
      obtain ⟨r0, r1, r2, r3⟩ := HB6.two
      have HL6 := Lib.hid hl6; clear hl6
      change K (Act.put _ (some 41) _) _
      refine hK.out _ _ ?_ (fun hHeld => ?_)
      · (try dsimp only) <;> (first | exact ⟨x0, x1, y1⟩ | exact hHeld | exact ⟨old_cell hb5 hHeld.1, old_cell hb5 hHeld.2.1, old_cell hb5 hHeld.2.2⟩ | exact ⟨old_cell (bel_alloc (bel_refl _) _) hHeld.1, old_cell (bel_alloc (bel_refl _) _) hHeld.2.1, old_cell (bel_alloc (bel_refl _) _) hHeld.2.2⟩ | exact ⟨hg6.cell (a := ⟨w.heap.size, 0, none⟩) hHeld.1 (fun e => hnw e.symm), hg6.cell (a := ⟨w.heap.size, 1, none⟩) hHeld.2.1 (fun e => hnw e.symm), hg6.cell (a := ⟨g, 1, none⟩) hHeld.2.2 (fun e => hng e.symm)⟩ | exact ⟨cell_other hHeld.1 (by simp; omega), cell_other hHeld.2.1 (by simp; omega), cell_off hHeld.2.2 (by decide)⟩)
      clear hK K
      try simp only [Act.put, List.setIfInBounds_toArray, List.set_cons_zero, List.set_cons_succ]
      refine h_take 14 (some 42) (?_) rfl rfl (by kernel_rfl) (by kernel_rfl) (by kernel_rfl) (fun _ _ _ h => h) (by kernel_rfl) ?_ (by assumption) ?_
      rotate_left
      · intro w hSw; (try dsimp only at hSw); go_simp
        all_goals first | with_reducible rfl | omega | (simp; omega)
      try simp only [Act.put, List.setIfInBounds_toArray, List.set_cons_zero, List.set_cons_succ]
      refine h_take 15 (some 43) (?_) rfl rfl (by kernel_rfl) (by kernel_rfl) (by kernel_rfl) (fun _ _ _ h => h) (by kernel_rfl) ?_ (by assumption) ?_
      rotate_left
      · intro w hSw; (try dsimp only at hSw); go_simp
        all_goals first | with_reducible rfl | omega | (simp; omega)
      try simp only [Act.put, List.setIfInBounds_toArray, List.set_cons_zero, List.set_cons_succ]
      refine h_call 16 (by kernel_rfl) rfl (by kernel_rfl) (fun K hK => ?_)
      go_simp
      refine hK.out _ _ ?_ (fun hHeld => ?_)
      · (try dsimp only) <;> (first | exact ⟨x0, x1, y1⟩ | exact hHeld | exact ⟨old_cell hb5 hHeld.1, old_cell hb5 hHeld.2.1, old_cell hb5 hHeld.2.2⟩ | exact ⟨old_cell (bel_alloc (bel_refl _) _) hHeld.1, old_cell (bel_alloc (bel_refl _) _) hHeld.2.1, old_cell (bel_alloc (bel_refl _) _) hHeld.2.2⟩ | exact ⟨hg6.cell (a := ⟨w.heap.size, 0, none⟩) hHeld.1 (fun e => hnw e.symm), hg6.cell (a := ⟨w.heap.size, 1, none⟩) hHeld.2.1 (fun e => hnw e.symm), hg6.cell (a := ⟨g, 1, none⟩) hHeld.2.2 (fun e => hng e.symm)⟩ | exact ⟨cell_other hHeld.1 (by simp; omega), cell_other hHeld.2.1 (by simp; omega), cell_off hHeld.2.2 (by decide)⟩)
      clear hK K
      try simp only [Act.put, List.setIfInBounds_toArray, List.set_cons_zero, List.set_cons_succ]
      refine wpAnyH_done (by kernel_rfl) ?_ _
      have HB7 : Blk (w6.setCell ⟨g, 0, none⟩ (.slice A6 (n + 1) c6)) g 32 #[.slice A6 (n + 1) c6, .int .i64 nx] := by have := HB6.set_ 0 (.slice A6 (n + 1) c6); simpa using this
      have hoi7 := hoi6.setBlk HB6 0 (.slice A6 (n + 1) c6)
      have hb7 : Below base w (w6.setCell ⟨g, 0, none⟩ (.slice A6 (n + 1) c6)) := (((gv.mono hbw).trans ((bel_drew (bel_refl w2)).mono (by omega))).trans ((hb5.mono (by simp; omega)).trans ((Below.alloc (Below.refl base w5) (by omega) _).trans hb6))).setCell hg _
      have hs7 : w.heap.size < (w6.setCell ⟨g, 0, none⟩ (.slice A6 (n + 1) c6)).heap.size := by simp; omega
      generalize hv7 : w6.setCell ⟨g, 0, none⟩ (.slice A6 (n + 1) c6) = w7 at hHeld HB7 hoi7 hb7 hs7 ⊢
      clear hv7 hHeld HB6 HB5 hoi5 hoi6 ho5 ho6 hb5 hb6 hg6 hfr hs5 hs6 q0 q1 q2 q3 r0 r1 r2 r3 y0 y1 x0 x1 HB ho hr2 gv
      obtain ⟨u0, u1, u2, u3⟩ := HB7.two
      go_wp2
      go_ret2
      obtain ⟨e1, e2, e3⟩ : rs.map itOf ++ [⟨nx, ⟨kd, fs⟩⟩] = l' ∧ nx + 1 = nx' ∧ nx = id := by (have := HAS.out; injection this with e1 e2; injection e2 with e2 e3; exact ⟨e1, e2, e3⟩)
      subst e1 e2 e3
      first | refine ⟨A6, c6, rs ++ [⟨nx, kd, A5, c5, fs⟩], ?_, by rw [HL6.out]; exact hc6, by rw [List.map_append]; rfl, ?_, ?_, hb7.setCell hg _⟩ | refine ⟨?_, A6, c6, rs ++ [⟨nx, kd, A5, c5, fs⟩], by rw [HL6.out]; exact hc6, by rw [List.map_append]; rfl, ?_, ?_, hb7.setCell hg _⟩
      · first | (rw [decide_eq_true (by omega)]; first | rfl | (congr 4; omega)) | (simp; omega)
      · rw [HL6.out]; have := HB7.set_ 1 (.int .i64 (nx + 1)); simpa using this
      · rw [HL6.out]; exact hoi7.setBlk HB7 1 _
theorem l4Assert_any (g : Nat) (A : Option Addr) (n c : Nat) (rs : List IR) (nx : Int) (kd : ByteArray) (A2 : Option Addr) (n2 c2 : Nat) (fs : List Vl) (w : World) (B2 base : Nat) (HB : Blk w g 32 #[.slice A n c, .int .i64 nx]) (ho : OwnI w base (.slice A n c) rs) (hl : rs.length = n) (hg : base ≤ g) (hr2 : RdS vC 3 w B2 A2 n2 fs) (hn : n ≤ 1048576) (hn2 : n2 ≤ 1048576) (hs : ∀ r ∈ rs, r.fs.length ≤ 1048576) (hx : 1 ≤ nx ∧ nx ≤ 1000000) (hid : ∀ r ∈ rs, 1 ≤ r.id) (l' : List It) (nx' id : Int) (has : asrt (rs.map itOf) nx ⟨kd, fs⟩ = (l', nx', id)) :
    Calls Try.prog 37 #[.pointer (some ⟨g, 0, none⟩), .agg #[.string kd, .slice A2 n2 c2]] w fun e w' => ∃ A' c' rs', e = .returned (.int .i64 id) ∧ rs'.length ≤ c' ∧ rs'.map itOf = l' ∧ Blk w' g 32 #[.slice A' rs'.length c', .int .i64 nx'] ∧ OwnI w' base (.slice A' rs'.length c') rs' ∧ Below base w w' := by
  obtain ⟨i0, hi, hz0, hz1, hz2⟩ := info_parts infoItem
  have HI := Lib.hid hi; clear hi
  have HL := Lib.hid hl; clear hl
  have HS := Lib.hid hs; clear hs
  obtain ⟨hx1, hx2⟩ := hx
  have hgl := HB.lt
  have hbw : base ≤ w.heap.size := by omega
  have hnc : n ≤ c := by obtain ⟨_, _, e, h⟩ := ho.form; injection e with _ e1 e2; omega
  obtain ⟨k0, hk0⟩ : ∃ k0, idOf (rs.map itOf) ⟨kd, fs⟩ = k0 := ⟨_, rfl⟩
  unfold asrt at has
  rw [hk0, List.length_map, HL.out] at has
  have HK := Lib.hid hk0
  have hkp : 0 ≤ k0 := by
    rw [← hk0]
    clear has hk0 HK HL
    rcases Int.lt_or_le (idOf (rs.map itOf) ⟨kd, fs⟩) 0 with h | h
    · obtain ⟨x, hx, _, h2⟩ := idOf_some (l := rs.map itOf) (f := ⟨kd, fs⟩) (by omega)
      obtain ⟨r, hr, rfl⟩ := List.mem_map.1 hx
      have := hid r hr
      have h3 : r.id = idOf (rs.map itOf) ⟨kd, fs⟩ := h2
      omega
    · exact h
  clear hid
  clear hk0
  have hnw0 : (Value.slice A n c).ownBlock ≠ some w.heap.size := fun he => by have := (World.ownsRow.lt ho.1 _ he).2; omega
  have gv : Below w.heap.size w (w.alloc (.cells #[.string kd, .slice A2 n2 c2] 38)) := bel_alloc (bel_refl w) _
  have x0 : (w.alloc (.cells #[.string kd, .slice A2 n2 c2] 38)).cell? ⟨w.heap.size, 0, none⟩ = some (.string kd) := by go_simp
  have x1 : (w.alloc (.cells #[.string kd, .slice A2 n2 c2] 38)).cell? ⟨w.heap.size, 1, none⟩ = some (.slice A2 n2 c2) := by go_simp
  have hsv : w.heap.size < (w.alloc (.cells #[.string kd, .slice A2 n2 c2] 38)).heap.size := by simp
  go_enter Try.func37, Try.ntmps37
  go_upto_region 1 with fail
  generalize hv : w.alloc (.cells #[.string kd, .slice A2 n2 c2] 38) = v at x0 x1 gv hsv ⊢
  clear hv
  replace HB := HB.kept gv
  replace ho := ho.kept gv
  replace hr2 := hr2.kept gv
  obtain ⟨y0, y1, fy0, fy1⟩ := HB.two
  refine wp_region_held_drew (S := (fun w' => w'.cell? ⟨w.heap.size, 0, none⟩ = some (.string kd) ∧ w'.cell? ⟨w.heap.size, 1, none⟩ = some (.slice A2 n2 c2) ∧ w'.cell? ⟨g, 0, none⟩ = some (.slice A n c) ∧ w'.cell? ⟨g, 1, none⟩ = some (.int .i64 nx))) (by kernel_rfl) ?_ (fun hHeld => ?_)
  · (try dsimp only) <;> (first | exact ⟨x0, x1, y0, y1⟩ | exact hHeld | exact ⟨old_cell hb2 hHeld.1, old_cell hb2 hHeld.2.1, old_cell hb2 hHeld.2.2.1, old_cell hb2 hHeld.2.2.2⟩)
  refine h_take 0 (some 6) (?_) rfl rfl (by kernel_rfl) (by kernel_rfl) (by kernel_rfl) (fun _ _ _ h => h) (by kernel_rfl) ?_ (by assumption) ?_
  rotate_left
  · intro w hSw; (try dsimp only at hSw); go_simp
    all_goals first | with_reducible rfl | omega | (simp; omega)
  try simp only [Act.put, List.setIfInBounds_toArray, List.set_cons_zero, List.set_cons_succ]
  refine h_take 1 (some 7) (?_) rfl rfl (by kernel_rfl) (by kernel_rfl) (by kernel_rfl) (fun _ _ _ h => h) (by kernel_rfl) ?_ (by assumption) ?_
  rotate_left
  · intro w hSw; (try dsimp only at hSw); go_simp
    all_goals first | with_reducible rfl | omega | (simp; omega)
  try simp only [Act.put, List.setIfInBounds_toArray, List.set_cons_zero, List.set_cons_succ]
  refine h_take 2 (some 8) (?_) rfl rfl (by kernel_rfl) (by kernel_rfl) (by kernel_rfl) (fun _ _ _ h => h) (by kernel_rfl) ?_ (by assumption) ?_
  rotate_left
  · intro w hSw; (try dsimp only at hSw); go_simp
    all_goals first | with_reducible rfl | omega | (simp; omega)
  try simp only [Act.put, List.setIfInBounds_toArray, List.set_cons_zero, List.set_cons_succ]
  refine h_take 3 (some 9) (?_) rfl rfl (by kernel_rfl) (by kernel_rfl) (by kernel_rfl) (fun _ _ _ h => h) (by kernel_rfl) ?_ (by assumption) ?_
  rotate_left
  · intro w hSw; (try dsimp only at hSw); go_simp
    all_goals first | with_reducible rfl | omega | (simp; omega)
  try simp only [Act.put, List.setIfInBounds_toArray, List.set_cons_zero, List.set_cons_succ]
  refine h_call 4 (by kernel_rfl) rfl (by kernel_rfl) (fun K hK => ?_)
  go_simp
  refine (specIdOf_any A _ c rs nx kd A2 _ c2 fs _ _ _ (show RdI v.drew _ A n rs from ho.rdM HL.out) (show RdS vC 3 v.drew B2 A2 n2 fs from hr2) (by omega) (fun r h => Nat.le_trans (HS.out r h) (by decide))).mono ?_
  rw [HK.out]
  rintro e w2 ⟨rfl, hb2⟩
  refine hK.out _ _ ?_ (fun hHeld => ?_)
  · (try dsimp only) <;> (first | exact ⟨x0, x1, y0, y1⟩ | exact hHeld | exact ⟨old_cell hb2 hHeld.1, old_cell hb2 hHeld.2.1, old_cell hb2 hHeld.2.2.1, old_cell hb2 hHeld.2.2.2⟩)
  clear hK K
  try simp only [Act.put, List.setIfInBounds_toArray, List.set_cons_zero, List.set_cons_succ]
  refine h_take 5 (some 5) (?_) rfl rfl (by kernel_rfl) (by kernel_rfl) (by kernel_rfl) (fun _ _ _ h => h) (by kernel_rfl) ?_ (by assumption) ?_
  rotate_left
  · intro w hSw; (try dsimp only at hSw); go_simp
    all_goals first | with_reducible rfl | omega | (simp; omega)
  try simp only [Act.put, List.setIfInBounds_toArray, List.set_cons_zero, List.set_cons_succ]
  refine wpAnyH_done (by kernel_rfl) ?_ _
  obtain ⟨x0, x1, y0, y1⟩ := hHeld
  replace HB := Blk.kept (w := v.drew) HB hb2
  replace ho := OwnI.kept (w := v.drew) ho hb2
  replace hr2 := RdS.kept (w := v.drew) hr2 hb2
  replace gv : Below w.heap.size w w2 := bel_trans (bel_drew gv) hb2
  have hs2 := hb2.size
  have hs3 : w.heap.size < w2.heap.size := Nat.lt_of_lt_of_le hsv hs2
  clear hb2 hs2 hsv
  obtain ⟨_, _, fy0, fy1⟩ := HB.two
  by_cases hk : k0 = 0
  case neg =>
    rw [if_pos hk] at has
    injection has with e1 has
    injection has with e2 e3
    subst e1 e2 e3
    have hkb : 0 < k0 := by omega
    go_wp2
    go_ret
    exact ⟨A, c, rs, rfl, by rw [HL.out]; exact hnc, rfl, by rw [HL.out]; exact HB, by rw [HL.out]; exact ho, gv.mono hbw⟩
  subst hk
  rw [if_neg (by decide : ¬ (0 : Int) ≠ 0)] at has
  by_cases h40 : 40 ≤ n
  · have h40b : (40 : Int) ≤ (n : Int) := by omega
    rw [if_pos (Or.inl h40)] at has
    injection has with e1 has
    injection has with e2 e3
    subst e1 e2 e3
    go_wp2
    go_ret
    first | exact ⟨A, c, rs, rfl, by rw [HL.out]; exact hnc, rfl, by rw [HL.out]; exact HB, by rw [HL.out]; exact ho, gv.mono hbw⟩ | exact ⟨rfl, A, c, rs, by rw [HL.out]; exact hnc, rfl, by rw [HL.out]; exact HB, by rw [HL.out]; exact ho, gv.mono hbw⟩
  have h40b : ¬ ((40 : Int) ≤ (n : Int)) := by omega
  have h40c : (n : Int) < 40 := by omega
  by_cases hM : nx = 1000000
  · rw [if_pos (Or.inr (by omega))] at has
    injection has with e1 has
    injection has with e2 e3
    subst e1 e2 e3
    have hMb : (1000000 : Int) ≤ nx := by omega
    clear hM
    go_wp2
    go_ret
    first | exact ⟨A, c, rs, rfl, by rw [HL.out]; exact hnc, rfl, by rw [HL.out]; exact HB, by rw [HL.out]; exact ho, gv.mono hbw⟩ | exact ⟨rfl, A, c, rs, by rw [HL.out]; exact hnc, rfl, by rw [HL.out]; exact HB, by rw [HL.out]; exact ho, gv.mono hbw⟩
  rw [if_neg (by omega)] at has
  have HAS := Lib.hid has
  have hMb : ¬ (1000000 ≤ nx) := by omega
  clear has hM
  go_upto_region 6 with fail
  have HNW := Lib.hid (hnw0 : (Value.slice A n c).ownBlock ≠ some w.heap.size)
  refine wp_region_held_drew (S := (fun w' => w'.cell? ⟨w.heap.size, 0, none⟩ = some (.string kd) ∧ w'.cell? ⟨w.heap.size, 1, none⟩ = some (.slice A2 n2 c2) ∧ w'.cell? ⟨g, 1, none⟩ = some (.int .i64 nx))) (by kernel_rfl) ?_ (fun hHeld => ?_)
  · (try dsimp only) <;> (first | exact ⟨x0, x1, y1⟩ | exact hHeld | exact ⟨old_cell hb5 hHeld.1, old_cell hb5 hHeld.2.1, old_cell hb5 hHeld.2.2⟩ | exact ⟨old_cell (bel_alloc (bel_refl _) _) hHeld.1, old_cell (bel_alloc (bel_refl _) _) hHeld.2.1, old_cell (bel_alloc (bel_refl _) _) hHeld.2.2⟩ | exact ⟨hg6.cell (a := ⟨w.heap.size, 0, none⟩) hHeld.1 (fun e => hnw e.symm), hg6.cell (a := ⟨w.heap.size, 1, none⟩) hHeld.2.1 (fun e => hnw e.symm), hg6.cell (a := ⟨g, 1, none⟩) hHeld.2.2 (fun e => hng e.symm)⟩ | exact ⟨cell_other hHeld.1 (by simp; omega), cell_other hHeld.2.1 (by simp; omega), cell_off hHeld.2.2 (by decide)⟩)
  refine h_take 0 (some 27) (?_) rfl rfl (by kernel_rfl) (by kernel_rfl) (by kernel_rfl) (fun _ _ _ h => h) (by kernel_rfl) ?_ (by assumption) ?_
  rotate_left
  · intro w hSw; (try dsimp only at hSw); go_simp
    all_goals first | with_reducible rfl | omega | (simp; omega)
  try simp only [Act.put, List.setIfInBounds_toArray, List.set_cons_zero, List.set_cons_succ]
  refine h_take 1 (some 28) (?_) rfl rfl (by kernel_rfl) (by kernel_rfl) (by kernel_rfl) (fun _ _ _ h => h) (by kernel_rfl) ?_ (by assumption) ?_
  rotate_left
  · intro w hSw; (try dsimp only at hSw); go_simp
    all_goals first | with_reducible rfl | omega | (simp; omega)
  try simp only [Act.put, List.setIfInBounds_toArray, List.set_cons_zero, List.set_cons_succ]
  refine h_take 2 (some 29) (?_) rfl rfl (by kernel_rfl) (by kernel_rfl) (by kernel_rfl) (fun _ _ _ h => h) (by kernel_rfl) ?_ (by assumption) ?_
  rotate_left
  · intro w hSw; (try dsimp only at hSw); go_simp
    all_goals first | with_reducible rfl | omega | (simp; omega)
  try simp only [Act.put, List.setIfInBounds_toArray, List.set_cons_zero, List.set_cons_succ]
  refine h_take 3 (some 30) (?_) rfl rfl (by kernel_rfl) (by kernel_rfl) (by kernel_rfl) (fun _ _ _ h => h) (by kernel_rfl) ?_ (by assumption) ?_
  rotate_left
  · intro w hSw; (try dsimp only at hSw); go_simp
    all_goals first | with_reducible rfl | omega | (simp; omega)
  try simp only [Act.put, List.setIfInBounds_toArray, List.set_cons_zero, List.set_cons_succ]
  refine h_take 5 (some 32) (?_) rfl rfl (by kernel_rfl) (by kernel_rfl) (by kernel_rfl) (fun _ _ _ h => h) (by kernel_rfl) ?_ (by assumption) ?_
  rotate_left
  · intro w hSw; (try dsimp only at hSw); go_simp
    all_goals first | with_reducible rfl | omega | (simp; omega)
  try simp only [Act.put, List.setIfInBounds_toArray, List.set_cons_zero, List.set_cons_succ]
  refine h_take 6 (some 33) (?_) rfl rfl (by kernel_rfl) (by kernel_rfl) (by kernel_rfl) (fun _ _ _ h => h) (by kernel_rfl) ?_ (by assumption) ?_
  rotate_left
  · intro w hSw; (try dsimp only at hSw); go_simp
    all_goals first | with_reducible rfl | omega | (simp; omega)
  try simp only [Act.put, List.setIfInBounds_toArray, List.set_cons_zero, List.set_cons_succ]
  refine h_take 7 (some 34) (?_) rfl rfl (by kernel_rfl) (by kernel_rfl) (by kernel_rfl) (fun _ _ _ h => h) (by kernel_rfl) ?_ (by assumption) ?_
  rotate_left
  · intro w hSw; (try dsimp only at hSw); go_simp
    all_goals first | with_reducible rfl | omega | (simp; omega)
  try simp only [Act.put, List.setIfInBounds_toArray, List.set_cons_zero, List.set_cons_succ]
  refine h_take 8 (some 35) (?_) rfl rfl (by kernel_rfl) (by kernel_rfl) (by kernel_rfl) (fun _ _ _ h => h) (by kernel_rfl) ?_ (by assumption) ?_
  rotate_left
  · intro w hSw; (try dsimp only at hSw); go_simp
    all_goals first | with_reducible rfl | omega | (simp; omega)
  try simp only [Act.put, List.setIfInBounds_toArray, List.set_cons_zero, List.set_cons_succ]
  refine h_take 9 (some 36) (?_) rfl rfl (by kernel_rfl) (by kernel_rfl) (by kernel_rfl) (fun _ _ _ h => h) (by kernel_rfl) ?_ (by assumption) ?_
  rotate_left
  · intro w hSw; (try dsimp only at hSw); go_simp
    all_goals first | with_reducible rfl | omega | (simp; omega)
  try simp only [Act.put, List.setIfInBounds_toArray, List.set_cons_zero, List.set_cons_succ]
  refine wpAnyH_ready (rs := [4, 10]) (by kernel_rfl) (by simp) ?_
  refine AllReadyH.cons rfl (fun K hK => ?_) (AllReadyH.cons rfl (fun K hK => ?_) AllReadyH.nil)
  · rw [if_pos (by kernel_rfl)]
    go_simp
    refine hK.out _ _ ?_ (fun hHeld => ?_)
    · (try dsimp only) <;> (first | exact ⟨x0, x1, y1⟩ | exact hHeld | exact ⟨old_cell hb5 hHeld.1, old_cell hb5 hHeld.2.1, old_cell hb5 hHeld.2.2⟩ | exact ⟨old_cell (bel_alloc (bel_refl _) _) hHeld.1, old_cell (bel_alloc (bel_refl _) _) hHeld.2.1, old_cell (bel_alloc (bel_refl _) _) hHeld.2.2⟩ | exact ⟨hg6.cell (a := ⟨w.heap.size, 0, none⟩) hHeld.1 (fun e => hnw e.symm), hg6.cell (a := ⟨w.heap.size, 1, none⟩) hHeld.2.1 (fun e => hnw e.symm), hg6.cell (a := ⟨g, 1, none⟩) hHeld.2.2 (fun e => hng e.symm)⟩ | exact ⟨cell_other hHeld.1 (by simp; omega), cell_other hHeld.2.1 (by simp; omega), cell_off hHeld.2.2 (by decide)⟩)
    clear hK K
    try simp only [Act.put, List.setIfInBounds_toArray, List.set_cons_zero, List.set_cons_succ]
    refine h_call 10 (by kernel_rfl) rfl (by kernel_rfl) (fun K hK => ?_)
    go_simp
    refine (l3Copy_any kd A2 _ c2 fs _ _ (show RdS vC 3 w2.drew B2 A2 n2 fs from hr2) (by omega)).mono ?_
    rintro e w5 ⟨A5, c5, rfl, ho5, hb5⟩
    have HB5 := Blk.kept (w := w2.drew) HB hb5
    have hoi5 := OwnI.kept (w := w2.drew) ho hb5
    have hfr := fresh_row (w := w2.drew) (r := ⟨nx, kd, A5, c5, fs⟩) ho ho5
    obtain ⟨q0, q1, q2, q3⟩ := HB5.two
    have hs5 := hb5.size
    simp at hs5
    have hq5 : g < w5.heap.size := by omega
    have hng := own_blk_ne ho.1 HB (by decide)
    have hnw : (Value.slice A n c).ownBlock ≠ some w.heap.size := HNW.out
    try dsimp only
    refine hK.out _ _ ?_ (fun hHeld => ?_)
    · (try dsimp only) <;> (first | exact ⟨x0, x1, y1⟩ | exact hHeld | exact ⟨old_cell hb5 hHeld.1, old_cell hb5 hHeld.2.1, old_cell hb5 hHeld.2.2⟩ | exact ⟨old_cell (bel_alloc (bel_refl _) _) hHeld.1, old_cell (bel_alloc (bel_refl _) _) hHeld.2.1, old_cell (bel_alloc (bel_refl _) _) hHeld.2.2⟩ | exact ⟨hg6.cell (a := ⟨w.heap.size, 0, none⟩) hHeld.1 (fun e => hnw e.symm), hg6.cell (a := ⟨w.heap.size, 1, none⟩) hHeld.2.1 (fun e => hnw e.symm), hg6.cell (a := ⟨g, 1, none⟩) hHeld.2.2 (fun e => hng e.symm)⟩ | exact ⟨cell_other hHeld.1 (by simp; omega), cell_other hHeld.2.1 (by simp; omega), cell_off hHeld.2.2 (by decide)⟩)
    clear hK K
    try simp only [Act.put, List.setIfInBounds_toArray, List.set_cons_zero, List.set_cons_succ]
    refine h_take 11 (some 38) (?_) rfl rfl (by kernel_rfl) (by kernel_rfl) (by kernel_rfl) (fun _ _ _ h => h) (by kernel_rfl) ?_ (by assumption) ?_
    rotate_left
    · intro w hSw; (try dsimp only at hSw); go_simp
      all_goals first | with_reducible rfl | omega | (simp; omega)
    try simp only [Act.put, List.setIfInBounds_toArray, List.set_cons_zero, List.set_cons_succ]
    refine h_call 12 (by kernel_rfl) rfl (by kernel_rfl) (fun K hK => ?_)
    go_simp
    refine hK.out _ _ ?_ (fun hHeld => ?_)
    · (try dsimp only) <;> (first | exact ⟨x0, x1, y1⟩ | exact hHeld | exact ⟨old_cell hb5 hHeld.1, old_cell hb5 hHeld.2.1, old_cell hb5 hHeld.2.2⟩ | exact ⟨old_cell (bel_alloc (bel_refl _) _) hHeld.1, old_cell (bel_alloc (bel_refl _) _) hHeld.2.1, old_cell (bel_alloc (bel_refl _) _) hHeld.2.2⟩ | exact ⟨hg6.cell (a := ⟨w.heap.size, 0, none⟩) hHeld.1 (fun e => hnw e.symm), hg6.cell (a := ⟨w.heap.size, 1, none⟩) hHeld.2.1 (fun e => hnw e.symm), hg6.cell (a := ⟨g, 1, none⟩) hHeld.2.2 (fun e => hng e.symm)⟩ | exact ⟨cell_other hHeld.1 (by simp; omega), cell_other hHeld.2.1 (by simp; omega), cell_off hHeld.2.2 (by decide)⟩)
    clear hK K
    try simp only [Act.put, List.setIfInBounds_toArray, List.set_cons_zero, List.set_cons_succ]
    refine h_call 13 (by kernel_rfl) rfl (by kernel_rfl) (fun K hK => ?_)
    refine appG (.tmp 31) (.tmp 39) _ rfl irC_sz base 55 i0 Try.underlying30 HI.out hz0 hz1 hz2 rfl (by omega) _ rs rfl (hoi5.1.alloc _) _ 1 1 [⟨nx, kd, A5, c5, fs⟩] rfl (RdT.new1 irC_sz w5 55 ⟨nx, kd, A5, c5, fs⟩) (irC_one _) (by have := HL.out; omega) (by simp; omega) ?_ (by have := HL.out; omega)
    intro v' w6 ho6 hb6 hg6
    have hoi6 := OwnI.snoc (hoi5.alloc _) (OwnT.alloc (OwnT.lower ho5 (by simp; omega)) _) hfr ho6 hg6
    have hl6 : (rs ++ [(⟨nx, kd, A5, c5, fs⟩ : IR)]).length = n + 1 := by rw [List.length_append, HL.out]; rfl
    obtain ⟨A6, c6, hv6, hc6⟩ := hoi6.form
    rw [hl6] at hv6 hc6
    subst hv6
    have HB6 := Blk.grownR (HB5.alloc _) hg6 hng
    have hs6 := hg6.size
    simp at hs6
    obtain ⟨r0, r1, r2, r3⟩ := HB6.two
    have HL6 := Lib.hid hl6; clear hl6
    change K (Act.put _ (some 40) _) _
    refine hK.out _ _ ?_ (fun hHeld => ?_)
    · (try dsimp only) <;> (first | exact ⟨x0, x1, y1⟩ | exact hHeld | exact ⟨old_cell hb5 hHeld.1, old_cell hb5 hHeld.2.1, old_cell hb5 hHeld.2.2⟩ | exact ⟨old_cell (bel_alloc (bel_refl _) _) hHeld.1, old_cell (bel_alloc (bel_refl _) _) hHeld.2.1, old_cell (bel_alloc (bel_refl _) _) hHeld.2.2⟩ | exact ⟨hg6.cell (a := ⟨w.heap.size, 0, none⟩) hHeld.1 (fun e => hnw e.symm), hg6.cell (a := ⟨w.heap.size, 1, none⟩) hHeld.2.1 (fun e => hnw e.symm), hg6.cell (a := ⟨g, 1, none⟩) hHeld.2.2 (fun e => hng e.symm)⟩ | exact ⟨cell_other hHeld.1 (by simp; omega), cell_other hHeld.2.1 (by simp; omega), cell_off hHeld.2.2 (by decide)⟩)
    clear hK K
    try simp only [Act.put, List.setIfInBounds_toArray, List.set_cons_zero, List.set_cons_succ]
    refine h_take 14 (some 41) (?_) rfl rfl (by kernel_rfl) (by kernel_rfl) (by kernel_rfl) (fun _ _ _ h => h) (by kernel_rfl) ?_ (by assumption) ?_
    rotate_left
    · intro w hSw; (try dsimp only at hSw); go_simp
      all_goals first | with_reducible rfl | omega | (simp; omega)
    try simp only [Act.put, List.setIfInBounds_toArray, List.set_cons_zero, List.set_cons_succ]
    refine h_take 15 (some 42) (?_) rfl rfl (by kernel_rfl) (by kernel_rfl) (by kernel_rfl) (fun _ _ _ h => h) (by kernel_rfl) ?_ (by assumption) ?_
    rotate_left
    · intro w hSw; (try dsimp only at hSw); go_simp
      all_goals first | with_reducible rfl | omega | (simp; omega)
    try simp only [Act.put, List.setIfInBounds_toArray, List.set_cons_zero, List.set_cons_succ]
    refine h_call 16 (by kernel_rfl) rfl (by kernel_rfl) (fun K hK => ?_)
    go_simp
    refine hK.out _ _ ?_ (fun hHeld => ?_)
    · (try dsimp only) <;> (first | exact ⟨x0, x1, y1⟩ | exact hHeld | exact ⟨old_cell hb5 hHeld.1, old_cell hb5 hHeld.2.1, old_cell hb5 hHeld.2.2⟩ | exact ⟨old_cell (bel_alloc (bel_refl _) _) hHeld.1, old_cell (bel_alloc (bel_refl _) _) hHeld.2.1, old_cell (bel_alloc (bel_refl _) _) hHeld.2.2⟩ | exact ⟨hg6.cell (a := ⟨w.heap.size, 0, none⟩) hHeld.1 (fun e => hnw e.symm), hg6.cell (a := ⟨w.heap.size, 1, none⟩) hHeld.2.1 (fun e => hnw e.symm), hg6.cell (a := ⟨g, 1, none⟩) hHeld.2.2 (fun e => hng e.symm)⟩ | exact ⟨cell_other hHeld.1 (by simp; omega), cell_other hHeld.2.1 (by simp; omega), cell_off hHeld.2.2 (by decide)⟩)
    clear hK K
    try simp only [Act.put, List.setIfInBounds_toArray, List.set_cons_zero, List.set_cons_succ]
    refine wpAnyH_done (by kernel_rfl) ?_ _
    have HB7 : Blk (w6.setCell ⟨g, 0, none⟩ (.slice A6 (n + 1) c6)) g 32 #[.slice A6 (n + 1) c6, .int .i64 nx] := by have := HB6.set_ 0 (.slice A6 (n + 1) c6); simpa using this
    have hoi7 := hoi6.setBlk HB6 0 (.slice A6 (n + 1) c6)
    have hb7 : Below base w (w6.setCell ⟨g, 0, none⟩ (.slice A6 (n + 1) c6)) := (((gv.mono hbw).trans ((bel_drew (bel_refl w2)).mono (by omega))).trans ((hb5.mono (by simp; omega)).trans ((Below.alloc (Below.refl base w5) (by omega) _).trans hb6))).setCell hg _
    have hs7 : w.heap.size < (w6.setCell ⟨g, 0, none⟩ (.slice A6 (n + 1) c6)).heap.size := by simp; omega
    generalize hv7 : w6.setCell ⟨g, 0, none⟩ (.slice A6 (n + 1) c6) = w7 at hHeld HB7 hoi7 hb7 hs7 ⊢
    clear hv7 hHeld HB6 HB5 hoi5 hoi6 ho5 ho6 hb5 hb6 hg6 hfr hs5 hs6 q0 q1 q2 q3 r0 r1 r2 r3 y0 y1 x0 x1 HB ho hr2 gv
    obtain ⟨u0, u1, u2, u3⟩ := HB7.two
    go_wp2
    go_ret
    obtain ⟨e1, e2, e3⟩ : rs.map itOf ++ [⟨nx, ⟨kd, fs⟩⟩] = l' ∧ nx + 1 = nx' ∧ nx = id := by (have := HAS.out; injection this with e1 e2; injection e2 with e2 e3; exact ⟨e1, e2, e3⟩)
    subst e1 e2 e3
    first | refine ⟨A6, c6, rs ++ [⟨nx, kd, A5, c5, fs⟩], ?_, by rw [HL6.out]; exact hc6, by rw [List.map_append]; rfl, ?_, ?_, hb7.setCell hg _⟩ | refine ⟨?_, A6, c6, rs ++ [⟨nx, kd, A5, c5, fs⟩], by rw [HL6.out]; exact hc6, by rw [List.map_append]; rfl, ?_, ?_, hb7.setCell hg _⟩
    · first | rfl | (congr 2; omega)
    · rw [HL6.out]; have := HB7.set_ 1 (.int .i64 (nx + 1)); simpa using this
    · rw [HL6.out]; exact hoi7.setBlk HB7 1 _
  · rw [if_pos (by kernel_rfl)]
    go_simp
    refine (l3Copy_any kd A2 _ c2 fs _ _ (show RdS vC 3 w2.drew B2 A2 n2 fs from hr2) (by omega)).mono ?_
    rintro e w5 ⟨A5, c5, rfl, ho5, hb5⟩
    have HB5 := Blk.kept (w := w2.drew) HB hb5
    have hoi5 := OwnI.kept (w := w2.drew) ho hb5
    have hfr := fresh_row (w := w2.drew) (r := ⟨nx, kd, A5, c5, fs⟩) ho ho5
    obtain ⟨q0, q1, q2, q3⟩ := HB5.two
    have hs5 := hb5.size
    simp at hs5
    have hq5 : g < w5.heap.size := by omega
    have hng := own_blk_ne ho.1 HB (by decide)
    have hnw : (Value.slice A n c).ownBlock ≠ some w.heap.size := HNW.out
    try dsimp only
    refine hK.out _ _ ?_ (fun hHeld => ?_)
    · (try dsimp only) <;> (first | exact ⟨x0, x1, y1⟩ | exact hHeld | exact ⟨old_cell hb5 hHeld.1, old_cell hb5 hHeld.2.1, old_cell hb5 hHeld.2.2⟩ | exact ⟨old_cell (bel_alloc (bel_refl _) _) hHeld.1, old_cell (bel_alloc (bel_refl _) _) hHeld.2.1, old_cell (bel_alloc (bel_refl _) _) hHeld.2.2⟩ | exact ⟨hg6.cell (a := ⟨w.heap.size, 0, none⟩) hHeld.1 (fun e => hnw e.symm), hg6.cell (a := ⟨w.heap.size, 1, none⟩) hHeld.2.1 (fun e => hnw e.symm), hg6.cell (a := ⟨g, 1, none⟩) hHeld.2.2 (fun e => hng e.symm)⟩ | exact ⟨cell_other hHeld.1 (by simp; omega), cell_other hHeld.2.1 (by simp; omega), cell_off hHeld.2.2 (by decide)⟩)
    clear hK K
    try simp only [Act.put, List.setIfInBounds_toArray, List.set_cons_zero, List.set_cons_succ]
    refine h_take 11 (some 38) (?_) rfl rfl (by kernel_rfl) (by kernel_rfl) (by kernel_rfl) (fun _ _ _ h => h) (by kernel_rfl) ?_ (by assumption) ?_
    rotate_left
    · intro w hSw; (try dsimp only at hSw); go_simp
      all_goals first | with_reducible rfl | omega | (simp; omega)
    try simp only [Act.put, List.setIfInBounds_toArray, List.set_cons_zero, List.set_cons_succ]
    refine wpAnyH_ready (rs := [4, 12]) (by kernel_rfl) (by simp) ?_
    refine AllReadyH.cons rfl (fun K hK => ?_) (AllReadyH.cons rfl (fun K hK => ?_) AllReadyH.nil)
    · rw [if_pos (by kernel_rfl)]
      go_simp
      refine hK.out _ _ ?_ (fun hHeld => ?_)
      · (try dsimp only) <;> (first | exact ⟨x0, x1, y1⟩ | exact hHeld | exact ⟨old_cell hb5 hHeld.1, old_cell hb5 hHeld.2.1, old_cell hb5 hHeld.2.2⟩ | exact ⟨old_cell (bel_alloc (bel_refl _) _) hHeld.1, old_cell (bel_alloc (bel_refl _) _) hHeld.2.1, old_cell (bel_alloc (bel_refl _) _) hHeld.2.2⟩ | exact ⟨hg6.cell (a := ⟨w.heap.size, 0, none⟩) hHeld.1 (fun e => hnw e.symm), hg6.cell (a := ⟨w.heap.size, 1, none⟩) hHeld.2.1 (fun e => hnw e.symm), hg6.cell (a := ⟨g, 1, none⟩) hHeld.2.2 (fun e => hng e.symm)⟩ | exact ⟨cell_other hHeld.1 (by simp; omega), cell_other hHeld.2.1 (by simp; omega), cell_off hHeld.2.2 (by decide)⟩)
      clear hK K
      try simp only [Act.put, List.setIfInBounds_toArray, List.set_cons_zero, List.set_cons_succ]
      refine h_call 12 (by kernel_rfl) rfl (by kernel_rfl) (fun K hK => ?_)
      go_simp
      refine hK.out _ _ ?_ (fun hHeld => ?_)
      · (try dsimp only) <;> (first | exact ⟨x0, x1, y1⟩ | exact hHeld | exact ⟨old_cell hb5 hHeld.1, old_cell hb5 hHeld.2.1, old_cell hb5 hHeld.2.2⟩ | exact ⟨old_cell (bel_alloc (bel_refl _) _) hHeld.1, old_cell (bel_alloc (bel_refl _) _) hHeld.2.1, old_cell (bel_alloc (bel_refl _) _) hHeld.2.2⟩ | exact ⟨hg6.cell (a := ⟨w.heap.size, 0, none⟩) hHeld.1 (fun e => hnw e.symm), hg6.cell (a := ⟨w.heap.size, 1, none⟩) hHeld.2.1 (fun e => hnw e.symm), hg6.cell (a := ⟨g, 1, none⟩) hHeld.2.2 (fun e => hng e.symm)⟩ | exact ⟨cell_other hHeld.1 (by simp; omega), cell_other hHeld.2.1 (by simp; omega), cell_off hHeld.2.2 (by decide)⟩)
      clear hK K
      try simp only [Act.put, List.setIfInBounds_toArray, List.set_cons_zero, List.set_cons_succ]
      refine h_call 13 (by kernel_rfl) rfl (by kernel_rfl) (fun K hK => ?_)
      refine appG (.tmp 31) (.tmp 39) _ rfl irC_sz base 55 i0 Try.underlying30 HI.out hz0 hz1 hz2 rfl (by omega) _ rs rfl (hoi5.1.alloc _) _ 1 1 [⟨nx, kd, A5, c5, fs⟩] rfl (RdT.new1 irC_sz w5 55 ⟨nx, kd, A5, c5, fs⟩) (irC_one _) (by have := HL.out; omega) (by simp; omega) ?_ (by have := HL.out; omega)
      intro v' w6 ho6 hb6 hg6
      have hoi6 := OwnI.snoc (hoi5.alloc _) (OwnT.alloc (OwnT.lower ho5 (by simp; omega)) _) hfr ho6 hg6
      have hl6 : (rs ++ [(⟨nx, kd, A5, c5, fs⟩ : IR)]).length = n + 1 := by rw [List.length_append, HL.out]; rfl
      obtain ⟨A6, c6, hv6, hc6⟩ := hoi6.form
      rw [hl6] at hv6 hc6
      subst hv6
      have HB6 := Blk.grownR (HB5.alloc _) hg6 hng
      have hs6 := hg6.size
      simp at hs6
      obtain ⟨r0, r1, r2, r3⟩ := HB6.two
      have HL6 := Lib.hid hl6; clear hl6
      change K (Act.put _ (some 40) _) _
      refine hK.out _ _ ?_ (fun hHeld => ?_)
      · (try dsimp only) <;> (first | exact ⟨x0, x1, y1⟩ | exact hHeld | exact ⟨old_cell hb5 hHeld.1, old_cell hb5 hHeld.2.1, old_cell hb5 hHeld.2.2⟩ | exact ⟨old_cell (bel_alloc (bel_refl _) _) hHeld.1, old_cell (bel_alloc (bel_refl _) _) hHeld.2.1, old_cell (bel_alloc (bel_refl _) _) hHeld.2.2⟩ | exact ⟨hg6.cell (a := ⟨w.heap.size, 0, none⟩) hHeld.1 (fun e => hnw e.symm), hg6.cell (a := ⟨w.heap.size, 1, none⟩) hHeld.2.1 (fun e => hnw e.symm), hg6.cell (a := ⟨g, 1, none⟩) hHeld.2.2 (fun e => hng e.symm)⟩ | exact ⟨cell_other hHeld.1 (by simp; omega), cell_other hHeld.2.1 (by simp; omega), cell_off hHeld.2.2 (by decide)⟩)
      clear hK K
      try simp only [Act.put, List.setIfInBounds_toArray, List.set_cons_zero, List.set_cons_succ]
      refine h_take 14 (some 41) (?_) rfl rfl (by kernel_rfl) (by kernel_rfl) (by kernel_rfl) (fun _ _ _ h => h) (by kernel_rfl) ?_ (by assumption) ?_
      rotate_left
      · intro w hSw; (try dsimp only at hSw); go_simp
        all_goals first | with_reducible rfl | omega | (simp; omega)
      try simp only [Act.put, List.setIfInBounds_toArray, List.set_cons_zero, List.set_cons_succ]
      refine h_take 15 (some 42) (?_) rfl rfl (by kernel_rfl) (by kernel_rfl) (by kernel_rfl) (fun _ _ _ h => h) (by kernel_rfl) ?_ (by assumption) ?_
      rotate_left
      · intro w hSw; (try dsimp only at hSw); go_simp
        all_goals first | with_reducible rfl | omega | (simp; omega)
      try simp only [Act.put, List.setIfInBounds_toArray, List.set_cons_zero, List.set_cons_succ]
      refine h_call 16 (by kernel_rfl) rfl (by kernel_rfl) (fun K hK => ?_)
      go_simp
      refine hK.out _ _ ?_ (fun hHeld => ?_)
      · (try dsimp only) <;> (first | exact ⟨x0, x1, y1⟩ | exact hHeld | exact ⟨old_cell hb5 hHeld.1, old_cell hb5 hHeld.2.1, old_cell hb5 hHeld.2.2⟩ | exact ⟨old_cell (bel_alloc (bel_refl _) _) hHeld.1, old_cell (bel_alloc (bel_refl _) _) hHeld.2.1, old_cell (bel_alloc (bel_refl _) _) hHeld.2.2⟩ | exact ⟨hg6.cell (a := ⟨w.heap.size, 0, none⟩) hHeld.1 (fun e => hnw e.symm), hg6.cell (a := ⟨w.heap.size, 1, none⟩) hHeld.2.1 (fun e => hnw e.symm), hg6.cell (a := ⟨g, 1, none⟩) hHeld.2.2 (fun e => hng e.symm)⟩ | exact ⟨cell_other hHeld.1 (by simp; omega), cell_other hHeld.2.1 (by simp; omega), cell_off hHeld.2.2 (by decide)⟩)
      clear hK K
      try simp only [Act.put, List.setIfInBounds_toArray, List.set_cons_zero, List.set_cons_succ]
      refine wpAnyH_done (by kernel_rfl) ?_ _
      have HB7 : Blk (w6.setCell ⟨g, 0, none⟩ (.slice A6 (n + 1) c6)) g 32 #[.slice A6 (n + 1) c6, .int .i64 nx] := by have := HB6.set_ 0 (.slice A6 (n + 1) c6); simpa using this
      have hoi7 := hoi6.setBlk HB6 0 (.slice A6 (n + 1) c6)
      have hb7 : Below base w (w6.setCell ⟨g, 0, none⟩ (.slice A6 (n + 1) c6)) := (((gv.mono hbw).trans ((bel_drew (bel_refl w2)).mono (by omega))).trans ((hb5.mono (by simp; omega)).trans ((Below.alloc (Below.refl base w5) (by omega) _).trans hb6))).setCell hg _
      have hs7 : w.heap.size < (w6.setCell ⟨g, 0, none⟩ (.slice A6 (n + 1) c6)).heap.size := by simp; omega
      generalize hv7 : w6.setCell ⟨g, 0, none⟩ (.slice A6 (n + 1) c6) = w7 at hHeld HB7 hoi7 hb7 hs7 ⊢
      clear hv7 hHeld HB6 HB5 hoi5 hoi6 ho5 ho6 hb5 hb6 hg6 hfr hs5 hs6 q0 q1 q2 q3 r0 r1 r2 r3 y0 y1 x0 x1 HB ho hr2 gv
      obtain ⟨u0, u1, u2, u3⟩ := HB7.two
      go_wp2
      go_ret
      obtain ⟨e1, e2, e3⟩ : rs.map itOf ++ [⟨nx, ⟨kd, fs⟩⟩] = l' ∧ nx + 1 = nx' ∧ nx = id := by (have := HAS.out; injection this with e1 e2; injection e2 with e2 e3; exact ⟨e1, e2, e3⟩)
      subst e1 e2 e3
      first | refine ⟨A6, c6, rs ++ [⟨nx, kd, A5, c5, fs⟩], ?_, by rw [HL6.out]; exact hc6, by rw [List.map_append]; rfl, ?_, ?_, hb7.setCell hg _⟩ | refine ⟨?_, A6, c6, rs ++ [⟨nx, kd, A5, c5, fs⟩], by rw [HL6.out]; exact hc6, by rw [List.map_append]; rfl, ?_, ?_, hb7.setCell hg _⟩
      · first | rfl | (congr 2; omega)
      · rw [HL6.out]; have := HB7.set_ 1 (.int .i64 (nx + 1)); simpa using this
      · rw [HL6.out]; exact hoi7.setBlk HB7 1 _
    · rw [if_pos (by kernel_rfl)]
      go_simp
      refine hK.out _ _ ?_ (fun hHeld => ?_)
      · (try dsimp only) <;> (first | exact ⟨x0, x1, y1⟩ | exact hHeld | exact ⟨old_cell hb5 hHeld.1, old_cell hb5 hHeld.2.1, old_cell hb5 hHeld.2.2⟩ | exact ⟨old_cell (bel_alloc (bel_refl _) _) hHeld.1, old_cell (bel_alloc (bel_refl _) _) hHeld.2.1, old_cell (bel_alloc (bel_refl _) _) hHeld.2.2⟩ | exact ⟨hg6.cell (a := ⟨w.heap.size, 0, none⟩) hHeld.1 (fun e => hnw e.symm), hg6.cell (a := ⟨w.heap.size, 1, none⟩) hHeld.2.1 (fun e => hnw e.symm), hg6.cell (a := ⟨g, 1, none⟩) hHeld.2.2 (fun e => hng e.symm)⟩ | exact ⟨cell_other hHeld.1 (by simp; omega), cell_other hHeld.2.1 (by simp; omega), cell_off hHeld.2.2 (by decide)⟩)
      clear hK K
      try simp only [Act.put, List.setIfInBounds_toArray, List.set_cons_zero, List.set_cons_succ]
      refine h_call 4 (by kernel_rfl) rfl (by kernel_rfl) (fun K hK => ?_)
      go_simp
      refine hK.out _ _ ?_ (fun hHeld => ?_)
      · (try dsimp only) <;> (first | exact ⟨x0, x1, y1⟩ | exact hHeld | exact ⟨old_cell hb5 hHeld.1, old_cell hb5 hHeld.2.1, old_cell hb5 hHeld.2.2⟩ | exact ⟨old_cell (bel_alloc (bel_refl _) _) hHeld.1, old_cell (bel_alloc (bel_refl _) _) hHeld.2.1, old_cell (bel_alloc (bel_refl _) _) hHeld.2.2⟩ | exact ⟨hg6.cell (a := ⟨w.heap.size, 0, none⟩) hHeld.1 (fun e => hnw e.symm), hg6.cell (a := ⟨w.heap.size, 1, none⟩) hHeld.2.1 (fun e => hnw e.symm), hg6.cell (a := ⟨g, 1, none⟩) hHeld.2.2 (fun e => hng e.symm)⟩ | exact ⟨cell_other hHeld.1 (by simp; omega), cell_other hHeld.2.1 (by simp; omega), cell_off hHeld.2.2 (by decide)⟩)
      clear hK K
      try simp only [Act.put, List.setIfInBounds_toArray, List.set_cons_zero, List.set_cons_succ]
      refine h_call 13 (by kernel_rfl) rfl (by kernel_rfl) (fun K hK => ?_)
      refine appG (.tmp 31) (.tmp 39) _ rfl irC_sz base 55 i0 Try.underlying30 HI.out hz0 hz1 hz2 rfl (by omega) _ rs rfl (hoi5.1.alloc _) _ 1 1 [⟨nx, kd, A5, c5, fs⟩] rfl (RdT.new1 irC_sz w5 55 ⟨nx, kd, A5, c5, fs⟩) (irC_one _) (by have := HL.out; omega) (by simp; omega) ?_ (by have := HL.out; omega)
      intro v' w6 ho6 hb6 hg6
      have hoi6 := OwnI.snoc (hoi5.alloc _) (OwnT.alloc (OwnT.lower ho5 (by simp; omega)) _) hfr ho6 hg6
      have hl6 : (rs ++ [(⟨nx, kd, A5, c5, fs⟩ : IR)]).length = n + 1 := by rw [List.length_append, HL.out]; rfl
      obtain ⟨A6, c6, hv6, hc6⟩ := hoi6.form
      rw [hl6] at hv6 hc6
      subst hv6
      have HB6 := Blk.grownR (HB5.alloc _) hg6 hng
      have hs6 := hg6.size
      simp at hs6
      obtain ⟨r0, r1, r2, r3⟩ := HB6.two
      have HL6 := Lib.hid hl6; clear hl6
      change K (Act.put _ (some 40) _) _
      refine hK.out _ _ ?_ (fun hHeld => ?_)
      · (try dsimp only) <;> (first | exact ⟨x0, x1, y1⟩ | exact hHeld | exact ⟨old_cell hb5 hHeld.1, old_cell hb5 hHeld.2.1, old_cell hb5 hHeld.2.2⟩ | exact ⟨old_cell (bel_alloc (bel_refl _) _) hHeld.1, old_cell (bel_alloc (bel_refl _) _) hHeld.2.1, old_cell (bel_alloc (bel_refl _) _) hHeld.2.2⟩ | exact ⟨hg6.cell (a := ⟨w.heap.size, 0, none⟩) hHeld.1 (fun e => hnw e.symm), hg6.cell (a := ⟨w.heap.size, 1, none⟩) hHeld.2.1 (fun e => hnw e.symm), hg6.cell (a := ⟨g, 1, none⟩) hHeld.2.2 (fun e => hng e.symm)⟩ | exact ⟨cell_other hHeld.1 (by simp; omega), cell_other hHeld.2.1 (by simp; omega), cell_off hHeld.2.2 (by decide)⟩)
      clear hK K
      try simp only [Act.put, List.setIfInBounds_toArray, List.set_cons_zero, List.set_cons_succ]
      refine h_take 14 (some 41) (?_) rfl rfl (by kernel_rfl) (by kernel_rfl) (by kernel_rfl) (fun _ _ _ h => h) (by kernel_rfl) ?_ (by assumption) ?_
      rotate_left
      · intro w hSw; (try dsimp only at hSw); go_simp
        all_goals first | with_reducible rfl | omega | (simp; omega)
      try simp only [Act.put, List.setIfInBounds_toArray, List.set_cons_zero, List.set_cons_succ]
      refine h_take 15 (some 42) (?_) rfl rfl (by kernel_rfl) (by kernel_rfl) (by kernel_rfl) (fun _ _ _ h => h) (by kernel_rfl) ?_ (by assumption) ?_
      rotate_left
      · intro w hSw; (try dsimp only at hSw); go_simp
        all_goals first | with_reducible rfl | omega | (simp; omega)
      try simp only [Act.put, List.setIfInBounds_toArray, List.set_cons_zero, List.set_cons_succ]
      refine h_call 16 (by kernel_rfl) rfl (by kernel_rfl) (fun K hK => ?_)
      go_simp
      refine hK.out _ _ ?_ (fun hHeld => ?_)
      · (try dsimp only) <;> (first | exact ⟨x0, x1, y1⟩ | exact hHeld | exact ⟨old_cell hb5 hHeld.1, old_cell hb5 hHeld.2.1, old_cell hb5 hHeld.2.2⟩ | exact ⟨old_cell (bel_alloc (bel_refl _) _) hHeld.1, old_cell (bel_alloc (bel_refl _) _) hHeld.2.1, old_cell (bel_alloc (bel_refl _) _) hHeld.2.2⟩ | exact ⟨hg6.cell (a := ⟨w.heap.size, 0, none⟩) hHeld.1 (fun e => hnw e.symm), hg6.cell (a := ⟨w.heap.size, 1, none⟩) hHeld.2.1 (fun e => hnw e.symm), hg6.cell (a := ⟨g, 1, none⟩) hHeld.2.2 (fun e => hng e.symm)⟩ | exact ⟨cell_other hHeld.1 (by simp; omega), cell_other hHeld.2.1 (by simp; omega), cell_off hHeld.2.2 (by decide)⟩)
      clear hK K
      try simp only [Act.put, List.setIfInBounds_toArray, List.set_cons_zero, List.set_cons_succ]
      refine wpAnyH_done (by kernel_rfl) ?_ _
      have HB7 : Blk (w6.setCell ⟨g, 0, none⟩ (.slice A6 (n + 1) c6)) g 32 #[.slice A6 (n + 1) c6, .int .i64 nx] := by have := HB6.set_ 0 (.slice A6 (n + 1) c6); simpa using this
      have hoi7 := hoi6.setBlk HB6 0 (.slice A6 (n + 1) c6)
      have hb7 : Below base w (w6.setCell ⟨g, 0, none⟩ (.slice A6 (n + 1) c6)) := (((gv.mono hbw).trans ((bel_drew (bel_refl w2)).mono (by omega))).trans ((hb5.mono (by simp; omega)).trans ((Below.alloc (Below.refl base w5) (by omega) _).trans hb6))).setCell hg _
      have hs7 : w.heap.size < (w6.setCell ⟨g, 0, none⟩ (.slice A6 (n + 1) c6)).heap.size := by simp; omega
      generalize hv7 : w6.setCell ⟨g, 0, none⟩ (.slice A6 (n + 1) c6) = w7 at hHeld HB7 hoi7 hb7 hs7 ⊢
      clear hv7 hHeld HB6 HB5 hoi5 hoi6 ho5 ho6 hb5 hb6 hg6 hfr hs5 hs6 q0 q1 q2 q3 r0 r1 r2 r3 y0 y1 x0 x1 HB ho hr2 gv
      obtain ⟨u0, u1, u2, u3⟩ := HB7.two
      go_wp2
      go_ret
      obtain ⟨e1, e2, e3⟩ : rs.map itOf ++ [⟨nx, ⟨kd, fs⟩⟩] = l' ∧ nx + 1 = nx' ∧ nx = id := by (have := HAS.out; injection this with e1 e2; injection e2 with e2 e3; exact ⟨e1, e2, e3⟩)
      subst e1 e2 e3
      first | refine ⟨A6, c6, rs ++ [⟨nx, kd, A5, c5, fs⟩], ?_, by rw [HL6.out]; exact hc6, by rw [List.map_append]; rfl, ?_, ?_, hb7.setCell hg _⟩ | refine ⟨?_, A6, c6, rs ++ [⟨nx, kd, A5, c5, fs⟩], by rw [HL6.out]; exact hc6, by rw [List.map_append]; rfl, ?_, ?_, hb7.setCell hg _⟩
      · first | rfl | (congr 2; omega)
      · rw [HL6.out]; have := HB7.set_ 1 (.int .i64 (nx + 1)); simpa using this
      · rw [HL6.out]; exact hoi7.setBlk HB7 1 _
end Go.Proofs.Ytndhjijcicebkaa
