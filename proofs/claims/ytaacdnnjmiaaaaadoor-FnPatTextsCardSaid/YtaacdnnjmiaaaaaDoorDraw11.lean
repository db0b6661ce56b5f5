/- What the drawing functions of whatever patterns and arguments answer. No condition but lengths. -/
import Derived.Test.YtaacdnnjmiaaaaaDoorDraw10
import Derived.Test.YtaacdnnjmiaaaaaDoorDrawV
import Derived.Test.YtaacdnnjmiaaaaaDoorApp3
namespace Go.Proofs.YtaacdnnjmiaaaaaDoor
open Go.RowKit
set_option maxRecDepth 100000
set_option maxHeartbeats 8000000
theorem OwnT.ne_blk {α : Type} {f : α → List Value} {z : Nat} {w : World} {base : Nat} {e : TypeId} {v : Value} {xs : List α} (h : OwnT f z w base e v xs) {b : Nat} {t : TypeId} {cs : Array Value} (hB : Blk w b t cs) (hne : e ≠ t) : v.ownBlock ≠ some b := by
  intro hv
  rcases h.2 with ⟨rfl, _⟩ | ⟨g, cap, cur, rfl, _, hg, _⟩
  · cases hv
  · injection hv with hv
    have hv : g = b := hv
    subst hv
    unfold Blk at hB
    rw [hg] at hB
    injection hB with hB
    injection hB with h1 h2
    exact hne h2
theorem OwnT.set_ne {α : Type} {f : α → List Value} {z : Nat} {w : World} {base : Nat} {e : TypeId} {v : Value} {xs : List α} (h : OwnT f z w base e v xs) {p : Addr} (hp : v.ownBlock ≠ some p.block) (u : Value) : OwnT f z (w.setCell p u) base e v xs :=
  World.ownsRow.kept h (row := some p.block) ⟨rfl, rfl, rfl, by simp, fun k _ hk => heap_setCell_other w p k u (fun e => hk (by rw [e]))⟩ (.inr hp)
theorem alloc_sz (w : World) (o : Obj) : (w.alloc o).heap.size = w.heap.size + 1 := by simp
theorem Blk.grownO {w w' : World} {b : Nat} {t : TypeId} {cs : Array Value} {row : Option Nat} (h : Blk w b t cs) (hg : w.grownBy w' row) (hne : row ≠ some b) : Blk w' b t cs := (hg.block b h.lt (fun e => hne e.symm)).trans h
theorem Rd.grownNe {w w' : World} {B z n b g : Nat} {xs : List Value} (h : Rd w B z (some ⟨b, 0, none⟩) n xs) (hg : w.grownBy w' (some g)) (hne : b ≠ g) (hb : b < w.heap.size) : Rd w' B z (some ⟨b, 0, none⟩) n xs :=
  ⟨h.1, fun h0 => by
    obtain ⟨b2, o2, he, hl, hc⟩ := h.2 h0
    injection he with he
    injection he with e1 e2
    subst e1; subst e2
    exact ⟨b, 0, rfl, hl, fun j u hu => (World.cell?_of_block (a := ⟨b, 0 + j, none⟩) (hg.block b hb (by intro e; injection e with e; exact hne e))).trans (hc j u hu)⟩⟩
def lenAt (w : World) (b : Nat) : Nat := match w.cell? ⟨b, 1, none⟩ with | some (.slice _ n _) => n | _ => 0
def DrawnQ (g : Nat) (code : List UInt8) (w : World) (e : Ending) (w' : World) : Prop :=
  ∃ (kd : ByteArray) (A : Option Addr) (c : Nat) (ags : List Ag) (nt : Bool), kd.size ≤ 30 ∧ ags.length ≤ 6 ∧ (∀ x ∈ ags, smallA x) ∧ e = .returned (.agg #[.string kd, .slice A ags.length c, .bool nt]) ∧ OwnT aC 5 w' w.heap.size 33 (.slice A ags.length c) ags ∧ Cur w' g code ∧ w.grownBy w' (some g)
theorem l6Any_any (g : Nat) (code : List UInt8) (w : World) (hc : Cur w g code) : Calls Tryd.prog 16 #[.pointer (some ⟨g, 0, none⟩)] w (DrawnQ g code w) := by
  obtain ⟨i0, hi, hz0, hz1, hz2⟩ := info_parts infoArg
  have HI := Lib.hid hi; clear hi
  have hg := hc.lt
  have HZ := Blk.new w 26 #[.string ⟨#[]⟩, .slice none 0 0, .bool false]
  go_enter Tryd.func16, Tryd.ntmps16
  go_wp2_with fail
  refine (l1Once_any g code _ _ (hc.alloc _) (by omega)).mono ?_
  rintro e w1 ⟨b, rfl, hc1, hg1⟩
  replace HZ := HZ.grown hg1 (by omega)
  have hs1 := hg1.size
  simp at hs1
  replace hg1 := (World.grownBy_alloc w _ (some g)).trans hg1
  go_wp2_with fail
  refine (l6Draw_any g code b _ hc1).mono ?_
  rintro e w2 ⟨kd, A2, c2, ags, nt, hkd, hal, hsm, rfl, ho2, hc2, hg2⟩
  have HS := Lib.hid hsm; clear hsm
  replace HZ := HZ.grown hg2 (by omega)
  have hs2 := hg2.size
  replace hg2 := World.grownBy.trans hg1 hg2
  clear hg1 hc1
  have HB := Blk.new w2 26 #[.string kd, .slice A2 ags.length c2, .bool nt]
  replace HZ := HZ.alloc (.cells #[.string kd, .slice A2 ags.length c2, .bool nt] 26)
  replace hc2 := hc2.alloc (.cells #[.string kd, .slice A2 ags.length c2, .bool nt] 26)
  replace hg2 := gr_alloc hg2 (.cells #[.string kd, .slice A2 ags.length c2, .bool nt] 26)
  replace ho2 := OwnT.alloc ho2 (.cells #[.string kd, .slice A2 ags.length c2, .bool nt] 26)
  have hl2 : g < w2.heap.size := by omega
  go_wp2_with fail
  refine (l1Below_any g code 10 _ hc2 (by omega)).mono ?_
  rintro e w3 ⟨x, hx, rfl, hc3, hg3⟩
  replace HZ := HZ.grown hg3 (by omega)
  replace HB := HB.grown hg3 (by omega)
  replace ho2 := ho2.grownG hg3 (by omega)
  have hs3 := hg3.size
  simp at hs3
  replace hg3 := World.grownBy.trans hg2 hg3
  have hl3 := hc3.lt
  clear hc2 hg2
  have hne := OwnT.ne_blk ho2 HB (by decide)
  by_cases b0 : x = 0
  · subst b0
    go_wp2_with fail
    refine (l1Str_any g code _ 3 3 [⟨#[]⟩, ⟨#[65]⟩, ⟨#[120]⟩] _ _ (hc3.alloc _) (Rd.lit w3 9 _ 3 rfl) (by omega) (by omega) (ne_lit hl3)).mono ?_
    rintro e w4 ⟨kd2, hs, rfl, hc4, hg4⟩
    have hkd2 : kd2.size ≤ 30 := by
      simp only [List.mem_cons, List.not_mem_nil, or_false] at hs
      rcases hs with rfl | rfl | rfl <;> decide
    clear hs
    replace HZ := (HZ.alloc _).grown hg4 (by omega)
    replace HB := (HB.alloc _).grown hg4 (by omega)
    replace ho2 := (OwnT.alloc ho2 _).grownG hg4 (by omega)
    have hs4 := hg4.size
    simp at hs4
    replace hg4 := World.grownBy.trans (gr_alloc hg3 _) hg4
    clear hc3 hg3
    obtain ⟨d0, d1, d2, e0, e1, e2⟩ := HB.three
    replace ho2 := OwnT.set_ne ho2 (p := ⟨w2.heap.size, 0, none⟩) hne (.string kd2)
    replace HZ := HZ.far (p := ⟨w2.heap.size, 0, none⟩) (by simp; omega) (.string kd2)
    obtain ⟨z0, z1, z2, y0, y1, y2⟩ := HZ.three
    clear HZ
    go_wp2
    refine bodyPost_ret (v := .agg #[.string kd2, .slice A2 ags.length c2, .bool nt]) (by simp [results, Tryd.results16, go_sem, z0, z1, z2]) rfl ⟨kd2, A2, c2, ags, nt, hkd2, by omega, HS.out, rfl, ?_, (by repeat (first | with_reducible assumption | with_reducible refine Cur.set ?_ (by first | (simp; done) | (simp; omega) | omega) _ | with_reducible refine Cur.alloc ?_ _ | with_reducible refine Cur.drew ?_ | with_reducible refine Cur.below ?_ (by assumption))), (by repeat (first | with_reducible exact World.grownBy.refl _ _ | with_reducible assumption | with_reducible refine gr_alloc ?_ _ | with_reducible refine gr_drew ?_ | with_reducible refine gr_drewN ?_ _ | with_reducible refine gr_set ?_ (by first | (simp; done) | (simp; omega) | omega) _ | with_reducible refine World.grownBy.trans ?_ (by assumption) | with_reducible refine grown_below ?_ (by assumption)))⟩
    exact (((ho2.low (by first | (simp; done) | (simp; omega)) _).low (by first | (simp; done) | (simp; omega)) _).low (by first | (simp; done) | (simp; omega)) _).lower (by omega)
  have q0 : ((x : Int) == 0) = false := by simp; omega
  by_cases b1 : x = 1
  · subst b1
    have d1 := HB.cell 1
    dsimp at d1
    go_wp2_with fail
    have d1z := d1
    have hs3z := hs3
    replace HZ := Blk.drew HZ
    replace HB := Blk.drew HB
    replace ho2 : OwnT aC 5 w3.drew w1.heap.size 33 _ _ := ho2
    replace hs3 : w2.heap.size + 1 ≤ w3.drew.heap.size := hs3
    replace hg3 := gr_drew hg3
    replace hc3 := Cur.drew hc3
    replace d1 : w3.drew.cell? ⟨w2.heap.size, 1, none⟩ = _ := d1
    refine wp_region_held_drew (S := (fun _ => True)) (by kernel_rfl) ?_ (fun hHeld => ?_)
    · (try dsimp only) <;> (trivial)
    refine h_take 0 (some 18) (?_) rfl rfl (by kernel_rfl) (by kernel_rfl) (by kernel_rfl) (fun _ _ _ h => h) (by kernel_rfl) ?_ (by assumption) ?_
    rotate_left
    · intro w hSw; (try dsimp only at hSw); go_simp
      all_goals first | with_reducible rfl | omega | (simp; omega)
    try simp only [Act.put, List.setIfInBounds_toArray, List.set_cons_zero, List.set_cons_succ]
    refine h_take 2 (some 20) (?_) rfl rfl (by kernel_rfl) (by kernel_rfl) (by kernel_rfl) (fun _ _ _ h => h) (by kernel_rfl) ?_ (by assumption) ?_
    rotate_left
    · intro w hSw; (try dsimp only at hSw); go_simp
      all_goals first | with_reducible rfl | omega | (simp; omega)
    try simp only [Act.put, List.setIfInBounds_toArray, List.set_cons_zero, List.set_cons_succ]
    refine h_take 4 (some 22) (?_) rfl rfl (by kernel_rfl) (by kernel_rfl) (by kernel_rfl) (fun _ _ _ h => h) (by kernel_rfl) ?_ (by assumption) ?_
    rotate_left
    · intro w hSw; (try dsimp only at hSw); go_simp
      all_goals first | with_reducible rfl | omega | (simp; omega)
    try simp only [Act.put, List.setIfInBounds_toArray, List.set_cons_zero, List.set_cons_succ]
    refine wpAnyH_ready (rs := [1, 3, 5]) (by kernel_rfl) (by simp) ?_
    refine AllReadyH.cons rfl (fun K hK => ?_) (AllReadyH.cons rfl (fun K hK => ?_) (AllReadyH.cons rfl (fun K hK => ?_) AllReadyH.nil))
    · rw [if_pos (by kernel_rfl)]
      go_simp
      refine hK.out _ _ ?_ (fun hHeld => ?_)
      · (try dsimp only) <;> (trivial)
      clear hK K
      try simp only [Act.put, List.setIfInBounds_toArray, List.set_cons_zero, List.set_cons_succ]
      refine h_two 3 5 (by kernel_rfl) rfl rfl (by kernel_rfl) (by kernel_rfl) (fun K hK => ?_) (fun K hK => ?_)
      · skip
        go_simp
        refine (l1Below_any g code 5 _ hc3 (by omega)).mono ?_
        rintro e w4 ⟨y, hy, rfl, hc4, hg4⟩
        replace HZ := HZ.grown hg4 (by omega)
        replace HB := HB.grown hg4 (by omega)
        replace ho2 := OwnT.grownG ho2 hg4 (by omega)
        replace hs3 := Nat.le_trans hs3 hg4.size
        replace hg3 := World.grownBy.trans hg3 hg4
        clear hc3
        have hc3 := hc4
        clear hg4 hc4 d1
        have d1 := HB.cell 1
        dsimp at d1
        try dsimp only
        refine hK.out _ _ ?_ (fun hHeld => ?_)
        · (try dsimp only) <;> (trivial)
        clear hK K
        try simp only [Act.put, List.setIfInBounds_toArray, List.set_cons_zero, List.set_cons_succ]
        refine h_call 5 (by kernel_rfl) rfl (by kernel_rfl) (fun K hK => ?_)
        have hlit := Rd.lit w4 9 #[.string ⟨#[]⟩, .string ⟨#[120]⟩, .string ⟨#[88]⟩] 3 rfl
        replace HZ := HZ.alloc (Obj.cells #[.string ⟨#[]⟩, .string ⟨#[120]⟩, .string ⟨#[88]⟩] 9)
        replace HB := HB.alloc (Obj.cells #[.string ⟨#[]⟩, .string ⟨#[120]⟩, .string ⟨#[88]⟩] 9)
        replace ho2 := OwnT.alloc ho2 (Obj.cells #[.string ⟨#[]⟩, .string ⟨#[120]⟩, .string ⟨#[88]⟩] 9)
        replace hs3 := Nat.le_trans hs3 (Nat.le_trans (Nat.le_succ _) (Nat.le_of_eq (alloc_sz _ (Obj.cells #[.string ⟨#[]⟩, .string ⟨#[120]⟩, .string ⟨#[88]⟩] 9)).symm))
        replace hg3 := gr_alloc hg3 (Obj.cells #[.string ⟨#[]⟩, .string ⟨#[120]⟩, .string ⟨#[88]⟩] 9)
        replace hc3 := hc3.alloc (Obj.cells #[.string ⟨#[]⟩, .string ⟨#[120]⟩, .string ⟨#[88]⟩] 9)
        clear d1
        have d1 := HB.cell 1
        dsimp at d1
        go_simp
        refine hK.out _ _ ?_ (fun hHeld => ?_)
        · (try dsimp only) <;> (trivial)
        clear hK K
        try simp only [Act.put, List.setIfInBounds_toArray, List.set_cons_zero, List.set_cons_succ]
        refine h_call 6 (by kernel_rfl) rfl (by kernel_rfl) (fun K hK => ?_)
        go_simp
        refine (l1Str_any g code _ 3 3 [⟨#[]⟩, ⟨#[120]⟩, ⟨#[88]⟩] _ _ hc3 hlit (by omega) (by omega) (fun b o e => by injection e with e; injection e with e1; have := hc3.lt; simp at *; omega)).mono ?_
        rintro e w5 ⟨s5, hs5, rfl, hc5, hg5⟩
        have hss : s5.size ≤ 30 := by
          simp only [List.mem_cons, List.not_mem_nil, or_false] at hs5
          rcases hs5 with rfl | rfl | rfl <;> decide
        clear hs5 hlit
        replace HZ := HZ.grown hg5 (by omega)
        replace HB := HB.grown hg5 (by omega)
        replace ho2 := OwnT.grownG ho2 hg5 (by omega)
        replace hs3 := Nat.le_trans hs3 hg5.size
        replace hg3 := World.grownBy.trans hg3 hg5
        clear hc3
        have hc3 := hc5
        clear hg5 hc5 d1
        have d1 := HB.cell 1
        dsimp at d1
        try dsimp only
        refine hK.out _ _ ?_ (fun hHeld => ?_)
        · (try dsimp only) <;> (trivial)
        clear hK K
        try simp only [Act.put, List.setIfInBounds_toArray, List.set_cons_zero, List.set_cons_succ]
        refine h_take 7 (some 25) (?_) rfl rfl (by kernel_rfl) (by kernel_rfl) (by kernel_rfl) (fun _ _ _ h => h) (by kernel_rfl) ?_ (by assumption) ?_
        rotate_left
        · intro w hSw; (try dsimp only at hSw); go_simp
          all_goals first | with_reducible rfl | omega | (simp; omega)
        try simp only [Act.put, List.setIfInBounds_toArray, List.set_cons_zero, List.set_cons_succ]
        refine h_call 8 (by kernel_rfl) rfl (by kernel_rfl) (fun K hK => ?_)
        have hnew := RdT.new1 aC_sz w5 33 ⟨(y : Int), s5, ⟨0, 0, ⟨#[]⟩⟩⟩
        replace HZ := HZ.alloc (Obj.cells #[.int .i64 (y : Int), .string s5, .int .i64 0, .int .i64 0, .string ⟨#[]⟩] 33)
        replace HB := HB.alloc (Obj.cells #[.int .i64 (y : Int), .string s5, .int .i64 0, .int .i64 0, .string ⟨#[]⟩] 33)
        replace ho2 := OwnT.alloc ho2 (Obj.cells #[.int .i64 (y : Int), .string s5, .int .i64 0, .int .i64 0, .string ⟨#[]⟩] 33)
        replace hs3 := Nat.le_trans hs3 (Nat.le_trans (Nat.le_succ _) (Nat.le_of_eq (alloc_sz _ (Obj.cells #[.int .i64 (y : Int), .string s5, .int .i64 0, .int .i64 0, .string ⟨#[]⟩] 33)).symm))
        replace hg3 := gr_alloc hg3 (Obj.cells #[.int .i64 (y : Int), .string s5, .int .i64 0, .int .i64 0, .string ⟨#[]⟩] 33)
        replace hc3 := hc3.alloc (Obj.cells #[.int .i64 (y : Int), .string s5, .int .i64 0, .int .i64 0, .string ⟨#[]⟩] 33)
        clear d1
        have d1 := HB.cell 1
        dsimp at d1
        go_simp
        refine hK.out _ _ ?_ (fun hHeld => ?_)
        · (try dsimp only) <;> (trivial)
        clear hK K
        try simp only [Act.put, List.setIfInBounds_toArray, List.set_cons_zero, List.set_cons_succ]
        refine h_call 9 (by kernel_rfl) rfl (by kernel_rfl) (fun K hK => ?_)
        refine appG (.tmp 19) (.tmp 26) _ rfl aC_sz w1.heap.size 33 i0 Tryd.underlying24 HI.out hz0 hz1 hz2 rfl (by omega) _ ags rfl ho2 _ 1 1 [⟨(y : Int), s5, ⟨0, 0, ⟨#[]⟩⟩⟩] rfl hnew (by intro u hu; simp [fl, aC] at hu; rcases hu with rfl | rfl | rfl | rfl | rfl <;> rfl) (by omega) (by omega) ?_ (by omega)
        intro v' w6 ho6 hb6 hq6
        have hl6 : (ags ++ [(⟨(y : Int), s5, ⟨0, 0, ⟨#[]⟩⟩⟩ : Ag)]).length = ags.length + 1 := by rw [List.length_append]; rfl
        obtain ⟨A6, c6, hv6, _⟩ := ho6.form
        rw [hl6] at hv6
        subst hv6
        replace HB := HB.grownO hq6 hne
        replace HZ := HZ.bel hb6 (by omega)
        replace hc3 := Cur.below' hc3 hb6 (by omega)
        replace hg3 := gr_bel hg3 hb6 (by omega)
        replace hs3 := Nat.le_trans hs3 hq6.size
        have hne6 := OwnT.ne_blk ho6 HB (by decide)
        obtain ⟨d0, d1, d2, e0, e1, e2⟩ := HB.three
        clear ho2
        change K (Act.put _ (some 27) _) _
        refine hK.out _ _ ?_ (fun hHeld => ?_)
        · (try dsimp only) <;> (trivial)
        clear hK K
        try simp only [Act.put, List.setIfInBounds_toArray, List.set_cons_zero, List.set_cons_succ]
        refine h_take 10 (some 28) (?_) rfl rfl (by kernel_rfl) (by kernel_rfl) (by kernel_rfl) (fun _ _ _ h => h) (by kernel_rfl) ?_ (by assumption) ?_
        rotate_left
        · intro w hSw; (try dsimp only at hSw); go_simp
          all_goals first | with_reducible rfl | omega | (simp; omega)
        try simp only [Act.put, List.setIfInBounds_toArray, List.set_cons_zero, List.set_cons_succ]
        refine h_call 11 (by kernel_rfl) rfl (by kernel_rfl) (fun K hK => ?_)
        go_simp
        refine hK.out _ _ ?_ (fun hHeld => ?_)
        · (try dsimp only) <;> (trivial)
        clear hK K
        try simp only [Act.put, List.setIfInBounds_toArray, List.set_cons_zero, List.set_cons_succ]
        refine wpAnyH_done (by kernel_rfl) ?_ _
        replace HB := HB.set_ 1 (.slice A6 (ags.length + 1) c6)
        replace HZ := HZ.far (p := ⟨w2.heap.size, 1, none⟩) (by simp; omega) (.slice A6 (ags.length + 1) c6)
        have ho7 := OwnT.set_ne ho6 (p := ⟨w2.heap.size, 1, none⟩) hne6 (.slice A6 (ags.length + 1) c6)
        replace hc3 := hc3.set (p := ⟨w2.heap.size, 1, none⟩) (by simp; omega) (.slice A6 (ags.length + 1) c6)
        replace hg3 := gr_set hg3 (p := ⟨w2.heap.size, 1, none⟩) (by simp; omega) (.slice A6 (ags.length + 1) c6)
        obtain ⟨p0, p1, p2, o0, o1, o2⟩ := HB.three
        try dsimp at p0 p1 p2
        obtain ⟨z0, z1, z2, y0, y1, y2⟩ := HZ.three
        clear HZ d0 d1 d2 e0 e1 e2
        try simp only [List.getElem?_toArray] at p0 p1 p2
        go_wp2
        refine bodyPost_ret (v := .agg #[.string kd, .slice A6 (ags.length + 1) c6, .bool nt]) (by simp [results, Tryd.results16, go_sem, z0, z1, z2]) rfl ⟨kd, A6, c6, ags ++ [⟨(y : Int), s5, ⟨0, 0, ⟨#[]⟩⟩⟩], nt, hkd, by omega, ?_, by rw [hl6], ?_, (by repeat (first | with_reducible assumption | with_reducible refine Cur.set ?_ (by first | (simp; done) | (simp; omega) | omega) _ | with_reducible refine Cur.alloc ?_ _ | with_reducible refine Cur.drew ?_ | with_reducible refine Cur.below ?_ (by assumption))), (by repeat (first | with_reducible exact World.grownBy.refl _ _ | with_reducible assumption | with_reducible refine gr_alloc ?_ _ | with_reducible refine gr_drew ?_ | with_reducible refine gr_drewN ?_ _ | with_reducible refine gr_set ?_ (by first | (simp; done) | (simp; omega) | omega) _ | with_reducible refine World.grownBy.trans ?_ (by assumption) | with_reducible refine grown_below ?_ (by assumption)))⟩
        · intro x hx; rcases List.mem_append.1 hx with h | h; exact HS.out x h; rw [List.mem_singleton] at h; rw [h]; exact ⟨hss, Nat.zero_le _⟩
        · rw [hl6]; exact (((ho7.low (by first | (simp; done) | (simp; omega)) _).low (by first | (simp; done) | (simp; omega)) _).low (by first | (simp; done) | (simp; omega)) _).lower (by omega)
      · skip
        have hlit := Rd.lit w3.drew 9 #[.string ⟨#[]⟩, .string ⟨#[120]⟩, .string ⟨#[88]⟩] 3 rfl
        replace HZ := HZ.alloc (Obj.cells #[.string ⟨#[]⟩, .string ⟨#[120]⟩, .string ⟨#[88]⟩] 9)
        replace HB := HB.alloc (Obj.cells #[.string ⟨#[]⟩, .string ⟨#[120]⟩, .string ⟨#[88]⟩] 9)
        replace ho2 := OwnT.alloc ho2 (Obj.cells #[.string ⟨#[]⟩, .string ⟨#[120]⟩, .string ⟨#[88]⟩] 9)
        replace hs3 := Nat.le_trans hs3 (Nat.le_trans (Nat.le_succ _) (Nat.le_of_eq (alloc_sz _ (Obj.cells #[.string ⟨#[]⟩, .string ⟨#[120]⟩, .string ⟨#[88]⟩] 9)).symm))
        replace hg3 := gr_alloc hg3 (Obj.cells #[.string ⟨#[]⟩, .string ⟨#[120]⟩, .string ⟨#[88]⟩] 9)
        replace hc3 := hc3.alloc (Obj.cells #[.string ⟨#[]⟩, .string ⟨#[120]⟩, .string ⟨#[88]⟩] 9)
        clear d1
        have d1 := HB.cell 1
        dsimp at d1
        have d1y : (w3.alloc (Obj.cells #[.string ⟨#[]⟩, .string ⟨#[120]⟩, .string ⟨#[88]⟩] 9)).cell? ⟨w2.heap.size, 1, none⟩ = some (.slice A2 ags.length c2) := d1
        go_simp
        refine hK.out _ _ ?_ (fun hHeld => ?_)
        · (try dsimp only) <;> (trivial)
        clear hK K
        try simp only [Act.put, List.setIfInBounds_toArray, List.set_cons_zero, List.set_cons_succ]
        refine h_call 3 (by kernel_rfl) rfl (by kernel_rfl) (fun K hK => ?_)
        go_simp
        refine (l1Below_any g code 5 _ hc3 (by omega)).mono ?_
        rintro e w4 ⟨y, hy, rfl, hc4, hg4⟩
        replace hlit := Rd.grownNe hlit hg4 (by simp; omega) (by simp)
        replace HZ := HZ.grown hg4 (by omega)
        replace HB := HB.grown hg4 (by omega)
        replace ho2 := OwnT.grownG ho2 hg4 (by omega)
        replace hs3 := Nat.le_trans hs3 hg4.size
        replace hg3 := World.grownBy.trans hg3 hg4
        clear hc3
        have hc3 := hc4
        clear hg4 hc4 d1
        have d1 := HB.cell 1
        dsimp at d1
        try dsimp only
        refine hK.out _ _ ?_ (fun hHeld => ?_)
        · (try dsimp only) <;> (trivial)
        clear hK K
        try simp only [Act.put, List.setIfInBounds_toArray, List.set_cons_zero, List.set_cons_succ]
        refine h_call 6 (by kernel_rfl) rfl (by kernel_rfl) (fun K hK => ?_)
        go_simp
        refine (l1Str_any g code _ 3 3 [⟨#[]⟩, ⟨#[120]⟩, ⟨#[88]⟩] _ _ hc3 hlit (by omega) (by omega) (fun b o e => by injection e with e; injection e with e1; have := hc3.lt; simp at *; omega)).mono ?_
        rintro e w5 ⟨s5, hs5, rfl, hc5, hg5⟩
        have hss : s5.size ≤ 30 := by
          simp only [List.mem_cons, List.not_mem_nil, or_false] at hs5
          rcases hs5 with rfl | rfl | rfl <;> decide
        clear hs5 hlit
        replace HZ := HZ.grown hg5 (by omega)
        replace HB := HB.grown hg5 (by omega)
        replace ho2 := OwnT.grownG ho2 hg5 (by omega)
        replace hs3 := Nat.le_trans hs3 hg5.size
        replace hg3 := World.grownBy.trans hg3 hg5
        clear hc3
        have hc3 := hc5
        clear hg5 hc5 d1
        have d1 := HB.cell 1
        dsimp at d1
        try dsimp only
        refine hK.out _ _ ?_ (fun hHeld => ?_)
        · (try dsimp only) <;> (trivial)
        clear hK K
        try simp only [Act.put, List.setIfInBounds_toArray, List.set_cons_zero, List.set_cons_succ]
        refine h_take 7 (some 25) (?_) rfl rfl (by kernel_rfl) (by kernel_rfl) (by kernel_rfl) (fun _ _ _ h => h) (by kernel_rfl) ?_ (by assumption) ?_
        rotate_left
        · intro w hSw; (try dsimp only at hSw); go_simp
          all_goals first | with_reducible rfl | omega | (simp; omega)
        try simp only [Act.put, List.setIfInBounds_toArray, List.set_cons_zero, List.set_cons_succ]
        refine h_call 8 (by kernel_rfl) rfl (by kernel_rfl) (fun K hK => ?_)
        have hnew := RdT.new1 aC_sz w5 33 ⟨(y : Int), s5, ⟨0, 0, ⟨#[]⟩⟩⟩
        replace HZ := HZ.alloc (Obj.cells #[.int .i64 (y : Int), .string s5, .int .i64 0, .int .i64 0, .string ⟨#[]⟩] 33)
        replace HB := HB.alloc (Obj.cells #[.int .i64 (y : Int), .string s5, .int .i64 0, .int .i64 0, .string ⟨#[]⟩] 33)
        replace ho2 := OwnT.alloc ho2 (Obj.cells #[.int .i64 (y : Int), .string s5, .int .i64 0, .int .i64 0, .string ⟨#[]⟩] 33)
        replace hs3 := Nat.le_trans hs3 (Nat.le_trans (Nat.le_succ _) (Nat.le_of_eq (alloc_sz _ (Obj.cells #[.int .i64 (y : Int), .string s5, .int .i64 0, .int .i64 0, .string ⟨#[]⟩] 33)).symm))
        replace hg3 := gr_alloc hg3 (Obj.cells #[.int .i64 (y : Int), .string s5, .int .i64 0, .int .i64 0, .string ⟨#[]⟩] 33)
        replace hc3 := hc3.alloc (Obj.cells #[.int .i64 (y : Int), .string s5, .int .i64 0, .int .i64 0, .string ⟨#[]⟩] 33)
        clear d1
        have d1 := HB.cell 1
        dsimp at d1
        go_simp
        refine hK.out _ _ ?_ (fun hHeld => ?_)
        · (try dsimp only) <;> (trivial)
        clear hK K
        try simp only [Act.put, List.setIfInBounds_toArray, List.set_cons_zero, List.set_cons_succ]
        refine h_call 9 (by kernel_rfl) rfl (by kernel_rfl) (fun K hK => ?_)
        refine appG (.tmp 19) (.tmp 26) _ rfl aC_sz w1.heap.size 33 i0 Tryd.underlying24 HI.out hz0 hz1 hz2 rfl (by omega) _ ags rfl ho2 _ 1 1 [⟨(y : Int), s5, ⟨0, 0, ⟨#[]⟩⟩⟩] rfl hnew (by intro u hu; simp [fl, aC] at hu; rcases hu with rfl | rfl | rfl | rfl | rfl <;> rfl) (by omega) (by omega) ?_ (by omega)
        intro v' w6 ho6 hb6 hq6
        have hl6 : (ags ++ [(⟨(y : Int), s5, ⟨0, 0, ⟨#[]⟩⟩⟩ : Ag)]).length = ags.length + 1 := by rw [List.length_append]; rfl
        obtain ⟨A6, c6, hv6, _⟩ := ho6.form
        rw [hl6] at hv6
        subst hv6
        replace HB := HB.grownO hq6 hne
        replace HZ := HZ.bel hb6 (by omega)
        replace hc3 := Cur.below' hc3 hb6 (by omega)
        replace hg3 := gr_bel hg3 hb6 (by omega)
        replace hs3 := Nat.le_trans hs3 hq6.size
        have hne6 := OwnT.ne_blk ho6 HB (by decide)
        obtain ⟨d0, d1, d2, e0, e1, e2⟩ := HB.three
        clear ho2
        change K (Act.put _ (some 27) _) _
        refine hK.out _ _ ?_ (fun hHeld => ?_)
        · (try dsimp only) <;> (trivial)
        clear hK K
        try simp only [Act.put, List.setIfInBounds_toArray, List.set_cons_zero, List.set_cons_succ]
        refine h_take 10 (some 28) (?_) rfl rfl (by kernel_rfl) (by kernel_rfl) (by kernel_rfl) (fun _ _ _ h => h) (by kernel_rfl) ?_ (by assumption) ?_
        rotate_left
        · intro w hSw; (try dsimp only at hSw); go_simp
          all_goals first | with_reducible rfl | omega | (simp; omega)
        try simp only [Act.put, List.setIfInBounds_toArray, List.set_cons_zero, List.set_cons_succ]
        refine h_call 11 (by kernel_rfl) rfl (by kernel_rfl) (fun K hK => ?_)
        go_simp
        refine hK.out _ _ ?_ (fun hHeld => ?_)
        · (try dsimp only) <;> (trivial)
        clear hK K
        try simp only [Act.put, List.setIfInBounds_toArray, List.set_cons_zero, List.set_cons_succ]
        refine wpAnyH_done (by kernel_rfl) ?_ _
        replace HB := HB.set_ 1 (.slice A6 (ags.length + 1) c6)
        replace HZ := HZ.far (p := ⟨w2.heap.size, 1, none⟩) (by simp; omega) (.slice A6 (ags.length + 1) c6)
        have ho7 := OwnT.set_ne ho6 (p := ⟨w2.heap.size, 1, none⟩) hne6 (.slice A6 (ags.length + 1) c6)
        replace hc3 := hc3.set (p := ⟨w2.heap.size, 1, none⟩) (by simp; omega) (.slice A6 (ags.length + 1) c6)
        replace hg3 := gr_set hg3 (p := ⟨w2.heap.size, 1, none⟩) (by simp; omega) (.slice A6 (ags.length + 1) c6)
        obtain ⟨p0, p1, p2, o0, o1, o2⟩ := HB.three
        try dsimp at p0 p1 p2
        obtain ⟨z0, z1, z2, y0, y1, y2⟩ := HZ.three
        clear HZ d0 d1 d2 e0 e1 e2
        try simp only [List.getElem?_toArray] at p0 p1 p2
        go_wp2
        refine bodyPost_ret (v := .agg #[.string kd, .slice A6 (ags.length + 1) c6, .bool nt]) (by simp [results, Tryd.results16, go_sem, z0, z1, z2]) rfl ⟨kd, A6, c6, ags ++ [⟨(y : Int), s5, ⟨0, 0, ⟨#[]⟩⟩⟩], nt, hkd, by omega, ?_, by rw [hl6], ?_, (by repeat (first | with_reducible assumption | with_reducible refine Cur.set ?_ (by first | (simp; done) | (simp; omega) | omega) _ | with_reducible refine Cur.alloc ?_ _ | with_reducible refine Cur.drew ?_ | with_reducible refine Cur.below ?_ (by assumption))), (by repeat (first | with_reducible exact World.grownBy.refl _ _ | with_reducible assumption | with_reducible refine gr_alloc ?_ _ | with_reducible refine gr_drew ?_ | with_reducible refine gr_drewN ?_ _ | with_reducible refine gr_set ?_ (by first | (simp; done) | (simp; omega) | omega) _ | with_reducible refine World.grownBy.trans ?_ (by assumption) | with_reducible refine grown_below ?_ (by assumption)))⟩
        · intro x hx; rcases List.mem_append.1 hx with h | h; exact HS.out x h; rw [List.mem_singleton] at h; rw [h]; exact ⟨hss, Nat.zero_le _⟩
        · rw [hl6]; exact (((ho7.low (by first | (simp; done) | (simp; omega)) _).low (by first | (simp; done) | (simp; omega)) _).low (by first | (simp; done) | (simp; omega)) _).lower (by omega)
    · rw [if_pos (by kernel_rfl)]
      go_simp
      refine (l1Below_any g code 5 _ hc3 (by omega)).mono ?_
      rintro e w4 ⟨y, hy, rfl, hc4, hg4⟩
      replace HZ := HZ.grown hg4 (by omega)
      replace HB := HB.grown hg4 (by omega)
      replace ho2 := OwnT.grownG ho2 hg4 (by omega)
      replace hs3 := Nat.le_trans hs3 hg4.size
      replace hg3 := World.grownBy.trans hg3 hg4
      clear hc3
      have hc3 := hc4
      clear hg4 hc4 d1
      have d1 := HB.cell 1
      dsimp at d1
      try dsimp only
      refine hK.out _ _ ?_ (fun hHeld => ?_)
      · (try dsimp only) <;> (trivial)
      clear hK K
      try simp only [Act.put, List.setIfInBounds_toArray, List.set_cons_zero, List.set_cons_succ]
      refine h_two 1 5 (by kernel_rfl) rfl rfl (by kernel_rfl) (by kernel_rfl) (fun K hK => ?_) (fun K hK => ?_)
      · skip
        go_simp
        refine hK.out _ _ ?_ (fun hHeld => ?_)
        · (try dsimp only) <;> (trivial)
        clear hK K
        try simp only [Act.put, List.setIfInBounds_toArray, List.set_cons_zero, List.set_cons_succ]
        refine h_call 5 (by kernel_rfl) rfl (by kernel_rfl) (fun K hK => ?_)
        have hlit := Rd.lit w4 9 #[.string ⟨#[]⟩, .string ⟨#[120]⟩, .string ⟨#[88]⟩] 3 rfl
        replace HZ := HZ.alloc (Obj.cells #[.string ⟨#[]⟩, .string ⟨#[120]⟩, .string ⟨#[88]⟩] 9)
        replace HB := HB.alloc (Obj.cells #[.string ⟨#[]⟩, .string ⟨#[120]⟩, .string ⟨#[88]⟩] 9)
        replace ho2 := OwnT.alloc ho2 (Obj.cells #[.string ⟨#[]⟩, .string ⟨#[120]⟩, .string ⟨#[88]⟩] 9)
        replace hs3 := Nat.le_trans hs3 (Nat.le_trans (Nat.le_succ _) (Nat.le_of_eq (alloc_sz _ (Obj.cells #[.string ⟨#[]⟩, .string ⟨#[120]⟩, .string ⟨#[88]⟩] 9)).symm))
        replace hg3 := gr_alloc hg3 (Obj.cells #[.string ⟨#[]⟩, .string ⟨#[120]⟩, .string ⟨#[88]⟩] 9)
        replace hc3 := hc3.alloc (Obj.cells #[.string ⟨#[]⟩, .string ⟨#[120]⟩, .string ⟨#[88]⟩] 9)
        clear d1
        have d1 := HB.cell 1
        dsimp at d1
        go_simp
        refine hK.out _ _ ?_ (fun hHeld => ?_)
        · (try dsimp only) <;> (trivial)
        clear hK K
        try simp only [Act.put, List.setIfInBounds_toArray, List.set_cons_zero, List.set_cons_succ]
        refine h_call 6 (by kernel_rfl) rfl (by kernel_rfl) (fun K hK => ?_)
        go_simp
        refine (l1Str_any g code _ 3 3 [⟨#[]⟩, ⟨#[120]⟩, ⟨#[88]⟩] _ _ hc3 hlit (by omega) (by omega) (fun b o e => by injection e with e; injection e with e1; have := hc3.lt; simp at *; omega)).mono ?_
        rintro e w5 ⟨s5, hs5, rfl, hc5, hg5⟩
        have hss : s5.size ≤ 30 := by
          simp only [List.mem_cons, List.not_mem_nil, or_false] at hs5
          rcases hs5 with rfl | rfl | rfl <;> decide
        clear hs5 hlit
        replace HZ := HZ.grown hg5 (by omega)
        replace HB := HB.grown hg5 (by omega)
        replace ho2 := OwnT.grownG ho2 hg5 (by omega)
        replace hs3 := Nat.le_trans hs3 hg5.size
        replace hg3 := World.grownBy.trans hg3 hg5
        clear hc3
        have hc3 := hc5
        clear hg5 hc5 d1
        have d1 := HB.cell 1
        dsimp at d1
        try dsimp only
        refine hK.out _ _ ?_ (fun hHeld => ?_)
        · (try dsimp only) <;> (trivial)
        clear hK K
        try simp only [Act.put, List.setIfInBounds_toArray, List.set_cons_zero, List.set_cons_succ]
        refine h_take 7 (some 25) (?_) rfl rfl (by kernel_rfl) (by kernel_rfl) (by kernel_rfl) (fun _ _ _ h => h) (by kernel_rfl) ?_ (by assumption) ?_
        rotate_left
        · intro w hSw; (try dsimp only at hSw); go_simp
          all_goals first | with_reducible rfl | omega | (simp; omega)
        try simp only [Act.put, List.setIfInBounds_toArray, List.set_cons_zero, List.set_cons_succ]
        refine h_call 8 (by kernel_rfl) rfl (by kernel_rfl) (fun K hK => ?_)
        have hnew := RdT.new1 aC_sz w5 33 ⟨(y : Int), s5, ⟨0, 0, ⟨#[]⟩⟩⟩
        replace HZ := HZ.alloc (Obj.cells #[.int .i64 (y : Int), .string s5, .int .i64 0, .int .i64 0, .string ⟨#[]⟩] 33)
        replace HB := HB.alloc (Obj.cells #[.int .i64 (y : Int), .string s5, .int .i64 0, .int .i64 0, .string ⟨#[]⟩] 33)
        replace ho2 := OwnT.alloc ho2 (Obj.cells #[.int .i64 (y : Int), .string s5, .int .i64 0, .int .i64 0, .string ⟨#[]⟩] 33)
        replace hs3 := Nat.le_trans hs3 (Nat.le_trans (Nat.le_succ _) (Nat.le_of_eq (alloc_sz _ (Obj.cells #[.int .i64 (y : Int), .string s5, .int .i64 0, .int .i64 0, .string ⟨#[]⟩] 33)).symm))
        replace hg3 := gr_alloc hg3 (Obj.cells #[.int .i64 (y : Int), .string s5, .int .i64 0, .int .i64 0, .string ⟨#[]⟩] 33)
        replace hc3 := hc3.alloc (Obj.cells #[.int .i64 (y : Int), .string s5, .int .i64 0, .int .i64 0, .string ⟨#[]⟩] 33)
        clear d1
        have d1 := HB.cell 1
        dsimp at d1
        go_simp
        refine hK.out _ _ ?_ (fun hHeld => ?_)
        · (try dsimp only) <;> (trivial)
        clear hK K
        try simp only [Act.put, List.setIfInBounds_toArray, List.set_cons_zero, List.set_cons_succ]
        refine h_call 9 (by kernel_rfl) rfl (by kernel_rfl) (fun K hK => ?_)
        refine appG (.tmp 19) (.tmp 26) _ rfl aC_sz w1.heap.size 33 i0 Tryd.underlying24 HI.out hz0 hz1 hz2 rfl (by omega) _ ags rfl ho2 _ 1 1 [⟨(y : Int), s5, ⟨0, 0, ⟨#[]⟩⟩⟩] rfl hnew (by intro u hu; simp [fl, aC] at hu; rcases hu with rfl | rfl | rfl | rfl | rfl <;> rfl) (by omega) (by omega) ?_ (by omega)
        intro v' w6 ho6 hb6 hq6
        have hl6 : (ags ++ [(⟨(y : Int), s5, ⟨0, 0, ⟨#[]⟩⟩⟩ : Ag)]).length = ags.length + 1 := by rw [List.length_append]; rfl
        obtain ⟨A6, c6, hv6, _⟩ := ho6.form
        rw [hl6] at hv6
        subst hv6
        replace HB := HB.grownO hq6 hne
        replace HZ := HZ.bel hb6 (by omega)
        replace hc3 := Cur.below' hc3 hb6 (by omega)
        replace hg3 := gr_bel hg3 hb6 (by omega)
        replace hs3 := Nat.le_trans hs3 hq6.size
        have hne6 := OwnT.ne_blk ho6 HB (by decide)
        obtain ⟨d0, d1, d2, e0, e1, e2⟩ := HB.three
        clear ho2
        change K (Act.put _ (some 27) _) _
        refine hK.out _ _ ?_ (fun hHeld => ?_)
        · (try dsimp only) <;> (trivial)
        clear hK K
        try simp only [Act.put, List.setIfInBounds_toArray, List.set_cons_zero, List.set_cons_succ]
        refine h_take 10 (some 28) (?_) rfl rfl (by kernel_rfl) (by kernel_rfl) (by kernel_rfl) (fun _ _ _ h => h) (by kernel_rfl) ?_ (by assumption) ?_
        rotate_left
        · intro w hSw; (try dsimp only at hSw); go_simp
          all_goals first | with_reducible rfl | omega | (simp; omega)
        try simp only [Act.put, List.setIfInBounds_toArray, List.set_cons_zero, List.set_cons_succ]
        refine h_call 11 (by kernel_rfl) rfl (by kernel_rfl) (fun K hK => ?_)
        go_simp
        refine hK.out _ _ ?_ (fun hHeld => ?_)
        · (try dsimp only) <;> (trivial)
        clear hK K
        try simp only [Act.put, List.setIfInBounds_toArray, List.set_cons_zero, List.set_cons_succ]
        refine wpAnyH_done (by kernel_rfl) ?_ _
        replace HB := HB.set_ 1 (.slice A6 (ags.length + 1) c6)
        replace HZ := HZ.far (p := ⟨w2.heap.size, 1, none⟩) (by simp; omega) (.slice A6 (ags.length + 1) c6)
        have ho7 := OwnT.set_ne ho6 (p := ⟨w2.heap.size, 1, none⟩) hne6 (.slice A6 (ags.length + 1) c6)
        replace hc3 := hc3.set (p := ⟨w2.heap.size, 1, none⟩) (by simp; omega) (.slice A6 (ags.length + 1) c6)
        replace hg3 := gr_set hg3 (p := ⟨w2.heap.size, 1, none⟩) (by simp; omega) (.slice A6 (ags.length + 1) c6)
        obtain ⟨p0, p1, p2, o0, o1, o2⟩ := HB.three
        try dsimp at p0 p1 p2
        obtain ⟨z0, z1, z2, y0, y1, y2⟩ := HZ.three
        clear HZ d0 d1 d2 e0 e1 e2
        try simp only [List.getElem?_toArray] at p0 p1 p2
        go_wp2
        refine bodyPost_ret (v := .agg #[.string kd, .slice A6 (ags.length + 1) c6, .bool nt]) (by simp [results, Tryd.results16, go_sem, z0, z1, z2]) rfl ⟨kd, A6, c6, ags ++ [⟨(y : Int), s5, ⟨0, 0, ⟨#[]⟩⟩⟩], nt, hkd, by omega, ?_, by rw [hl6], ?_, (by repeat (first | with_reducible assumption | with_reducible refine Cur.set ?_ (by first | (simp; done) | (simp; omega) | omega) _ | with_reducible refine Cur.alloc ?_ _ | with_reducible refine Cur.drew ?_ | with_reducible refine Cur.below ?_ (by assumption))), (by repeat (first | with_reducible exact World.grownBy.refl _ _ | with_reducible assumption | with_reducible refine gr_alloc ?_ _ | with_reducible refine gr_drew ?_ | with_reducible refine gr_drewN ?_ _ | with_reducible refine gr_set ?_ (by first | (simp; done) | (simp; omega) | omega) _ | with_reducible refine World.grownBy.trans ?_ (by assumption) | with_reducible refine grown_below ?_ (by assumption)))⟩
        · intro x hx; rcases List.mem_append.1 hx with h | h; exact HS.out x h; rw [List.mem_singleton] at h; rw [h]; exact ⟨hss, Nat.zero_le _⟩
        · rw [hl6]; exact (((ho7.low (by first | (simp; done) | (simp; omega)) _).low (by first | (simp; done) | (simp; omega)) _).low (by first | (simp; done) | (simp; omega)) _).lower (by omega)
      · skip
        have hlit := Rd.lit w4 9 #[.string ⟨#[]⟩, .string ⟨#[120]⟩, .string ⟨#[88]⟩] 3 rfl
        replace HZ := HZ.alloc (Obj.cells #[.string ⟨#[]⟩, .string ⟨#[120]⟩, .string ⟨#[88]⟩] 9)
        replace HB := HB.alloc (Obj.cells #[.string ⟨#[]⟩, .string ⟨#[120]⟩, .string ⟨#[88]⟩] 9)
        replace ho2 := OwnT.alloc ho2 (Obj.cells #[.string ⟨#[]⟩, .string ⟨#[120]⟩, .string ⟨#[88]⟩] 9)
        replace hs3 := Nat.le_trans hs3 (Nat.le_trans (Nat.le_succ _) (Nat.le_of_eq (alloc_sz _ (Obj.cells #[.string ⟨#[]⟩, .string ⟨#[120]⟩, .string ⟨#[88]⟩] 9)).symm))
        replace hg3 := gr_alloc hg3 (Obj.cells #[.string ⟨#[]⟩, .string ⟨#[120]⟩, .string ⟨#[88]⟩] 9)
        replace hc3 := hc3.alloc (Obj.cells #[.string ⟨#[]⟩, .string ⟨#[120]⟩, .string ⟨#[88]⟩] 9)
        clear d1
        have d1 := HB.cell 1
        dsimp at d1
        go_simp
        refine hK.out _ _ ?_ (fun hHeld => ?_)
        · (try dsimp only) <;> (trivial)
        clear hK K
        try simp only [Act.put, List.setIfInBounds_toArray, List.set_cons_zero, List.set_cons_succ]
        refine h_two 1 6 (by kernel_rfl) rfl rfl (by kernel_rfl) (by kernel_rfl) (fun K hK => ?_) (fun K hK => ?_)
        · skip
          go_simp
          refine hK.out _ _ ?_ (fun hHeld => ?_)
          · (try dsimp only) <;> (trivial)
          clear hK K
          try simp only [Act.put, List.setIfInBounds_toArray, List.set_cons_zero, List.set_cons_succ]
          refine h_call 6 (by kernel_rfl) rfl (by kernel_rfl) (fun K hK => ?_)
          go_simp
          refine (l1Str_any g code _ 3 3 [⟨#[]⟩, ⟨#[120]⟩, ⟨#[88]⟩] _ _ hc3 hlit (by omega) (by omega) (fun b o e => by injection e with e; injection e with e1; have := hc3.lt; simp at *; omega)).mono ?_
          rintro e w5 ⟨s5, hs5, rfl, hc5, hg5⟩
          have hss : s5.size ≤ 30 := by
            simp only [List.mem_cons, List.not_mem_nil, or_false] at hs5
            rcases hs5 with rfl | rfl | rfl <;> decide
          clear hs5 hlit
          replace HZ := HZ.grown hg5 (by omega)
          replace HB := HB.grown hg5 (by omega)
          replace ho2 := OwnT.grownG ho2 hg5 (by omega)
          replace hs3 := Nat.le_trans hs3 hg5.size
          replace hg3 := World.grownBy.trans hg3 hg5
          clear hc3
          have hc3 := hc5
          clear hg5 hc5 d1
          have d1 := HB.cell 1
          dsimp at d1
          try dsimp only
          refine hK.out _ _ ?_ (fun hHeld => ?_)
          · (try dsimp only) <;> (trivial)
          clear hK K
          try simp only [Act.put, List.setIfInBounds_toArray, List.set_cons_zero, List.set_cons_succ]
          refine h_take 7 (some 25) (?_) rfl rfl (by kernel_rfl) (by kernel_rfl) (by kernel_rfl) (fun _ _ _ h => h) (by kernel_rfl) ?_ (by assumption) ?_
          rotate_left
          · intro w hSw; (try dsimp only at hSw); go_simp
            all_goals first | with_reducible rfl | omega | (simp; omega)
          try simp only [Act.put, List.setIfInBounds_toArray, List.set_cons_zero, List.set_cons_succ]
          refine h_call 8 (by kernel_rfl) rfl (by kernel_rfl) (fun K hK => ?_)
          have hnew := RdT.new1 aC_sz w5 33 ⟨(y : Int), s5, ⟨0, 0, ⟨#[]⟩⟩⟩
          replace HZ := HZ.alloc (Obj.cells #[.int .i64 (y : Int), .string s5, .int .i64 0, .int .i64 0, .string ⟨#[]⟩] 33)
          replace HB := HB.alloc (Obj.cells #[.int .i64 (y : Int), .string s5, .int .i64 0, .int .i64 0, .string ⟨#[]⟩] 33)
          replace ho2 := OwnT.alloc ho2 (Obj.cells #[.int .i64 (y : Int), .string s5, .int .i64 0, .int .i64 0, .string ⟨#[]⟩] 33)
          replace hs3 := Nat.le_trans hs3 (Nat.le_trans (Nat.le_succ _) (Nat.le_of_eq (alloc_sz _ (Obj.cells #[.int .i64 (y : Int), .string s5, .int .i64 0, .int .i64 0, .string ⟨#[]⟩] 33)).symm))
          replace hg3 := gr_alloc hg3 (Obj.cells #[.int .i64 (y : Int), .string s5, .int .i64 0, .int .i64 0, .string ⟨#[]⟩] 33)
          replace hc3 := hc3.alloc (Obj.cells #[.int .i64 (y : Int), .string s5, .int .i64 0, .int .i64 0, .string ⟨#[]⟩] 33)
          clear d1
          have d1 := HB.cell 1
          dsimp at d1
          go_simp
          refine hK.out _ _ ?_ (fun hHeld => ?_)
          · (try dsimp only) <;> (trivial)
          clear hK K
          try simp only [Act.put, List.setIfInBounds_toArray, List.set_cons_zero, List.set_cons_succ]
          refine h_call 9 (by kernel_rfl) rfl (by kernel_rfl) (fun K hK => ?_)
          refine appG (.tmp 19) (.tmp 26) _ rfl aC_sz w1.heap.size 33 i0 Tryd.underlying24 HI.out hz0 hz1 hz2 rfl (by omega) _ ags rfl ho2 _ 1 1 [⟨(y : Int), s5, ⟨0, 0, ⟨#[]⟩⟩⟩] rfl hnew (by intro u hu; simp [fl, aC] at hu; rcases hu with rfl | rfl | rfl | rfl | rfl <;> rfl) (by omega) (by omega) ?_ (by omega)
          intro v' w6 ho6 hb6 hq6
          have hl6 : (ags ++ [(⟨(y : Int), s5, ⟨0, 0, ⟨#[]⟩⟩⟩ : Ag)]).length = ags.length + 1 := by rw [List.length_append]; rfl
          obtain ⟨A6, c6, hv6, _⟩ := ho6.form
          rw [hl6] at hv6
          subst hv6
          replace HB := HB.grownO hq6 hne
          replace HZ := HZ.bel hb6 (by omega)
          replace hc3 := Cur.below' hc3 hb6 (by omega)
          replace hg3 := gr_bel hg3 hb6 (by omega)
          replace hs3 := Nat.le_trans hs3 hq6.size
          have hne6 := OwnT.ne_blk ho6 HB (by decide)
          obtain ⟨d0, d1, d2, e0, e1, e2⟩ := HB.three
          clear ho2
          change K (Act.put _ (some 27) _) _
          refine hK.out _ _ ?_ (fun hHeld => ?_)
          · (try dsimp only) <;> (trivial)
          clear hK K
          try simp only [Act.put, List.setIfInBounds_toArray, List.set_cons_zero, List.set_cons_succ]
          refine h_take 10 (some 28) (?_) rfl rfl (by kernel_rfl) (by kernel_rfl) (by kernel_rfl) (fun _ _ _ h => h) (by kernel_rfl) ?_ (by assumption) ?_
          rotate_left
          · intro w hSw; (try dsimp only at hSw); go_simp
            all_goals first | with_reducible rfl | omega | (simp; omega)
          try simp only [Act.put, List.setIfInBounds_toArray, List.set_cons_zero, List.set_cons_succ]
          refine h_call 11 (by kernel_rfl) rfl (by kernel_rfl) (fun K hK => ?_)
          go_simp
          refine hK.out _ _ ?_ (fun hHeld => ?_)
          · (try dsimp only) <;> (trivial)
          clear hK K
          try simp only [Act.put, List.setIfInBounds_toArray, List.set_cons_zero, List.set_cons_succ]
          refine wpAnyH_done (by kernel_rfl) ?_ _
          replace HB := HB.set_ 1 (.slice A6 (ags.length + 1) c6)
          replace HZ := HZ.far (p := ⟨w2.heap.size, 1, none⟩) (by simp; omega) (.slice A6 (ags.length + 1) c6)
          have ho7 := OwnT.set_ne ho6 (p := ⟨w2.heap.size, 1, none⟩) hne6 (.slice A6 (ags.length + 1) c6)
          replace hc3 := hc3.set (p := ⟨w2.heap.size, 1, none⟩) (by simp; omega) (.slice A6 (ags.length + 1) c6)
          replace hg3 := gr_set hg3 (p := ⟨w2.heap.size, 1, none⟩) (by simp; omega) (.slice A6 (ags.length + 1) c6)
          obtain ⟨p0, p1, p2, o0, o1, o2⟩ := HB.three
          try dsimp at p0 p1 p2
          obtain ⟨z0, z1, z2, y0, y1, y2⟩ := HZ.three
          clear HZ d0 d1 d2 e0 e1 e2
          try simp only [List.getElem?_toArray] at p0 p1 p2
          go_wp2
          refine bodyPost_ret (v := .agg #[.string kd, .slice A6 (ags.length + 1) c6, .bool nt]) (by simp [results, Tryd.results16, go_sem, z0, z1, z2]) rfl ⟨kd, A6, c6, ags ++ [⟨(y : Int), s5, ⟨0, 0, ⟨#[]⟩⟩⟩], nt, hkd, by omega, ?_, by rw [hl6], ?_, (by repeat (first | with_reducible assumption | with_reducible refine Cur.set ?_ (by first | (simp; done) | (simp; omega) | omega) _ | with_reducible refine Cur.alloc ?_ _ | with_reducible refine Cur.drew ?_ | with_reducible refine Cur.below ?_ (by assumption))), (by repeat (first | with_reducible exact World.grownBy.refl _ _ | with_reducible assumption | with_reducible refine gr_alloc ?_ _ | with_reducible refine gr_drew ?_ | with_reducible refine gr_drewN ?_ _ | with_reducible refine gr_set ?_ (by first | (simp; done) | (simp; omega) | omega) _ | with_reducible refine World.grownBy.trans ?_ (by assumption) | with_reducible refine grown_below ?_ (by assumption)))⟩
          · intro x hx; rcases List.mem_append.1 hx with h | h; exact HS.out x h; rw [List.mem_singleton] at h; rw [h]; exact ⟨hss, Nat.zero_le _⟩
          · rw [hl6]; exact (((ho7.low (by first | (simp; done) | (simp; omega)) _).low (by first | (simp; done) | (simp; omega)) _).low (by first | (simp; done) | (simp; omega)) _).lower (by omega)
        · skip
          go_simp
          refine (l1Str_any g code _ 3 3 [⟨#[]⟩, ⟨#[120]⟩, ⟨#[88]⟩] _ _ hc3 hlit (by omega) (by omega) (fun b o e => by injection e with e; injection e with e1; have := hc3.lt; simp at *; omega)).mono ?_
          rintro e w5 ⟨s5, hs5, rfl, hc5, hg5⟩
          have hss : s5.size ≤ 30 := by
            simp only [List.mem_cons, List.not_mem_nil, or_false] at hs5
            rcases hs5 with rfl | rfl | rfl <;> decide
          clear hs5 hlit
          replace HZ := HZ.grown hg5 (by omega)
          replace HB := HB.grown hg5 (by omega)
          replace ho2 := OwnT.grownG ho2 hg5 (by omega)
          replace hs3 := Nat.le_trans hs3 hg5.size
          replace hg3 := World.grownBy.trans hg3 hg5
          clear hc3
          have hc3 := hc5
          clear hg5 hc5 d1
          have d1 := HB.cell 1
          dsimp at d1
          try dsimp only
          refine hK.out _ _ ?_ (fun hHeld => ?_)
          · (try dsimp only) <;> (trivial)
          clear hK K
          try simp only [Act.put, List.setIfInBounds_toArray, List.set_cons_zero, List.set_cons_succ]
          refine h_take 7 (some 25) (?_) rfl rfl (by kernel_rfl) (by kernel_rfl) (by kernel_rfl) (fun _ _ _ h => h) (by kernel_rfl) ?_ (by assumption) ?_
          rotate_left
          · intro w hSw; (try dsimp only at hSw); go_simp
            all_goals first | with_reducible rfl | omega | (simp; omega)
          try simp only [Act.put, List.setIfInBounds_toArray, List.set_cons_zero, List.set_cons_succ]
          refine h_two 1 8 (by kernel_rfl) rfl rfl (by kernel_rfl) (by kernel_rfl) (fun K hK => ?_) (fun K hK => ?_)
          · skip
            go_simp
            refine hK.out _ _ ?_ (fun hHeld => ?_)
            · (try dsimp only) <;> (trivial)
            clear hK K
            try simp only [Act.put, List.setIfInBounds_toArray, List.set_cons_zero, List.set_cons_succ]
            refine h_call 8 (by kernel_rfl) rfl (by kernel_rfl) (fun K hK => ?_)
            have hnew := RdT.new1 aC_sz w5 33 ⟨(y : Int), s5, ⟨0, 0, ⟨#[]⟩⟩⟩
            replace HZ := HZ.alloc (Obj.cells #[.int .i64 (y : Int), .string s5, .int .i64 0, .int .i64 0, .string ⟨#[]⟩] 33)
            replace HB := HB.alloc (Obj.cells #[.int .i64 (y : Int), .string s5, .int .i64 0, .int .i64 0, .string ⟨#[]⟩] 33)
            replace ho2 := OwnT.alloc ho2 (Obj.cells #[.int .i64 (y : Int), .string s5, .int .i64 0, .int .i64 0, .string ⟨#[]⟩] 33)
            replace hs3 := Nat.le_trans hs3 (Nat.le_trans (Nat.le_succ _) (Nat.le_of_eq (alloc_sz _ (Obj.cells #[.int .i64 (y : Int), .string s5, .int .i64 0, .int .i64 0, .string ⟨#[]⟩] 33)).symm))
            replace hg3 := gr_alloc hg3 (Obj.cells #[.int .i64 (y : Int), .string s5, .int .i64 0, .int .i64 0, .string ⟨#[]⟩] 33)
            replace hc3 := hc3.alloc (Obj.cells #[.int .i64 (y : Int), .string s5, .int .i64 0, .int .i64 0, .string ⟨#[]⟩] 33)
            clear d1
            have d1 := HB.cell 1
            dsimp at d1
            go_simp
            refine hK.out _ _ ?_ (fun hHeld => ?_)
            · (try dsimp only) <;> (trivial)
            clear hK K
            try simp only [Act.put, List.setIfInBounds_toArray, List.set_cons_zero, List.set_cons_succ]
            refine h_call 9 (by kernel_rfl) rfl (by kernel_rfl) (fun K hK => ?_)
            refine appG (.tmp 19) (.tmp 26) _ rfl aC_sz w1.heap.size 33 i0 Tryd.underlying24 HI.out hz0 hz1 hz2 rfl (by omega) _ ags rfl ho2 _ 1 1 [⟨(y : Int), s5, ⟨0, 0, ⟨#[]⟩⟩⟩] rfl hnew (by intro u hu; simp [fl, aC] at hu; rcases hu with rfl | rfl | rfl | rfl | rfl <;> rfl) (by omega) (by omega) ?_ (by omega)
            intro v' w6 ho6 hb6 hq6
            have hl6 : (ags ++ [(⟨(y : Int), s5, ⟨0, 0, ⟨#[]⟩⟩⟩ : Ag)]).length = ags.length + 1 := by rw [List.length_append]; rfl
            obtain ⟨A6, c6, hv6, _⟩ := ho6.form
            rw [hl6] at hv6
            subst hv6
            replace HB := HB.grownO hq6 hne
            replace HZ := HZ.bel hb6 (by omega)
            replace hc3 := Cur.below' hc3 hb6 (by omega)
            replace hg3 := gr_bel hg3 hb6 (by omega)
            replace hs3 := Nat.le_trans hs3 hq6.size
            have hne6 := OwnT.ne_blk ho6 HB (by decide)
            obtain ⟨d0, d1, d2, e0, e1, e2⟩ := HB.three
            clear ho2
            change K (Act.put _ (some 27) _) _
            refine hK.out _ _ ?_ (fun hHeld => ?_)
            · (try dsimp only) <;> (trivial)
            clear hK K
            try simp only [Act.put, List.setIfInBounds_toArray, List.set_cons_zero, List.set_cons_succ]
            refine h_take 10 (some 28) (?_) rfl rfl (by kernel_rfl) (by kernel_rfl) (by kernel_rfl) (fun _ _ _ h => h) (by kernel_rfl) ?_ (by assumption) ?_
            rotate_left
            · intro w hSw; (try dsimp only at hSw); go_simp
              all_goals first | with_reducible rfl | omega | (simp; omega)
            try simp only [Act.put, List.setIfInBounds_toArray, List.set_cons_zero, List.set_cons_succ]
            refine h_call 11 (by kernel_rfl) rfl (by kernel_rfl) (fun K hK => ?_)
            go_simp
            refine hK.out _ _ ?_ (fun hHeld => ?_)
            · (try dsimp only) <;> (trivial)
            clear hK K
            try simp only [Act.put, List.setIfInBounds_toArray, List.set_cons_zero, List.set_cons_succ]
            refine wpAnyH_done (by kernel_rfl) ?_ _
            replace HB := HB.set_ 1 (.slice A6 (ags.length + 1) c6)
            replace HZ := HZ.far (p := ⟨w2.heap.size, 1, none⟩) (by simp; omega) (.slice A6 (ags.length + 1) c6)
            have ho7 := OwnT.set_ne ho6 (p := ⟨w2.heap.size, 1, none⟩) hne6 (.slice A6 (ags.length + 1) c6)
            replace hc3 := hc3.set (p := ⟨w2.heap.size, 1, none⟩) (by simp; omega) (.slice A6 (ags.length + 1) c6)
            replace hg3 := gr_set hg3 (p := ⟨w2.heap.size, 1, none⟩) (by simp; omega) (.slice A6 (ags.length + 1) c6)
            obtain ⟨p0, p1, p2, o0, o1, o2⟩ := HB.three
            try dsimp at p0 p1 p2
            obtain ⟨z0, z1, z2, y0, y1, y2⟩ := HZ.three
            clear HZ d0 d1 d2 e0 e1 e2
            try simp only [List.getElem?_toArray] at p0 p1 p2
            go_wp2
            refine bodyPost_ret (v := .agg #[.string kd, .slice A6 (ags.length + 1) c6, .bool nt]) (by simp [results, Tryd.results16, go_sem, z0, z1, z2]) rfl ⟨kd, A6, c6, ags ++ [⟨(y : Int), s5, ⟨0, 0, ⟨#[]⟩⟩⟩], nt, hkd, by omega, ?_, by rw [hl6], ?_, (by repeat (first | with_reducible assumption | with_reducible refine Cur.set ?_ (by first | (simp; done) | (simp; omega) | omega) _ | with_reducible refine Cur.alloc ?_ _ | with_reducible refine Cur.drew ?_ | with_reducible refine Cur.below ?_ (by assumption))), (by repeat (first | with_reducible exact World.grownBy.refl _ _ | with_reducible assumption | with_reducible refine gr_alloc ?_ _ | with_reducible refine gr_drew ?_ | with_reducible refine gr_drewN ?_ _ | with_reducible refine gr_set ?_ (by first | (simp; done) | (simp; omega) | omega) _ | with_reducible refine World.grownBy.trans ?_ (by assumption) | with_reducible refine grown_below ?_ (by assumption)))⟩
            · intro x hx; rcases List.mem_append.1 hx with h | h; exact HS.out x h; rw [List.mem_singleton] at h; rw [h]; exact ⟨hss, Nat.zero_le _⟩
            · rw [hl6]; exact (((ho7.low (by first | (simp; done) | (simp; omega)) _).low (by first | (simp; done) | (simp; omega)) _).low (by first | (simp; done) | (simp; omega)) _).lower (by omega)
          · skip
            have hnew := RdT.new1 aC_sz w5 33 ⟨(y : Int), s5, ⟨0, 0, ⟨#[]⟩⟩⟩
            replace HZ := HZ.alloc (Obj.cells #[.int .i64 (y : Int), .string s5, .int .i64 0, .int .i64 0, .string ⟨#[]⟩] 33)
            replace HB := HB.alloc (Obj.cells #[.int .i64 (y : Int), .string s5, .int .i64 0, .int .i64 0, .string ⟨#[]⟩] 33)
            replace ho2 := OwnT.alloc ho2 (Obj.cells #[.int .i64 (y : Int), .string s5, .int .i64 0, .int .i64 0, .string ⟨#[]⟩] 33)
            replace hs3 := Nat.le_trans hs3 (Nat.le_trans (Nat.le_succ _) (Nat.le_of_eq (alloc_sz _ (Obj.cells #[.int .i64 (y : Int), .string s5, .int .i64 0, .int .i64 0, .string ⟨#[]⟩] 33)).symm))
            replace hg3 := gr_alloc hg3 (Obj.cells #[.int .i64 (y : Int), .string s5, .int .i64 0, .int .i64 0, .string ⟨#[]⟩] 33)
            replace hc3 := hc3.alloc (Obj.cells #[.int .i64 (y : Int), .string s5, .int .i64 0, .int .i64 0, .string ⟨#[]⟩] 33)
            clear d1
            have d1 := HB.cell 1
            dsimp at d1
            go_simp
            refine hK.out _ _ ?_ (fun hHeld => ?_)
            · (try dsimp only) <;> (trivial)
            clear hK K
            try simp only [Act.put, List.setIfInBounds_toArray, List.set_cons_zero, List.set_cons_succ]
            refine h_call 1 (by kernel_rfl) rfl (by kernel_rfl) (fun K hK => ?_)
            go_simp
            refine hK.out _ _ ?_ (fun hHeld => ?_)
            · (try dsimp only) <;> (trivial)
            clear hK K
            try simp only [Act.put, List.setIfInBounds_toArray, List.set_cons_zero, List.set_cons_succ]
            refine h_call 9 (by kernel_rfl) rfl (by kernel_rfl) (fun K hK => ?_)
            refine appG (.tmp 19) (.tmp 26) _ rfl aC_sz w1.heap.size 33 i0 Tryd.underlying24 HI.out hz0 hz1 hz2 rfl (by omega) _ ags rfl ho2 _ 1 1 [⟨(y : Int), s5, ⟨0, 0, ⟨#[]⟩⟩⟩] rfl hnew (by intro u hu; simp [fl, aC] at hu; rcases hu with rfl | rfl | rfl | rfl | rfl <;> rfl) (by omega) (by omega) ?_ (by omega)
            intro v' w6 ho6 hb6 hq6
            have hl6 : (ags ++ [(⟨(y : Int), s5, ⟨0, 0, ⟨#[]⟩⟩⟩ : Ag)]).length = ags.length + 1 := by rw [List.length_append]; rfl
            obtain ⟨A6, c6, hv6, _⟩ := ho6.form
            rw [hl6] at hv6
            subst hv6
            replace HB := HB.grownO hq6 hne
            replace HZ := HZ.bel hb6 (by omega)
            replace hc3 := Cur.below' hc3 hb6 (by omega)
            replace hg3 := gr_bel hg3 hb6 (by omega)
            replace hs3 := Nat.le_trans hs3 hq6.size
            have hne6 := OwnT.ne_blk ho6 HB (by decide)
            obtain ⟨d0, d1, d2, e0, e1, e2⟩ := HB.three
            clear ho2
            change K (Act.put _ (some 27) _) _
            refine hK.out _ _ ?_ (fun hHeld => ?_)
            · (try dsimp only) <;> (trivial)
            clear hK K
            try simp only [Act.put, List.setIfInBounds_toArray, List.set_cons_zero, List.set_cons_succ]
            refine h_take 10 (some 28) (?_) rfl rfl (by kernel_rfl) (by kernel_rfl) (by kernel_rfl) (fun _ _ _ h => h) (by kernel_rfl) ?_ (by assumption) ?_
            rotate_left
            · intro w hSw; (try dsimp only at hSw); go_simp
              all_goals first | with_reducible rfl | omega | (simp; omega)
            try simp only [Act.put, List.setIfInBounds_toArray, List.set_cons_zero, List.set_cons_succ]
            refine h_call 11 (by kernel_rfl) rfl (by kernel_rfl) (fun K hK => ?_)
            go_simp
            refine hK.out _ _ ?_ (fun hHeld => ?_)
            · (try dsimp only) <;> (trivial)
            clear hK K
            try simp only [Act.put, List.setIfInBounds_toArray, List.set_cons_zero, List.set_cons_succ]
            refine wpAnyH_done (by kernel_rfl) ?_ _
            replace HB := HB.set_ 1 (.slice A6 (ags.length + 1) c6)
            replace HZ := HZ.far (p := ⟨w2.heap.size, 1, none⟩) (by simp; omega) (.slice A6 (ags.length + 1) c6)
            have ho7 := OwnT.set_ne ho6 (p := ⟨w2.heap.size, 1, none⟩) hne6 (.slice A6 (ags.length + 1) c6)
            replace hc3 := hc3.set (p := ⟨w2.heap.size, 1, none⟩) (by simp; omega) (.slice A6 (ags.length + 1) c6)
            replace hg3 := gr_set hg3 (p := ⟨w2.heap.size, 1, none⟩) (by simp; omega) (.slice A6 (ags.length + 1) c6)
            obtain ⟨p0, p1, p2, o0, o1, o2⟩ := HB.three
            try dsimp at p0 p1 p2
            obtain ⟨z0, z1, z2, y0, y1, y2⟩ := HZ.three
            clear HZ d0 d1 d2 e0 e1 e2
            try simp only [List.getElem?_toArray] at p0 p1 p2
            go_wp2
            refine bodyPost_ret (v := .agg #[.string kd, .slice A6 (ags.length + 1) c6, .bool nt]) (by simp [results, Tryd.results16, go_sem, z0, z1, z2]) rfl ⟨kd, A6, c6, ags ++ [⟨(y : Int), s5, ⟨0, 0, ⟨#[]⟩⟩⟩], nt, hkd, by omega, ?_, by rw [hl6], ?_, (by repeat (first | with_reducible assumption | with_reducible refine Cur.set ?_ (by first | (simp; done) | (simp; omega) | omega) _ | with_reducible refine Cur.alloc ?_ _ | with_reducible refine Cur.drew ?_ | with_reducible refine Cur.below ?_ (by assumption))), (by repeat (first | with_reducible exact World.grownBy.refl _ _ | with_reducible assumption | with_reducible refine gr_alloc ?_ _ | with_reducible refine gr_drew ?_ | with_reducible refine gr_drewN ?_ _ | with_reducible refine gr_set ?_ (by first | (simp; done) | (simp; omega) | omega) _ | with_reducible refine World.grownBy.trans ?_ (by assumption) | with_reducible refine grown_below ?_ (by assumption)))⟩
            · intro x hx; rcases List.mem_append.1 hx with h | h; exact HS.out x h; rw [List.mem_singleton] at h; rw [h]; exact ⟨hss, Nat.zero_le _⟩
            · rw [hl6]; exact (((ho7.low (by first | (simp; done) | (simp; omega)) _).low (by first | (simp; done) | (simp; omega)) _).low (by first | (simp; done) | (simp; omega)) _).lower (by omega)
    · rw [if_pos (by kernel_rfl)]
      have hlit := Rd.lit w3.drew 9 #[.string ⟨#[]⟩, .string ⟨#[120]⟩, .string ⟨#[88]⟩] 3 rfl
      replace HZ := HZ.alloc (Obj.cells #[.string ⟨#[]⟩, .string ⟨#[120]⟩, .string ⟨#[88]⟩] 9)
      replace HB := HB.alloc (Obj.cells #[.string ⟨#[]⟩, .string ⟨#[120]⟩, .string ⟨#[88]⟩] 9)
      replace ho2 := OwnT.alloc ho2 (Obj.cells #[.string ⟨#[]⟩, .string ⟨#[120]⟩, .string ⟨#[88]⟩] 9)
      replace hs3 := Nat.le_trans hs3 (Nat.le_trans (Nat.le_succ _) (Nat.le_of_eq (alloc_sz _ (Obj.cells #[.string ⟨#[]⟩, .string ⟨#[120]⟩, .string ⟨#[88]⟩] 9)).symm))
      replace hg3 := gr_alloc hg3 (Obj.cells #[.string ⟨#[]⟩, .string ⟨#[120]⟩, .string ⟨#[88]⟩] 9)
      replace hc3 := hc3.alloc (Obj.cells #[.string ⟨#[]⟩, .string ⟨#[120]⟩, .string ⟨#[88]⟩] 9)
      clear d1
      have d1 := HB.cell 1
      dsimp at d1
      have d1y : (w3.alloc (Obj.cells #[.string ⟨#[]⟩, .string ⟨#[120]⟩, .string ⟨#[88]⟩] 9)).cell? ⟨w2.heap.size, 1, none⟩ = some (.slice A2 ags.length c2) := d1
      go_simp
      refine hK.out _ _ ?_ (fun hHeld => ?_)
      · (try dsimp only) <;> (trivial)
      clear hK K
      try simp only [Act.put, List.setIfInBounds_toArray, List.set_cons_zero, List.set_cons_succ]
      refine h_two 1 3 (by kernel_rfl) rfl rfl (by kernel_rfl) (by kernel_rfl) (fun K hK => ?_) (fun K hK => ?_)
      · skip
        go_simp
        refine hK.out _ _ ?_ (fun hHeld => ?_)
        · (try dsimp only) <;> (trivial)
        clear hK K
        try simp only [Act.put, List.setIfInBounds_toArray, List.set_cons_zero, List.set_cons_succ]
        refine h_call 3 (by kernel_rfl) rfl (by kernel_rfl) (fun K hK => ?_)
        go_simp
        refine (l1Below_any g code 5 _ hc3 (by omega)).mono ?_
        rintro e w4 ⟨y, hy, rfl, hc4, hg4⟩
        replace hlit := Rd.grownNe hlit hg4 (by simp; omega) (by simp)
        replace HZ := HZ.grown hg4 (by omega)
        replace HB := HB.grown hg4 (by omega)
        replace ho2 := OwnT.grownG ho2 hg4 (by omega)
        replace hs3 := Nat.le_trans hs3 hg4.size
        replace hg3 := World.grownBy.trans hg3 hg4
        clear hc3
        have hc3 := hc4
        clear hg4 hc4 d1
        have d1 := HB.cell 1
        dsimp at d1
        try dsimp only
        refine hK.out _ _ ?_ (fun hHeld => ?_)
        · (try dsimp only) <;> (trivial)
        clear hK K
        try simp only [Act.put, List.setIfInBounds_toArray, List.set_cons_zero, List.set_cons_succ]
        refine h_call 6 (by kernel_rfl) rfl (by kernel_rfl) (fun K hK => ?_)
        go_simp
        refine (l1Str_any g code _ 3 3 [⟨#[]⟩, ⟨#[120]⟩, ⟨#[88]⟩] _ _ hc3 hlit (by omega) (by omega) (fun b o e => by injection e with e; injection e with e1; have := hc3.lt; simp at *; omega)).mono ?_
        rintro e w5 ⟨s5, hs5, rfl, hc5, hg5⟩
        have hss : s5.size ≤ 30 := by
          simp only [List.mem_cons, List.not_mem_nil, or_false] at hs5
          rcases hs5 with rfl | rfl | rfl <;> decide
        clear hs5 hlit
        replace HZ := HZ.grown hg5 (by omega)
        replace HB := HB.grown hg5 (by omega)
        replace ho2 := OwnT.grownG ho2 hg5 (by omega)
        replace hs3 := Nat.le_trans hs3 hg5.size
        replace hg3 := World.grownBy.trans hg3 hg5
        clear hc3
        have hc3 := hc5
        clear hg5 hc5 d1
        have d1 := HB.cell 1
        dsimp at d1
        try dsimp only
        refine hK.out _ _ ?_ (fun hHeld => ?_)
        · (try dsimp only) <;> (trivial)
        clear hK K
        try simp only [Act.put, List.setIfInBounds_toArray, List.set_cons_zero, List.set_cons_succ]
        refine h_take 7 (some 25) (?_) rfl rfl (by kernel_rfl) (by kernel_rfl) (by kernel_rfl) (fun _ _ _ h => h) (by kernel_rfl) ?_ (by assumption) ?_
        rotate_left
        · intro w hSw; (try dsimp only at hSw); go_simp
          all_goals first | with_reducible rfl | omega | (simp; omega)
        try simp only [Act.put, List.setIfInBounds_toArray, List.set_cons_zero, List.set_cons_succ]
        refine h_call 8 (by kernel_rfl) rfl (by kernel_rfl) (fun K hK => ?_)
        have hnew := RdT.new1 aC_sz w5 33 ⟨(y : Int), s5, ⟨0, 0, ⟨#[]⟩⟩⟩
        replace HZ := HZ.alloc (Obj.cells #[.int .i64 (y : Int), .string s5, .int .i64 0, .int .i64 0, .string ⟨#[]⟩] 33)
        replace HB := HB.alloc (Obj.cells #[.int .i64 (y : Int), .string s5, .int .i64 0, .int .i64 0, .string ⟨#[]⟩] 33)
        replace ho2 := OwnT.alloc ho2 (Obj.cells #[.int .i64 (y : Int), .string s5, .int .i64 0, .int .i64 0, .string ⟨#[]⟩] 33)
        replace hs3 := Nat.le_trans hs3 (Nat.le_trans (Nat.le_succ _) (Nat.le_of_eq (alloc_sz _ (Obj.cells #[.int .i64 (y : Int), .string s5, .int .i64 0, .int .i64 0, .string ⟨#[]⟩] 33)).symm))
        replace hg3 := gr_alloc hg3 (Obj.cells #[.int .i64 (y : Int), .string s5, .int .i64 0, .int .i64 0, .string ⟨#[]⟩] 33)
        replace hc3 := hc3.alloc (Obj.cells #[.int .i64 (y : Int), .string s5, .int .i64 0, .int .i64 0, .string ⟨#[]⟩] 33)
        clear d1
        have d1 := HB.cell 1
        dsimp at d1
        go_simp
        refine hK.out _ _ ?_ (fun hHeld => ?_)
        · (try dsimp only) <;> (trivial)
        clear hK K
        try simp only [Act.put, List.setIfInBounds_toArray, List.set_cons_zero, List.set_cons_succ]
        refine h_call 9 (by kernel_rfl) rfl (by kernel_rfl) (fun K hK => ?_)
        refine appG (.tmp 19) (.tmp 26) _ rfl aC_sz w1.heap.size 33 i0 Tryd.underlying24 HI.out hz0 hz1 hz2 rfl (by omega) _ ags rfl ho2 _ 1 1 [⟨(y : Int), s5, ⟨0, 0, ⟨#[]⟩⟩⟩] rfl hnew (by intro u hu; simp [fl, aC] at hu; rcases hu with rfl | rfl | rfl | rfl | rfl <;> rfl) (by omega) (by omega) ?_ (by omega)
        intro v' w6 ho6 hb6 hq6
        have hl6 : (ags ++ [(⟨(y : Int), s5, ⟨0, 0, ⟨#[]⟩⟩⟩ : Ag)]).length = ags.length + 1 := by rw [List.length_append]; rfl
        obtain ⟨A6, c6, hv6, _⟩ := ho6.form
        rw [hl6] at hv6
        subst hv6
        replace HB := HB.grownO hq6 hne
        replace HZ := HZ.bel hb6 (by omega)
        replace hc3 := Cur.below' hc3 hb6 (by omega)
        replace hg3 := gr_bel hg3 hb6 (by omega)
        replace hs3 := Nat.le_trans hs3 hq6.size
        have hne6 := OwnT.ne_blk ho6 HB (by decide)
        obtain ⟨d0, d1, d2, e0, e1, e2⟩ := HB.three
        clear ho2
        change K (Act.put _ (some 27) _) _
        refine hK.out _ _ ?_ (fun hHeld => ?_)
        · (try dsimp only) <;> (trivial)
        clear hK K
        try simp only [Act.put, List.setIfInBounds_toArray, List.set_cons_zero, List.set_cons_succ]
        refine h_take 10 (some 28) (?_) rfl rfl (by kernel_rfl) (by kernel_rfl) (by kernel_rfl) (fun _ _ _ h => h) (by kernel_rfl) ?_ (by assumption) ?_
        rotate_left
        · intro w hSw; (try dsimp only at hSw); go_simp
          all_goals first | with_reducible rfl | omega | (simp; omega)
        try simp only [Act.put, List.setIfInBounds_toArray, List.set_cons_zero, List.set_cons_succ]
        refine h_call 11 (by kernel_rfl) rfl (by kernel_rfl) (fun K hK => ?_)
        go_simp
        refine hK.out _ _ ?_ (fun hHeld => ?_)
        · (try dsimp only) <;> (trivial)
        clear hK K
        try simp only [Act.put, List.setIfInBounds_toArray, List.set_cons_zero, List.set_cons_succ]
        refine wpAnyH_done (by kernel_rfl) ?_ _
        replace HB := HB.set_ 1 (.slice A6 (ags.length + 1) c6)
        replace HZ := HZ.far (p := ⟨w2.heap.size, 1, none⟩) (by simp; omega) (.slice A6 (ags.length + 1) c6)
        have ho7 := OwnT.set_ne ho6 (p := ⟨w2.heap.size, 1, none⟩) hne6 (.slice A6 (ags.length + 1) c6)
        replace hc3 := hc3.set (p := ⟨w2.heap.size, 1, none⟩) (by simp; omega) (.slice A6 (ags.length + 1) c6)
        replace hg3 := gr_set hg3 (p := ⟨w2.heap.size, 1, none⟩) (by simp; omega) (.slice A6 (ags.length + 1) c6)
        obtain ⟨p0, p1, p2, o0, o1, o2⟩ := HB.three
        try dsimp at p0 p1 p2
        obtain ⟨z0, z1, z2, y0, y1, y2⟩ := HZ.three
        clear HZ d0 d1 d2 e0 e1 e2
        try simp only [List.getElem?_toArray] at p0 p1 p2
        go_wp2
        refine bodyPost_ret (v := .agg #[.string kd, .slice A6 (ags.length + 1) c6, .bool nt]) (by simp [results, Tryd.results16, go_sem, z0, z1, z2]) rfl ⟨kd, A6, c6, ags ++ [⟨(y : Int), s5, ⟨0, 0, ⟨#[]⟩⟩⟩], nt, hkd, by omega, ?_, by rw [hl6], ?_, (by repeat (first | with_reducible assumption | with_reducible refine Cur.set ?_ (by first | (simp; done) | (simp; omega) | omega) _ | with_reducible refine Cur.alloc ?_ _ | with_reducible refine Cur.drew ?_ | with_reducible refine Cur.below ?_ (by assumption))), (by repeat (first | with_reducible exact World.grownBy.refl _ _ | with_reducible assumption | with_reducible refine gr_alloc ?_ _ | with_reducible refine gr_drew ?_ | with_reducible refine gr_drewN ?_ _ | with_reducible refine gr_set ?_ (by first | (simp; done) | (simp; omega) | omega) _ | with_reducible refine World.grownBy.trans ?_ (by assumption) | with_reducible refine grown_below ?_ (by assumption)))⟩
        · intro x hx; rcases List.mem_append.1 hx with h | h; exact HS.out x h; rw [List.mem_singleton] at h; rw [h]; exact ⟨hss, Nat.zero_le _⟩
        · rw [hl6]; exact (((ho7.low (by first | (simp; done) | (simp; omega)) _).low (by first | (simp; done) | (simp; omega)) _).low (by first | (simp; done) | (simp; omega)) _).lower (by omega)
      · skip
        go_simp
        refine (l1Below_any g code 5 _ hc3 (by omega)).mono ?_
        rintro e w4 ⟨y, hy, rfl, hc4, hg4⟩
        replace hlit := Rd.grownNe hlit hg4 (by simp; omega) (by simp)
        replace HZ := HZ.grown hg4 (by omega)
        replace HB := HB.grown hg4 (by omega)
        replace ho2 := OwnT.grownG ho2 hg4 (by omega)
        replace hs3 := Nat.le_trans hs3 hg4.size
        replace hg3 := World.grownBy.trans hg3 hg4
        clear hc3
        have hc3 := hc4
        clear hg4 hc4 d1
        have d1 := HB.cell 1
        dsimp at d1
        try dsimp only
        refine hK.out _ _ ?_ (fun hHeld => ?_)
        · (try dsimp only) <;> (trivial)
        clear hK K
        try simp only [Act.put, List.setIfInBounds_toArray, List.set_cons_zero, List.set_cons_succ]
        refine h_two 1 6 (by kernel_rfl) rfl rfl (by kernel_rfl) (by kernel_rfl) (fun K hK => ?_) (fun K hK => ?_)
        · skip
          go_simp
          refine hK.out _ _ ?_ (fun hHeld => ?_)
          · (try dsimp only) <;> (trivial)
          clear hK K
          try simp only [Act.put, List.setIfInBounds_toArray, List.set_cons_zero, List.set_cons_succ]
          refine h_call 6 (by kernel_rfl) rfl (by kernel_rfl) (fun K hK => ?_)
          go_simp
          refine (l1Str_any g code _ 3 3 [⟨#[]⟩, ⟨#[120]⟩, ⟨#[88]⟩] _ _ hc3 hlit (by omega) (by omega) (fun b o e => by injection e with e; injection e with e1; have := hc3.lt; simp at *; omega)).mono ?_
          rintro e w5 ⟨s5, hs5, rfl, hc5, hg5⟩
          have hss : s5.size ≤ 30 := by
            simp only [List.mem_cons, List.not_mem_nil, or_false] at hs5
            rcases hs5 with rfl | rfl | rfl <;> decide
          clear hs5 hlit
          replace HZ := HZ.grown hg5 (by omega)
          replace HB := HB.grown hg5 (by omega)
          replace ho2 := OwnT.grownG ho2 hg5 (by omega)
          replace hs3 := Nat.le_trans hs3 hg5.size
          replace hg3 := World.grownBy.trans hg3 hg5
          clear hc3
          have hc3 := hc5
          clear hg5 hc5 d1
          have d1 := HB.cell 1
          dsimp at d1
          try dsimp only
          refine hK.out _ _ ?_ (fun hHeld => ?_)
          · (try dsimp only) <;> (trivial)
          clear hK K
          try simp only [Act.put, List.setIfInBounds_toArray, List.set_cons_zero, List.set_cons_succ]
          refine h_take 7 (some 25) (?_) rfl rfl (by kernel_rfl) (by kernel_rfl) (by kernel_rfl) (fun _ _ _ h => h) (by kernel_rfl) ?_ (by assumption) ?_
          rotate_left
          · intro w hSw; (try dsimp only at hSw); go_simp
            all_goals first | with_reducible rfl | omega | (simp; omega)
          try simp only [Act.put, List.setIfInBounds_toArray, List.set_cons_zero, List.set_cons_succ]
          refine h_call 8 (by kernel_rfl) rfl (by kernel_rfl) (fun K hK => ?_)
          have hnew := RdT.new1 aC_sz w5 33 ⟨(y : Int), s5, ⟨0, 0, ⟨#[]⟩⟩⟩
          replace HZ := HZ.alloc (Obj.cells #[.int .i64 (y : Int), .string s5, .int .i64 0, .int .i64 0, .string ⟨#[]⟩] 33)
          replace HB := HB.alloc (Obj.cells #[.int .i64 (y : Int), .string s5, .int .i64 0, .int .i64 0, .string ⟨#[]⟩] 33)
          replace ho2 := OwnT.alloc ho2 (Obj.cells #[.int .i64 (y : Int), .string s5, .int .i64 0, .int .i64 0, .string ⟨#[]⟩] 33)
          replace hs3 := Nat.le_trans hs3 (Nat.le_trans (Nat.le_succ _) (Nat.le_of_eq (alloc_sz _ (Obj.cells #[.int .i64 (y : Int), .string s5, .int .i64 0, .int .i64 0, .string ⟨#[]⟩] 33)).symm))
          replace hg3 := gr_alloc hg3 (Obj.cells #[.int .i64 (y : Int), .string s5, .int .i64 0, .int .i64 0, .string ⟨#[]⟩] 33)
          replace hc3 := hc3.alloc (Obj.cells #[.int .i64 (y : Int), .string s5, .int .i64 0, .int .i64 0, .string ⟨#[]⟩] 33)
          clear d1
          have d1 := HB.cell 1
          dsimp at d1
          go_simp
          refine hK.out _ _ ?_ (fun hHeld => ?_)
          · (try dsimp only) <;> (trivial)
          clear hK K
          try simp only [Act.put, List.setIfInBounds_toArray, List.set_cons_zero, List.set_cons_succ]
          refine h_call 9 (by kernel_rfl) rfl (by kernel_rfl) (fun K hK => ?_)
          refine appG (.tmp 19) (.tmp 26) _ rfl aC_sz w1.heap.size 33 i0 Tryd.underlying24 HI.out hz0 hz1 hz2 rfl (by omega) _ ags rfl ho2 _ 1 1 [⟨(y : Int), s5, ⟨0, 0, ⟨#[]⟩⟩⟩] rfl hnew (by intro u hu; simp [fl, aC] at hu; rcases hu with rfl | rfl | rfl | rfl | rfl <;> rfl) (by omega) (by omega) ?_ (by omega)
          intro v' w6 ho6 hb6 hq6
          have hl6 : (ags ++ [(⟨(y : Int), s5, ⟨0, 0, ⟨#[]⟩⟩⟩ : Ag)]).length = ags.length + 1 := by rw [List.length_append]; rfl
          obtain ⟨A6, c6, hv6, _⟩ := ho6.form
          rw [hl6] at hv6
          subst hv6
          replace HB := HB.grownO hq6 hne
          replace HZ := HZ.bel hb6 (by omega)
          replace hc3 := Cur.below' hc3 hb6 (by omega)
          replace hg3 := gr_bel hg3 hb6 (by omega)
          replace hs3 := Nat.le_trans hs3 hq6.size
          have hne6 := OwnT.ne_blk ho6 HB (by decide)
          obtain ⟨d0, d1, d2, e0, e1, e2⟩ := HB.three
          clear ho2
          change K (Act.put _ (some 27) _) _
          refine hK.out _ _ ?_ (fun hHeld => ?_)
          · (try dsimp only) <;> (trivial)
          clear hK K
          try simp only [Act.put, List.setIfInBounds_toArray, List.set_cons_zero, List.set_cons_succ]
          refine h_take 10 (some 28) (?_) rfl rfl (by kernel_rfl) (by kernel_rfl) (by kernel_rfl) (fun _ _ _ h => h) (by kernel_rfl) ?_ (by assumption) ?_
          rotate_left
          · intro w hSw; (try dsimp only at hSw); go_simp
            all_goals first | with_reducible rfl | omega | (simp; omega)
          try simp only [Act.put, List.setIfInBounds_toArray, List.set_cons_zero, List.set_cons_succ]
          refine h_call 11 (by kernel_rfl) rfl (by kernel_rfl) (fun K hK => ?_)
          go_simp
          refine hK.out _ _ ?_ (fun hHeld => ?_)
          · (try dsimp only) <;> (trivial)
          clear hK K
          try simp only [Act.put, List.setIfInBounds_toArray, List.set_cons_zero, List.set_cons_succ]
          refine wpAnyH_done (by kernel_rfl) ?_ _
          replace HB := HB.set_ 1 (.slice A6 (ags.length + 1) c6)
          replace HZ := HZ.far (p := ⟨w2.heap.size, 1, none⟩) (by simp; omega) (.slice A6 (ags.length + 1) c6)
          have ho7 := OwnT.set_ne ho6 (p := ⟨w2.heap.size, 1, none⟩) hne6 (.slice A6 (ags.length + 1) c6)
          replace hc3 := hc3.set (p := ⟨w2.heap.size, 1, none⟩) (by simp; omega) (.slice A6 (ags.length + 1) c6)
          replace hg3 := gr_set hg3 (p := ⟨w2.heap.size, 1, none⟩) (by simp; omega) (.slice A6 (ags.length + 1) c6)
          obtain ⟨p0, p1, p2, o0, o1, o2⟩ := HB.three
          try dsimp at p0 p1 p2
          obtain ⟨z0, z1, z2, y0, y1, y2⟩ := HZ.three
          clear HZ d0 d1 d2 e0 e1 e2
          try simp only [List.getElem?_toArray] at p0 p1 p2
          go_wp2
          refine bodyPost_ret (v := .agg #[.string kd, .slice A6 (ags.length + 1) c6, .bool nt]) (by simp [results, Tryd.results16, go_sem, z0, z1, z2]) rfl ⟨kd, A6, c6, ags ++ [⟨(y : Int), s5, ⟨0, 0, ⟨#[]⟩⟩⟩], nt, hkd, by omega, ?_, by rw [hl6], ?_, (by repeat (first | with_reducible assumption | with_reducible refine Cur.set ?_ (by first | (simp; done) | (simp; omega) | omega) _ | with_reducible refine Cur.alloc ?_ _ | with_reducible refine Cur.drew ?_ | with_reducible refine Cur.below ?_ (by assumption))), (by repeat (first | with_reducible exact World.grownBy.refl _ _ | with_reducible assumption | with_reducible refine gr_alloc ?_ _ | with_reducible refine gr_drew ?_ | with_reducible refine gr_drewN ?_ _ | with_reducible refine gr_set ?_ (by first | (simp; done) | (simp; omega) | omega) _ | with_reducible refine World.grownBy.trans ?_ (by assumption) | with_reducible refine grown_below ?_ (by assumption)))⟩
          · intro x hx; rcases List.mem_append.1 hx with h | h; exact HS.out x h; rw [List.mem_singleton] at h; rw [h]; exact ⟨hss, Nat.zero_le _⟩
          · rw [hl6]; exact (((ho7.low (by first | (simp; done) | (simp; omega)) _).low (by first | (simp; done) | (simp; omega)) _).low (by first | (simp; done) | (simp; omega)) _).lower (by omega)
        · skip
          go_simp
          refine (l1Str_any g code _ 3 3 [⟨#[]⟩, ⟨#[120]⟩, ⟨#[88]⟩] _ _ hc3 hlit (by omega) (by omega) (fun b o e => by injection e with e; injection e with e1; have := hc3.lt; simp at *; omega)).mono ?_
          rintro e w5 ⟨s5, hs5, rfl, hc5, hg5⟩
          have hss : s5.size ≤ 30 := by
            simp only [List.mem_cons, List.not_mem_nil, or_false] at hs5
            rcases hs5 with rfl | rfl | rfl <;> decide
          clear hs5 hlit
          replace HZ := HZ.grown hg5 (by omega)
          replace HB := HB.grown hg5 (by omega)
          replace ho2 := OwnT.grownG ho2 hg5 (by omega)
          replace hs3 := Nat.le_trans hs3 hg5.size
          replace hg3 := World.grownBy.trans hg3 hg5
          clear hc3
          have hc3 := hc5
          clear hg5 hc5 d1
          have d1 := HB.cell 1
          dsimp at d1
          try dsimp only
          refine hK.out _ _ ?_ (fun hHeld => ?_)
          · (try dsimp only) <;> (trivial)
          clear hK K
          try simp only [Act.put, List.setIfInBounds_toArray, List.set_cons_zero, List.set_cons_succ]
          refine h_take 7 (some 25) (?_) rfl rfl (by kernel_rfl) (by kernel_rfl) (by kernel_rfl) (fun _ _ _ h => h) (by kernel_rfl) ?_ (by assumption) ?_
          rotate_left
          · intro w hSw; (try dsimp only at hSw); go_simp
            all_goals first | with_reducible rfl | omega | (simp; omega)
          try simp only [Act.put, List.setIfInBounds_toArray, List.set_cons_zero, List.set_cons_succ]
          refine h_two 1 8 (by kernel_rfl) rfl rfl (by kernel_rfl) (by kernel_rfl) (fun K hK => ?_) (fun K hK => ?_)
          · skip
            go_simp
            refine hK.out _ _ ?_ (fun hHeld => ?_)
            · (try dsimp only) <;> (trivial)
            clear hK K
            try simp only [Act.put, List.setIfInBounds_toArray, List.set_cons_zero, List.set_cons_succ]
            refine h_call 8 (by kernel_rfl) rfl (by kernel_rfl) (fun K hK => ?_)
            have hnew := RdT.new1 aC_sz w5 33 ⟨(y : Int), s5, ⟨0, 0, ⟨#[]⟩⟩⟩
            replace HZ := HZ.alloc (Obj.cells #[.int .i64 (y : Int), .string s5, .int .i64 0, .int .i64 0, .string ⟨#[]⟩] 33)
            replace HB := HB.alloc (Obj.cells #[.int .i64 (y : Int), .string s5, .int .i64 0, .int .i64 0, .string ⟨#[]⟩] 33)
            replace ho2 := OwnT.alloc ho2 (Obj.cells #[.int .i64 (y : Int), .string s5, .int .i64 0, .int .i64 0, .string ⟨#[]⟩] 33)
            replace hs3 := Nat.le_trans hs3 (Nat.le_trans (Nat.le_succ _) (Nat.le_of_eq (alloc_sz _ (Obj.cells #[.int .i64 (y : Int), .string s5, .int .i64 0, .int .i64 0, .string ⟨#[]⟩] 33)).symm))
            replace hg3 := gr_alloc hg3 (Obj.cells #[.int .i64 (y : Int), .string s5, .int .i64 0, .int .i64 0, .string ⟨#[]⟩] 33)
            replace hc3 := hc3.alloc (Obj.cells #[.int .i64 (y : Int), .string s5, .int .i64 0, .int .i64 0, .string ⟨#[]⟩] 33)
            clear d1
            have d1 := HB.cell 1
            dsimp at d1
            go_simp
            refine hK.out _ _ ?_ (fun hHeld => ?_)
            · (try dsimp only) <;> (trivial)
            clear hK K
            try simp only [Act.put, List.setIfInBounds_toArray, List.set_cons_zero, List.set_cons_succ]
            refine h_call 9 (by kernel_rfl) rfl (by kernel_rfl) (fun K hK => ?_)
            refine appG (.tmp 19) (.tmp 26) _ rfl aC_sz w1.heap.size 33 i0 Tryd.underlying24 HI.out hz0 hz1 hz2 rfl (by omega) _ ags rfl ho2 _ 1 1 [⟨(y : Int), s5, ⟨0, 0, ⟨#[]⟩⟩⟩] rfl hnew (by intro u hu; simp [fl, aC] at hu; rcases hu with rfl | rfl | rfl | rfl | rfl <;> rfl) (by omega) (by omega) ?_ (by omega)
            intro v' w6 ho6 hb6 hq6
            have hl6 : (ags ++ [(⟨(y : Int), s5, ⟨0, 0, ⟨#[]⟩⟩⟩ : Ag)]).length = ags.length + 1 := by rw [List.length_append]; rfl
            obtain ⟨A6, c6, hv6, _⟩ := ho6.form
            rw [hl6] at hv6
            subst hv6
            replace HB := HB.grownO hq6 hne
            replace HZ := HZ.bel hb6 (by omega)
            replace hc3 := Cur.below' hc3 hb6 (by omega)
            replace hg3 := gr_bel hg3 hb6 (by omega)
            replace hs3 := Nat.le_trans hs3 hq6.size
            have hne6 := OwnT.ne_blk ho6 HB (by decide)
            obtain ⟨d0, d1, d2, e0, e1, e2⟩ := HB.three
            clear ho2
            change K (Act.put _ (some 27) _) _
            refine hK.out _ _ ?_ (fun hHeld => ?_)
            · (try dsimp only) <;> (trivial)
            clear hK K
            try simp only [Act.put, List.setIfInBounds_toArray, List.set_cons_zero, List.set_cons_succ]
            refine h_take 10 (some 28) (?_) rfl rfl (by kernel_rfl) (by kernel_rfl) (by kernel_rfl) (fun _ _ _ h => h) (by kernel_rfl) ?_ (by assumption) ?_
            rotate_left
            · intro w hSw; (try dsimp only at hSw); go_simp
              all_goals first | with_reducible rfl | omega | (simp; omega)
            try simp only [Act.put, List.setIfInBounds_toArray, List.set_cons_zero, List.set_cons_succ]
            refine h_call 11 (by kernel_rfl) rfl (by kernel_rfl) (fun K hK => ?_)
            go_simp
            refine hK.out _ _ ?_ (fun hHeld => ?_)
            · (try dsimp only) <;> (trivial)
            clear hK K
            try simp only [Act.put, List.setIfInBounds_toArray, List.set_cons_zero, List.set_cons_succ]
            refine wpAnyH_done (by kernel_rfl) ?_ _
            replace HB := HB.set_ 1 (.slice A6 (ags.length + 1) c6)
            replace HZ := HZ.far (p := ⟨w2.heap.size, 1, none⟩) (by simp; omega) (.slice A6 (ags.length + 1) c6)
            have ho7 := OwnT.set_ne ho6 (p := ⟨w2.heap.size, 1, none⟩) hne6 (.slice A6 (ags.length + 1) c6)
            replace hc3 := hc3.set (p := ⟨w2.heap.size, 1, none⟩) (by simp; omega) (.slice A6 (ags.length + 1) c6)
            replace hg3 := gr_set hg3 (p := ⟨w2.heap.size, 1, none⟩) (by simp; omega) (.slice A6 (ags.length + 1) c6)
            obtain ⟨p0, p1, p2, o0, o1, o2⟩ := HB.three
            try dsimp at p0 p1 p2
            obtain ⟨z0, z1, z2, y0, y1, y2⟩ := HZ.three
            clear HZ d0 d1 d2 e0 e1 e2
            try simp only [List.getElem?_toArray] at p0 p1 p2
            go_wp2
            refine bodyPost_ret (v := .agg #[.string kd, .slice A6 (ags.length + 1) c6, .bool nt]) (by simp [results, Tryd.results16, go_sem, z0, z1, z2]) rfl ⟨kd, A6, c6, ags ++ [⟨(y : Int), s5, ⟨0, 0, ⟨#[]⟩⟩⟩], nt, hkd, by omega, ?_, by rw [hl6], ?_, (by repeat (first | with_reducible assumption | with_reducible refine Cur.set ?_ (by first | (simp; done) | (simp; omega) | omega) _ | with_reducible refine Cur.alloc ?_ _ | with_reducible refine Cur.drew ?_ | with_reducible refine Cur.below ?_ (by assumption))), (by repeat (first | with_reducible exact World.grownBy.refl _ _ | with_reducible assumption | with_reducible refine gr_alloc ?_ _ | with_reducible refine gr_drew ?_ | with_reducible refine gr_drewN ?_ _ | with_reducible refine gr_set ?_ (by first | (simp; done) | (simp; omega) | omega) _ | with_reducible refine World.grownBy.trans ?_ (by assumption) | with_reducible refine grown_below ?_ (by assumption)))⟩
            · intro x hx; rcases List.mem_append.1 hx with h | h; exact HS.out x h; rw [List.mem_singleton] at h; rw [h]; exact ⟨hss, Nat.zero_le _⟩
            · rw [hl6]; exact (((ho7.low (by first | (simp; done) | (simp; omega)) _).low (by first | (simp; done) | (simp; omega)) _).low (by first | (simp; done) | (simp; omega)) _).lower (by omega)
          · skip
            have hnew := RdT.new1 aC_sz w5 33 ⟨(y : Int), s5, ⟨0, 0, ⟨#[]⟩⟩⟩
            replace HZ := HZ.alloc (Obj.cells #[.int .i64 (y : Int), .string s5, .int .i64 0, .int .i64 0, .string ⟨#[]⟩] 33)
            replace HB := HB.alloc (Obj.cells #[.int .i64 (y : Int), .string s5, .int .i64 0, .int .i64 0, .string ⟨#[]⟩] 33)
            replace ho2 := OwnT.alloc ho2 (Obj.cells #[.int .i64 (y : Int), .string s5, .int .i64 0, .int .i64 0, .string ⟨#[]⟩] 33)
            replace hs3 := Nat.le_trans hs3 (Nat.le_trans (Nat.le_succ _) (Nat.le_of_eq (alloc_sz _ (Obj.cells #[.int .i64 (y : Int), .string s5, .int .i64 0, .int .i64 0, .string ⟨#[]⟩] 33)).symm))
            replace hg3 := gr_alloc hg3 (Obj.cells #[.int .i64 (y : Int), .string s5, .int .i64 0, .int .i64 0, .string ⟨#[]⟩] 33)
            replace hc3 := hc3.alloc (Obj.cells #[.int .i64 (y : Int), .string s5, .int .i64 0, .int .i64 0, .string ⟨#[]⟩] 33)
            clear d1
            have d1 := HB.cell 1
            dsimp at d1
            go_simp
            refine hK.out _ _ ?_ (fun hHeld => ?_)
            · (try dsimp only) <;> (trivial)
            clear hK K
            try simp only [Act.put, List.setIfInBounds_toArray, List.set_cons_zero, List.set_cons_succ]
            refine h_call 1 (by kernel_rfl) rfl (by kernel_rfl) (fun K hK => ?_)
            go_simp
            refine hK.out _ _ ?_ (fun hHeld => ?_)
            · (try dsimp only) <;> (trivial)
            clear hK K
            try simp only [Act.put, List.setIfInBounds_toArray, List.set_cons_zero, List.set_cons_succ]
            refine h_call 9 (by kernel_rfl) rfl (by kernel_rfl) (fun K hK => ?_)
            refine appG (.tmp 19) (.tmp 26) _ rfl aC_sz w1.heap.size 33 i0 Tryd.underlying24 HI.out hz0 hz1 hz2 rfl (by omega) _ ags rfl ho2 _ 1 1 [⟨(y : Int), s5, ⟨0, 0, ⟨#[]⟩⟩⟩] rfl hnew (by intro u hu; simp [fl, aC] at hu; rcases hu with rfl | rfl | rfl | rfl | rfl <;> rfl) (by omega) (by omega) ?_ (by omega)
            intro v' w6 ho6 hb6 hq6
            have hl6 : (ags ++ [(⟨(y : Int), s5, ⟨0, 0, ⟨#[]⟩⟩⟩ : Ag)]).length = ags.length + 1 := by rw [List.length_append]; rfl
            obtain ⟨A6, c6, hv6, _⟩ := ho6.form
            rw [hl6] at hv6
            subst hv6
            replace HB := HB.grownO hq6 hne
            replace HZ := HZ.bel hb6 (by omega)
            replace hc3 := Cur.below' hc3 hb6 (by omega)
            replace hg3 := gr_bel hg3 hb6 (by omega)
            replace hs3 := Nat.le_trans hs3 hq6.size
            have hne6 := OwnT.ne_blk ho6 HB (by decide)
            obtain ⟨d0, d1, d2, e0, e1, e2⟩ := HB.three
            clear ho2
            change K (Act.put _ (some 27) _) _
            refine hK.out _ _ ?_ (fun hHeld => ?_)
            · (try dsimp only) <;> (trivial)
            clear hK K
            try simp only [Act.put, List.setIfInBounds_toArray, List.set_cons_zero, List.set_cons_succ]
            refine h_take 10 (some 28) (?_) rfl rfl (by kernel_rfl) (by kernel_rfl) (by kernel_rfl) (fun _ _ _ h => h) (by kernel_rfl) ?_ (by assumption) ?_
            rotate_left
            · intro w hSw; (try dsimp only at hSw); go_simp
              all_goals first | with_reducible rfl | omega | (simp; omega)
            try simp only [Act.put, List.setIfInBounds_toArray, List.set_cons_zero, List.set_cons_succ]
            refine h_call 11 (by kernel_rfl) rfl (by kernel_rfl) (fun K hK => ?_)
            go_simp
            refine hK.out _ _ ?_ (fun hHeld => ?_)
            · (try dsimp only) <;> (trivial)
            clear hK K
            try simp only [Act.put, List.setIfInBounds_toArray, List.set_cons_zero, List.set_cons_succ]
            refine wpAnyH_done (by kernel_rfl) ?_ _
            replace HB := HB.set_ 1 (.slice A6 (ags.length + 1) c6)
            replace HZ := HZ.far (p := ⟨w2.heap.size, 1, none⟩) (by simp; omega) (.slice A6 (ags.length + 1) c6)
            have ho7 := OwnT.set_ne ho6 (p := ⟨w2.heap.size, 1, none⟩) hne6 (.slice A6 (ags.length + 1) c6)
            replace hc3 := hc3.set (p := ⟨w2.heap.size, 1, none⟩) (by simp; omega) (.slice A6 (ags.length + 1) c6)
            replace hg3 := gr_set hg3 (p := ⟨w2.heap.size, 1, none⟩) (by simp; omega) (.slice A6 (ags.length + 1) c6)
            obtain ⟨p0, p1, p2, o0, o1, o2⟩ := HB.three
            try dsimp at p0 p1 p2
            obtain ⟨z0, z1, z2, y0, y1, y2⟩ := HZ.three
            clear HZ d0 d1 d2 e0 e1 e2
            try simp only [List.getElem?_toArray] at p0 p1 p2
            go_wp2
            refine bodyPost_ret (v := .agg #[.string kd, .slice A6 (ags.length + 1) c6, .bool nt]) (by simp [results, Tryd.results16, go_sem, z0, z1, z2]) rfl ⟨kd, A6, c6, ags ++ [⟨(y : Int), s5, ⟨0, 0, ⟨#[]⟩⟩⟩], nt, hkd, by omega, ?_, by rw [hl6], ?_, (by repeat (first | with_reducible assumption | with_reducible refine Cur.set ?_ (by first | (simp; done) | (simp; omega) | omega) _ | with_reducible refine Cur.alloc ?_ _ | with_reducible refine Cur.drew ?_ | with_reducible refine Cur.below ?_ (by assumption))), (by repeat (first | with_reducible exact World.grownBy.refl _ _ | with_reducible assumption | with_reducible refine gr_alloc ?_ _ | with_reducible refine gr_drew ?_ | with_reducible refine gr_drewN ?_ _ | with_reducible refine gr_set ?_ (by first | (simp; done) | (simp; omega) | omega) _ | with_reducible refine World.grownBy.trans ?_ (by assumption) | with_reducible refine grown_below ?_ (by assumption)))⟩
            · intro x hx; rcases List.mem_append.1 hx with h | h; exact HS.out x h; rw [List.mem_singleton] at h; rw [h]; exact ⟨hss, Nat.zero_le _⟩
            · rw [hl6]; exact (((ho7.low (by first | (simp; done) | (simp; omega)) _).low (by first | (simp; done) | (simp; omega)) _).low (by first | (simp; done) | (simp; omega)) _).lower (by omega)
  have q1 : ((x : Int) == 1) = false := by simp; omega
  by_cases b2 : x = 2
  · subst b2
    go_wp2
    go_loopw [37] (fun _ wr => ∃ (A' : Option Addr) (c' : Nat) (acc : List Ag), acc.length ≤ 6 ∧ (∀ x ∈ acc, smallA x) ∧ Blk wr w2.heap.size 26 #[.string kd, .slice A' acc.length c', .bool nt] ∧ Blk wr w.heap.size 26 #[.string ⟨#[]⟩, .slice none 0 0, .bool false] ∧ OwnT aC 5 wr w1.heap.size 33 (.slice A' acc.length c') acc ∧ Cur wr g code ∧ w.grownBy wr (some g) ∧ w2.heap.size + 1 ≤ wr.heap.size) (fun _ wr => 6 - lenAt wr w2.heap.size)
    case atStart => exact ⟨A2, c2, ags, by omega, HS.out, HB, HZ, ho2, hc3, hg3, hs3⟩
    case round =>
      clear HB HZ ho2 hc3 hg3 hs3 hne
      obtain ⟨A', c', acc, hk, hsz, HB, HZ, ho2, hc3, hg3, hs3⟩ := hrel
      have HSZ := Lib.hid hsz; clear hsz
      have d1 := HB.cell 1
      dsimp at d1
      have hne := OwnT.ne_blk ho2 HB (by decide)
      obtain ⟨Z, hZ⟩ : ∃ Z, lenAt wr w2.heap.size = Z := ⟨_, rfl⟩
      have hZl : Z = acc.length := by rw [← hZ]; unfold lenAt; rw [d1]
      go_wp2_with fail
      replace HZ := Blk.drew HZ
      replace HB := Blk.drew HB
      replace ho2 : OwnT aC 5 wr.drew w1.heap.size 33 _ _ := ho2
      replace hs3 : w2.heap.size + 1 ≤ wr.drew.heap.size := hs3
      replace hg3 := gr_drew hg3
      replace hc3 := Cur.drew hc3
      replace d1 : wr.drew.cell? ⟨w2.heap.size, 1, none⟩ = _ := d1
      refine wp_region_held_drew (S := (fun w' => w'.cell? ⟨w2.heap.size, 1, none⟩ = some (.slice A' acc.length c'))) (by kernel_rfl) ?_ (fun hHeld => ?_)
      · (try dsimp only) <;> (exact d1)
      refine h_take 0 (some 31) (?_) rfl rfl (by kernel_rfl) (by kernel_rfl) (by kernel_rfl) (fun _ _ _ h => h) (by kernel_rfl) ?_ (by assumption) ?_
      rotate_left
      · intro w hSw; (try dsimp only at hSw); go_simp
        all_goals first | with_reducible rfl | omega | (simp; omega)
      try simp only [Act.put, List.setIfInBounds_toArray, List.set_cons_zero, List.set_cons_succ]
      refine h_take 1 (some 32) (?_) rfl rfl (by kernel_rfl) (by kernel_rfl) (by kernel_rfl) (fun _ _ _ h => h) (by kernel_rfl) ?_ (by assumption) ?_
      rotate_left
      · intro w hSw; (try dsimp only at hSw); go_simp
        all_goals first | with_reducible rfl | omega | (simp; omega)
      try simp only [Act.put, List.setIfInBounds_toArray, List.set_cons_zero, List.set_cons_succ]
      refine h_take 2 (some 33) (?_) rfl rfl (by kernel_rfl) (by kernel_rfl) (by kernel_rfl) (fun _ _ _ h => h) (by kernel_rfl) ?_ (by assumption) ?_
      rotate_left
      · intro w hSw; (try dsimp only at hSw); go_simp
        all_goals first | with_reducible rfl | omega | (simp; omega)
      try simp only [Act.put, List.setIfInBounds_toArray, List.set_cons_zero, List.set_cons_succ]
      refine h_take 3 (some 34) (?_) rfl rfl (by kernel_rfl) (by kernel_rfl) (by kernel_rfl) (fun _ _ _ h => h) (by kernel_rfl) ?_ (by assumption) ?_
      rotate_left
      · intro w hSw; (try dsimp only at hSw); go_simp
        all_goals first | with_reducible rfl | omega | (simp; omega)
      try simp only [Act.put, List.setIfInBounds_toArray, List.set_cons_zero, List.set_cons_succ]
      refine h_call 4 (by kernel_rfl) rfl (by kernel_rfl) (fun K hK => ?_)
      go_simp
      refine (l1Below_any g code 2 _ hc3 (by omega)).mono ?_
      rintro e w4 ⟨y, hy, rfl, hc4, hg4⟩
      have hy1 : y ≤ 1 := by omega
      replace HZ := HZ.grown hg4 (by omega)
      replace HB := HB.grown hg4 (by omega)
      replace ho2 := OwnT.grownG ho2 hg4 (by omega)
      replace hs3 := Nat.le_trans hs3 hg4.size
      replace hg3 := World.grownBy.trans hg3 hg4
      clear hc3
      have hc3 := hc4
      clear hg4 hc4 d1
      have d1 := HB.cell 1
      dsimp at d1
      try dsimp only
      refine hK.out _ _ ?_ (fun hHeld => ?_)
      · (try dsimp only) <;> (exact d1)
      clear hK K
      try simp only [Act.put, List.setIfInBounds_toArray, List.set_cons_zero, List.set_cons_succ]
      refine h_take 5 (some 36) (.int .i64 (5 + (y : Int))) rfl rfl (by kernel_rfl) (by kernel_rfl) (by kernel_rfl) (fun _ _ _ h => h) (by kernel_rfl) ?_ (by assumption) ?_
      · intro w hSw; (try dsimp only at hSw); go_simp
        all_goals first | with_reducible rfl | omega | (simp; omega) | (rw [IntKind.wrap_i64]; omega) | (rw [IntKind.wrap_u8]; omega) | exact Int.tmod_eq_emod_of_nonneg (by omega) | (simp [IntKind.wrap_i64, IntKind.wrap_u8]; omega)
      try simp only [Act.put, List.setIfInBounds_toArray, List.set_cons_zero, List.set_cons_succ]
      refine h_take 6 (some 37) (?_) rfl rfl (by kernel_rfl) (by kernel_rfl) (by kernel_rfl) (fun _ _ _ h => h) (by kernel_rfl) ?_ (by assumption) ?_
      rotate_left
      · intro w hSw; (try dsimp only at hSw); go_simp
        all_goals first | with_reducible rfl | omega | (simp; omega)
      try simp only [Act.put, List.setIfInBounds_toArray, List.set_cons_zero, List.set_cons_succ]
      refine wpAnyH_done (by kernel_rfl) ?_ _
      clear hHeld
      by_cases hlt : (acc.length : Int) < 5 + (y : Int)
      · skip
        go_wp2_with fail
        replace HZ := Blk.drew HZ
        replace HB := Blk.drew HB
        replace ho2 : OwnT aC 5 w4.drew w1.heap.size 33 _ _ := ho2
        replace hs3 : w2.heap.size + 1 ≤ w4.drew.heap.size := hs3
        replace hg3 := gr_drew hg3
        replace hc3 := Cur.drew hc3
        replace d1 : w4.drew.cell? ⟨w2.heap.size, 1, none⟩ = _ := d1
        refine wp_region_held_drew (S := (fun _ => True)) (by kernel_rfl) ?_ (fun hHeld => ?_)
        · (try dsimp only) <;> (trivial)
        refine h_take 0 (some 38) (?_) rfl rfl (by kernel_rfl) (by kernel_rfl) (by kernel_rfl) (fun _ _ _ h => h) (by kernel_rfl) ?_ (by assumption) ?_
        rotate_left
        · intro w hSw; (try dsimp only at hSw); go_simp
          all_goals first | with_reducible rfl | omega | (simp; omega)
        try simp only [Act.put, List.setIfInBounds_toArray, List.set_cons_zero, List.set_cons_succ]
        refine h_take 2 (some 40) (?_) rfl rfl (by kernel_rfl) (by kernel_rfl) (by kernel_rfl) (fun _ _ _ h => h) (by kernel_rfl) ?_ (by assumption) ?_
        rotate_left
        · intro w hSw; (try dsimp only at hSw); go_simp
          all_goals first | with_reducible rfl | omega | (simp; omega)
        try simp only [Act.put, List.setIfInBounds_toArray, List.set_cons_zero, List.set_cons_succ]
        refine h_two 1 3 (by kernel_rfl) rfl rfl (by kernel_rfl) (by kernel_rfl) (fun K hK => ?_) (fun K hK => ?_)
        · skip
          go_simp
          refine hK.out _ _ ?_ (fun hHeld => ?_)
          · (try dsimp only) <;> (trivial)
          clear hK K
          try simp only [Act.put, List.setIfInBounds_toArray, List.set_cons_zero, List.set_cons_succ]
          refine h_call 3 (by kernel_rfl) rfl (by kernel_rfl) (fun K hK => ?_)
          go_simp
          refine (l6Arg_any g code _ hc3).mono ?_
          rintro e w5 ⟨ak, as_, vk, vn, vs, hvs1, hvs2, rfl, hc5, hg5⟩
          replace HZ := HZ.grown hg5 (by omega)
          replace HB := HB.grown hg5 (by omega)
          replace ho2 := OwnT.grownG ho2 hg5 (by omega)
          replace hs3 := Nat.le_trans hs3 hg5.size
          replace hg3 := World.grownBy.trans hg3 hg5
          clear hc3
          have hc3 := hc5
          clear hg5 hc5 d1
          have d1 := HB.cell 1
          dsimp at d1
          try dsimp only
          refine hK.out _ _ ?_ (fun hHeld => ?_)
          · (try dsimp only) <;> (trivial)
          clear hK K
          try simp only [Act.put, List.setIfInBounds_toArray, List.set_cons_zero, List.set_cons_succ]
          refine h_call 4 (by kernel_rfl) rfl (by kernel_rfl) (fun K hK => ?_)
          have hnew := RdT.new1 aC_sz w5 33 ⟨ak, as_, ⟨vk, vn, vs⟩⟩
          replace HZ := HZ.alloc (Obj.cells #[.int .i64 ak, .string as_, .int .i64 vk, .int .i64 vn, .string vs] 33)
          replace HB := HB.alloc (Obj.cells #[.int .i64 ak, .string as_, .int .i64 vk, .int .i64 vn, .string vs] 33)
          replace ho2 := OwnT.alloc ho2 (Obj.cells #[.int .i64 ak, .string as_, .int .i64 vk, .int .i64 vn, .string vs] 33)
          replace hs3 := Nat.le_trans hs3 (Nat.le_trans (Nat.le_succ _) (Nat.le_of_eq (alloc_sz _ (Obj.cells #[.int .i64 ak, .string as_, .int .i64 vk, .int .i64 vn, .string vs] 33)).symm))
          replace hg3 := gr_alloc hg3 (Obj.cells #[.int .i64 ak, .string as_, .int .i64 vk, .int .i64 vn, .string vs] 33)
          replace hc3 := hc3.alloc (Obj.cells #[.int .i64 ak, .string as_, .int .i64 vk, .int .i64 vn, .string vs] 33)
          clear d1
          have d1 := HB.cell 1
          dsimp at d1
          go_simp
          refine hK.out _ _ ?_ (fun hHeld => ?_)
          · (try dsimp only) <;> (trivial)
          clear hK K
          try simp only [Act.put, List.setIfInBounds_toArray, List.set_cons_zero, List.set_cons_succ]
          refine h_call 5 (by kernel_rfl) rfl (by kernel_rfl) (fun K hK => ?_)
          refine appG (.tmp 39) (.tmp 42) _ rfl aC_sz w1.heap.size 33 i0 Tryd.underlying24 HI.out hz0 hz1 hz2 rfl (by omega) _ acc rfl ho2 _ 1 1 [⟨ak, as_, ⟨vk, vn, vs⟩⟩] rfl hnew (by intro u hu; simp [fl, aC] at hu; rcases hu with rfl | rfl | rfl | rfl | rfl <;> rfl) (by omega) (by omega) ?_ (by omega)
          intro v' w6 ho6 hb6 hq6
          have hl6 : (acc ++ [(⟨ak, as_, ⟨vk, vn, vs⟩⟩ : Ag)]).length = acc.length + 1 := by rw [List.length_append]; rfl
          obtain ⟨A6, c6, hv6, _⟩ := ho6.form
          rw [hl6] at hv6
          subst hv6
          replace HB := HB.grownO hq6 hne
          replace HZ := HZ.bel hb6 (by omega)
          replace hc3 := Cur.below' hc3 hb6 (by omega)
          replace hg3 := gr_bel hg3 hb6 (by omega)
          replace hs3 := Nat.le_trans hs3 hq6.size
          have hne6 := OwnT.ne_blk ho6 HB (by decide)
          obtain ⟨d0, d1, d2, e0, e1, e2⟩ := HB.three
          clear ho2
          change K (Act.put _ (some 43) _) _
          refine hK.out _ _ ?_ (fun hHeld => ?_)
          · (try dsimp only) <;> (trivial)
          clear hK K
          try simp only [Act.put, List.setIfInBounds_toArray, List.set_cons_zero, List.set_cons_succ]
          refine h_take 6 (some 44) (?_) rfl rfl (by kernel_rfl) (by kernel_rfl) (by kernel_rfl) (fun _ _ _ h => h) (by kernel_rfl) ?_ (by assumption) ?_
          rotate_left
          · intro w hSw; (try dsimp only at hSw); go_simp
            all_goals first | with_reducible rfl | omega | (simp; omega)
          try simp only [Act.put, List.setIfInBounds_toArray, List.set_cons_zero, List.set_cons_succ]
          refine h_call 7 (by kernel_rfl) rfl (by kernel_rfl) (fun K hK => ?_)
          go_simp
          refine hK.out _ _ ?_ (fun hHeld => ?_)
          · (try dsimp only) <;> (trivial)
          clear hK K
          try simp only [Act.put, List.setIfInBounds_toArray, List.set_cons_zero, List.set_cons_succ]
          refine wpAnyH_done (by kernel_rfl) ?_ _
          replace HB := HB.set_ 1 (.slice A6 (acc.length + 1) c6)
          replace HZ := HZ.far (p := ⟨w2.heap.size, 1, none⟩) (by simp; omega) (.slice A6 (acc.length + 1) c6)
          have ho7 := OwnT.set_ne ho6 (p := ⟨w2.heap.size, 1, none⟩) hne6 (.slice A6 (acc.length + 1) c6)
          replace hc3 := hc3.set (p := ⟨w2.heap.size, 1, none⟩) (by simp; omega) (.slice A6 (acc.length + 1) c6)
          replace hg3 := gr_set hg3 (p := ⟨w2.heap.size, 1, none⟩) (by simp; omega) (.slice A6 (acc.length + 1) c6)
          obtain ⟨p0, p1, p2, o0, o1, o2⟩ := HB.three
          try dsimp at p0 p1 p2
          clear d0 d1 d2 e0 e1 e2
          try simp only [List.getElem?_toArray] at p0 p1 p2
          go_wp2
          go_roundw
          case rel => exact ⟨A6, c6, acc ++ [⟨ak, as_, ⟨vk, vn, vs⟩⟩], by rw [hl6]; omega, fun x hx => (by rcases List.mem_append.1 hx with h | h; exact HSZ.out x h; rw [List.mem_singleton] at h; rw [h]; exact ⟨hvs1, hvs2⟩), by rw [hl6]; simpa using HB, HZ, by rw [hl6]; exact ho7, hc3, hg3, by simp; omega⟩
          case measure => (rw [hZ]; unfold lenAt; rw [p1]; simp; omega)
        · skip
          go_simp
          refine (l6Arg_any g code _ hc3).mono ?_
          rintro e w5 ⟨ak, as_, vk, vn, vs, hvs1, hvs2, rfl, hc5, hg5⟩
          replace HZ := HZ.grown hg5 (by omega)
          replace HB := HB.grown hg5 (by omega)
          replace ho2 := OwnT.grownG ho2 hg5 (by omega)
          replace hs3 := Nat.le_trans hs3 hg5.size
          replace hg3 := World.grownBy.trans hg3 hg5
          clear hc3
          have hc3 := hc5
          clear hg5 hc5 d1
          have d1 := HB.cell 1
          dsimp at d1
          try dsimp only
          refine hK.out _ _ ?_ (fun hHeld => ?_)
          · (try dsimp only) <;> (trivial)
          clear hK K
          try simp only [Act.put, List.setIfInBounds_toArray, List.set_cons_zero, List.set_cons_succ]
          refine h_two 1 4 (by kernel_rfl) rfl rfl (by kernel_rfl) (by kernel_rfl) (fun K hK => ?_) (fun K hK => ?_)
          · skip
            go_simp
            refine hK.out _ _ ?_ (fun hHeld => ?_)
            · (try dsimp only) <;> (trivial)
            clear hK K
            try simp only [Act.put, List.setIfInBounds_toArray, List.set_cons_zero, List.set_cons_succ]
            refine h_call 4 (by kernel_rfl) rfl (by kernel_rfl) (fun K hK => ?_)
            have hnew := RdT.new1 aC_sz w5 33 ⟨ak, as_, ⟨vk, vn, vs⟩⟩
            replace HZ := HZ.alloc (Obj.cells #[.int .i64 ak, .string as_, .int .i64 vk, .int .i64 vn, .string vs] 33)
            replace HB := HB.alloc (Obj.cells #[.int .i64 ak, .string as_, .int .i64 vk, .int .i64 vn, .string vs] 33)
            replace ho2 := OwnT.alloc ho2 (Obj.cells #[.int .i64 ak, .string as_, .int .i64 vk, .int .i64 vn, .string vs] 33)
            replace hs3 := Nat.le_trans hs3 (Nat.le_trans (Nat.le_succ _) (Nat.le_of_eq (alloc_sz _ (Obj.cells #[.int .i64 ak, .string as_, .int .i64 vk, .int .i64 vn, .string vs] 33)).symm))
            replace hg3 := gr_alloc hg3 (Obj.cells #[.int .i64 ak, .string as_, .int .i64 vk, .int .i64 vn, .string vs] 33)
            replace hc3 := hc3.alloc (Obj.cells #[.int .i64 ak, .string as_, .int .i64 vk, .int .i64 vn, .string vs] 33)
            clear d1
            have d1 := HB.cell 1
            dsimp at d1
            go_simp
            refine hK.out _ _ ?_ (fun hHeld => ?_)
            · (try dsimp only) <;> (trivial)
            clear hK K
            try simp only [Act.put, List.setIfInBounds_toArray, List.set_cons_zero, List.set_cons_succ]
            refine h_call 5 (by kernel_rfl) rfl (by kernel_rfl) (fun K hK => ?_)
            refine appG (.tmp 39) (.tmp 42) _ rfl aC_sz w1.heap.size 33 i0 Tryd.underlying24 HI.out hz0 hz1 hz2 rfl (by omega) _ acc rfl ho2 _ 1 1 [⟨ak, as_, ⟨vk, vn, vs⟩⟩] rfl hnew (by intro u hu; simp [fl, aC] at hu; rcases hu with rfl | rfl | rfl | rfl | rfl <;> rfl) (by omega) (by omega) ?_ (by omega)
            intro v' w6 ho6 hb6 hq6
            have hl6 : (acc ++ [(⟨ak, as_, ⟨vk, vn, vs⟩⟩ : Ag)]).length = acc.length + 1 := by rw [List.length_append]; rfl
            obtain ⟨A6, c6, hv6, _⟩ := ho6.form
            rw [hl6] at hv6
            subst hv6
            replace HB := HB.grownO hq6 hne
            replace HZ := HZ.bel hb6 (by omega)
            replace hc3 := Cur.below' hc3 hb6 (by omega)
            replace hg3 := gr_bel hg3 hb6 (by omega)
            replace hs3 := Nat.le_trans hs3 hq6.size
            have hne6 := OwnT.ne_blk ho6 HB (by decide)
            obtain ⟨d0, d1, d2, e0, e1, e2⟩ := HB.three
            clear ho2
            change K (Act.put _ (some 43) _) _
            refine hK.out _ _ ?_ (fun hHeld => ?_)
            · (try dsimp only) <;> (trivial)
            clear hK K
            try simp only [Act.put, List.setIfInBounds_toArray, List.set_cons_zero, List.set_cons_succ]
            refine h_take 6 (some 44) (?_) rfl rfl (by kernel_rfl) (by kernel_rfl) (by kernel_rfl) (fun _ _ _ h => h) (by kernel_rfl) ?_ (by assumption) ?_
            rotate_left
            · intro w hSw; (try dsimp only at hSw); go_simp
              all_goals first | with_reducible rfl | omega | (simp; omega)
            try simp only [Act.put, List.setIfInBounds_toArray, List.set_cons_zero, List.set_cons_succ]
            refine h_call 7 (by kernel_rfl) rfl (by kernel_rfl) (fun K hK => ?_)
            go_simp
            refine hK.out _ _ ?_ (fun hHeld => ?_)
            · (try dsimp only) <;> (trivial)
            clear hK K
            try simp only [Act.put, List.setIfInBounds_toArray, List.set_cons_zero, List.set_cons_succ]
            refine wpAnyH_done (by kernel_rfl) ?_ _
            replace HB := HB.set_ 1 (.slice A6 (acc.length + 1) c6)
            replace HZ := HZ.far (p := ⟨w2.heap.size, 1, none⟩) (by simp; omega) (.slice A6 (acc.length + 1) c6)
            have ho7 := OwnT.set_ne ho6 (p := ⟨w2.heap.size, 1, none⟩) hne6 (.slice A6 (acc.length + 1) c6)
            replace hc3 := hc3.set (p := ⟨w2.heap.size, 1, none⟩) (by simp; omega) (.slice A6 (acc.length + 1) c6)
            replace hg3 := gr_set hg3 (p := ⟨w2.heap.size, 1, none⟩) (by simp; omega) (.slice A6 (acc.length + 1) c6)
            obtain ⟨p0, p1, p2, o0, o1, o2⟩ := HB.three
            try dsimp at p0 p1 p2
            clear d0 d1 d2 e0 e1 e2
            try simp only [List.getElem?_toArray] at p0 p1 p2
            go_wp2
            go_roundw
            case rel => exact ⟨A6, c6, acc ++ [⟨ak, as_, ⟨vk, vn, vs⟩⟩], by rw [hl6]; omega, fun x hx => (by rcases List.mem_append.1 hx with h | h; exact HSZ.out x h; rw [List.mem_singleton] at h; rw [h]; exact ⟨hvs1, hvs2⟩), by rw [hl6]; simpa using HB, HZ, by rw [hl6]; exact ho7, hc3, hg3, by simp; omega⟩
            case measure => (rw [hZ]; unfold lenAt; rw [p1]; simp; omega)
          · skip
            have hnew := RdT.new1 aC_sz w5 33 ⟨ak, as_, ⟨vk, vn, vs⟩⟩
            replace HZ := HZ.alloc (Obj.cells #[.int .i64 ak, .string as_, .int .i64 vk, .int .i64 vn, .string vs] 33)
            replace HB := HB.alloc (Obj.cells #[.int .i64 ak, .string as_, .int .i64 vk, .int .i64 vn, .string vs] 33)
            replace ho2 := OwnT.alloc ho2 (Obj.cells #[.int .i64 ak, .string as_, .int .i64 vk, .int .i64 vn, .string vs] 33)
            replace hs3 := Nat.le_trans hs3 (Nat.le_trans (Nat.le_succ _) (Nat.le_of_eq (alloc_sz _ (Obj.cells #[.int .i64 ak, .string as_, .int .i64 vk, .int .i64 vn, .string vs] 33)).symm))
            replace hg3 := gr_alloc hg3 (Obj.cells #[.int .i64 ak, .string as_, .int .i64 vk, .int .i64 vn, .string vs] 33)
            replace hc3 := hc3.alloc (Obj.cells #[.int .i64 ak, .string as_, .int .i64 vk, .int .i64 vn, .string vs] 33)
            clear d1
            have d1 := HB.cell 1
            dsimp at d1
            go_simp
            refine hK.out _ _ ?_ (fun hHeld => ?_)
            · (try dsimp only) <;> (trivial)
            clear hK K
            try simp only [Act.put, List.setIfInBounds_toArray, List.set_cons_zero, List.set_cons_succ]
            refine h_call 1 (by kernel_rfl) rfl (by kernel_rfl) (fun K hK => ?_)
            go_simp
            refine hK.out _ _ ?_ (fun hHeld => ?_)
            · (try dsimp only) <;> (trivial)
            clear hK K
            try simp only [Act.put, List.setIfInBounds_toArray, List.set_cons_zero, List.set_cons_succ]
            refine h_call 5 (by kernel_rfl) rfl (by kernel_rfl) (fun K hK => ?_)
            refine appG (.tmp 39) (.tmp 42) _ rfl aC_sz w1.heap.size 33 i0 Tryd.underlying24 HI.out hz0 hz1 hz2 rfl (by omega) _ acc rfl ho2 _ 1 1 [⟨ak, as_, ⟨vk, vn, vs⟩⟩] rfl hnew (by intro u hu; simp [fl, aC] at hu; rcases hu with rfl | rfl | rfl | rfl | rfl <;> rfl) (by omega) (by omega) ?_ (by omega)
            intro v' w6 ho6 hb6 hq6
            have hl6 : (acc ++ [(⟨ak, as_, ⟨vk, vn, vs⟩⟩ : Ag)]).length = acc.length + 1 := by rw [List.length_append]; rfl
            obtain ⟨A6, c6, hv6, _⟩ := ho6.form
            rw [hl6] at hv6
            subst hv6
            replace HB := HB.grownO hq6 hne
            replace HZ := HZ.bel hb6 (by omega)
            replace hc3 := Cur.below' hc3 hb6 (by omega)
            replace hg3 := gr_bel hg3 hb6 (by omega)
            replace hs3 := Nat.le_trans hs3 hq6.size
            have hne6 := OwnT.ne_blk ho6 HB (by decide)
            obtain ⟨d0, d1, d2, e0, e1, e2⟩ := HB.three
            clear ho2
            change K (Act.put _ (some 43) _) _
            refine hK.out _ _ ?_ (fun hHeld => ?_)
            · (try dsimp only) <;> (trivial)
            clear hK K
            try simp only [Act.put, List.setIfInBounds_toArray, List.set_cons_zero, List.set_cons_succ]
            refine h_take 6 (some 44) (?_) rfl rfl (by kernel_rfl) (by kernel_rfl) (by kernel_rfl) (fun _ _ _ h => h) (by kernel_rfl) ?_ (by assumption) ?_
            rotate_left
            · intro w hSw; (try dsimp only at hSw); go_simp
              all_goals first | with_reducible rfl | omega | (simp; omega)
            try simp only [Act.put, List.setIfInBounds_toArray, List.set_cons_zero, List.set_cons_succ]
            refine h_call 7 (by kernel_rfl) rfl (by kernel_rfl) (fun K hK => ?_)
            go_simp
            refine hK.out _ _ ?_ (fun hHeld => ?_)
            · (try dsimp only) <;> (trivial)
            clear hK K
            try simp only [Act.put, List.setIfInBounds_toArray, List.set_cons_zero, List.set_cons_succ]
            refine wpAnyH_done (by kernel_rfl) ?_ _
            replace HB := HB.set_ 1 (.slice A6 (acc.length + 1) c6)
            replace HZ := HZ.far (p := ⟨w2.heap.size, 1, none⟩) (by simp; omega) (.slice A6 (acc.length + 1) c6)
            have ho7 := OwnT.set_ne ho6 (p := ⟨w2.heap.size, 1, none⟩) hne6 (.slice A6 (acc.length + 1) c6)
            replace hc3 := hc3.set (p := ⟨w2.heap.size, 1, none⟩) (by simp; omega) (.slice A6 (acc.length + 1) c6)
            replace hg3 := gr_set hg3 (p := ⟨w2.heap.size, 1, none⟩) (by simp; omega) (.slice A6 (acc.length + 1) c6)
            obtain ⟨p0, p1, p2, o0, o1, o2⟩ := HB.three
            try dsimp at p0 p1 p2
            clear d0 d1 d2 e0 e1 e2
            try simp only [List.getElem?_toArray] at p0 p1 p2
            go_wp2
            go_roundw
            case rel => exact ⟨A6, c6, acc ++ [⟨ak, as_, ⟨vk, vn, vs⟩⟩], by rw [hl6]; omega, fun x hx => (by rcases List.mem_append.1 hx with h | h; exact HSZ.out x h; rw [List.mem_singleton] at h; rw [h]; exact ⟨hvs1, hvs2⟩), by rw [hl6]; simpa using HB, HZ, by rw [hl6]; exact ho7, hc3, hg3, by simp; omega⟩
            case measure => (rw [hZ]; unfold lenAt; rw [p1]; simp; omega)
      · obtain ⟨d0, d2, e0, e1, e2⟩ : _ ∧ _ ∧ _ ∧ _ ∧ _ := (by obtain ⟨d0, d1, d2, e0, e1, e2⟩ := HB.three; exact ⟨d0, d2, e0, e1, e2⟩)
        obtain ⟨z0, z1, z2, y0, y1, y2⟩ := HZ.three
        clear HZ
        go_wp2
        refine bodyPost_ret (v := .agg #[.string kd, .slice A' acc.length c', .bool nt]) (by simp [results, Tryd.results16, go_sem, z0, z1, z2]) rfl ⟨kd, A', c', acc, nt, hkd, by omega, HSZ.out, rfl, ?_, (by repeat (first | with_reducible assumption | with_reducible refine Cur.set ?_ (by first | (simp; done) | (simp; omega) | omega) _ | with_reducible refine Cur.alloc ?_ _ | with_reducible refine Cur.drew ?_ | with_reducible refine Cur.below ?_ (by assumption))), (by repeat (first | with_reducible exact World.grownBy.refl _ _ | with_reducible assumption | with_reducible refine gr_alloc ?_ _ | with_reducible refine gr_drew ?_ | with_reducible refine gr_drewN ?_ _ | with_reducible refine gr_set ?_ (by first | (simp; done) | (simp; omega) | omega) _ | with_reducible refine World.grownBy.trans ?_ (by assumption) | with_reducible refine grown_below ?_ (by assumption)))⟩
        exact (((ho2.low (by first | (simp; done) | (simp; omega)) _).low (by first | (simp; done) | (simp; omega)) _).low (by first | (simp; done) | (simp; omega)) _).lower (by omega)
  have q2 : ((x : Int) == 2) = false := by simp; omega
  obtain ⟨d0, d1, d2, e0, e1, e2⟩ := HB.three
  obtain ⟨z0, z1, z2, y0, y1, y2⟩ := HZ.three
  clear HZ
  go_wp2
  refine bodyPost_ret (v := .agg #[.string kd, .slice A2 ags.length c2, .bool nt]) (by simp [results, Tryd.results16, go_sem, z0, z1, z2]) rfl ⟨kd, A2, c2, ags, nt, hkd, by omega, HS.out, rfl, ?_, (by repeat (first | with_reducible assumption | with_reducible refine Cur.set ?_ (by first | (simp; done) | (simp; omega) | omega) _ | with_reducible refine Cur.alloc ?_ _ | with_reducible refine Cur.drew ?_ | with_reducible refine Cur.below ?_ (by assumption))), (by repeat (first | with_reducible exact World.grownBy.refl _ _ | with_reducible assumption | with_reducible refine gr_alloc ?_ _ | with_reducible refine gr_drew ?_ | with_reducible refine gr_drewN ?_ _ | with_reducible refine gr_set ?_ (by first | (simp; done) | (simp; omega) | omega) _ | with_reducible refine World.grownBy.trans ?_ (by assumption) | with_reducible refine grown_below ?_ (by assumption)))⟩
  exact (((ho2.low (by first | (simp; done) | (simp; omega)) _).low (by first | (simp; done) | (simp; omega)) _).low (by first | (simp; done) | (simp; omega)) _).lower (by omega)
end Go.Proofs.YtaacdnnjmiaaaaaDoor
