import Derived.Test.YtcbbefibebkfgaaGreatDoorApp
import Derived.Test.YtcbbefibebkfgaaGreatDoorHeld
import Derived.Test.YtcbbefibebkfgaaGreatDoorPkDraw3
import Derived.Test.YtcbbefibebkfgaaGreatDoorDrawV
/- append to a row of structs of the call's own, inside a region that draws its order; what else is left alone. Names no program. No condition. -/
namespace Go.Proofs.YtcbbefibebkfgaaGreatDoor
open Go.RowKit

theorem appG {α : Type} {f : α → List Value} {z : Nat} {P : Program} {w : World} {o : Oper} {a : Act} {K : Act → World → Prop} {Q : Exit → Act → World → Prop} (s x : Operand) (t : TypeId)
    (ho : o.op = .call { callee := .builtin .append, args := #[s, x], argTypes := #[t, t] }) (_hf : Sz f z)
    (base : Nat) (e : TypeId) (i : TypeInfo) {zv : Value} {bytes : Nat} (ht : P.underlying t = some (.slice e)) (hi : P.info? e = some i) (hz : i.zero = some zv) (hsize : i.size = z) (hby : i.bytes = bytes) (hzs : zv.cells.size = z) (hz0 : 0 < z)
    (v : Value) (xs : List α) (hs : a.eval s = v) (hown : OwnT f z w base e v xs) (A : Option Addr) (m c : Nat) (news : List α) {B : Nat} (hx : a.eval x = .slice A m c) (hr : RdT f z w B A m news) (h1 : ∀ u ∈ fl f news, u.oneCell' = true)
    (h63 : (xs.length + m) * bytes ≤ 140737488355328) (hbase : base ≤ w.heap.size)
    (h : ∀ v' w', OwnT f z w' base e v' (xs ++ news) → Below base w w' → w.grownBy w' v.ownBlock → K (a.put o.dst v') w') (hml : xs.length + m ≤ 140737488355328 := by omega) : o.wp P a w K Q := by
  have hl := hr.len
  refine wp_append_any s x t ho base e i zv z bytes ht hi hz hsize hby hzs hz0 v xs.length _ hs hown B A m c _ hx hr.2 h1 (by simp only [maxLen]; omega) h63 hbase fun v' w' h2 h3 => ?_
  refine h v' w' ?_ ((Below.refl base w).grown h3 hbase fun k hk => (World.ownsRow.lt hown k hk).1) h3
  unfold OwnT
  rw [fl_append, List.length_append, hl]
  exact h2
end Go.Proofs.YtcbbefibebkfgaaGreatDoor

/- What a drawing function of facts answers: whatever fact. No condition but lengths. -/
namespace Go.Proofs.YtcbbefibebkfgaaGreatDoor
open Go.RowKit
set_option maxRecDepth 100000
set_option maxHeartbeats 4000000
theorem row_ne_blk {α : Type} {f : α → List Value} {z : Nat} {w : World} {base : Nat} {e : TypeId} {v : Value} {xs : List α} (h : OwnT f z w base e v xs) {b : Nat} {t : TypeId} {cs : Array Value} (hB : Blk w b t cs) (hne : e ≠ t) : v.ownBlock ≠ some b := by
  intro hv
  rcases h.2 with ⟨rfl, _⟩ | ⟨g, cap, cur, rfl, _, hg, _⟩
  · cases hv
  · injection hv with hv
    have hv : g = b := hv
    subst hv
    unfold Blk at hB
    rw [hg] at hB
    injection hB with hB
    injection hB with h1 h2
    exact hne h2
theorem OwnT.set_neq {α : Type} {f : α → List Value} {z : Nat} {w : World} {base : Nat} {e : TypeId} {v : Value} {xs : List α} (h : OwnT f z w base e v xs) {p : Addr} (hp : v.ownBlock ≠ some p.block) (u : Value) : OwnT f z (w.setCell p u) base e v xs :=
  World.ownsRow.kept h (row := some p.block) ⟨rfl, rfl, rfl, by simp, fun k _ hk => heap_setCell_other w p k u (fun e => hk (by rw [e]))⟩ (.inr hp)
theorem Blk.grownX {w w' : World} {b : Nat} {t : TypeId} {cs : Array Value} {row : Option Nat} (h : Blk w b t cs) (hg : w.grownBy w' row) (hne : row ≠ some b) : Blk w' b t cs := (hg.block b h.lt (fun e => hne e.symm)).trans h
def lenAt (w : World) (b : Nat) : Nat := match w.cell? ⟨b, 1, none⟩ with | some (.slice _ n _) => 8 - n | _ => 0
theorem lenAt_eq {w : World} {b n c : Nat} {A : Option Addr} (h : w.cell? ⟨b, 1, none⟩ = some (.slice A n c)) : lenAt w b = 8 - n := by unfold lenAt; rw [h]
def DrawnF7 (g : Nat) (code : List UInt8) (w : World) (e : Ending) (w' : World) : Prop :=
  ∃ (kd : ByteArray) (A : Option Addr) (c : Nat) (fs : List Vl), kd.size ≤ 30 ∧ fs.length ≤ 7 ∧ (∀ x ∈ fs, x.s.size ≤ 30) ∧ e = .returned (.agg #[.string kd, .slice A fs.length c]) ∧ OwnT vC 3 w' w.heap.size 47 (.slice A fs.length c) fs ∧ Cur w' g code ∧ w.grownBy w' (some g)
theorem l3Any_any (g : Nat) (code : List UInt8) (w : World) (hc : Cur w g code) : Calls Tryz.prog 21 #[.pointer (some ⟨g, 0, none⟩)] w (DrawnF7 g code w) := by
  obtain ⟨i0, hi, hz0, hz1, hz2⟩ := info_parts infoVal
  have HI := Lib.hid hi; clear hi
  have hg := hc.lt
  have HZ := Blk.new w 26 #[.string ⟨#[]⟩, .slice none 0 0]
  go_enter Tryz.func21, Tryz.ntmps21
  go_wp2_with fail
  refine (l3Draw_any g code _ (hc.alloc _)).mono ?_
  rintro e w1 ⟨kd, A, c, fs, hkd, hfl, hss, rfl, ho, hc1, hg1⟩
  have HSS := Lib.hid hss; clear hss
  replace HZ := HZ.grown hg1 (by omega)
  have hs1 := hg1.size
  simp at hs1
  have hl1 := hc1.lt
  replace hg1 := (World.grownBy_alloc w _ (some g)).trans hg1
  replace ho := ho.lower (b2 := w.heap.size + 1) (by simp)
  have HB := Blk.new w1 26 #[.string kd, .slice A fs.length c]
  replace HZ := HZ.alloc (.cells #[.string kd, .slice A fs.length c] 26)
  replace hc1 := hc1.alloc (.cells #[.string kd, .slice A fs.length c] 26)
  replace hg1 := gr_alloc hg1 (.cells #[.string kd, .slice A fs.length c] 26)
  replace ho := OwnT.alloc ho (.cells #[.string kd, .slice A fs.length c] 26)
  have hz2' : w.heap.size < w1.heap.size := by omega
  have hgs : g < w.heap.size := hg
  obtain ⟨k, hk⟩ : ∃ k, fs.length = k := ⟨_, rfl⟩
  rw [hk] at hfl HB ho HZ hc1 hg1 ⊢
  have HAL := Lib.hid hk; clear hk
  go_wp2_with fail
  refine (l1Below_any g code 10 _ hc1 (by omega)).mono ?_
  rintro e w2 ⟨x, hx, rfl, hc2, hg2⟩
  have hs2 := hg2.size
  simp at hs2
  replace HZ := HZ.grown hg2 (by omega)
  replace HB := HB.grown hg2 (by omega)
  replace ho := OwnT.grownG ho hg2 (by omega)
  replace hg1 := World.grownBy.trans hg1 hg2
  have hl2 := hc2.lt
  have hb2 := HB.lt
  clear hc1 hg2 hs1 hl1 hx
  by_cases b0 : x = 0
  · subst b0
    go_wp2_with fail
    refine (l1Str_any g code _ 4 4 [⟨#[]⟩, ⟨#[65]⟩, ⟨#[116, 104, 105, 114, 116, 101, 101, 110, 98, 121, 116, 101, 115]⟩, ⟨#[120]⟩] _ _ (hc2.alloc _) (Rd.lit w2 9 _ 4 rfl) (by omega) (by omega) (ne_lit hl2)).mono ?_
    rintro e w3 ⟨kd2, hs, rfl, hc3, hg3⟩
    have hkd2 : kd2.size ≤ 30 := by
      simp only [List.mem_cons, List.not_mem_nil, or_false] at hs
      rcases hs with rfl | rfl | rfl | rfl <;> decide
    clear hs
    replace hg3 := (World.grownBy_alloc w2 (.cells (([⟨#[]⟩, ⟨#[65]⟩, ⟨#[116, 104, 105, 114, 116, 101, 101, 110, 98, 121, 116, 101, 115]⟩, ⟨#[120]⟩] : List ByteArray).map Value.string).toArray 9) (some g)).trans hg3
    have hs3 := hg3.size
    replace HZ := HZ.grown hg3 (by omega)
    replace HB := HB.grown hg3 (by omega)
    replace ho := OwnT.grownG ho hg3 (by omega)
    replace hg1 := World.grownBy.trans hg1 hg3
    have hbl := HB.lt
    have hHZ := HZ.far (p := ⟨w1.heap.size, 0, none⟩) (by simp; omega) (.string kd2)
    obtain ⟨z0, z1, y0, y1⟩ := hHZ.two
    obtain ⟨d0, d1, e0, e1⟩ := HB.two
    have HO := Lib.hid ho; clear ho HZ hHZ hg3
    go_wp2
    refine bodyPost_ret (v := .agg #[.string kd2, .slice A k c]) (by simp [results, Tryz.results21, go_sem, z0, z1]) rfl ⟨kd2, A, c, fs, hkd2, by have := HAL.out; omega, HSS.out, by rw [HAL.out], ?_, Cur.set (Cur.set (Cur.set hc3 (by simp; omega) _) (by simp; omega) _) (by simp; omega) _, gr_set (gr_set (gr_set hg1 (by simp; omega) _) (by simp) _) (by simp) _⟩
    rw [HAL.out]
    exact ((((OwnT.set_neq HO.out (row_ne_blk HO.out HB (by decide)) _).low (by first | (simp; done) | (simp; omega)) _).low (by first | (simp; done) | (simp; omega)) _).lower (by omega))
  have q0 : ((x : Int) == 0) = false := by simp; omega
  by_cases b1 : x = 1
  · subst b1
    obtain ⟨d0, d1, e0, e1⟩ := HB.two
    go_upto_region 6 with fail
    refine wp_region_held_drew (S := (fun _ => True)) (by kernel_rfl) ?_ (fun hHeld => ?_)
    · (try dsimp only) <;> (trivial)
    refine h_take 0 (some 16) (?_) rfl rfl (by kernel_rfl) (by kernel_rfl) (by kernel_rfl) (fun _ _ _ h => h) (by kernel_rfl) ?_ (by assumption) ?_
    rotate_left
    · intro w hSw; (try dsimp only at hSw); go_simp
      all_goals first | with_reducible rfl | omega | (simp; omega)
    try simp only [Act.put, List.setIfInBounds_toArray, List.set_cons_zero, List.set_cons_succ]
    refine h_take 2 (some 18) (?_) rfl rfl (by kernel_rfl) (by kernel_rfl) (by kernel_rfl) (fun _ _ _ h => h) (by kernel_rfl) ?_ (by assumption) ?_
    rotate_left
    · intro w hSw; (try dsimp only at hSw); go_simp
      all_goals first | with_reducible rfl | omega | (simp; omega)
    try simp only [Act.put, List.setIfInBounds_toArray, List.set_cons_zero, List.set_cons_succ]
    refine wpAnyH_ready (rs := [1, 3]) (by kernel_rfl) (by simp) ?_
    refine AllReadyH.cons rfl (fun K hK => ?_) (AllReadyH.cons rfl (fun K hK => ?_) AllReadyH.nil)
    · rw [if_pos (by kernel_rfl)]
      go_simp
      refine hK.out _ _ ?_ (fun hHeld => ?_)
      · (try dsimp only) <;> (trivial)
      clear hK K
      try simp only [Act.put, List.setIfInBounds_toArray, List.set_cons_zero, List.set_cons_succ]
      refine h_call 3 (by kernel_rfl) rfl (by kernel_rfl) (fun K hK => ?_)
      go_simp
      refine (l2Any_any g code _ (show Cur w2.drew g code from hc2)).mono ?_
      rintro e w5 ⟨vk, vn, vs, hvs, rfl, hc5, hg5⟩
      have hs5 := hg5.size
      simp only [drew_size'] at hs5
      have HB5 := Blk.grown (w := w2.drew) HB hg5 (by omega)
      have HZ5 := Blk.grown (w := w2.drew) HZ hg5 (by omega)
      have ho5 := OwnT.grownG (w := w2.drew) ho hg5 (by omega)
      have hq5 : w1.heap.size < w5.heap.size := by omega
      obtain ⟨q0, q1, q2, q3⟩ := HB5.two
      try dsimp only
      refine hK.out _ _ ?_ (fun hHeld => ?_)
      · (try dsimp only) <;> (trivial)
      clear hK K
      try simp only [Act.put, List.setIfInBounds_toArray, List.set_cons_zero, List.set_cons_succ]
      refine h_call 4 (by kernel_rfl) rfl (by kernel_rfl) (fun K hK => ?_)
      go_simp
      refine hK.out _ _ ?_ (fun hHeld => ?_)
      · (try dsimp only) <;> (trivial)
      clear hK K
      try simp only [Act.put, List.setIfInBounds_toArray, List.set_cons_zero, List.set_cons_succ]
      refine h_call 5 (by kernel_rfl) rfl (by kernel_rfl) (fun K hK => ?_)
      refine appG (.tmp 17) (.tmp 20) _ rfl vC_sz (w.heap.size + 1) 47 i0 Tryz.underlying24 HI.out hz0 hz1 hz2 rfl (by omega) _ fs rfl (ho5.alloc _) _ 1 1 [⟨vk, vn, vs⟩] rfl (RdT.new1 vC_sz w5 47 ⟨vk, vn, vs⟩) (by intro u hu; simp [fl, vC] at hu; rcases hu with rfl | rfl | rfl <;> rfl) (by have := HAL.out; omega) (by simp; omega) ?_ (by have := HAL.out; omega)
      intro v' w6 ho6 hb6 hg6
      have hl6 : (fs ++ [(⟨vk, vn, vs⟩ : Vl)]).length = k + 1 := by rw [List.length_append, HAL.out]; rfl
      obtain ⟨A6, c6, hv6, _⟩ := ho6.form
      rw [hl6] at hv6
      subst hv6
      have HL6 := Lib.hid hl6; clear hl6
      have HB6 := Blk.grownX (HB5.alloc _) hg6 (row_ne_blk ho5 HB5 (by decide))
      have HZ6 := Blk.bel (HZ5.alloc _) hb6 (by omega)
      have hs6 := hg6.size
      simp at hs6
      obtain ⟨r0, r1, r2, r3⟩ := HB6.two
      change K (Act.put _ (some 21) _) _
      refine hK.out _ _ ?_ (fun hHeld => ?_)
      · (try dsimp only) <;> (trivial)
      clear hK K
      try simp only [Act.put, List.setIfInBounds_toArray, List.set_cons_zero, List.set_cons_succ]
      refine h_take 6 (some 22) (?_) rfl rfl (by kernel_rfl) (by kernel_rfl) (by kernel_rfl) (fun _ _ _ h => h) (by kernel_rfl) ?_ (by assumption) ?_
      rotate_left
      · intro w hSw; (try dsimp only at hSw); go_simp
        all_goals first | with_reducible rfl | omega | (simp; omega)
      try simp only [Act.put, List.setIfInBounds_toArray, List.set_cons_zero, List.set_cons_succ]
      refine h_call 7 (by kernel_rfl) rfl (by kernel_rfl) (fun K hK => ?_)
      go_simp
      refine hK.out _ _ ?_ (fun hHeld => ?_)
      · (try dsimp only) <;> (trivial)
      clear hK K
      try simp only [Act.put, List.setIfInBounds_toArray, List.set_cons_zero, List.set_cons_succ]
      refine wpAnyH_done (by kernel_rfl) ?_ _
      have HB7 : Blk (w6.setCell ⟨w1.heap.size, 1, none⟩ (.slice A6 (k + 1) c6)) w1.heap.size 26 #[.string kd, .slice A6 (k + 1) c6] := by have := HB6.set_ 1 (.slice A6 (k + 1) c6); simpa using this
      have HZ7 := HZ6.far (p := ⟨w1.heap.size, 1, none⟩) (by simp; omega) (.slice A6 (k + 1) c6)
      have ho7 := OwnT.set_neq ho6 (p := ⟨w1.heap.size, 1, none⟩) (row_ne_blk ho6 HB6 (by decide)) (.slice A6 (k + 1) c6)
      have hc7 : Cur (w6.setCell ⟨w1.heap.size, 1, none⟩ (.slice A6 (k + 1) c6)) g code := Cur.set (Cur.below' (hc5.alloc _) hb6 (by omega)) (by simp; omega) _
      have hg7 : w.grownBy (w6.setCell ⟨w1.heap.size, 1, none⟩ (.slice A6 (k + 1) c6)) (some g) := gr_set (gr_bel (gr_alloc (World.grownBy.trans (gr_drew hg1) hg5) _) hb6 (by omega)) (by simp; omega) _
      have hs7 : w1.heap.size < (w6.setCell ⟨w1.heap.size, 1, none⟩ (.slice A6 (k + 1) c6)).heap.size := by simp; omega
      generalize hv7 : w6.setCell ⟨w1.heap.size, 1, none⟩ (.slice A6 (k + 1) c6) = w7 at hHeld HB7 HZ7 ho7 hc7 hg7 hs7 ⊢
      clear hv7 hHeld HB6 HB5 HZ5 HZ6 ho5 ho6 hb6 hg6 hs5 hs6 q0 q1 q2 q3 r0 r1 r2 r3 hc5 hg5 HB HZ ho hc2 hg1
      obtain ⟨u0, u1, u2, u3⟩ := HB7.two
      obtain ⟨z0, z1, y0, y1⟩ := HZ7.two
      have HO := Lib.hid ho7; clear ho7 HZ7
      go_wp2
      refine bodyPost_ret (v := .agg #[.string kd, .slice A6 (k + 1) c6]) (by simp [results, Tryz.results21, go_sem, z0, z1]) rfl ⟨kd, A6, c6, fs ++ [⟨vk, vn, vs⟩], hkd, by have := HL6.out; omega, fun x hx => (by rcases List.mem_append.1 hx with h | h; exact HSS.out x h; rw [List.mem_singleton] at h; rw [h]; exact hvs), by rw [HL6.out], ?_, (by repeat (first | with_reducible assumption | with_reducible refine Cur.set ?_ (by first | (simp; done) | (simp; omega) | omega) _ | with_reducible refine Cur.alloc ?_ _ | with_reducible refine Cur.drew ?_ | with_reducible refine Cur.below ?_ (by assumption))), (by repeat (first | with_reducible exact World.grownBy.refl _ _ | with_reducible assumption | with_reducible refine gr_alloc ?_ _ | with_reducible refine gr_drew ?_ | with_reducible refine gr_drewN ?_ _ | with_reducible refine gr_set ?_ (by first | (simp; done) | (simp; omega) | omega) _ | with_reducible refine World.grownBy.trans ?_ (by assumption) | with_reducible refine grown_below ?_ (by assumption)))⟩
      rw [HL6.out]
      exact (((HO.out.low (by first | (simp; done) | (simp; omega)) _).low (by first | (simp; done) | (simp; omega)) _).lower (by omega))
    · rw [if_pos (by kernel_rfl)]
      go_simp
      refine (l2Any_any g code _ (show Cur w2.drew g code from hc2)).mono ?_
      rintro e w5 ⟨vk, vn, vs, hvs, rfl, hc5, hg5⟩
      have hs5 := hg5.size
      simp only [drew_size'] at hs5
      have HB5 := Blk.grown (w := w2.drew) HB hg5 (by omega)
      have HZ5 := Blk.grown (w := w2.drew) HZ hg5 (by omega)
      have ho5 := OwnT.grownG (w := w2.drew) ho hg5 (by omega)
      have hq5 : w1.heap.size < w5.heap.size := by omega
      obtain ⟨q0, q1, q2, q3⟩ := HB5.two
      try dsimp only
      refine hK.out _ _ ?_ (fun hHeld => ?_)
      · (try dsimp only) <;> (trivial)
      clear hK K
      try simp only [Act.put, List.setIfInBounds_toArray, List.set_cons_zero, List.set_cons_succ]
      refine wpAnyH_ready (rs := [1, 4]) (by kernel_rfl) (by simp) ?_
      refine AllReadyH.cons rfl (fun K hK => ?_) (AllReadyH.cons rfl (fun K hK => ?_) AllReadyH.nil)
      · rw [if_pos (by kernel_rfl)]
        go_simp
        refine hK.out _ _ ?_ (fun hHeld => ?_)
        · (try dsimp only) <;> (trivial)
        clear hK K
        try simp only [Act.put, List.setIfInBounds_toArray, List.set_cons_zero, List.set_cons_succ]
        refine h_call 4 (by kernel_rfl) rfl (by kernel_rfl) (fun K hK => ?_)
        go_simp
        refine hK.out _ _ ?_ (fun hHeld => ?_)
        · (try dsimp only) <;> (trivial)
        clear hK K
        try simp only [Act.put, List.setIfInBounds_toArray, List.set_cons_zero, List.set_cons_succ]
        refine h_call 5 (by kernel_rfl) rfl (by kernel_rfl) (fun K hK => ?_)
        refine appG (.tmp 17) (.tmp 20) _ rfl vC_sz (w.heap.size + 1) 47 i0 Tryz.underlying24 HI.out hz0 hz1 hz2 rfl (by omega) _ fs rfl (ho5.alloc _) _ 1 1 [⟨vk, vn, vs⟩] rfl (RdT.new1 vC_sz w5 47 ⟨vk, vn, vs⟩) (by intro u hu; simp [fl, vC] at hu; rcases hu with rfl | rfl | rfl <;> rfl) (by have := HAL.out; omega) (by simp; omega) ?_ (by have := HAL.out; omega)
        intro v' w6 ho6 hb6 hg6
        have hl6 : (fs ++ [(⟨vk, vn, vs⟩ : Vl)]).length = k + 1 := by rw [List.length_append, HAL.out]; rfl
        obtain ⟨A6, c6, hv6, _⟩ := ho6.form
        rw [hl6] at hv6
        subst hv6
        have HL6 := Lib.hid hl6; clear hl6
        have HB6 := Blk.grownX (HB5.alloc _) hg6 (row_ne_blk ho5 HB5 (by decide))
        have HZ6 := Blk.bel (HZ5.alloc _) hb6 (by omega)
        have hs6 := hg6.size
        simp at hs6
        obtain ⟨r0, r1, r2, r3⟩ := HB6.two
        change K (Act.put _ (some 21) _) _
        refine hK.out _ _ ?_ (fun hHeld => ?_)
        · (try dsimp only) <;> (trivial)
        clear hK K
        try simp only [Act.put, List.setIfInBounds_toArray, List.set_cons_zero, List.set_cons_succ]
        refine h_take 6 (some 22) (?_) rfl rfl (by kernel_rfl) (by kernel_rfl) (by kernel_rfl) (fun _ _ _ h => h) (by kernel_rfl) ?_ (by assumption) ?_
        rotate_left
        · intro w hSw; (try dsimp only at hSw); go_simp
          all_goals first | with_reducible rfl | omega | (simp; omega)
        try simp only [Act.put, List.setIfInBounds_toArray, List.set_cons_zero, List.set_cons_succ]
        refine h_call 7 (by kernel_rfl) rfl (by kernel_rfl) (fun K hK => ?_)
        go_simp
        refine hK.out _ _ ?_ (fun hHeld => ?_)
        · (try dsimp only) <;> (trivial)
        clear hK K
        try simp only [Act.put, List.setIfInBounds_toArray, List.set_cons_zero, List.set_cons_succ]
        refine wpAnyH_done (by kernel_rfl) ?_ _
        have HB7 : Blk (w6.setCell ⟨w1.heap.size, 1, none⟩ (.slice A6 (k + 1) c6)) w1.heap.size 26 #[.string kd, .slice A6 (k + 1) c6] := by have := HB6.set_ 1 (.slice A6 (k + 1) c6); simpa using this
        have HZ7 := HZ6.far (p := ⟨w1.heap.size, 1, none⟩) (by simp; omega) (.slice A6 (k + 1) c6)
        have ho7 := OwnT.set_neq ho6 (p := ⟨w1.heap.size, 1, none⟩) (row_ne_blk ho6 HB6 (by decide)) (.slice A6 (k + 1) c6)
        have hc7 : Cur (w6.setCell ⟨w1.heap.size, 1, none⟩ (.slice A6 (k + 1) c6)) g code := Cur.set (Cur.below' (hc5.alloc _) hb6 (by omega)) (by simp; omega) _
        have hg7 : w.grownBy (w6.setCell ⟨w1.heap.size, 1, none⟩ (.slice A6 (k + 1) c6)) (some g) := gr_set (gr_bel (gr_alloc (World.grownBy.trans (gr_drew hg1) hg5) _) hb6 (by omega)) (by simp; omega) _
        have hs7 : w1.heap.size < (w6.setCell ⟨w1.heap.size, 1, none⟩ (.slice A6 (k + 1) c6)).heap.size := by simp; omega
        generalize hv7 : w6.setCell ⟨w1.heap.size, 1, none⟩ (.slice A6 (k + 1) c6) = w7 at hHeld HB7 HZ7 ho7 hc7 hg7 hs7 ⊢
        clear hv7 hHeld HB6 HB5 HZ5 HZ6 ho5 ho6 hb6 hg6 hs5 hs6 q0 q1 q2 q3 r0 r1 r2 r3 hc5 hg5 HB HZ ho hc2 hg1
        obtain ⟨u0, u1, u2, u3⟩ := HB7.two
        obtain ⟨z0, z1, y0, y1⟩ := HZ7.two
        have HO := Lib.hid ho7; clear ho7 HZ7
        go_wp2
        refine bodyPost_ret (v := .agg #[.string kd, .slice A6 (k + 1) c6]) (by simp [results, Tryz.results21, go_sem, z0, z1]) rfl ⟨kd, A6, c6, fs ++ [⟨vk, vn, vs⟩], hkd, by have := HL6.out; omega, fun x hx => (by rcases List.mem_append.1 hx with h | h; exact HSS.out x h; rw [List.mem_singleton] at h; rw [h]; exact hvs), by rw [HL6.out], ?_, (by repeat (first | with_reducible assumption | with_reducible refine Cur.set ?_ (by first | (simp; done) | (simp; omega) | omega) _ | with_reducible refine Cur.alloc ?_ _ | with_reducible refine Cur.drew ?_ | with_reducible refine Cur.below ?_ (by assumption))), (by repeat (first | with_reducible exact World.grownBy.refl _ _ | with_reducible assumption | with_reducible refine gr_alloc ?_ _ | with_reducible refine gr_drew ?_ | with_reducible refine gr_drewN ?_ _ | with_reducible refine gr_set ?_ (by first | (simp; done) | (simp; omega) | omega) _ | with_reducible refine World.grownBy.trans ?_ (by assumption) | with_reducible refine grown_below ?_ (by assumption)))⟩
        rw [HL6.out]
        exact (((HO.out.low (by first | (simp; done) | (simp; omega)) _).low (by first | (simp; done) | (simp; omega)) _).lower (by omega))
      · rw [if_pos (by kernel_rfl)]
        go_simp
        refine hK.out _ _ ?_ (fun hHeld => ?_)
        · (try dsimp only) <;> (trivial)
        clear hK K
        try simp only [Act.put, List.setIfInBounds_toArray, List.set_cons_zero, List.set_cons_succ]
        refine h_call 1 (by kernel_rfl) rfl (by kernel_rfl) (fun K hK => ?_)
        go_simp
        refine hK.out _ _ ?_ (fun hHeld => ?_)
        · (try dsimp only) <;> (trivial)
        clear hK K
        try simp only [Act.put, List.setIfInBounds_toArray, List.set_cons_zero, List.set_cons_succ]
        refine h_call 5 (by kernel_rfl) rfl (by kernel_rfl) (fun K hK => ?_)
        refine appG (.tmp 17) (.tmp 20) _ rfl vC_sz (w.heap.size + 1) 47 i0 Tryz.underlying24 HI.out hz0 hz1 hz2 rfl (by omega) _ fs rfl (ho5.alloc _) _ 1 1 [⟨vk, vn, vs⟩] rfl (RdT.new1 vC_sz w5 47 ⟨vk, vn, vs⟩) (by intro u hu; simp [fl, vC] at hu; rcases hu with rfl | rfl | rfl <;> rfl) (by have := HAL.out; omega) (by simp; omega) ?_ (by have := HAL.out; omega)
        intro v' w6 ho6 hb6 hg6
        have hl6 : (fs ++ [(⟨vk, vn, vs⟩ : Vl)]).length = k + 1 := by rw [List.length_append, HAL.out]; rfl
        obtain ⟨A6, c6, hv6, _⟩ := ho6.form
        rw [hl6] at hv6
        subst hv6
        have HL6 := Lib.hid hl6; clear hl6
        have HB6 := Blk.grownX (HB5.alloc _) hg6 (row_ne_blk ho5 HB5 (by decide))
        have HZ6 := Blk.bel (HZ5.alloc _) hb6 (by omega)
        have hs6 := hg6.size
        simp at hs6
        obtain ⟨r0, r1, r2, r3⟩ := HB6.two
        change K (Act.put _ (some 21) _) _
        refine hK.out _ _ ?_ (fun hHeld => ?_)
        · (try dsimp only) <;> (trivial)
        clear hK K
        try simp only [Act.put, List.setIfInBounds_toArray, List.set_cons_zero, List.set_cons_succ]
        refine h_take 6 (some 22) (?_) rfl rfl (by kernel_rfl) (by kernel_rfl) (by kernel_rfl) (fun _ _ _ h => h) (by kernel_rfl) ?_ (by assumption) ?_
        rotate_left
        · intro w hSw; (try dsimp only at hSw); go_simp
          all_goals first | with_reducible rfl | omega | (simp; omega)
        try simp only [Act.put, List.setIfInBounds_toArray, List.set_cons_zero, List.set_cons_succ]
        refine h_call 7 (by kernel_rfl) rfl (by kernel_rfl) (fun K hK => ?_)
        go_simp
        refine hK.out _ _ ?_ (fun hHeld => ?_)
        · (try dsimp only) <;> (trivial)
        clear hK K
        try simp only [Act.put, List.setIfInBounds_toArray, List.set_cons_zero, List.set_cons_succ]
        refine wpAnyH_done (by kernel_rfl) ?_ _
        have HB7 : Blk (w6.setCell ⟨w1.heap.size, 1, none⟩ (.slice A6 (k + 1) c6)) w1.heap.size 26 #[.string kd, .slice A6 (k + 1) c6] := by have := HB6.set_ 1 (.slice A6 (k + 1) c6); simpa using this
        have HZ7 := HZ6.far (p := ⟨w1.heap.size, 1, none⟩) (by simp; omega) (.slice A6 (k + 1) c6)
        have ho7 := OwnT.set_neq ho6 (p := ⟨w1.heap.size, 1, none⟩) (row_ne_blk ho6 HB6 (by decide)) (.slice A6 (k + 1) c6)
        have hc7 : Cur (w6.setCell ⟨w1.heap.size, 1, none⟩ (.slice A6 (k + 1) c6)) g code := Cur.set (Cur.below' (hc5.alloc _) hb6 (by omega)) (by simp; omega) _
        have hg7 : w.grownBy (w6.setCell ⟨w1.heap.size, 1, none⟩ (.slice A6 (k + 1) c6)) (some g) := gr_set (gr_bel (gr_alloc (World.grownBy.trans (gr_drew hg1) hg5) _) hb6 (by omega)) (by simp; omega) _
        have hs7 : w1.heap.size < (w6.setCell ⟨w1.heap.size, 1, none⟩ (.slice A6 (k + 1) c6)).heap.size := by simp; omega
        generalize hv7 : w6.setCell ⟨w1.heap.size, 1, none⟩ (.slice A6 (k + 1) c6) = w7 at hHeld HB7 HZ7 ho7 hc7 hg7 hs7 ⊢
        clear hv7 hHeld HB6 HB5 HZ5 HZ6 ho5 ho6 hb6 hg6 hs5 hs6 q0 q1 q2 q3 r0 r1 r2 r3 hc5 hg5 HB HZ ho hc2 hg1
        obtain ⟨u0, u1, u2, u3⟩ := HB7.two
        obtain ⟨z0, z1, y0, y1⟩ := HZ7.two
        have HO := Lib.hid ho7; clear ho7 HZ7
        go_wp2
        refine bodyPost_ret (v := .agg #[.string kd, .slice A6 (k + 1) c6]) (by simp [results, Tryz.results21, go_sem, z0, z1]) rfl ⟨kd, A6, c6, fs ++ [⟨vk, vn, vs⟩], hkd, by have := HL6.out; omega, fun x hx => (by rcases List.mem_append.1 hx with h | h; exact HSS.out x h; rw [List.mem_singleton] at h; rw [h]; exact hvs), by rw [HL6.out], ?_, (by repeat (first | with_reducible assumption | with_reducible refine Cur.set ?_ (by first | (simp; done) | (simp; omega) | omega) _ | with_reducible refine Cur.alloc ?_ _ | with_reducible refine Cur.drew ?_ | with_reducible refine Cur.below ?_ (by assumption))), (by repeat (first | with_reducible exact World.grownBy.refl _ _ | with_reducible assumption | with_reducible refine gr_alloc ?_ _ | with_reducible refine gr_drew ?_ | with_reducible refine gr_drewN ?_ _ | with_reducible refine gr_set ?_ (by first | (simp; done) | (simp; omega) | omega) _ | with_reducible refine World.grownBy.trans ?_ (by assumption) | with_reducible refine grown_below ?_ (by assumption)))⟩
        rw [HL6.out]
        exact (((HO.out.low (by first | (simp; done) | (simp; omega)) _).low (by first | (simp; done) | (simp; omega)) _).lower (by omega))
  have q1 : ((x : Int) == 1) = false := by simp; omega
  by_cases b2 : x = 2
  · subst b2
    clear q0 q1 b0 b1
    go_wp2
    go_loopw [] (fun wr => ∃ (k : Nat) (A : Option Addr) (c : Nat) (fs : List Vl), k ≤ 7 ∧ fs.length = k ∧ (∀ x ∈ fs, x.s.size ≤ 30) ∧ Blk wr w1.heap.size 26 #[.string kd, .slice A k c] ∧ Blk wr w.heap.size 26 #[.string ⟨#[]⟩, .slice none 0 0] ∧ OwnT vC 3 wr (w.heap.size + 1) 47 (.slice A k c) fs ∧ Cur wr g code ∧ w.grownBy wr (some g) ∧ w1.heap.size + 1 ≤ wr.heap.size) (fun wr => lenAt wr w1.heap.size)
    case atStart => exact ⟨k, A, c, fs, by omega, HAL.out, HSS.out, HB, HZ, ho, hc2, hg1, hs2⟩
    case round =>
      clear HB HZ ho hc2 hg1 HAL HSS hfl
      obtain ⟨k, A, c, fs, hk, hal, hss, HB, HZ, ho, hc2, hg1, hs2⟩ := hrel
      have HAL := Lib.hid hal; clear hal
      have HSS := Lib.hid hss; clear hss
      have hl2 := hc2.lt
      obtain ⟨d0, d1, e0, e1⟩ := HB.two
      go_upto_region 8 with fail
      refine wp_region_held_drew (S := (fun w' => w'.cell? ⟨w1.heap.size, 1, none⟩ = some (.slice A k c))) (by kernel_rfl) ?_ (fun hHeld => ?_)
      · (try dsimp only) <;> (first | exact d1 | exact hHeld | exact gr_cell hg4 hHeld (by omega))
      refine h_take 0 (some 25) (?_) rfl rfl (by kernel_rfl) (by kernel_rfl) (by kernel_rfl) (fun _ _ _ h => h) (by kernel_rfl) ?_ (by assumption) ?_
      rotate_left
      · intro w hSw; (try dsimp only at hSw); go_simp
        all_goals first | with_reducible rfl | omega | (simp; omega)
      try simp only [Act.put, List.setIfInBounds_toArray, List.set_cons_zero, List.set_cons_succ]
      refine h_take 1 (some 26) (?_) rfl rfl (by kernel_rfl) (by kernel_rfl) (by kernel_rfl) (fun _ _ _ h => h) (by kernel_rfl) ?_ (by assumption) ?_
      rotate_left
      · intro w hSw; (try dsimp only at hSw); go_simp
        all_goals first | with_reducible rfl | omega | (simp; omega)
      try simp only [Act.put, List.setIfInBounds_toArray, List.set_cons_zero, List.set_cons_succ]
      refine h_take 2 (some 27) (?_) rfl rfl (by kernel_rfl) (by kernel_rfl) (by kernel_rfl) (fun _ _ _ h => h) (by kernel_rfl) ?_ (by assumption) ?_
      rotate_left
      · intro w hSw; (try dsimp only at hSw); go_simp
        all_goals first | with_reducible rfl | omega | (simp; omega)
      try simp only [Act.put, List.setIfInBounds_toArray, List.set_cons_zero, List.set_cons_succ]
      refine h_take 3 (some 28) (?_) rfl rfl (by kernel_rfl) (by kernel_rfl) (by kernel_rfl) (fun _ _ _ h => h) (by kernel_rfl) ?_ (by assumption) ?_
      rotate_left
      · intro w hSw; (try dsimp only at hSw); go_simp
        all_goals first | with_reducible rfl | omega | (simp; omega)
      try simp only [Act.put, List.setIfInBounds_toArray, List.set_cons_zero, List.set_cons_succ]
      refine h_call 4 (by kernel_rfl) rfl (by kernel_rfl) (fun K hK => ?_)
      go_simp
      refine (l1Below_any g code 2 _ (show Cur wr.drew g code from hc2) (by omega)).mono ?_
      rintro e w4 ⟨y, hy, rfl, hc4, hg4⟩
      refine hK.out _ _ ?_ (fun hHeld => ?_)
      · (try dsimp only) <;> (first | exact d1 | exact hHeld | exact gr_cell hg4 hHeld (by omega))
      clear hK K
      try simp only [Act.put, List.setIfInBounds_toArray, List.set_cons_zero, List.set_cons_succ]
      refine h_take 5 (some 30) (.int .i64 (5 + (y : Int))) rfl rfl (by kernel_rfl) (by kernel_rfl) (by kernel_rfl) (fun _ _ _ h => h) (by kernel_rfl) ?_ (by assumption) ?_
      · intro w hSw; (try dsimp only at hSw); go_simp
        all_goals (first | omega | (simp; omega) | (rw [IntKind.wrap_i64]; omega))
      try simp only [Act.put, List.setIfInBounds_toArray, List.set_cons_zero, List.set_cons_succ]
      refine h_take 6 (some 31) (.bool (decide ((k : Int) < 5 + (y : Int)))) rfl rfl (by kernel_rfl) (by kernel_rfl) (by kernel_rfl) (fun _ _ _ h => h) (by kernel_rfl) ?_ (by assumption) ?_
      · intro w hSw; (try dsimp only at hSw); go_simp
        all_goals (first | rfl | simp)
      try simp only [Act.put, List.setIfInBounds_toArray, List.set_cons_zero, List.set_cons_succ]
      refine wpAnyH_done (by kernel_rfl) ?_ _
      have hs4 := hg4.size
      simp only [drew_size'] at hs4
      replace HB := Blk.grown (w := wr.drew) HB hg4 (by omega)
      replace HZ := Blk.grown (w := wr.drew) HZ hg4 (by omega)
      replace ho := OwnT.grownG (w := wr.drew) ho hg4 (by omega)
      replace hg1 := World.grownBy.trans (gr_drew hg1) hg4
      have HLA := Lib.hid (lenAt_eq d1)
      clear hHeld hg4 hc2 d0 d1 e0 e1
      have hc2 := hc4; clear hc4
      have hl2 := hc2.lt
      obtain ⟨d0, d1, e0, e1⟩ := HB.two
      by_cases hlt : k < 5 + y
      · have hlt2 : (k : Int) < 5 + (y : Int) := by omega
        go_upto_region 9 with fail
        refine wp_region_held_drew (S := (fun _ => True)) (by kernel_rfl) ?_ (fun hHeld => ?_)
        · (try dsimp only) <;> (trivial)
        refine h_take 0 (some 32) (?_) rfl rfl (by kernel_rfl) (by kernel_rfl) (by kernel_rfl) (fun _ _ _ h => h) (by kernel_rfl) ?_ (by assumption) ?_
        rotate_left
        · intro w hSw; (try dsimp only at hSw); go_simp
          all_goals first | with_reducible rfl | omega | (simp; omega)
        try simp only [Act.put, List.setIfInBounds_toArray, List.set_cons_zero, List.set_cons_succ]
        refine h_take 2 (some 34) (?_) rfl rfl (by kernel_rfl) (by kernel_rfl) (by kernel_rfl) (fun _ _ _ h => h) (by kernel_rfl) ?_ (by assumption) ?_
        rotate_left
        · intro w hSw; (try dsimp only at hSw); go_simp
          all_goals first | with_reducible rfl | omega | (simp; omega)
        try simp only [Act.put, List.setIfInBounds_toArray, List.set_cons_zero, List.set_cons_succ]
        refine wpAnyH_ready (rs := [1, 3]) (by kernel_rfl) (by simp) ?_
        refine AllReadyH.cons rfl (fun K hK => ?_) (AllReadyH.cons rfl (fun K hK => ?_) AllReadyH.nil)
        · rw [if_pos (by kernel_rfl)]
          go_simp
          refine hK.out _ _ ?_ (fun hHeld => ?_)
          · (try dsimp only) <;> (trivial)
          clear hK K
          try simp only [Act.put, List.setIfInBounds_toArray, List.set_cons_zero, List.set_cons_succ]
          refine h_call 3 (by kernel_rfl) rfl (by kernel_rfl) (fun K hK => ?_)
          go_simp
          refine (l2Draw_any g code _ (show Cur w4.drew g code from hc2)).mono ?_
          rintro e w5 ⟨vk, vn, vs, hvs, rfl, hc5, hg5⟩
          have hs5 := hg5.size
          simp only [drew_size'] at hs5
          have HB5 := Blk.grown (w := w4.drew) HB hg5 (by omega)
          have HZ5 := Blk.grown (w := w4.drew) HZ hg5 (by omega)
          have ho5 := OwnT.grownG (w := w4.drew) ho hg5 (by omega)
          have hq5 : w1.heap.size < w5.heap.size := by omega
          obtain ⟨q0, q1, q2, q3⟩ := HB5.two
          try dsimp only
          refine hK.out _ _ ?_ (fun hHeld => ?_)
          · (try dsimp only) <;> (trivial)
          clear hK K
          try simp only [Act.put, List.setIfInBounds_toArray, List.set_cons_zero, List.set_cons_succ]
          refine h_call 4 (by kernel_rfl) rfl (by kernel_rfl) (fun K hK => ?_)
          go_simp
          refine hK.out _ _ ?_ (fun hHeld => ?_)
          · (try dsimp only) <;> (trivial)
          clear hK K
          try simp only [Act.put, List.setIfInBounds_toArray, List.set_cons_zero, List.set_cons_succ]
          refine h_call 5 (by kernel_rfl) rfl (by kernel_rfl) (fun K hK => ?_)
          refine appG (.tmp 33) (.tmp 36) _ rfl vC_sz (w.heap.size + 1) 47 i0 Tryz.underlying24 HI.out hz0 hz1 hz2 rfl (by omega) _ fs rfl (ho5.alloc _) _ 1 1 [⟨vk, vn, vs⟩] rfl (RdT.new1 vC_sz w5 47 ⟨vk, vn, vs⟩) (by intro u hu; simp [fl, vC] at hu; rcases hu with rfl | rfl | rfl <;> rfl) (by have := HAL.out; omega) (by simp; omega) ?_ (by have := HAL.out; omega)
          intro v' w6 ho6 hb6 hg6
          have hl6 : (fs ++ [(⟨vk, vn, vs⟩ : Vl)]).length = k + 1 := by rw [List.length_append, HAL.out]; rfl
          obtain ⟨A6, c6, hv6, _⟩ := ho6.form
          rw [hl6] at hv6
          subst hv6
          have HL6 := Lib.hid hl6; clear hl6
          have HB6 := Blk.grownX (HB5.alloc _) hg6 (row_ne_blk ho5 HB5 (by decide))
          have HZ6 := Blk.bel (HZ5.alloc _) hb6 (by omega)
          have hs6 := hg6.size
          simp at hs6
          obtain ⟨r0, r1, r2, r3⟩ := HB6.two
          change K (Act.put _ (some 37) _) _
          refine hK.out _ _ ?_ (fun hHeld => ?_)
          · (try dsimp only) <;> (trivial)
          clear hK K
          try simp only [Act.put, List.setIfInBounds_toArray, List.set_cons_zero, List.set_cons_succ]
          refine h_take 6 (some 38) (?_) rfl rfl (by kernel_rfl) (by kernel_rfl) (by kernel_rfl) (fun _ _ _ h => h) (by kernel_rfl) ?_ (by assumption) ?_
          rotate_left
          · intro w hSw; (try dsimp only at hSw); go_simp
            all_goals first | with_reducible rfl | omega | (simp; omega)
          try simp only [Act.put, List.setIfInBounds_toArray, List.set_cons_zero, List.set_cons_succ]
          refine h_call 7 (by kernel_rfl) rfl (by kernel_rfl) (fun K hK => ?_)
          go_simp
          refine hK.out _ _ ?_ (fun hHeld => ?_)
          · (try dsimp only) <;> (trivial)
          clear hK K
          try simp only [Act.put, List.setIfInBounds_toArray, List.set_cons_zero, List.set_cons_succ]
          refine wpAnyH_done (by kernel_rfl) ?_ _
          have HB7 : Blk (w6.setCell ⟨w1.heap.size, 1, none⟩ (.slice A6 (k + 1) c6)) w1.heap.size 26 #[.string kd, .slice A6 (k + 1) c6] := by have := HB6.set_ 1 (.slice A6 (k + 1) c6); simpa using this
          have HZ7 := HZ6.far (p := ⟨w1.heap.size, 1, none⟩) (by simp; omega) (.slice A6 (k + 1) c6)
          have ho7 := OwnT.set_neq ho6 (p := ⟨w1.heap.size, 1, none⟩) (row_ne_blk ho6 HB6 (by decide)) (.slice A6 (k + 1) c6)
          have hc7 : Cur (w6.setCell ⟨w1.heap.size, 1, none⟩ (.slice A6 (k + 1) c6)) g code := Cur.set (Cur.below' (hc5.alloc _) hb6 (by omega)) (by simp; omega) _
          have hg7 : w.grownBy (w6.setCell ⟨w1.heap.size, 1, none⟩ (.slice A6 (k + 1) c6)) (some g) := gr_set (gr_bel (gr_alloc (World.grownBy.trans (gr_drew hg1) hg5) _) hb6 (by omega)) (by simp; omega) _
          have hs7 : w1.heap.size < (w6.setCell ⟨w1.heap.size, 1, none⟩ (.slice A6 (k + 1) c6)).heap.size := by simp; omega
          generalize hv7 : w6.setCell ⟨w1.heap.size, 1, none⟩ (.slice A6 (k + 1) c6) = w7 at hHeld HB7 HZ7 ho7 hc7 hg7 hs7 ⊢
          clear hv7 hHeld HB6 HB5 HZ5 HZ6 ho5 ho6 hb6 hg6 hs5 hs6 q0 q1 q2 q3 r0 r1 r2 r3 hc5 hg5 HB HZ ho hc2 hg1
          obtain ⟨u0, u1, u2, u3⟩ := HB7.two
          go_wp2
          go_roundw
          case rel => exact ⟨k + 1, A6, c6, fs ++ [⟨vk, vn, vs⟩], by omega, HL6.out, fun x hx => (by rcases List.mem_append.1 hx with h | h; exact HSS.out x h; rw [List.mem_singleton] at h; rw [h]; exact hvs), HB7, HZ7, ho7, hc7, hg7, by omega⟩
          case measure => rw [lenAt_eq u1, HLA.out]; omega
        · rw [if_pos (by kernel_rfl)]
          go_simp
          refine (l2Draw_any g code _ (show Cur w4.drew g code from hc2)).mono ?_
          rintro e w5 ⟨vk, vn, vs, hvs, rfl, hc5, hg5⟩
          have hs5 := hg5.size
          simp only [drew_size'] at hs5
          have HB5 := Blk.grown (w := w4.drew) HB hg5 (by omega)
          have HZ5 := Blk.grown (w := w4.drew) HZ hg5 (by omega)
          have ho5 := OwnT.grownG (w := w4.drew) ho hg5 (by omega)
          have hq5 : w1.heap.size < w5.heap.size := by omega
          obtain ⟨q0, q1, q2, q3⟩ := HB5.two
          try dsimp only
          refine hK.out _ _ ?_ (fun hHeld => ?_)
          · (try dsimp only) <;> (trivial)
          clear hK K
          try simp only [Act.put, List.setIfInBounds_toArray, List.set_cons_zero, List.set_cons_succ]
          refine wpAnyH_ready (rs := [1, 4]) (by kernel_rfl) (by simp) ?_
          refine AllReadyH.cons rfl (fun K hK => ?_) (AllReadyH.cons rfl (fun K hK => ?_) AllReadyH.nil)
          · rw [if_pos (by kernel_rfl)]
            go_simp
            refine hK.out _ _ ?_ (fun hHeld => ?_)
            · (try dsimp only) <;> (trivial)
            clear hK K
            try simp only [Act.put, List.setIfInBounds_toArray, List.set_cons_zero, List.set_cons_succ]
            refine h_call 4 (by kernel_rfl) rfl (by kernel_rfl) (fun K hK => ?_)
            go_simp
            refine hK.out _ _ ?_ (fun hHeld => ?_)
            · (try dsimp only) <;> (trivial)
            clear hK K
            try simp only [Act.put, List.setIfInBounds_toArray, List.set_cons_zero, List.set_cons_succ]
            refine h_call 5 (by kernel_rfl) rfl (by kernel_rfl) (fun K hK => ?_)
            refine appG (.tmp 33) (.tmp 36) _ rfl vC_sz (w.heap.size + 1) 47 i0 Tryz.underlying24 HI.out hz0 hz1 hz2 rfl (by omega) _ fs rfl (ho5.alloc _) _ 1 1 [⟨vk, vn, vs⟩] rfl (RdT.new1 vC_sz w5 47 ⟨vk, vn, vs⟩) (by intro u hu; simp [fl, vC] at hu; rcases hu with rfl | rfl | rfl <;> rfl) (by have := HAL.out; omega) (by simp; omega) ?_ (by have := HAL.out; omega)
            intro v' w6 ho6 hb6 hg6
            have hl6 : (fs ++ [(⟨vk, vn, vs⟩ : Vl)]).length = k + 1 := by rw [List.length_append, HAL.out]; rfl
            obtain ⟨A6, c6, hv6, _⟩ := ho6.form
            rw [hl6] at hv6
            subst hv6
            have HL6 := Lib.hid hl6; clear hl6
            have HB6 := Blk.grownX (HB5.alloc _) hg6 (row_ne_blk ho5 HB5 (by decide))
            have HZ6 := Blk.bel (HZ5.alloc _) hb6 (by omega)
            have hs6 := hg6.size
            simp at hs6
            obtain ⟨r0, r1, r2, r3⟩ := HB6.two
            change K (Act.put _ (some 37) _) _
            refine hK.out _ _ ?_ (fun hHeld => ?_)
            · (try dsimp only) <;> (trivial)
            clear hK K
            try simp only [Act.put, List.setIfInBounds_toArray, List.set_cons_zero, List.set_cons_succ]
            refine h_take 6 (some 38) (?_) rfl rfl (by kernel_rfl) (by kernel_rfl) (by kernel_rfl) (fun _ _ _ h => h) (by kernel_rfl) ?_ (by assumption) ?_
            rotate_left
            · intro w hSw; (try dsimp only at hSw); go_simp
              all_goals first | with_reducible rfl | omega | (simp; omega)
            try simp only [Act.put, List.setIfInBounds_toArray, List.set_cons_zero, List.set_cons_succ]
            refine h_call 7 (by kernel_rfl) rfl (by kernel_rfl) (fun K hK => ?_)
            go_simp
            refine hK.out _ _ ?_ (fun hHeld => ?_)
            · (try dsimp only) <;> (trivial)
            clear hK K
            try simp only [Act.put, List.setIfInBounds_toArray, List.set_cons_zero, List.set_cons_succ]
            refine wpAnyH_done (by kernel_rfl) ?_ _
            have HB7 : Blk (w6.setCell ⟨w1.heap.size, 1, none⟩ (.slice A6 (k + 1) c6)) w1.heap.size 26 #[.string kd, .slice A6 (k + 1) c6] := by have := HB6.set_ 1 (.slice A6 (k + 1) c6); simpa using this
            have HZ7 := HZ6.far (p := ⟨w1.heap.size, 1, none⟩) (by simp; omega) (.slice A6 (k + 1) c6)
            have ho7 := OwnT.set_neq ho6 (p := ⟨w1.heap.size, 1, none⟩) (row_ne_blk ho6 HB6 (by decide)) (.slice A6 (k + 1) c6)
            have hc7 : Cur (w6.setCell ⟨w1.heap.size, 1, none⟩ (.slice A6 (k + 1) c6)) g code := Cur.set (Cur.below' (hc5.alloc _) hb6 (by omega)) (by simp; omega) _
            have hg7 : w.grownBy (w6.setCell ⟨w1.heap.size, 1, none⟩ (.slice A6 (k + 1) c6)) (some g) := gr_set (gr_bel (gr_alloc (World.grownBy.trans (gr_drew hg1) hg5) _) hb6 (by omega)) (by simp; omega) _
            have hs7 : w1.heap.size < (w6.setCell ⟨w1.heap.size, 1, none⟩ (.slice A6 (k + 1) c6)).heap.size := by simp; omega
            generalize hv7 : w6.setCell ⟨w1.heap.size, 1, none⟩ (.slice A6 (k + 1) c6) = w7 at hHeld HB7 HZ7 ho7 hc7 hg7 hs7 ⊢
            clear hv7 hHeld HB6 HB5 HZ5 HZ6 ho5 ho6 hb6 hg6 hs5 hs6 q0 q1 q2 q3 r0 r1 r2 r3 hc5 hg5 HB HZ ho hc2 hg1
            obtain ⟨u0, u1, u2, u3⟩ := HB7.two
            go_wp2
            go_roundw
            case rel => exact ⟨k + 1, A6, c6, fs ++ [⟨vk, vn, vs⟩], by omega, HL6.out, fun x hx => (by rcases List.mem_append.1 hx with h | h; exact HSS.out x h; rw [List.mem_singleton] at h; rw [h]; exact hvs), HB7, HZ7, ho7, hc7, hg7, by omega⟩
            case measure => rw [lenAt_eq u1, HLA.out]; omega
          · rw [if_pos (by kernel_rfl)]
            go_simp
            refine hK.out _ _ ?_ (fun hHeld => ?_)
            · (try dsimp only) <;> (trivial)
            clear hK K
            try simp only [Act.put, List.setIfInBounds_toArray, List.set_cons_zero, List.set_cons_succ]
            refine h_call 1 (by kernel_rfl) rfl (by kernel_rfl) (fun K hK => ?_)
            go_simp
            refine hK.out _ _ ?_ (fun hHeld => ?_)
            · (try dsimp only) <;> (trivial)
            clear hK K
            try simp only [Act.put, List.setIfInBounds_toArray, List.set_cons_zero, List.set_cons_succ]
            refine h_call 5 (by kernel_rfl) rfl (by kernel_rfl) (fun K hK => ?_)
            refine appG (.tmp 33) (.tmp 36) _ rfl vC_sz (w.heap.size + 1) 47 i0 Tryz.underlying24 HI.out hz0 hz1 hz2 rfl (by omega) _ fs rfl (ho5.alloc _) _ 1 1 [⟨vk, vn, vs⟩] rfl (RdT.new1 vC_sz w5 47 ⟨vk, vn, vs⟩) (by intro u hu; simp [fl, vC] at hu; rcases hu with rfl | rfl | rfl <;> rfl) (by have := HAL.out; omega) (by simp; omega) ?_ (by have := HAL.out; omega)
            intro v' w6 ho6 hb6 hg6
            have hl6 : (fs ++ [(⟨vk, vn, vs⟩ : Vl)]).length = k + 1 := by rw [List.length_append, HAL.out]; rfl
            obtain ⟨A6, c6, hv6, _⟩ := ho6.form
            rw [hl6] at hv6
            subst hv6
            have HL6 := Lib.hid hl6; clear hl6
            have HB6 := Blk.grownX (HB5.alloc _) hg6 (row_ne_blk ho5 HB5 (by decide))
            have HZ6 := Blk.bel (HZ5.alloc _) hb6 (by omega)
            have hs6 := hg6.size
            simp at hs6
            obtain ⟨r0, r1, r2, r3⟩ := HB6.two
            change K (Act.put _ (some 37) _) _
            refine hK.out _ _ ?_ (fun hHeld => ?_)
            · (try dsimp only) <;> (trivial)
            clear hK K
            try simp only [Act.put, List.setIfInBounds_toArray, List.set_cons_zero, List.set_cons_succ]
            refine h_take 6 (some 38) (?_) rfl rfl (by kernel_rfl) (by kernel_rfl) (by kernel_rfl) (fun _ _ _ h => h) (by kernel_rfl) ?_ (by assumption) ?_
            rotate_left
            · intro w hSw; (try dsimp only at hSw); go_simp
              all_goals first | with_reducible rfl | omega | (simp; omega)
            try simp only [Act.put, List.setIfInBounds_toArray, List.set_cons_zero, List.set_cons_succ]
            refine h_call 7 (by kernel_rfl) rfl (by kernel_rfl) (fun K hK => ?_)
            go_simp
            refine hK.out _ _ ?_ (fun hHeld => ?_)
            · (try dsimp only) <;> (trivial)
            clear hK K
            try simp only [Act.put, List.setIfInBounds_toArray, List.set_cons_zero, List.set_cons_succ]
            refine wpAnyH_done (by kernel_rfl) ?_ _
            have HB7 : Blk (w6.setCell ⟨w1.heap.size, 1, none⟩ (.slice A6 (k + 1) c6)) w1.heap.size 26 #[.string kd, .slice A6 (k + 1) c6] := by have := HB6.set_ 1 (.slice A6 (k + 1) c6); simpa using this
            have HZ7 := HZ6.far (p := ⟨w1.heap.size, 1, none⟩) (by simp; omega) (.slice A6 (k + 1) c6)
            have ho7 := OwnT.set_neq ho6 (p := ⟨w1.heap.size, 1, none⟩) (row_ne_blk ho6 HB6 (by decide)) (.slice A6 (k + 1) c6)
            have hc7 : Cur (w6.setCell ⟨w1.heap.size, 1, none⟩ (.slice A6 (k + 1) c6)) g code := Cur.set (Cur.below' (hc5.alloc _) hb6 (by omega)) (by simp; omega) _
            have hg7 : w.grownBy (w6.setCell ⟨w1.heap.size, 1, none⟩ (.slice A6 (k + 1) c6)) (some g) := gr_set (gr_bel (gr_alloc (World.grownBy.trans (gr_drew hg1) hg5) _) hb6 (by omega)) (by simp; omega) _
            have hs7 : w1.heap.size < (w6.setCell ⟨w1.heap.size, 1, none⟩ (.slice A6 (k + 1) c6)).heap.size := by simp; omega
            generalize hv7 : w6.setCell ⟨w1.heap.size, 1, none⟩ (.slice A6 (k + 1) c6) = w7 at hHeld HB7 HZ7 ho7 hc7 hg7 hs7 ⊢
            clear hv7 hHeld HB6 HB5 HZ5 HZ6 ho5 ho6 hb6 hg6 hs5 hs6 q0 q1 q2 q3 r0 r1 r2 r3 hc5 hg5 HB HZ ho hc2 hg1
            obtain ⟨u0, u1, u2, u3⟩ := HB7.two
            go_wp2
            go_roundw
            case rel => exact ⟨k + 1, A6, c6, fs ++ [⟨vk, vn, vs⟩], by omega, HL6.out, fun x hx => (by rcases List.mem_append.1 hx with h | h; exact HSS.out x h; rw [List.mem_singleton] at h; rw [h]; exact hvs), HB7, HZ7, ho7, hc7, hg7, by omega⟩
            case measure => rw [lenAt_eq u1, HLA.out]; omega
      · have hlt2 : ¬ ((k : Int) < 5 + (y : Int)) := by omega
        obtain ⟨z0, z1, y0, y1⟩ := HZ.two
        have HO := Lib.hid ho; clear ho HZ
        go_wp2
        refine bodyPost_ret (v := .agg #[.string kd, .slice A k c]) (by simp [results, Tryz.results21, go_sem, z0, z1]) rfl ⟨kd, A, c, fs, hkd, by have := HAL.out; omega, HSS.out, by rw [HAL.out], ?_, (by repeat (first | with_reducible assumption | with_reducible refine Cur.set ?_ (by first | (simp; done) | (simp; omega) | omega) _ | with_reducible refine Cur.alloc ?_ _ | with_reducible refine Cur.drew ?_ | with_reducible refine Cur.below ?_ (by assumption))), (by repeat (first | with_reducible exact World.grownBy.refl _ _ | with_reducible assumption | with_reducible refine gr_alloc ?_ _ | with_reducible refine gr_drew ?_ | with_reducible refine gr_drewN ?_ _ | with_reducible refine gr_set ?_ (by first | (simp; done) | (simp; omega) | omega) _ | with_reducible refine World.grownBy.trans ?_ (by assumption) | with_reducible refine grown_below ?_ (by assumption)))⟩
        rw [HAL.out]
        exact (((HO.out.low (by first | (simp; done) | (simp; omega)) _).low (by first | (simp; done) | (simp; omega)) _).lower (by omega))
  have q2 : ((x : Int) == 2) = false := by simp; omega
  obtain ⟨z0, z1, y0, y1⟩ := HZ.two
  obtain ⟨d0, d1, e0, e1⟩ := HB.two
  have HO := Lib.hid ho; clear ho HZ
  go_wp2
  refine bodyPost_ret (v := .agg #[.string kd, .slice A k c]) (by simp [results, Tryz.results21, go_sem, z0, z1]) rfl ⟨kd, A, c, fs, hkd, by have := HAL.out; omega, HSS.out, by rw [HAL.out], ?_, (by repeat (first | with_reducible assumption | with_reducible refine Cur.set ?_ (by first | (simp; done) | (simp; omega) | omega) _ | with_reducible refine Cur.alloc ?_ _ | with_reducible refine Cur.drew ?_ | with_reducible refine Cur.below ?_ (by assumption))), (by repeat (first | with_reducible exact World.grownBy.refl _ _ | with_reducible assumption | with_reducible refine gr_alloc ?_ _ | with_reducible refine gr_drew ?_ | with_reducible refine gr_drewN ?_ _ | with_reducible refine gr_set ?_ (by first | (simp; done) | (simp; omega) | omega) _ | with_reducible refine World.grownBy.trans ?_ (by assumption) | with_reducible refine grown_below ?_ (by assumption)))⟩
  rw [HAL.out]
  exact (((HO.out.low (by first | (simp; done) | (simp; omega)) _).low (by first | (simp; done) | (simp; omega)) _).lower (by omega))
end Go.Proofs.YtcbbefibebkfgaaGreatDoor
