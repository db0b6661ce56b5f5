/- What the drawing functions of stores answer: whatever store. No condition but lengths. -/
import Derived.Test.YtndhjijcicebkaaDraw14
namespace Go.Proofs.Ytndhjijcicebkaa
open Go.RowKit
set_option maxRecDepth 100000
set_option maxHeartbeats 4000000
def smallR (r : IR) : Prop := r.kd.size ≤ 30 ∧ r.fs.length ≤ 7 ∧ ∀ x ∈ r.fs, x.s.size ≤ 30
def DrawnSA (g : Nat) (code : List UInt8) (w : World) (e : Ending) (w' : World) : Prop :=
  ∃ (A : Option Addr) (c : Nat) (rs : List IR) (nx : Int), (rs.length ≤ 41 ∧ (0 ≤ nx ∧ nx ≤ 1000001) ∧ ∀ r ∈ rs, smallR r) ∧ rs.length ≤ c ∧ e = .returned (.agg #[.slice A rs.length c, .int .i64 nx]) ∧ OwnI w' w.heap.size (.slice A rs.length c) rs ∧ Cur w' g code ∧ w.grownBy w' (some g)
def fullF (j : Nat) : Ft := ⟨fullB, [⟨1, (j : Int), ⟨#[]⟩⟩]⟩
def niceF (l : List It) (nx : Int) (N : Nat) : Prop := 1 ≤ nx ∧ nx ≤ 9 + N ∧ ∀ x ∈ l, 1 ≤ x.id ∧ x.f.kd.size ≤ 30 ∧ x.f.fs.length ≤ 7 ∧ (∀ v ∈ x.f.fs, v.s.size ≤ 30) ∧ (x.f.kd = fullB → ∃ j, j < N ∧ x.f = fullF j)
theorem niceF_of {l : List It} {nx : Int} {N : Nat} (h : niceL l nx 8) : niceF l nx N := ⟨h.2.1, by have := h.2.2.1; omega, fun x hx => by
  obtain ⟨h1, h2, h3, h4, h5⟩ := h.2.2.2 x hx
  exact ⟨h1, h2, h4, h5, fun e => absurd e h3⟩⟩
theorem fullF_inj {i j : Nat} (h : fullF i = fullF j) : i = j := by
  unfold fullF at h
  injection h with _ h
  injection h with h _
  injection h with _ h _
  omega
theorem niceF_step {l : List It} {nx : Int} {N : Nat} (h : niceF l nx N) (hl : l.length = N) (hN : N < 40) : asrt l nx (fullF N) = (l ++ [⟨nx, fullF N⟩], nx + 1, nx) ∧ niceF (l ++ [⟨nx, fullF N⟩]) (nx + 1) (N + 1) := by
  obtain ⟨h1, h2, h3⟩ := h
  have h0 : idOf l (fullF N) = 0 := idOf_none fun x hx e => by
    obtain ⟨_, _, _, _, h4⟩ := h3 x hx
    obtain ⟨j, hj, e2⟩ := h4 (by rw [e]; rfl)
    rw [e] at e2
    have := fullF_inj e2
    omega
  constructor
  · unfold asrt
    rw [h0, if_neg (by decide), if_neg (by omega)]
  · refine ⟨by omega, by omega, fun x hx => ?_⟩
    rcases List.mem_append.1 hx with hx | hx
    · obtain ⟨q1, q2, q3, q4, q5⟩ := h3 x hx
      refine ⟨q1, q2, q3, q4, fun e => ?_⟩
      obtain ⟨j, hj, e2⟩ := q5 e
      exact ⟨j, by omega, e2⟩
    · rw [List.mem_singleton] at hx
      subst hx
      refine ⟨h1, (show fullB.size ≤ 30 by decide), (show 1 ≤ 7 by decide), fun v hv => ?_, fun _ => ⟨N, by omega, rfl⟩⟩
      have hv : v ∈ [(⟨1, (N : Int), ⟨#[]⟩⟩ : Vl)] := hv
      rw [List.mem_singleton] at hv
      subst hv
      exact Nat.zero_le _
theorem small_of {rs : List IR} {nx : Int} {N : Nat} (h : niceF (rs.map itOf) nx N) : ∀ r ∈ rs, smallR r := fun r hr => by
  obtain ⟨_, h2, h3, h4, _⟩ := h.2.2 (itOf r) (List.mem_map_of_mem hr)
  exact ⟨h2, h3, h4⟩
def lenAt0 (w : World) (b : Nat) : Nat := match w.cell? ⟨b, 0, none⟩ with | some (.slice _ n _) => 50 - n | _ => 0
theorem lenAt0_eq {w : World} {b n c : Nat} {A : Option Addr} (h : w.cell? ⟨b, 0, none⟩ = some (.slice A n c)) : lenAt0 w b = 50 - n := by unfold lenAt0; rw [h]
theorem l4Any_any (g : Nat) (code : List UInt8) (w : World) (hc : Cur w g code) : Calls Try.prog 51 #[.pointer (some ⟨g, 0, none⟩)] w (DrawnSA g code w) := by
  obtain ⟨i0, hi, hz0, hz1, hz2⟩ := info_parts infoItem
  have HI := Lib.hid hi; clear hi
  have hg := hc.lt
  have HZ := Blk.new w 32 #[.slice none 0 0, .int .i64 0]
  go_enter Try.func51, Try.ntmps51
  go_wp2_with fail
  refine (l4Draw_any g code _ (hc.alloc _)).mono ?_
  rintro e w1 ⟨A, c, rs, nx, hni, hNc, rfl, ho, hc1, hg1⟩
  replace HZ := HZ.grown hg1 (by omega)
  have hs1 := hg1.size
  simp at hs1
  have hl1 := hc1.lt
  replace hg1 := (World.grownBy_alloc w _ (some g)).trans hg1
  replace ho := ho.lower (b2 := w.heap.size + 1) (by simp)
  obtain ⟨N, hN⟩ : ∃ N, rs.length = N := ⟨_, rfl⟩
  rw [hN] at ho hNc ⊢
  have hN8 : N ≤ 8 := by rw [← hN]; exact hni.1
  have HNI := Lib.hid hni; have HL := Lib.hid hN
  clear hni hN
  have HB := Blk.new w1 32 #[.slice A N c, .int .i64 nx]
  replace HZ := HZ.alloc (.cells #[.slice A N c, .int .i64 nx] 32)
  replace hc1 := hc1.alloc (.cells #[.slice A N c, .int .i64 nx] 32)
  replace hg1 := gr_alloc hg1 (.cells #[.slice A N c, .int .i64 nx] 32)
  replace ho := ho.alloc (.cells #[.slice A N c, .int .i64 nx] 32)
  have hz2' : w.heap.size < w1.heap.size := by omega
  have hgs : g < w.heap.size := hg
  go_wp2_with fail
  refine (l1Below_any g code 12 _ hc1 (by omega)).mono ?_
  rintro e w2 ⟨x, hx, rfl, hc2, hg2⟩
  have hs2 := hg2.size
  simp at hs2
  replace HZ := HZ.grown hg2 (by omega)
  replace HB := HB.grown hg2 (by omega)
  replace ho := OwnI.grownG ho hg2 (by omega)
  replace hg1 := World.grownBy.trans hg1 hg2
  have hl2 := hc2.lt
  have hb2 := HB.lt
  clear hc1 hg2 hs1 hl1 hx
  have hsm : ∀ r ∈ rs, smallR r := small_of (niceF_of (N := 0) (nice_of HNI.out))
  have HSM := Lib.hid hsm; clear hsm
  have hnx1 : 1 ≤ nx := HNI.out.2.1
  have hnx2 : nx ≤ 9 := HNI.out.2.2.1
  by_cases b0 : x = 0
  · subst b0
    go_wp2_with fail
    refine (l1Int_any g code _ 4 4 [0, 1, 1000000, 1000001] _ _ (hc2.alloc _) (Rd.lit w2 3 _ 4 rfl) (by omega) (by omega) (ne_lit hl2)).mono ?_
    rintro e w3 ⟨y, hs, rfl, hc3, hg3⟩
    have hy : 0 ≤ y ∧ y ≤ 1000001 := by
      simp only [List.mem_cons, List.not_mem_nil, or_false] at hs
      omega
    clear hs
    replace hg3 := (World.grownBy_alloc w2 (.cells (([0, 1, 1000000, 1000001] : List Int).map (Value.int .i64)).toArray 3) (some g)).trans hg3
    have hs3 := hg3.size
    replace HZ := HZ.grown hg3 (by omega)
    replace HB := HB.grown hg3 (by omega)
    replace ho := OwnI.grownG ho hg3 (by omega)
    replace hg1 := World.grownBy.trans hg1 hg3
    have hbl := HB.lt
    have hHZ := HZ.far (p := ⟨w1.heap.size, 1, none⟩) (by simp; omega) (.int .i64 y)
    obtain ⟨z0, z1, fz0, fz1⟩ := hHZ.two
    obtain ⟨d0, d1, e0, e1⟩ := HB.two
    have HO := Lib.hid (ho.setBlk HB 1 (.int .i64 y)); clear ho HZ hHZ hg3
    go_wp2
    refine bodyPost_ret (v := .agg #[.slice A N c, .int .i64 y]) (by simp [results, Try.results51, go_sem, z0, z1]) rfl ⟨A, c, rs, y, ⟨by have := HL.out; omega, hy, HSM.out⟩, by rw [HL.out]; exact hNc, by rw [HL.out], ?_, Cur.set (Cur.set (Cur.set hc3 (by simp; omega) _) (by simp; omega) _) (by simp; omega) _, gr_set (gr_set (gr_set hg1 (by simp; omega) _) (by simp) _) (by simp) _⟩
    rw [HL.out]
    exact (((HO.out.low (by first | (simp; done) | (simp; omega)) _).low (by first | (simp; done) | (simp; omega)) _).lower (by omega))
  have q0 : ((x : Int) == 0) = false := by simp; omega
  by_cases b1 : x = 1
  · subst b1
    obtain ⟨d0, d1, e0, e1⟩ := HB.two
    go_upto_region 6 with fail
    refine wp_region_held_drew (S := (fun _ => True)) (by kernel_rfl) ?_ (fun hHeld => ?_)
    · (try dsimp only) <;> (trivial)
    refine h_take 0 (some 16) (?_) rfl rfl (by kernel_rfl) (by kernel_rfl) (by kernel_rfl) (fun _ _ _ h => h) (by kernel_rfl) ?_ (by assumption) ?_
    rotate_left
    · intro w hSw; (try dsimp only at hSw); go_simp
      all_goals first | with_reducible rfl | omega | (simp; omega)
    try simp only [Act.put, List.setIfInBounds_toArray, List.set_cons_zero, List.set_cons_succ]
    refine h_take 2 (some 18) (?_) rfl rfl (by kernel_rfl) (by kernel_rfl) (by kernel_rfl) (fun _ _ _ h => h) (by kernel_rfl) ?_ (by assumption) ?_
    rotate_left
    · intro w hSw; (try dsimp only at hSw); go_simp
      all_goals first | with_reducible rfl | omega | (simp; omega)
    try simp only [Act.put, List.setIfInBounds_toArray, List.set_cons_zero, List.set_cons_succ]
    refine h_take 4 (some 20) (?_) rfl rfl (by kernel_rfl) (by kernel_rfl) (by kernel_rfl) (fun _ _ _ h => h) (by kernel_rfl) ?_ (by assumption) ?_
    rotate_left
    · intro w hSw; (try dsimp only at hSw); go_simp
      all_goals first | with_reducible rfl | omega | (simp; omega)
    try simp only [Act.put, List.setIfInBounds_toArray, List.set_cons_zero, List.set_cons_succ]
    refine wpAnyH_ready (rs := [1, 3]) (by kernel_rfl) (by simp) ?_
    refine AllReadyH.cons rfl (fun K hK => ?_) (AllReadyH.cons rfl (fun K hK => ?_) AllReadyH.nil)
    · rw [if_pos (by kernel_rfl)]
      go_simp
      refine hK.out _ _ ?_ (fun hHeld => ?_)
      · (try dsimp only) <;> (trivial)
      clear hK K
      try simp only [Act.put, List.setIfInBounds_toArray, List.set_cons_zero, List.set_cons_succ]
      refine h_call 3 (by kernel_rfl) rfl (by kernel_rfl) (fun K hK => ?_)
      go_simp
      refine (l1Below_any g code 9 _ (show Cur w2.drew g code from hc2) (by omega)).mono ?_
      rintro e w3 ⟨y, hy, rfl, hc3, hg3⟩
      have hs3 := hg3.size
      simp only [drew_size'] at hs3
      have HB3 := Blk.grown (w := w2.drew) HB hg3 (by omega)
      have HZ3 := Blk.grown (w := w2.drew) HZ hg3 (by omega)
      have ho3 := OwnI.grownG (w := w2.drew) ho hg3 (by omega)
      have hl3 := hc3.lt
      obtain ⟨p0, p1, p2, p3⟩ := HB3.two
      have hg13 := World.grownBy.trans (gr_drew hg1) hg3
      try dsimp only
      refine hK.out _ _ ?_ (fun hHeld => ?_)
      · (try dsimp only) <;> (trivial)
      clear hK K
      try simp only [Act.put, List.setIfInBounds_toArray, List.set_cons_zero, List.set_cons_succ]
      refine h_call 5 (by kernel_rfl) rfl (by kernel_rfl) (fun K hK => ?_)
      go_simp
      refine (l3Any_any g code _ hc3).mono ?_
      rintro e w5 ⟨kd, Ai, ci, fs, hkd, hfl, hss, rfl, ho5, hc5, hg5⟩
      have hs5 := hg5.size
      have HB5 := Blk.grown HB3 hg5 (by omega)
      have HZ5 := Blk.grown HZ3 hg5 (by omega)
      have hoi5 := OwnI.grownG ho3 hg5 (by omega)
      have hfr := fresh_row (r := ⟨y, kd, Ai, ci, fs⟩) ho3 ho5
      have hq5 : w1.heap.size < w5.heap.size := by omega
      obtain ⟨q0, q1, q2, q3⟩ := HB5.two
      have HSS := Lib.hid hss; clear hss
      try dsimp only
      refine hK.out _ _ ?_ (fun hHeld => ?_)
      · (try dsimp only) <;> (trivial)
      clear hK K
      try simp only [Act.put, List.setIfInBounds_toArray, List.set_cons_zero, List.set_cons_succ]
      refine h_take 6 (some 22) (?_) rfl rfl (by kernel_rfl) (by kernel_rfl) (by kernel_rfl) (fun _ _ _ h => h) (by kernel_rfl) ?_ (by assumption) ?_
      rotate_left
      · intro w hSw; (try dsimp only at hSw); go_simp
        all_goals first | with_reducible rfl | omega | (simp; omega)
      try simp only [Act.put, List.setIfInBounds_toArray, List.set_cons_zero, List.set_cons_succ]
      refine h_call 7 (by kernel_rfl) rfl (by kernel_rfl) (fun K hK => ?_)
      go_simp
      refine hK.out _ _ ?_ (fun hHeld => ?_)
      · (try dsimp only) <;> (trivial)
      clear hK K
      try simp only [Act.put, List.setIfInBounds_toArray, List.set_cons_zero, List.set_cons_succ]
      refine h_call 8 (by kernel_rfl) rfl (by kernel_rfl) (fun K hK => ?_)
      refine appG (.tmp 17) (.tmp 23) _ rfl irC_sz (w.heap.size + 1) 55 i0 Try.underlying30 HI.out hz0 hz1 hz2 rfl (by omega) _ rs rfl (hoi5.1.alloc _) _ 1 1 [⟨y, kd, Ai, ci, fs⟩] rfl (RdT.new1 irC_sz w5 55 ⟨y, kd, Ai, ci, fs⟩) (irC_one _) (by have := HL.out; omega) (by simp; omega) ?_ (by have := HL.out; omega)
      intro v' w6 ho6 hb6 hg6
      have hoi6 := OwnI.snoc (hoi5.alloc _) (OwnT.alloc (OwnT.lower ho5 (by omega)) _) hfr ho6 hg6
      have hl6 : (rs ++ [(⟨y, kd, Ai, ci, fs⟩ : IR)]).length = N + 1 := by rw [List.length_append, HL.out]; rfl
      obtain ⟨A6, c6, hv6, hc6⟩ := hoi6.form
      rw [hl6] at hv6 hc6
      subst hv6
      have HL6 := Lib.hid hl6; clear hl6
      have HB6 := Blk.grownR (HB5.alloc _) hg6 (own_blk_ne hoi5.1 HB5 (by decide))
      have HZ6 := Blk.bel (HZ5.alloc _) hb6 (by omega)
      have hs6 := hg6.size
      simp at hs6
      obtain ⟨r0, r1, r2, r3⟩ := HB6.two
      change K (Act.put _ (some 24) _) _
      refine hK.out _ _ ?_ (fun hHeld => ?_)
      · (try dsimp only) <;> (trivial)
      clear hK K
      try simp only [Act.put, List.setIfInBounds_toArray, List.set_cons_zero, List.set_cons_succ]
      refine h_take 9 (some 25) (?_) rfl rfl (by kernel_rfl) (by kernel_rfl) (by kernel_rfl) (fun _ _ _ h => h) (by kernel_rfl) ?_ (by assumption) ?_
      rotate_left
      · intro w hSw; (try dsimp only at hSw); go_simp
        all_goals first | with_reducible rfl | omega | (simp; omega)
      try simp only [Act.put, List.setIfInBounds_toArray, List.set_cons_zero, List.set_cons_succ]
      refine h_call 10 (by kernel_rfl) rfl (by kernel_rfl) (fun K hK => ?_)
      go_simp
      refine hK.out _ _ ?_ (fun hHeld => ?_)
      · (try dsimp only) <;> (trivial)
      clear hK K
      try simp only [Act.put, List.setIfInBounds_toArray, List.set_cons_zero, List.set_cons_succ]
      refine wpAnyH_done (by kernel_rfl) ?_ _
      have HB7 : Blk (w6.setCell ⟨w1.heap.size, 0, none⟩ (.slice A6 (N + 1) c6)) w1.heap.size 32 #[.slice A6 (N + 1) c6, .int .i64 nx] := by have := HB6.set_ 0 (.slice A6 (N + 1) c6); simpa using this
      have HZ7 := HZ6.far (p := ⟨w1.heap.size, 0, none⟩) (by simp; omega) (.slice A6 (N + 1) c6)
      have ho7 := hoi6.setBlk HB6 0 (.slice A6 (N + 1) c6)
      have hc7 : Cur (w6.setCell ⟨w1.heap.size, 0, none⟩ (.slice A6 (N + 1) c6)) g code := Cur.set (Cur.below' (hc5.alloc _) hb6 (by omega)) (by simp; omega) _
      have hg7 : w.grownBy (w6.setCell ⟨w1.heap.size, 0, none⟩ (.slice A6 (N + 1) c6)) (some g) := gr_set (gr_bel (gr_alloc (World.grownBy.trans hg13 hg5) _) hb6 (by omega)) (by simp; omega) _
      have hs7 : w1.heap.size < (w6.setCell ⟨w1.heap.size, 0, none⟩ (.slice A6 (N + 1) c6)).heap.size := by simp; omega
      generalize hv7 : w6.setCell ⟨w1.heap.size, 0, none⟩ (.slice A6 (N + 1) c6) = w7 at hHeld HB7 HZ7 ho7 hc7 hg7 hs7 ⊢
      clear hv7 hHeld HB6 HB5 HZ5 HZ6 ho5 ho6 hoi5 hoi6 hb6 hg6 hs5 hs6 q0 q1 q2 q3 r0 r1 r2 r3 hc5 hg5 HB HZ ho hc2 hg1 HB3 HZ3 ho3 p0 p1 p2 p3 hc3 hg3 hfr hg13
      obtain ⟨u0, u1, u2, u3⟩ := HB7.two
      obtain ⟨z0, z1, fz0, fz1⟩ := HZ7.two
      have HO := Lib.hid ho7; clear ho7 HZ7
      go_wp2
      refine bodyPost_ret (v := .agg #[.slice A6 (N + 1) c6, .int .i64 nx]) (by simp [results, Try.results51, go_sem, z0, z1]) rfl ⟨A6, c6, rs ++ [⟨y, kd, Ai, ci, fs⟩], nx, ⟨by have := HL6.out; omega, ⟨by omega, by omega⟩, fun r hr => (by rcases List.mem_append.1 hr with h | h; exact HSM.out r h; rw [List.mem_singleton] at h; rw [h]; exact ⟨hkd, hfl, HSS.out⟩)⟩, by rw [HL6.out]; exact hc6, by rw [HL6.out], ?_, (by repeat (first | with_reducible assumption | with_reducible refine Cur.set ?_ (by first | (simp; done) | (simp; omega) | omega) _ | with_reducible refine Cur.alloc ?_ _ | with_reducible refine Cur.drew ?_ | with_reducible refine Cur.below ?_ (by assumption))), (by repeat (first | with_reducible exact World.grownBy.refl _ _ | with_reducible assumption | with_reducible refine gr_alloc ?_ _ | with_reducible refine gr_drew ?_ | with_reducible refine gr_drewN ?_ _ | with_reducible refine gr_set ?_ (by first | (simp; done) | (simp; omega) | omega) _ | with_reducible refine World.grownBy.trans ?_ (by assumption) | with_reducible refine grown_below ?_ (by assumption)))⟩
      rw [HL6.out]
      exact (((HO.out.low (by first | (simp; done) | (simp; omega)) _).low (by first | (simp; done) | (simp; omega)) _).lower (by omega))
    · rw [if_pos (by kernel_rfl)]
      go_simp
      refine (l1Below_any g code 9 _ (show Cur w2.drew g code from hc2) (by omega)).mono ?_
      rintro e w3 ⟨y, hy, rfl, hc3, hg3⟩
      have hs3 := hg3.size
      simp only [drew_size'] at hs3
      have HB3 := Blk.grown (w := w2.drew) HB hg3 (by omega)
      have HZ3 := Blk.grown (w := w2.drew) HZ hg3 (by omega)
      have ho3 := OwnI.grownG (w := w2.drew) ho hg3 (by omega)
      have hl3 := hc3.lt
      obtain ⟨p0, p1, p2, p3⟩ := HB3.two
      have hg13 := World.grownBy.trans (gr_drew hg1) hg3
      try dsimp only
      refine hK.out _ _ ?_ (fun hHeld => ?_)
      · (try dsimp only) <;> (trivial)
      clear hK K
      try simp only [Act.put, List.setIfInBounds_toArray, List.set_cons_zero, List.set_cons_succ]
      refine wpAnyH_ready (rs := [1, 5]) (by kernel_rfl) (by simp) ?_
      refine AllReadyH.cons rfl (fun K hK => ?_) (AllReadyH.cons rfl (fun K hK => ?_) AllReadyH.nil)
      · rw [if_pos (by kernel_rfl)]
        go_simp
        refine hK.out _ _ ?_ (fun hHeld => ?_)
        · (try dsimp only) <;> (trivial)
        clear hK K
        try simp only [Act.put, List.setIfInBounds_toArray, List.set_cons_zero, List.set_cons_succ]
        refine h_call 5 (by kernel_rfl) rfl (by kernel_rfl) (fun K hK => ?_)
        go_simp
        refine (l3Any_any g code _ hc3).mono ?_
        rintro e w5 ⟨kd, Ai, ci, fs, hkd, hfl, hss, rfl, ho5, hc5, hg5⟩
        have hs5 := hg5.size
        have HB5 := Blk.grown HB3 hg5 (by omega)
        have HZ5 := Blk.grown HZ3 hg5 (by omega)
        have hoi5 := OwnI.grownG ho3 hg5 (by omega)
        have hfr := fresh_row (r := ⟨y, kd, Ai, ci, fs⟩) ho3 ho5
        have hq5 : w1.heap.size < w5.heap.size := by omega
        obtain ⟨q0, q1, q2, q3⟩ := HB5.two
        have HSS := Lib.hid hss; clear hss
        try dsimp only
        refine hK.out _ _ ?_ (fun hHeld => ?_)
        · (try dsimp only) <;> (trivial)
        clear hK K
        try simp only [Act.put, List.setIfInBounds_toArray, List.set_cons_zero, List.set_cons_succ]
        refine h_take 6 (some 22) (?_) rfl rfl (by kernel_rfl) (by kernel_rfl) (by kernel_rfl) (fun _ _ _ h => h) (by kernel_rfl) ?_ (by assumption) ?_
        rotate_left
        · intro w hSw; (try dsimp only at hSw); go_simp
          all_goals first | with_reducible rfl | omega | (simp; omega)
        try simp only [Act.put, List.setIfInBounds_toArray, List.set_cons_zero, List.set_cons_succ]
        refine h_call 7 (by kernel_rfl) rfl (by kernel_rfl) (fun K hK => ?_)
        go_simp
        refine hK.out _ _ ?_ (fun hHeld => ?_)
        · (try dsimp only) <;> (trivial)
        clear hK K
        try simp only [Act.put, List.setIfInBounds_toArray, List.set_cons_zero, List.set_cons_succ]
        refine h_call 8 (by kernel_rfl) rfl (by kernel_rfl) (fun K hK => ?_)
        refine appG (.tmp 17) (.tmp 23) _ rfl irC_sz (w.heap.size + 1) 55 i0 Try.underlying30 HI.out hz0 hz1 hz2 rfl (by omega) _ rs rfl (hoi5.1.alloc _) _ 1 1 [⟨y, kd, Ai, ci, fs⟩] rfl (RdT.new1 irC_sz w5 55 ⟨y, kd, Ai, ci, fs⟩) (irC_one _) (by have := HL.out; omega) (by simp; omega) ?_ (by have := HL.out; omega)
        intro v' w6 ho6 hb6 hg6
        have hoi6 := OwnI.snoc (hoi5.alloc _) (OwnT.alloc (OwnT.lower ho5 (by omega)) _) hfr ho6 hg6
        have hl6 : (rs ++ [(⟨y, kd, Ai, ci, fs⟩ : IR)]).length = N + 1 := by rw [List.length_append, HL.out]; rfl
        obtain ⟨A6, c6, hv6, hc6⟩ := hoi6.form
        rw [hl6] at hv6 hc6
        subst hv6
        have HL6 := Lib.hid hl6; clear hl6
        have HB6 := Blk.grownR (HB5.alloc _) hg6 (own_blk_ne hoi5.1 HB5 (by decide))
        have HZ6 := Blk.bel (HZ5.alloc _) hb6 (by omega)
        have hs6 := hg6.size
        simp at hs6
        obtain ⟨r0, r1, r2, r3⟩ := HB6.two
        change K (Act.put _ (some 24) _) _
        refine hK.out _ _ ?_ (fun hHeld => ?_)
        · (try dsimp only) <;> (trivial)
        clear hK K
        try simp only [Act.put, List.setIfInBounds_toArray, List.set_cons_zero, List.set_cons_succ]
        refine h_take 9 (some 25) (?_) rfl rfl (by kernel_rfl) (by kernel_rfl) (by kernel_rfl) (fun _ _ _ h => h) (by kernel_rfl) ?_ (by assumption) ?_
        rotate_left
        · intro w hSw; (try dsimp only at hSw); go_simp
          all_goals first | with_reducible rfl | omega | (simp; omega)
        try simp only [Act.put, List.setIfInBounds_toArray, List.set_cons_zero, List.set_cons_succ]
        refine h_call 10 (by kernel_rfl) rfl (by kernel_rfl) (fun K hK => ?_)
        go_simp
        refine hK.out _ _ ?_ (fun hHeld => ?_)
        · (try dsimp only) <;> (trivial)
        clear hK K
        try simp only [Act.put, List.setIfInBounds_toArray, List.set_cons_zero, List.set_cons_succ]
        refine wpAnyH_done (by kernel_rfl) ?_ _
        have HB7 : Blk (w6.setCell ⟨w1.heap.size, 0, none⟩ (.slice A6 (N + 1) c6)) w1.heap.size 32 #[.slice A6 (N + 1) c6, .int .i64 nx] := by have := HB6.set_ 0 (.slice A6 (N + 1) c6); simpa using this
        have HZ7 := HZ6.far (p := ⟨w1.heap.size, 0, none⟩) (by simp; omega) (.slice A6 (N + 1) c6)
        have ho7 := hoi6.setBlk HB6 0 (.slice A6 (N + 1) c6)
        have hc7 : Cur (w6.setCell ⟨w1.heap.size, 0, none⟩ (.slice A6 (N + 1) c6)) g code := Cur.set (Cur.below' (hc5.alloc _) hb6 (by omega)) (by simp; omega) _
        have hg7 : w.grownBy (w6.setCell ⟨w1.heap.size, 0, none⟩ (.slice A6 (N + 1) c6)) (some g) := gr_set (gr_bel (gr_alloc (World.grownBy.trans hg13 hg5) _) hb6 (by omega)) (by simp; omega) _
        have hs7 : w1.heap.size < (w6.setCell ⟨w1.heap.size, 0, none⟩ (.slice A6 (N + 1) c6)).heap.size := by simp; omega
        generalize hv7 : w6.setCell ⟨w1.heap.size, 0, none⟩ (.slice A6 (N + 1) c6) = w7 at hHeld HB7 HZ7 ho7 hc7 hg7 hs7 ⊢
        clear hv7 hHeld HB6 HB5 HZ5 HZ6 ho5 ho6 hoi5 hoi6 hb6 hg6 hs5 hs6 q0 q1 q2 q3 r0 r1 r2 r3 hc5 hg5 HB HZ ho hc2 hg1 HB3 HZ3 ho3 p0 p1 p2 p3 hc3 hg3 hfr hg13
        obtain ⟨u0, u1, u2, u3⟩ := HB7.two
        obtain ⟨z0, z1, fz0, fz1⟩ := HZ7.two
        have HO := Lib.hid ho7; clear ho7 HZ7
        go_wp2
        refine bodyPost_ret (v := .agg #[.slice A6 (N + 1) c6, .int .i64 nx]) (by simp [results, Try.results51, go_sem, z0, z1]) rfl ⟨A6, c6, rs ++ [⟨y, kd, Ai, ci, fs⟩], nx, ⟨by have := HL6.out; omega, ⟨by omega, by omega⟩, fun r hr => (by rcases List.mem_append.1 hr with h | h; exact HSM.out r h; rw [List.mem_singleton] at h; rw [h]; exact ⟨hkd, hfl, HSS.out⟩)⟩, by rw [HL6.out]; exact hc6, by rw [HL6.out], ?_, (by repeat (first | with_reducible assumption | with_reducible refine Cur.set ?_ (by first | (simp; done) | (simp; omega) | omega) _ | with_reducible refine Cur.alloc ?_ _ | with_reducible refine Cur.drew ?_ | with_reducible refine Cur.below ?_ (by assumption))), (by repeat (first | with_reducible exact World.grownBy.refl _ _ | with_reducible assumption | with_reducible refine gr_alloc ?_ _ | with_reducible refine gr_drew ?_ | with_reducible refine gr_drewN ?_ _ | with_reducible refine gr_set ?_ (by first | (simp; done) | (simp; omega) | omega) _ | with_reducible refine World.grownBy.trans ?_ (by assumption) | with_reducible refine grown_below ?_ (by assumption)))⟩
        rw [HL6.out]
        exact (((HO.out.low (by first | (simp; done) | (simp; omega)) _).low (by first | (simp; done) | (simp; omega)) _).lower (by omega))
      · rw [if_pos (by kernel_rfl)]
        go_simp
        refine (l3Any_any g code _ hc3).mono ?_
        rintro e w5 ⟨kd, Ai, ci, fs, hkd, hfl, hss, rfl, ho5, hc5, hg5⟩
        have hs5 := hg5.size
        have HB5 := Blk.grown HB3 hg5 (by omega)
        have HZ5 := Blk.grown HZ3 hg5 (by omega)
        have hoi5 := OwnI.grownG ho3 hg5 (by omega)
        have hfr := fresh_row (r := ⟨y, kd, Ai, ci, fs⟩) ho3 ho5
        have hq5 : w1.heap.size < w5.heap.size := by omega
        obtain ⟨q0, q1, q2, q3⟩ := HB5.two
        have HSS := Lib.hid hss; clear hss
        try dsimp only
        refine hK.out _ _ ?_ (fun hHeld => ?_)
        · (try dsimp only) <;> (trivial)
        clear hK K
        try simp only [Act.put, List.setIfInBounds_toArray, List.set_cons_zero, List.set_cons_succ]
        refine h_take 6 (some 22) (?_) rfl rfl (by kernel_rfl) (by kernel_rfl) (by kernel_rfl) (fun _ _ _ h => h) (by kernel_rfl) ?_ (by assumption) ?_
        rotate_left
        · intro w hSw; (try dsimp only at hSw); go_simp
          all_goals first | with_reducible rfl | omega | (simp; omega)
        try simp only [Act.put, List.setIfInBounds_toArray, List.set_cons_zero, List.set_cons_succ]
        refine wpAnyH_ready (rs := [1, 7]) (by kernel_rfl) (by simp) ?_
        refine AllReadyH.cons rfl (fun K hK => ?_) (AllReadyH.cons rfl (fun K hK => ?_) AllReadyH.nil)
        · rw [if_pos (by kernel_rfl)]
          go_simp
          refine hK.out _ _ ?_ (fun hHeld => ?_)
          · (try dsimp only) <;> (trivial)
          clear hK K
          try simp only [Act.put, List.setIfInBounds_toArray, List.set_cons_zero, List.set_cons_succ]
          refine h_call 7 (by kernel_rfl) rfl (by kernel_rfl) (fun K hK => ?_)
          go_simp
          refine hK.out _ _ ?_ (fun hHeld => ?_)
          · (try dsimp only) <;> (trivial)
          clear hK K
          try simp only [Act.put, List.setIfInBounds_toArray, List.set_cons_zero, List.set_cons_succ]
          refine h_call 8 (by kernel_rfl) rfl (by kernel_rfl) (fun K hK => ?_)
          refine appG (.tmp 17) (.tmp 23) _ rfl irC_sz (w.heap.size + 1) 55 i0 Try.underlying30 HI.out hz0 hz1 hz2 rfl (by omega) _ rs rfl (hoi5.1.alloc _) _ 1 1 [⟨y, kd, Ai, ci, fs⟩] rfl (RdT.new1 irC_sz w5 55 ⟨y, kd, Ai, ci, fs⟩) (irC_one _) (by have := HL.out; omega) (by simp; omega) ?_ (by have := HL.out; omega)
          intro v' w6 ho6 hb6 hg6
          have hoi6 := OwnI.snoc (hoi5.alloc _) (OwnT.alloc (OwnT.lower ho5 (by omega)) _) hfr ho6 hg6
          have hl6 : (rs ++ [(⟨y, kd, Ai, ci, fs⟩ : IR)]).length = N + 1 := by rw [List.length_append, HL.out]; rfl
          obtain ⟨A6, c6, hv6, hc6⟩ := hoi6.form
          rw [hl6] at hv6 hc6
          subst hv6
          have HL6 := Lib.hid hl6; clear hl6
          have HB6 := Blk.grownR (HB5.alloc _) hg6 (own_blk_ne hoi5.1 HB5 (by decide))
          have HZ6 := Blk.bel (HZ5.alloc _) hb6 (by omega)
          have hs6 := hg6.size
          simp at hs6
          obtain ⟨r0, r1, r2, r3⟩ := HB6.two
          change K (Act.put _ (some 24) _) _
          refine hK.out _ _ ?_ (fun hHeld => ?_)
          · (try dsimp only) <;> (trivial)
          clear hK K
          try simp only [Act.put, List.setIfInBounds_toArray, List.set_cons_zero, List.set_cons_succ]
          refine h_take 9 (some 25) (?_) rfl rfl (by kernel_rfl) (by kernel_rfl) (by kernel_rfl) (fun _ _ _ h => h) (by kernel_rfl) ?_ (by assumption) ?_
          rotate_left
          · intro w hSw; (try dsimp only at hSw); go_simp
            all_goals first | with_reducible rfl | omega | (simp; omega)
          try simp only [Act.put, List.setIfInBounds_toArray, List.set_cons_zero, List.set_cons_succ]
          refine h_call 10 (by kernel_rfl) rfl (by kernel_rfl) (fun K hK => ?_)
          go_simp
          refine hK.out _ _ ?_ (fun hHeld => ?_)
          · (try dsimp only) <;> (trivial)
          clear hK K
          try simp only [Act.put, List.setIfInBounds_toArray, List.set_cons_zero, List.set_cons_succ]
          refine wpAnyH_done (by kernel_rfl) ?_ _
          have HB7 : Blk (w6.setCell ⟨w1.heap.size, 0, none⟩ (.slice A6 (N + 1) c6)) w1.heap.size 32 #[.slice A6 (N + 1) c6, .int .i64 nx] := by have := HB6.set_ 0 (.slice A6 (N + 1) c6); simpa using this
          have HZ7 := HZ6.far (p := ⟨w1.heap.size, 0, none⟩) (by simp; omega) (.slice A6 (N + 1) c6)
          have ho7 := hoi6.setBlk HB6 0 (.slice A6 (N + 1) c6)
          have hc7 : Cur (w6.setCell ⟨w1.heap.size, 0, none⟩ (.slice A6 (N + 1) c6)) g code := Cur.set (Cur.below' (hc5.alloc _) hb6 (by omega)) (by simp; omega) _
          have hg7 : w.grownBy (w6.setCell ⟨w1.heap.size, 0, none⟩ (.slice A6 (N + 1) c6)) (some g) := gr_set (gr_bel (gr_alloc (World.grownBy.trans hg13 hg5) _) hb6 (by omega)) (by simp; omega) _
          have hs7 : w1.heap.size < (w6.setCell ⟨w1.heap.size, 0, none⟩ (.slice A6 (N + 1) c6)).heap.size := by simp; omega
          generalize hv7 : w6.setCell ⟨w1.heap.size, 0, none⟩ (.slice A6 (N + 1) c6) = w7 at hHeld HB7 HZ7 ho7 hc7 hg7 hs7 ⊢
          clear hv7 hHeld HB6 HB5 HZ5 HZ6 ho5 ho6 hoi5 hoi6 hb6 hg6 hs5 hs6 q0 q1 q2 q3 r0 r1 r2 r3 hc5 hg5 HB HZ ho hc2 hg1 HB3 HZ3 ho3 p0 p1 p2 p3 hc3 hg3 hfr hg13
          obtain ⟨u0, u1, u2, u3⟩ := HB7.two
          obtain ⟨z0, z1, fz0, fz1⟩ := HZ7.two
          have HO := Lib.hid ho7; clear ho7 HZ7
          go_wp2
          refine bodyPost_ret (v := .agg #[.slice A6 (N + 1) c6, .int .i64 nx]) (by simp [results, Try.results51, go_sem, z0, z1]) rfl ⟨A6, c6, rs ++ [⟨y, kd, Ai, ci, fs⟩], nx, ⟨by have := HL6.out; omega, ⟨by omega, by omega⟩, fun r hr => (by rcases List.mem_append.1 hr with h | h; exact HSM.out r h; rw [List.mem_singleton] at h; rw [h]; exact ⟨hkd, hfl, HSS.out⟩)⟩, by rw [HL6.out]; exact hc6, by rw [HL6.out], ?_, (by repeat (first | with_reducible assumption | with_reducible refine Cur.set ?_ (by first | (simp; done) | (simp; omega) | omega) _ | with_reducible refine Cur.alloc ?_ _ | with_reducible refine Cur.drew ?_ | with_reducible refine Cur.below ?_ (by assumption))), (by repeat (first | with_reducible exact World.grownBy.refl _ _ | with_reducible assumption | with_reducible refine gr_alloc ?_ _ | with_reducible refine gr_drew ?_ | with_reducible refine gr_drewN ?_ _ | with_reducible refine gr_set ?_ (by first | (simp; done) | (simp; omega) | omega) _ | with_reducible refine World.grownBy.trans ?_ (by assumption) | with_reducible refine grown_below ?_ (by assumption)))⟩
          rw [HL6.out]
          exact (((HO.out.low (by first | (simp; done) | (simp; omega)) _).low (by first | (simp; done) | (simp; omega)) _).lower (by omega))
        · rw [if_pos (by kernel_rfl)]
          go_simp
          refine hK.out _ _ ?_ (fun hHeld => ?_)
          · (try dsimp only) <;> (trivial)
          clear hK K
          try simp only [Act.put, List.setIfInBounds_toArray, List.set_cons_zero, List.set_cons_succ]
          refine h_call 1 (by kernel_rfl) rfl (by kernel_rfl) (fun K hK => ?_)
          go_simp
          refine hK.out _ _ ?_ (fun hHeld => ?_)
          · (try dsimp only) <;> (trivial)
          clear hK K
          try simp only [Act.put, List.setIfInBounds_toArray, List.set_cons_zero, List.set_cons_succ]
          refine h_call 8 (by kernel_rfl) rfl (by kernel_rfl) (fun K hK => ?_)
          refine appG (.tmp 17) (.tmp 23) _ rfl irC_sz (w.heap.size + 1) 55 i0 Try.underlying30 HI.out hz0 hz1 hz2 rfl (by omega) _ rs rfl (hoi5.1.alloc _) _ 1 1 [⟨y, kd, Ai, ci, fs⟩] rfl (RdT.new1 irC_sz w5 55 ⟨y, kd, Ai, ci, fs⟩) (irC_one _) (by have := HL.out; omega) (by simp; omega) ?_ (by have := HL.out; omega)
          intro v' w6 ho6 hb6 hg6
          have hoi6 := OwnI.snoc (hoi5.alloc _) (OwnT.alloc (OwnT.lower ho5 (by omega)) _) hfr ho6 hg6
          have hl6 : (rs ++ [(⟨y, kd, Ai, ci, fs⟩ : IR)]).length = N + 1 := by rw [List.length_append, HL.out]; rfl
          obtain ⟨A6, c6, hv6, hc6⟩ := hoi6.form
          rw [hl6] at hv6 hc6
          subst hv6
          have HL6 := Lib.hid hl6; clear hl6
          have HB6 := Blk.grownR (HB5.alloc _) hg6 (own_blk_ne hoi5.1 HB5 (by decide))
          have HZ6 := Blk.bel (HZ5.alloc _) hb6 (by omega)
          have hs6 := hg6.size
          simp at hs6
          obtain ⟨r0, r1, r2, r3⟩ := HB6.two
          change K (Act.put _ (some 24) _) _
          refine hK.out _ _ ?_ (fun hHeld => ?_)
          · (try dsimp only) <;> (trivial)
          clear hK K
          try simp only [Act.put, List.setIfInBounds_toArray, List.set_cons_zero, List.set_cons_succ]
          refine h_take 9 (some 25) (?_) rfl rfl (by kernel_rfl) (by kernel_rfl) (by kernel_rfl) (fun _ _ _ h => h) (by kernel_rfl) ?_ (by assumption) ?_
          rotate_left
          · intro w hSw; (try dsimp only at hSw); go_simp
            all_goals first | with_reducible rfl | omega | (simp; omega)
          try simp only [Act.put, List.setIfInBounds_toArray, List.set_cons_zero, List.set_cons_succ]
          refine h_call 10 (by kernel_rfl) rfl (by kernel_rfl) (fun K hK => ?_)
          go_simp
          refine hK.out _ _ ?_ (fun hHeld => ?_)
          · (try dsimp only) <;> (trivial)
          clear hK K
          try simp only [Act.put, List.setIfInBounds_toArray, List.set_cons_zero, List.set_cons_succ]
          refine wpAnyH_done (by kernel_rfl) ?_ _
          have HB7 : Blk (w6.setCell ⟨w1.heap.size, 0, none⟩ (.slice A6 (N + 1) c6)) w1.heap.size 32 #[.slice A6 (N + 1) c6, .int .i64 nx] := by have := HB6.set_ 0 (.slice A6 (N + 1) c6); simpa using this
          have HZ7 := HZ6.far (p := ⟨w1.heap.size, 0, none⟩) (by simp; omega) (.slice A6 (N + 1) c6)
          have ho7 := hoi6.setBlk HB6 0 (.slice A6 (N + 1) c6)
          have hc7 : Cur (w6.setCell ⟨w1.heap.size, 0, none⟩ (.slice A6 (N + 1) c6)) g code := Cur.set (Cur.below' (hc5.alloc _) hb6 (by omega)) (by simp; omega) _
          have hg7 : w.grownBy (w6.setCell ⟨w1.heap.size, 0, none⟩ (.slice A6 (N + 1) c6)) (some g) := gr_set (gr_bel (gr_alloc (World.grownBy.trans hg13 hg5) _) hb6 (by omega)) (by simp; omega) _
          have hs7 : w1.heap.size < (w6.setCell ⟨w1.heap.size, 0, none⟩ (.slice A6 (N + 1) c6)).heap.size := by simp; omega
          generalize hv7 : w6.setCell ⟨w1.heap.size, 0, none⟩ (.slice A6 (N + 1) c6) = w7 at hHeld HB7 HZ7 ho7 hc7 hg7 hs7 ⊢
          clear hv7 hHeld HB6 HB5 HZ5 HZ6 ho5 ho6 hoi5 hoi6 hb6 hg6 hs5 hs6 q0 q1 q2 q3 r0 r1 r2 r3 hc5 hg5 HB HZ ho hc2 hg1 HB3 HZ3 ho3 p0 p1 p2 p3 hc3 hg3 hfr hg13
          obtain ⟨u0, u1, u2, u3⟩ := HB7.two
          obtain ⟨z0, z1, fz0, fz1⟩ := HZ7.two
          have HO := Lib.hid ho7; clear ho7 HZ7
          go_wp2
          refine bodyPost_ret (v := .agg #[.slice A6 (N + 1) c6, .int .i64 nx]) (by simp [results, Try.results51, go_sem, z0, z1]) rfl ⟨A6, c6, rs ++ [⟨y, kd, Ai, ci, fs⟩], nx, ⟨by have := HL6.out; omega, ⟨by omega, by omega⟩, fun r hr => (by rcases List.mem_append.1 hr with h | h; exact HSM.out r h; rw [List.mem_singleton] at h; rw [h]; exact ⟨hkd, hfl, HSS.out⟩)⟩, by rw [HL6.out]; exact hc6, by rw [HL6.out], ?_, (by repeat (first | with_reducible assumption | with_reducible refine Cur.set ?_ (by first | (simp; done) | (simp; omega) | omega) _ | with_reducible refine Cur.alloc ?_ _ | with_reducible refine Cur.drew ?_ | with_reducible refine Cur.below ?_ (by assumption))), (by repeat (first | with_reducible exact World.grownBy.refl _ _ | with_reducible assumption | with_reducible refine gr_alloc ?_ _ | with_reducible refine gr_drew ?_ | with_reducible refine gr_drewN ?_ _ | with_reducible refine gr_set ?_ (by first | (simp; done) | (simp; omega) | omega) _ | with_reducible refine World.grownBy.trans ?_ (by assumption) | with_reducible refine grown_below ?_ (by assumption)))⟩
          rw [HL6.out]
          exact (((HO.out.low (by first | (simp; done) | (simp; omega)) _).low (by first | (simp; done) | (simp; omega)) _).lower (by omega))
  have q1 : ((x : Int) == 1) = false := by simp; omega
  by_cases b2 : x = 2
  · subst b2
    clear q0 q1 b0 b1
    go_wp2
    go_loopw [] (fun wr => ∃ (N : Nat) (A : Option Addr) (c : Nat) (rs : List IR) (nx : Int), N ≤ 40 ∧ rs.length = N ∧ N ≤ c ∧ niceF (rs.map itOf) nx N ∧ Blk wr w1.heap.size 32 #[.slice A N c, .int .i64 nx] ∧ Blk wr w.heap.size 32 #[.slice none 0 0, .int .i64 0] ∧ OwnI wr (w.heap.size + 1) (.slice A N c) rs ∧ Cur wr g code ∧ w.grownBy wr (some g) ∧ w1.heap.size + 1 ≤ wr.heap.size) (fun wr => lenAt0 wr w1.heap.size)
    case atStart => exact ⟨N, A, c, rs, nx, by omega, HL.out, hNc, niceF_of (nice_of HNI.out), HB, HZ, ho, hc2, hg1, hs2⟩
    case round =>
      clear HB HZ ho hc2 hg1 HL HNI HSM hN8 hNc hnx1 hnx2
      obtain ⟨N, A, c, rs, nx, hN40, hN, hNc, hnf, HB, HZ, ho, hc2, hg1, hs2⟩ := hrel
      have HL := Lib.hid hN; have HNF := Lib.hid hnf; clear hN hnf
      obtain ⟨d0, d1, e0, e1⟩ := HB.two
      have HLA := Lib.hid (lenAt0_eq d0)
      have hnx1 := HNF.out.1
      have hnx2 := HNF.out.2.1
      by_cases hlt : N < 40
      · have hlt2 : (N : Int) < 40 := by omega
        obtain ⟨has, hnf2⟩ := niceF_step HNF.out (by rw [List.length_map]; exact HL.out) hlt
        have HAS := Lib.hid has; have HNF2 := Lib.hid hnf2; clear has hnf2
        have gv : Below wr.heap.size wr (wr.alloc (.cells #[.int .i64 1, .int .i64 (N : Int), .string ⟨#[]⟩] 90)) := bel_alloc (bel_refl wr) _
        have hrd : RdS vC 3 (wr.alloc (.cells #[.int .i64 1, .int .i64 (N : Int), .string ⟨#[]⟩] 90)) (wr.heap.size + 1) (some ⟨wr.heap.size, 0, none⟩) 1 [⟨1, (N : Int), ⟨#[]⟩⟩] := ⟨by simp, by have h := RdT.new1 vC_sz wr 90 ⟨1, (N : Int), ⟨#[]⟩⟩; simpa [vC] using h⟩
        go_wp2_with fail
        refine (l4Assert_any w1.heap.size A N c rs nx fullB (some ⟨wr.heap.size, 0, none⟩) 1 1 [⟨1, (N : Int), ⟨#[]⟩⟩] _ _ (w.heap.size + 1) (HB.kept gv) (ho.kept gv) HL.out (by omega) hrd (by omega) (by omega) (fun r h => by have := (small_of HNF.out r h).2.1; omega) ⟨hnx1, by omega⟩ (fun r h => (HNF.out.2.2 (itOf r) (List.mem_map_of_mem h)).1) _ _ _ HAS.out).mono ?_
        rintro e w4 ⟨A4, c4, rs4, rfl, hc4, hm4, HB4, ho4, hb4⟩
        have hs4 := hb4.size
        simp at hs4
        have HZ4 := blkB (HZ.kept gv) hb4 (by omega)
        have hcc4 := Cur.below' (hc2.alloc _) hb4 (by omega)
        have hg4 := gr_bel (gr_alloc hg1 _) hb4 (by omega)
        have hN4 : rs4.length = N + 1 := by
          have := congrArg List.length hm4
          rw [List.length_map, List.length_append, List.length_map, HL.out] at this
          exact this
        rw [hN4] at hc4 ho4 HB4
        have HL4 := Lib.hid hN4
        have HNF4 := Lib.hid (show niceF (rs4.map itOf) (nx + 1) (N + 1) by rw [hm4]; exact HNF2.out)
        have HLA4 := Lib.hid (lenAt0_eq HB4.two.1)
        clear hN4 hm4 hb4 HB HZ ho hc2 hg1 d0 d1 e0 e1 hrd gv
        go_wp2
        go_roundw
        case rel => exact ⟨N + 1, A4, c4, rs4, nx + 1, by omega, HL4.out, hc4, HNF4.out, HB4, HZ4, ho4, hcc4, hg4, by omega⟩
        case measure => rw [HLA4.out, HLA.out]; omega
      · have hlt2 : ¬ ((N : Int) < 40) := by omega
        obtain ⟨z0, z1, fz0, fz1⟩ := HZ.two
        have HO := Lib.hid ho; clear ho HZ
        go_wp2
        refine bodyPost_ret (v := .agg #[.slice A N c, .int .i64 nx]) (by simp [results, Try.results51, go_sem, z0, z1]) rfl ⟨A, c, rs, nx, ⟨by have := HL.out; omega, ⟨by omega, by omega⟩, small_of HNF.out⟩, by rw [HL.out]; exact hNc, by rw [HL.out], ?_, (by repeat (first | with_reducible assumption | with_reducible refine Cur.set ?_ (by first | (simp; done) | (simp; omega) | omega) _ | with_reducible refine Cur.alloc ?_ _ | with_reducible refine Cur.drew ?_ | with_reducible refine Cur.below ?_ (by assumption))), (by repeat (first | with_reducible exact World.grownBy.refl _ _ | with_reducible assumption | with_reducible refine gr_alloc ?_ _ | with_reducible refine gr_drew ?_ | with_reducible refine gr_drewN ?_ _ | with_reducible refine gr_set ?_ (by first | (simp; done) | (simp; omega) | omega) _ | with_reducible refine World.grownBy.trans ?_ (by assumption) | with_reducible refine grown_below ?_ (by assumption)))⟩
        rw [HL.out]
        exact (((HO.out.low (by first | (simp; done) | (simp; omega)) _).low (by first | (simp; done) | (simp; omega)) _).lower (by omega))
  have q2 : ((x : Int) == 2) = false := by simp; omega
  obtain ⟨z0, z1, fz0, fz1⟩ := HZ.two
  obtain ⟨d0, d1, e0, e1⟩ := HB.two
  have HO := Lib.hid ho; clear ho HZ
  go_wp2
  refine bodyPost_ret (v := .agg #[.slice A N c, .int .i64 nx]) (by simp [results, Try.results51, go_sem, z0, z1]) rfl ⟨A, c, rs, nx, ⟨by have := HL.out; omega, ⟨by omega, by omega⟩, HSM.out⟩, by rw [HL.out]; exact hNc, by rw [HL.out], ?_, (by repeat (first | with_reducible assumption | with_reducible refine Cur.set ?_ (by first | (simp; done) | (simp; omega) | omega) _ | with_reducible refine Cur.alloc ?_ _ | with_reducible refine Cur.drew ?_ | with_reducible refine Cur.below ?_ (by assumption))), (by repeat (first | with_reducible exact World.grownBy.refl _ _ | with_reducible assumption | with_reducible refine gr_alloc ?_ _ | with_reducible refine gr_drew ?_ | with_reducible refine gr_drewN ?_ _ | with_reducible refine gr_set ?_ (by first | (simp; done) | (simp; omega) | omega) _ | with_reducible refine World.grownBy.trans ?_ (by assumption) | with_reducible refine grown_below ?_ (by assumption)))⟩
  rw [HL.out]
  exact (((HO.out.low (by first | (simp; done) | (simp; omega)) _).low (by first | (simp; done) | (simp; omega)) _).lower (by omega))
end Go.Proofs.Ytndhjijcicebkaa
