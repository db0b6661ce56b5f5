/- What the drawing functions of stores answer. No condition but lengths. -/
import Derived.Test.YtndhjijcicebkaaRetract
import Derived.Test.YtndhjijcicebkaaDraw13
namespace Go.Proofs.Ytndhjijcicebkaa
open Go.RowKit
set_option maxRecDepth 100000
set_option maxHeartbeats 4000000
/-- what a drawn store is like: its numbers, and how great it is -/
def niceI (rs : List IR) (nx : Int) (m : Nat) : Prop := rs.length ≤ m ∧ 1 ≤ nx ∧ nx ≤ 1 + m ∧ ∀ r ∈ rs, 1 ≤ r.id ∧ r.kd.size ≤ 30 ∧ r.kd ≠ fullB ∧ r.fs.length ≤ 7 ∧ ∀ x ∈ r.fs, x.s.size ≤ 30
def niceL (l : List It) (nx : Int) (m : Nat) : Prop := l.length ≤ m ∧ 1 ≤ nx ∧ nx ≤ 1 + m ∧ ∀ r ∈ l, 1 ≤ r.id ∧ r.f.kd.size ≤ 30 ∧ r.f.kd ≠ fullB ∧ r.f.fs.length ≤ 7 ∧ ∀ x ∈ r.f.fs, x.s.size ≤ 30
theorem nice_of {rs : List IR} {nx : Int} {m : Nat} (h : niceI rs nx m) : niceL (rs.map itOf) nx m := ⟨by rw [List.length_map]; exact h.1, h.2.1, h.2.2.1, fun x hx => by
  obtain ⟨r, hr, rfl⟩ := List.mem_map.1 hx
  exact h.2.2.2 r hr⟩
theorem nice_to {rs : List IR} {nx : Int} {m : Nat} (h : niceL (rs.map itOf) nx m) : niceI rs nx m := ⟨by have := h.1; rwa [List.length_map] at this, h.2.1, h.2.2.1, fun r hr => h.2.2.2 _ (List.mem_map_of_mem hr)⟩
theorem nice_drop {l : List It} {nx id : Int} {m : Nat} (h : niceL l nx m) : niceL (dropI l id) nx (m + 1) := ⟨Nat.le_trans (List.length_filter_le _ _) (by have := h.1; omega), h.2.1, by have := h.2.2.1; omega, fun x hx => h.2.2.2 x (List.mem_filter.1 hx).1⟩
theorem nice_asrt {l l' : List It} {nx nx' id : Int} {f : Ft} {m : Nat} (h : niceL l nx m) (hf : f.kd.size ≤ 30 ∧ f.kd ≠ fullB ∧ f.fs.length ≤ 7 ∧ ∀ x ∈ f.fs, x.s.size ≤ 30) (ha : asrt l nx f = (l', nx', id)) : niceL l' nx' (m + 1) := by
  obtain ⟨h1, h2, h3, h4⟩ := h
  unfold asrt at ha
  split at ha
  · injection ha with e1 ha; injection ha with e2 _; subst e1 e2
    exact ⟨by omega, h2, by omega, h4⟩
  · split at ha
    · injection ha with e1 ha; injection ha with e2 _; subst e1 e2
      exact ⟨by omega, h2, by omega, h4⟩
    · injection ha with e1 ha; injection ha with e2 _; subst e1 e2
      refine ⟨by rw [List.length_append, List.length_singleton]; omega, by omega, by omega, fun x hx => ?_⟩
      rcases List.mem_append.1 hx with hx | hx
      · exact h4 x hx
      · rw [List.mem_singleton] at hx
        subst hx
        exact ⟨h2, hf⟩
theorem OwnI.grownG {w w' : World} {base g : Nat} {v : Value} {rs : List IR} (h : OwnI w base v rs) (hg : w.grownBy w' (some g)) (hb : g < base) : OwnI w' base v rs := ⟨OwnT.grownG h.1 hg hb, fun r hr => OwnT.grownG (h.2.1 r hr) hg hb, h.2.2⟩
def DrawnSt (g : Nat) (code : List UInt8) (w : World) (e : Ending) (w' : World) : Prop :=
  ∃ (A : Option Addr) (c : Nat) (rs : List IR) (nx : Int), niceI rs nx 8 ∧ rs.length ≤ c ∧ e = .returned (.agg #[.slice A rs.length c, .int .i64 nx]) ∧ OwnI w' w.heap.size (.slice A rs.length c) rs ∧ Cur w' g code ∧ w.grownBy w' (some g)
theorem l4Draw_any (g : Nat) (code : List UInt8) (w : World) (hc : Cur w g code) : Calls Try.prog 73 #[.pointer (some ⟨g, 0, none⟩)] w (DrawnSt g code w) := by
  have hg := hc.lt
  have HZ := Blk.new w 32 #[.slice none 0 0, .int .i64 0]
  have HB := Blk.new (w.alloc (.cells #[.slice none 0 0, .int .i64 0] 32)) 32 #[.slice none 0 0, .int .i64 1]
  have es1 : (w.alloc (.cells #[.slice none 0 0, .int .i64 0] 32)).heap.size = w.heap.size + 1 := by simp
  rw [es1] at HB
  replace HZ := HZ.alloc (.cells #[.slice none 0 0, .int .i64 1] 32)
  have hc0 := (hc.alloc (.cells #[.slice none 0 0, .int .i64 0] 32)).alloc (.cells #[.slice none 0 0, .int .i64 1] 32)
  have hg0 : w.grownBy ((w.alloc (.cells #[.slice none 0 0, .int .i64 0] 32)).alloc (.cells #[.slice none 0 0, .int .i64 1] 32)) (some g) := gr_alloc (gr_alloc (World.grownBy.refl _ _) _) _
  clear es1
  go_enter Try.func73, Try.ntmps73
  go_wp2_with fail
  refine (l1Below_any g code 9 _ hc0 (by omega)).mono ?_
  rintro e w1 ⟨x, hx, rfl, hc1, hg1⟩
  have hs1 := hg1.size
  simp at hs1
  replace HZ := HZ.grown hg1 (by omega)
  replace HB := HB.grown hg1 (by omega)
  replace hg0 := World.grownBy.trans hg0 hg1
  have hx8 : x ≤ 8 := by omega
  clear hg1 hc0 hc hx
  go_wp2
  go_loopw [4] (fun i wr => ∃ (k N : Nat) (A : Option Addr) (c : Nat) (rs : List IR) (nx : Int), k ≤ 8 ∧ i = .int .i64 k ∧ rs.length = N ∧ N ≤ c ∧ niceI rs nx (8 - k) ∧ Blk wr (w.heap.size + 1) 32 #[.slice A N c, .int .i64 nx] ∧ Blk wr w.heap.size 32 #[.slice none 0 0, .int .i64 0] ∧ OwnI wr (w.heap.size + 1) (.slice A N c) rs ∧ Cur wr g code ∧ w.grownBy wr (some g) ∧ w.heap.size + 2 ≤ wr.heap.size) (fun i _ => (intOf i).toNat)
  case atStart => exact ⟨x, 0, none, 0, [], 1, hx8, rfl, rfl, Nat.le_refl _, ⟨Nat.zero_le _, by omega, by omega, fun r h => by cases h⟩, HB, HZ, OwnI.nil_ _ _, hc1, hg0, by omega⟩
  case round =>
    clear HZ HB hc1 hg0 hs1
    obtain ⟨k, N, A, c, rs, nx, hk, rfl, hN, hNc, hni, HB, HZ, ho, hc1, hg0, hs1⟩ := hrel
    have HL := Lib.hid hN; have HNI := Lib.hid hni; clear hN
    have hN8 : N ≤ 8 - k := by rw [← HL.out]; exact hni.1
    have hnx1 := hni.2.1
    have hnx2 := hni.2.2.1
    clear hni
    have hgl : g < w.heap.size := hg
    by_cases hlt : 0 < k
    · have hk1 : (0 : Int) < (k : Int) := by omega
      go_wp2_with fail
      refine (l1Once_any g code _ _ hc1 (by omega)).mono ?_
      rintro e w2 ⟨b, rfl, hc2, hg2⟩
      have hs2 := hg2.size
      replace HZ := HZ.grown hg2 (by omega)
      replace HB := HB.grown hg2 (by omega)
      replace ho := OwnI.grownG ho hg2 (by omega)
      replace hg0 := World.grownBy.trans hg0 hg2
      clear hg2 hc1
      obtain ⟨y0, y1, fy0, fy1⟩ := HB.two
      obtain ⟨bb, hbb⟩ : ∃ bb : Bool, (b && decide (0 < N)) = bb := ⟨_, rfl⟩
      cases bb
      case true =>
        rw [Bool.and_eq_true, decide_eq_true_eq] at hbb
        obtain ⟨rfl, hN0⟩ := hbb
        have hN0i : (0 : Int) < (N : Int) := by omega
        go_upto_region 6 with fail
        have hform := World.ownsRow.form ho.1 (by rw [HL.out]; omega)
        obtain ⟨b0, cap, hv, hbb0, hbl0⟩ := hform
        injection hv with e1 e2 e3
        subst e1
        clear e2 e3
        have hids : ∀ k (hk : k < N), w2.cell? ⟨b0, k * 3, none⟩ = some (.int .i64 (rs[k]'(by rw [HL.out]; exact hk)).id) := by
          intro j hj
          obtain ⟨b', o', e, _, hcc⟩ := (ho.rdM HL.out).at_ (by omega)
          injection e with e
          injection e with e1 e2
          subst e1 e2
          obtain ⟨rid, kd, Ai, ci, fs, he, p0, _⟩ := hcc j hj
          rw [Nat.zero_add] at p0
          rw [he]
          exact p0
        refine wp_region_held_drew (S := (fun w' => True)) (by kernel_rfl) ?_ (fun hHeld => ?_)
        · (try dsimp only) <;> (trivial)
        refine h_take 0 (some 20) (?_) rfl rfl (by kernel_rfl) (by kernel_rfl) (by kernel_rfl) (fun _ _ _ h => h) (by kernel_rfl) ?_ (by assumption) ?_
        rotate_left
        · intro w hSw; (try dsimp only at hSw); go_simp
          all_goals first | with_reducible rfl | omega | (simp; omega)
        try simp only [Act.put, List.setIfInBounds_toArray, List.set_cons_zero, List.set_cons_succ]
        refine h_take 2 (some 22) (?_) rfl rfl (by kernel_rfl) (by kernel_rfl) (by kernel_rfl) (fun _ _ _ h => h) (by kernel_rfl) ?_ (by assumption) ?_
        rotate_left
        · intro w hSw; (try dsimp only at hSw); go_simp
          all_goals first | with_reducible rfl | omega | (simp; omega)
        try simp only [Act.put, List.setIfInBounds_toArray, List.set_cons_zero, List.set_cons_succ]
        refine h_take 3 (some 23) (?_) rfl rfl (by kernel_rfl) (by kernel_rfl) (by kernel_rfl) (fun _ _ _ h => h) (by kernel_rfl) ?_ (by assumption) ?_
        rotate_left
        · intro w hSw; (try dsimp only at hSw); go_simp
          all_goals first | with_reducible rfl | omega | (simp; omega)
        try simp only [Act.put, List.setIfInBounds_toArray, List.set_cons_zero, List.set_cons_succ]
        refine wpAnyH_ready (rs := [1, 4]) (by kernel_rfl) (by simp) ?_
        refine AllReadyH.cons rfl (fun K hK => ?_) (AllReadyH.cons rfl (fun K hK => ?_) AllReadyH.nil)
        · rw [if_pos (by kernel_rfl)]
          go_simp
          refine hK.out _ _ ?_ (fun hHeld => ?_)
          · (try dsimp only) <;> (trivial)
          clear hK K
          try simp only [Act.put, List.setIfInBounds_toArray, List.set_cons_zero, List.set_cons_succ]
          refine h_call 4 (by kernel_rfl) rfl (by kernel_rfl) (fun K hK => ?_)
          go_simp
          refine hK.out _ _ ?_ (fun hHeld => ?_)
          · (try dsimp only) <;> (trivial)
          clear hK K
          try simp only [Act.put, List.setIfInBounds_toArray, List.set_cons_zero, List.set_cons_succ]
          refine h_take 5 (some 25) (?_) rfl rfl (by kernel_rfl) (by kernel_rfl) (by kernel_rfl) (fun _ _ _ h => h) (by kernel_rfl) ?_ (by assumption) ?_
          rotate_left
          · intro w hSw; (try dsimp only at hSw); go_simp
            all_goals first | with_reducible rfl | omega | (simp; omega)
          try simp only [Act.put, List.setIfInBounds_toArray, List.set_cons_zero, List.set_cons_succ]
          refine h_call 6 (by kernel_rfl) rfl (by kernel_rfl) (fun K hK => ?_)
          go_simp
          refine (l1Below_any g code (N : Int) _ (show Cur w2.drew g code from hc2) (by omega)).mono ?_
          rintro e w3 ⟨y, hy, rfl, hc3, hg3⟩
          have hyN : y < N := by omega
          have y03 := gr_cell (w := w2.drew) hg3 y0 (by omega)
          have hid3 := gr_cell (w := w2.drew) hg3 (hids y hyN) (by omega)
          refine hK.out _ _ ?_ (fun hHeld => ?_)
          · (try dsimp only) <;> (trivial)
          clear hK K
          try simp only [Act.put, List.setIfInBounds_toArray, List.set_cons_zero, List.set_cons_succ]
          refine h_take 7 (some 27) (?_) rfl rfl (by kernel_rfl) (by kernel_rfl) (by kernel_rfl) (fun _ _ _ h => h) (by kernel_rfl) ?_ (by assumption) ?_
          rotate_left
          · intro w hSw; (try dsimp only at hSw); go_simp
            all_goals first | with_reducible rfl | omega | (simp; omega)
          try simp only [Act.put, List.setIfInBounds_toArray, List.set_cons_zero, List.set_cons_succ]
          refine h_take 8 (some 28) (?_) rfl rfl (by kernel_rfl) (by kernel_rfl) (by kernel_rfl) (fun _ _ _ h => h) (by kernel_rfl) ?_ (by assumption) ?_
          rotate_left
          · intro w hSw; (try dsimp only at hSw); go_simp
            all_goals first | with_reducible rfl | omega | (simp; omega)
          try simp only [Act.put, List.setIfInBounds_toArray, List.set_cons_zero, List.set_cons_succ]
          refine h_call 9 (by kernel_rfl) rfl (by kernel_rfl) (fun K hK => ?_)
          go_simp
          refine hK.out _ _ ?_ (fun hHeld => ?_)
          · (try dsimp only) <;> (trivial)
          clear hK K
          try simp only [Act.put, List.setIfInBounds_toArray, List.set_cons_zero, List.set_cons_succ]
          refine h_call 10 (by kernel_rfl) rfl (by kernel_rfl) (fun K hK => ?_)
          go_simp
          have HB3 := Blk.grown (w := w2.drew) HB hg3 (by omega)
          have HZ3 := Blk.grown (w := w2.drew) HZ hg3 (by omega)
          have ho3 := OwnI.grownG (w := w2.drew) ho hg3 (by omega)
          have hs3 := hg3.size
          simp only [drew_size'] at hs3
          refine (l4Drop_any (w.heap.size + 1) (some ⟨b0, 0, none⟩) N c rs nx _ _ (w.heap.size + 1) HB3 ho3 HL.out (Nat.le_refl _) (by omega)).mono ?_
          rintro e w4 ⟨A4, c4, rs4, rfl, hc4, hm4, HB4, ho4, hb4⟩
          refine hK.out _ _ ?_ (fun hHeld => ?_)
          · (try dsimp only) <;> (trivial)
          clear hK K
          try simp only [Act.put, List.setIfInBounds_toArray, List.set_cons_zero, List.set_cons_succ]
          refine wpAnyH_done (by kernel_rfl) ?_ _
          have hs4 := hb4.size
          have HZ4 := blkB HZ3 hb4 (by omega)
          have hcc4 := Cur.below' hc3 hb4 (by omega)
          have hg4 := gr_bel (World.grownBy.trans (gr_drew hg0) hg3) hb4 (by omega)
          obtain ⟨N4, hN4⟩ : ∃ N4, rs4.length = N4 := ⟨_, rfl⟩
          rw [hN4] at hc4 ho4 HB4
          have hnn := nice_drop (id := (rs[y]'(by rw [HL.out]; exact hyN)).id) (nice_of HNI.out)
          rw [← hm4] at hnn
          have HNN := Lib.hid (nice_to hnn)
          have HL4 := Lib.hid hN4
          clear hN4 hm4 hb4 hnn HB HZ ho hc3 hg0 HB3 HZ3 ho3 hHeld hg3
          go_wp2
          go_roundw
          case rel => exact ⟨k - 1, N4, A4, c4, rs4, nx, by omega, (by first | go_num | (rw [show ((k - 1 : Nat) : Int) = (k : Int) - 1 by omega])), HL4.out, hc4, by rw [show 8 - (k - 1) = 8 - k + 1 by omega]; exact HNN.out, HB4, HZ4, ho4, hcc4, hg4, by omega⟩
          case measure => simp [intOf]; omega
        · rw [if_pos (by kernel_rfl)]
          go_simp
          refine hK.out _ _ ?_ (fun hHeld => ?_)
          · (try dsimp only) <;> (trivial)
          clear hK K
          try simp only [Act.put, List.setIfInBounds_toArray, List.set_cons_zero, List.set_cons_succ]
          refine h_take 5 (some 25) (?_) rfl rfl (by kernel_rfl) (by kernel_rfl) (by kernel_rfl) (fun _ _ _ h => h) (by kernel_rfl) ?_ (by assumption) ?_
          rotate_left
          · intro w hSw; (try dsimp only at hSw); go_simp
            all_goals first | with_reducible rfl | omega | (simp; omega)
          try simp only [Act.put, List.setIfInBounds_toArray, List.set_cons_zero, List.set_cons_succ]
          refine wpAnyH_ready (rs := [1, 6]) (by kernel_rfl) (by simp) ?_
          refine AllReadyH.cons rfl (fun K hK => ?_) (AllReadyH.cons rfl (fun K hK => ?_) AllReadyH.nil)
          · rw [if_pos (by kernel_rfl)]
            go_simp
            refine hK.out _ _ ?_ (fun hHeld => ?_)
            · (try dsimp only) <;> (trivial)
            clear hK K
            try simp only [Act.put, List.setIfInBounds_toArray, List.set_cons_zero, List.set_cons_succ]
            refine h_call 6 (by kernel_rfl) rfl (by kernel_rfl) (fun K hK => ?_)
            go_simp
            refine (l1Below_any g code (N : Int) _ (show Cur w2.drew g code from hc2) (by omega)).mono ?_
            rintro e w3 ⟨y, hy, rfl, hc3, hg3⟩
            have hyN : y < N := by omega
            have y03 := gr_cell (w := w2.drew) hg3 y0 (by omega)
            have hid3 := gr_cell (w := w2.drew) hg3 (hids y hyN) (by omega)
            refine hK.out _ _ ?_ (fun hHeld => ?_)
            · (try dsimp only) <;> (trivial)
            clear hK K
            try simp only [Act.put, List.setIfInBounds_toArray, List.set_cons_zero, List.set_cons_succ]
            refine h_take 7 (some 27) (?_) rfl rfl (by kernel_rfl) (by kernel_rfl) (by kernel_rfl) (fun _ _ _ h => h) (by kernel_rfl) ?_ (by assumption) ?_
            rotate_left
            · intro w hSw; (try dsimp only at hSw); go_simp
              all_goals first | with_reducible rfl | omega | (simp; omega)
            try simp only [Act.put, List.setIfInBounds_toArray, List.set_cons_zero, List.set_cons_succ]
            refine h_take 8 (some 28) (?_) rfl rfl (by kernel_rfl) (by kernel_rfl) (by kernel_rfl) (fun _ _ _ h => h) (by kernel_rfl) ?_ (by assumption) ?_
            rotate_left
            · intro w hSw; (try dsimp only at hSw); go_simp
              all_goals first | with_reducible rfl | omega | (simp; omega)
            try simp only [Act.put, List.setIfInBounds_toArray, List.set_cons_zero, List.set_cons_succ]
            refine h_call 9 (by kernel_rfl) rfl (by kernel_rfl) (fun K hK => ?_)
            go_simp
            refine hK.out _ _ ?_ (fun hHeld => ?_)
            · (try dsimp only) <;> (trivial)
            clear hK K
            try simp only [Act.put, List.setIfInBounds_toArray, List.set_cons_zero, List.set_cons_succ]
            refine h_call 10 (by kernel_rfl) rfl (by kernel_rfl) (fun K hK => ?_)
            go_simp
            have HB3 := Blk.grown (w := w2.drew) HB hg3 (by omega)
            have HZ3 := Blk.grown (w := w2.drew) HZ hg3 (by omega)
            have ho3 := OwnI.grownG (w := w2.drew) ho hg3 (by omega)
            have hs3 := hg3.size
            simp only [drew_size'] at hs3
            refine (l4Drop_any (w.heap.size + 1) (some ⟨b0, 0, none⟩) N c rs nx _ _ (w.heap.size + 1) HB3 ho3 HL.out (Nat.le_refl _) (by omega)).mono ?_
            rintro e w4 ⟨A4, c4, rs4, rfl, hc4, hm4, HB4, ho4, hb4⟩
            refine hK.out _ _ ?_ (fun hHeld => ?_)
            · (try dsimp only) <;> (trivial)
            clear hK K
            try simp only [Act.put, List.setIfInBounds_toArray, List.set_cons_zero, List.set_cons_succ]
            refine wpAnyH_done (by kernel_rfl) ?_ _
            have hs4 := hb4.size
            have HZ4 := blkB HZ3 hb4 (by omega)
            have hcc4 := Cur.below' hc3 hb4 (by omega)
            have hg4 := gr_bel (World.grownBy.trans (gr_drew hg0) hg3) hb4 (by omega)
            obtain ⟨N4, hN4⟩ : ∃ N4, rs4.length = N4 := ⟨_, rfl⟩
            rw [hN4] at hc4 ho4 HB4
            have hnn := nice_drop (id := (rs[y]'(by rw [HL.out]; exact hyN)).id) (nice_of HNI.out)
            rw [← hm4] at hnn
            have HNN := Lib.hid (nice_to hnn)
            have HL4 := Lib.hid hN4
            clear hN4 hm4 hb4 hnn HB HZ ho hc3 hg0 HB3 HZ3 ho3 hHeld hg3
            go_wp2
            go_roundw
            case rel => exact ⟨k - 1, N4, A4, c4, rs4, nx, by omega, (by first | go_num | (rw [show ((k - 1 : Nat) : Int) = (k : Int) - 1 by omega])), HL4.out, hc4, by rw [show 8 - (k - 1) = 8 - k + 1 by omega]; exact HNN.out, HB4, HZ4, ho4, hcc4, hg4, by omega⟩
            case measure => simp [intOf]; omega
          · rw [if_pos (by kernel_rfl)]
            go_simp
            refine (l1Below_any g code (N : Int) _ (show Cur w2.drew g code from hc2) (by omega)).mono ?_
            rintro e w3 ⟨y, hy, rfl, hc3, hg3⟩
            have hyN : y < N := by omega
            have y03 := gr_cell (w := w2.drew) hg3 y0 (by omega)
            have hid3 := gr_cell (w := w2.drew) hg3 (hids y hyN) (by omega)
            refine hK.out _ _ ?_ (fun hHeld => ?_)
            · (try dsimp only) <;> (trivial)
            clear hK K
            try simp only [Act.put, List.setIfInBounds_toArray, List.set_cons_zero, List.set_cons_succ]
            refine h_call 1 (by kernel_rfl) rfl (by kernel_rfl) (fun K hK => ?_)
            go_simp
            refine hK.out _ _ ?_ (fun hHeld => ?_)
            · (try dsimp only) <;> (trivial)
            clear hK K
            try simp only [Act.put, List.setIfInBounds_toArray, List.set_cons_zero, List.set_cons_succ]
            refine h_take 7 (some 27) (?_) rfl rfl (by kernel_rfl) (by kernel_rfl) (by kernel_rfl) (fun _ _ _ h => h) (by kernel_rfl) ?_ (by assumption) ?_
            rotate_left
            · intro w hSw; (try dsimp only at hSw); go_simp
              all_goals first | with_reducible rfl | omega | (simp; omega)
            try simp only [Act.put, List.setIfInBounds_toArray, List.set_cons_zero, List.set_cons_succ]
            refine h_take 8 (some 28) (?_) rfl rfl (by kernel_rfl) (by kernel_rfl) (by kernel_rfl) (fun _ _ _ h => h) (by kernel_rfl) ?_ (by assumption) ?_
            rotate_left
            · intro w hSw; (try dsimp only at hSw); go_simp
              all_goals first | with_reducible rfl | omega | (simp; omega)
            try simp only [Act.put, List.setIfInBounds_toArray, List.set_cons_zero, List.set_cons_succ]
            refine h_call 9 (by kernel_rfl) rfl (by kernel_rfl) (fun K hK => ?_)
            go_simp
            refine hK.out _ _ ?_ (fun hHeld => ?_)
            · (try dsimp only) <;> (trivial)
            clear hK K
            try simp only [Act.put, List.setIfInBounds_toArray, List.set_cons_zero, List.set_cons_succ]
            refine h_call 10 (by kernel_rfl) rfl (by kernel_rfl) (fun K hK => ?_)
            go_simp
            have HB3 := Blk.grown (w := w2.drew) HB hg3 (by omega)
            have HZ3 := Blk.grown (w := w2.drew) HZ hg3 (by omega)
            have ho3 := OwnI.grownG (w := w2.drew) ho hg3 (by omega)
            have hs3 := hg3.size
            simp only [drew_size'] at hs3
            refine (l4Drop_any (w.heap.size + 1) (some ⟨b0, 0, none⟩) N c rs nx _ _ (w.heap.size + 1) HB3 ho3 HL.out (Nat.le_refl _) (by omega)).mono ?_
            rintro e w4 ⟨A4, c4, rs4, rfl, hc4, hm4, HB4, ho4, hb4⟩
            refine hK.out _ _ ?_ (fun hHeld => ?_)
            · (try dsimp only) <;> (trivial)
            clear hK K
            try simp only [Act.put, List.setIfInBounds_toArray, List.set_cons_zero, List.set_cons_succ]
            refine wpAnyH_done (by kernel_rfl) ?_ _
            have hs4 := hb4.size
            have HZ4 := blkB HZ3 hb4 (by omega)
            have hcc4 := Cur.below' hc3 hb4 (by omega)
            have hg4 := gr_bel (World.grownBy.trans (gr_drew hg0) hg3) hb4 (by omega)
            obtain ⟨N4, hN4⟩ : ∃ N4, rs4.length = N4 := ⟨_, rfl⟩
            rw [hN4] at hc4 ho4 HB4
            have hnn := nice_drop (id := (rs[y]'(by rw [HL.out]; exact hyN)).id) (nice_of HNI.out)
            rw [← hm4] at hnn
            have HNN := Lib.hid (nice_to hnn)
            have HL4 := Lib.hid hN4
            clear hN4 hm4 hb4 hnn HB HZ ho hc3 hg0 HB3 HZ3 ho3 hHeld hg3
            go_wp2
            go_roundw
            case rel => exact ⟨k - 1, N4, A4, c4, rs4, nx, by omega, (by first | go_num | (rw [show ((k - 1 : Nat) : Int) = (k : Int) - 1 by omega])), HL4.out, hc4, by rw [show 8 - (k - 1) = 8 - k + 1 by omega]; exact HNN.out, HB4, HZ4, ho4, hcc4, hg4, by omega⟩
            case measure => simp [intOf]; omega
      all_goals
        have hcase : b = false ∨ (b = true ∧ N = 0) := by
          cases b
          · exact Or.inl rfl
          · right
            refine ⟨rfl, ?_⟩
            simp at hbb
            exact hbb
        clear hbb
        rcases hcase with rfl | ⟨rfl, rfl⟩
        all_goals
          go_wp2_with fail
          refine (l3DrawK_any g code _ hc2).mono ?_
          rintro e w3 ⟨kd, A3, c3, fs, hkd, hfl, hss, rfl, ho3, hc3, hg3⟩
          have HSS := Lib.hid hss; clear hss
          have hs3 := hg3.size
          replace HZ := HZ.grown hg3 (by omega)
          replace HB := HB.grown hg3 (by omega)
          replace ho := OwnI.grownG ho hg3 (by omega)
          replace hg0 := World.grownBy.trans hg0 hg3
          clear hg3 hc2 y0 y1 fy0 fy1
          obtain ⟨l', nx', id, has⟩ : ∃ l' nx' id, asrt (rs.map itOf) nx ⟨kd, fs⟩ = (l', nx', id) := ⟨_, _, _, rfl⟩
          have hnl := nice_asrt (nice_of HNI.out) ⟨hkd.1, hkd.2, (by show fs.length ≤ 7; omega), HSS.out⟩ has
          have HAS := Lib.hid has; have HNL := Lib.hid hnl
          clear has hnl
          go_wp2_with fail
          refine (l4Assert_any (w.heap.size + 1) A _ c rs nx kd A3 _ c3 fs _ _ (w.heap.size + 1) HB ho HL.out (Nat.le_refl _) ho3.rdO (by omega) (by omega) (fun r h => by have := (HNI.out.2.2.2 r h).2.2.2.1; omega) ⟨hnx1, by omega⟩ (fun r h => (HNI.out.2.2.2 r h).1) l' nx' id HAS.out).mono ?_
          rintro e w4 ⟨A4, c4, rs4, rfl, hc4, hm4, HB4, ho4, hb4⟩
          have hs4 := hb4.size
          have HZ4 := blkB HZ hb4 (by omega)
          have hcc4 := Cur.below' hc3 hb4 (by omega)
          have hg4 := gr_bel hg0 hb4 (by omega)
          obtain ⟨N4, hN4⟩ : ∃ N4, rs4.length = N4 := ⟨_, rfl⟩
          rw [hN4] at hc4 ho4 HB4
          have hnn := HNL.out
          rw [← hm4] at hnn
          have HNN := Lib.hid (nice_to hnn)
          have HL4 := Lib.hid hN4
          clear hN4 hm4 hb4 hnn HB HZ ho hc3 hg0 ho3
          go_wp2
          go_roundw
          case rel => exact ⟨k - 1, N4, A4, c4, rs4, nx', by omega, (by first | go_num | (rw [show ((k - 1 : Nat) : Int) = (k : Int) - 1 by omega])), HL4.out, hc4, by rw [show 8 - (k - 1) = 8 - k + 1 by omega]; exact HNN.out, HB4, HZ4, ho4, hcc4, hg4, by omega⟩
          case measure => simp [intOf]; omega
    · obtain ⟨z0, z1, fz0, fz1⟩ := HZ.two
      obtain ⟨y0, y1, fy0, fy1⟩ := HB.two
      have hk0 : ¬ ((0 : Int) < (k : Int)) := by omega
      obtain rfl : k = 0 := by omega
      have HO := Lib.hid ho; clear ho HZ HB
      go_wp2
      refine bodyPost_ret (v := .agg #[.slice A N c, .int .i64 nx]) (by simp [results, Try.results73, go_sem, z0, z1]) rfl ⟨A, c, rs, nx, HNI.out, by rw [HL.out]; exact hNc, by rw [HL.out], ?_, (by repeat (first | with_reducible assumption | with_reducible refine Cur.set ?_ (by first | (simp; done) | (simp; omega) | omega) _ | with_reducible refine Cur.alloc ?_ _ | with_reducible refine Cur.drew ?_ | with_reducible refine Cur.below ?_ (by assumption))), (by repeat (first | with_reducible exact World.grownBy.refl _ _ | with_reducible assumption | with_reducible refine gr_alloc ?_ _ | with_reducible refine gr_drew ?_ | with_reducible refine gr_drewN ?_ _ | with_reducible refine gr_set ?_ (by first | (simp; done) | (simp; omega) | omega) _ | with_reducible refine World.grownBy.trans ?_ (by assumption) | with_reducible refine grown_below ?_ (by assumption)))⟩
      rw [HL.out]
      exact ((HO.out.low (by first | (simp; done) | (simp; omega)) _).low (by first | (simp; done) | (simp; omega)) _).lower (by omega)
end Go.Proofs.Ytndhjijcicebkaa
