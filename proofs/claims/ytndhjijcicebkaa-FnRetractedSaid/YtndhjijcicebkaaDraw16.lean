/- Drawn stores, with a kind, a fact, a number. No condition but lengths. -/
import Derived.Test.YtndhjijcicebkaaDraw15
namespace Go.Proofs.Ytndhjijcicebkaa
open Go.RowKit
set_option maxRecDepth 100000
set_option maxHeartbeats 4000000
theorem World.alloc_size6 (w : World) (o : Obj) : (w.alloc o).heap.size = w.heap.size + 1 := by simp
theorem DrawStoreOk_any (A : Option Addr) (n c : Nat) (code : List UInt8) (w : World) (B : Nat) (hr : RdB w B A n code) (hB : B ≤ w.heap.size) (hn : n ≤ 70368744177664) :
    Calls Try.prog 24 #[.slice A n c] w fun e w' => ∃ (A2 : Option Addr) (c2 : Nat) (rs : List IR) (nx : Int), (rs.length ≤ 41 ∧ (0 ≤ nx ∧ nx ≤ 1000001) ∧ (∀ r ∈ rs, smallR r) ∧ rs.length ≤ c2) ∧ e = .returned (.agg #[.slice A2 rs.length c2, .int .i64 nx]) ∧ RdI w' w'.heap.size A2 rs.length rs ∧ Below w.heap.size w w' := by
  have HZ0 := Blk.new w 32 #[.slice none 0 0, .int .i64 0]
  have hr3 : RdY (w.alloc (.cells #[.slice none 0 0, .int .i64 0] 32)) B A n code := (RdY.alloc ⟨hB, hr⟩ _)
  have g0 : Below w.heap.size w (w.alloc (.cells #[.slice none 0 0, .int .i64 0] 32)) := (bel_alloc (bel_refl w) _)
  go_enter Try.func24, Try.ntmps24
  go_wp2_with fail
  refine (l1New_any A n c code _ B hr3.b hr3.le hn).mono ?_
  rintro e w1 ⟨rfl, hc1, hb1⟩
  replace HZ0 := HZ0.kept hb1
  simp only [World.alloc_size6] at hc1
  have hl1 := hc1.lt
  have g1 : Below w.heap.size w w1 := bel_trans g0 hb1
  clear hb1 g0 hr3
  go_wp2_with fail
  refine (l4Any_any (w.heap.size + 1) code _ hc1).mono ?_
  rintro e w2 ⟨A2, c2, rs, nx, ⟨hl, hnx, hsm⟩, hcc, rfl, ho2, hc2, hg2⟩
  replace HZ0 := HZ0.grown hg2 (by omega)
  have hs2 := hg2.size
  replace g1 := g1.trans (below_grown' hg2 (by omega) (by omega))
  obtain ⟨N, hN⟩ : ∃ N, rs.length = N := ⟨_, rfl⟩
  rw [hN] at ho2 hcc hl ⊢
  have HL := Lib.hid hN; have HSM := Lib.hid hsm; clear hN hsm
  clear hg2 hc1
  obtain ⟨z0, z1, y0, y1⟩ := HZ0.two
  have hzl := HZ0.lt
  go_wp2
  refine bodyPost_ret (v := .agg #[.slice A2 N c2, .int .i64 nx]) (by simp [results, Try.results24, go_sem, z0, z1]) rfl ⟨A2, c2, rs, nx, ⟨by rw [HL.out]; exact hl, hnx, HSM.out, by rw [HL.out]; exact hcc⟩, by rw [HL.out], ?_, (bel_set (bel_set g1 (by first | (simp; done) | (simp; omega) | omega) _) (by first | (simp; done) | (simp; omega) | omega) _)⟩
  rw [HL.out]
  exact OwnI.rdM (OwnI.low (OwnI.low ho2 (by first | (simp; done) | (simp; omega) | omega) _) (by first | (simp; done) | (simp; omega) | omega) _) HL.out
theorem DrawOfKind_any (A : Option Addr) (n c : Nat) (code : List UInt8) (w : World) (B : Nat) (hr : RdB w B A n code) (hB : B ≤ w.heap.size) (hn : n ≤ 70368744177664) :
    Calls Try.prog 22 #[.slice A n c] w fun e w' => ∃ (A2 : Option Addr) (c2 : Nat) (rs : List IR) (nx : Int) (kd : ByteArray), (rs.length ≤ 41 ∧ (0 ≤ nx ∧ nx ≤ 1000001) ∧ (∀ r ∈ rs, smallR r) ∧ rs.length ≤ c2) ∧ e = .returned (.tuple #[.agg #[.slice A2 rs.length c2, .int .i64 nx], .string kd]) ∧ RdI w' w'.heap.size A2 rs.length rs ∧ Below w.heap.size w w' := by
  have HZ0 := Blk.new w 32 #[.slice none 0 0, .int .i64 0]
  have hr3 : RdY (w.alloc (.cells #[.slice none 0 0, .int .i64 0] 32)) B A n code := (RdY.alloc ⟨hB, hr⟩ _)
  have g0 : Below w.heap.size w (w.alloc (.cells #[.slice none 0 0, .int .i64 0] 32)) := (bel_alloc (bel_refl w) _)
  go_enter Try.func22, Try.ntmps22
  go_wp2_with fail
  refine (l1New_any A n c code _ B hr3.b hr3.le hn).mono ?_
  rintro e w1 ⟨rfl, hc1, hb1⟩
  replace HZ0 := HZ0.kept hb1
  simp only [World.alloc_size6] at hc1
  have hl1 := hc1.lt
  have g1 : Below w.heap.size w w1 := bel_trans g0 hb1
  clear hb1 g0 hr3
  go_wp2_with fail
  refine (l4Any_any (w.heap.size + 1) code _ hc1).mono ?_
  rintro e w2 ⟨A2, c2, rs, nx, ⟨hl, hnx, hsm⟩, hcc, rfl, ho2, hc2, hg2⟩
  replace HZ0 := HZ0.grown hg2 (by omega)
  have hs2 := hg2.size
  replace g1 := g1.trans (below_grown' hg2 (by omega) (by omega))
  obtain ⟨N, hN⟩ : ∃ N, rs.length = N := ⟨_, rfl⟩
  rw [hN] at ho2 hcc hl ⊢
  have HL := Lib.hid hN; have HSM := Lib.hid hsm; clear hN hsm
  clear hg2 hc1
  have hl2 := hc2.lt
  go_wp2_with fail
  refine (l1Str_any (w.heap.size + 1) code _ 4 4 [⟨#[111, 114, 100, 101, 114]⟩, ⟨#[112, 97, 105, 100]⟩, ⟨#[105, 116, 101, 109]⟩, ⟨#[110, 111, 110, 101]⟩] _ _ (hc2.alloc _) (Rd.lit w2 9 _ 4 rfl) (by omega) (by omega) (ne_lit hl2)).mono ?_
  rintro e w3 ⟨kd, hs, rfl, hc3, hg3⟩
  clear hs
  replace hg3 := (World.grownBy_alloc w2 (.cells (([⟨#[111, 114, 100, 101, 114]⟩, ⟨#[112, 97, 105, 100]⟩, ⟨#[105, 116, 101, 109]⟩, ⟨#[110, 111, 110, 101]⟩] : List ByteArray).map Value.string).toArray 9) (some (w.heap.size + 1))).trans hg3
  have hs3 := hg3.size
  replace HZ0 := HZ0.grown hg3 (by omega)
  replace ho2 := OwnI.grownG ho2 hg3 (by omega)
  replace g1 := g1.trans (below_grown' hg3 (by omega) (by omega))
  clear hg3 hc2
  obtain ⟨z0, z1, y0, y1⟩ := HZ0.two
  have hzl := HZ0.lt
  go_wp2
  refine bodyPost_ret (v := .tuple #[.agg #[.slice A2 N c2, .int .i64 nx], .string kd]) (by simp [results, Try.results22, go_sem, z0, z1]) rfl ⟨A2, c2, rs, nx, kd, ⟨by rw [HL.out]; exact hl, hnx, HSM.out, by rw [HL.out]; exact hcc⟩, by rw [HL.out], ?_, (bel_set (bel_set g1 (by first | (simp; done) | (simp; omega) | omega) _) (by first | (simp; done) | (simp; omega) | omega) _)⟩
  rw [HL.out]
  exact OwnI.rdM (OwnI.low (OwnI.low ho2 (by first | (simp; done) | (simp; omega) | omega) _) (by first | (simp; done) | (simp; omega) | omega) _) HL.out
theorem DrawAssert_any (A : Option Addr) (n c : Nat) (code : List UInt8) (w : World) (B : Nat) (hr : RdB w B A n code) (hB : B ≤ w.heap.size) (hn : n ≤ 70368744177664) :
    Calls Try.prog 27 #[.slice A n c] w fun e w' => ∃ (A2 : Option Addr) (c2 : Nat) (rs : List IR) (nx : Int) (kd : ByteArray) (A3 : Option Addr) (c3 : Nat) (fs : List Vl), (rs.length ≤ 41 ∧ (0 ≤ nx ∧ nx ≤ 1000001) ∧ (∀ r ∈ rs, smallR r) ∧ rs.length ≤ c2) ∧ (kd.size ≤ 30 ∧ fs.length ≤ 7 ∧ ∀ x ∈ fs, x.s.size ≤ 30) ∧ e = .returned (.tuple #[.agg #[.slice A2 rs.length c2, .int .i64 nx], .agg #[.string kd, .slice A3 fs.length c3]]) ∧ RdI w' w'.heap.size A2 rs.length rs ∧ RdS vC 3 w' w'.heap.size A3 fs.length fs ∧ Below w.heap.size w w' := by
  have HZ0 := Blk.new w 32 #[.slice none 0 0, .int .i64 0]
  have HZ1 := Blk.new (w.alloc (.cells #[.slice none 0 0, .int .i64 0] 32)) 38 #[.string ⟨#[]⟩, .slice none 0 0]
  replace HZ0 := HZ0.alloc (.cells #[.string ⟨#[]⟩, .slice none 0 0] 38)
  have hr3 : RdY ((w.alloc (.cells #[.slice none 0 0, .int .i64 0] 32)).alloc (.cells #[.string ⟨#[]⟩, .slice none 0 0] 38)) B A n code := (RdY.alloc (RdY.alloc ⟨hB, hr⟩ _) _)
  have g0 : Below w.heap.size w ((w.alloc (.cells #[.slice none 0 0, .int .i64 0] 32)).alloc (.cells #[.string ⟨#[]⟩, .slice none 0 0] 38)) := (bel_alloc (bel_alloc (bel_refl w) _) _)
  simp only [World.alloc_size6] at HZ1
  go_enter Try.func27, Try.ntmps27
  go_wp2_with fail
  refine (l1New_any A n c code _ B hr3.b hr3.le hn).mono ?_
  rintro e w1 ⟨rfl, hc1, hb1⟩
  replace HZ0 := HZ0.kept hb1
  replace HZ1 := HZ1.kept hb1
  simp only [World.alloc_size6] at hc1
  have hl1 := hc1.lt
  have g1 : Below w.heap.size w w1 := bel_trans g0 hb1
  clear hb1 g0 hr3
  go_wp2_with fail
  refine (l4Any_any (w.heap.size + 1 + 1) code _ hc1).mono ?_
  rintro e w2 ⟨A2, c2, rs, nx, ⟨hl, hnx, hsm⟩, hcc, rfl, ho2, hc2, hg2⟩
  replace HZ0 := HZ0.grown hg2 (by omega)
  replace HZ1 := HZ1.grown hg2 (by omega)
  have hs2 := hg2.size
  replace g1 := g1.trans (below_grown' hg2 (by omega) (by omega))
  obtain ⟨N, hN⟩ : ∃ N, rs.length = N := ⟨_, rfl⟩
  rw [hN] at ho2 hcc hl ⊢
  have HL := Lib.hid hN; have HSM := Lib.hid hsm; clear hN hsm
  clear hg2 hc1
  go_wp2_with fail
  refine (l3Any_any (w.heap.size + 1 + 1) code _ hc2).mono ?_
  rintro e w3 ⟨kd, A3, c3, fs, hkd, hfl, hss, rfl, ho3, hc3, hg3⟩
  have hs3 := hg3.size
  have HSS := Lib.hid hss; clear hss
  replace HZ0 := HZ0.grown hg3 (by omega)
  replace HZ1 := HZ1.grown hg3 (by omega)
  replace ho2 := OwnI.grownG ho2 hg3 (by omega)
  replace g1 := g1.trans (below_grown' hg3 (by omega) (by omega))
  clear hg3 hc2
  obtain ⟨M, hM⟩ : ∃ M, fs.length = M := ⟨_, rfl⟩
  rw [hM] at ho3 hfl ⊢
  have HM := Lib.hid hM; clear hM
  obtain ⟨z0, z1, y0, y1⟩ := HZ0.two
  obtain ⟨v0, v1, x0, x1⟩ := HZ1.two
  have hzl := HZ0.lt
  have hzl1 := HZ1.lt
  go_wp2
  refine bodyPost_ret (v := .tuple #[.agg #[.slice A2 N c2, .int .i64 nx], .agg #[.string kd, .slice A3 M c3]]) (by simp [results, Try.results27, go_sem, z0, z1, v0, v1]) rfl ⟨A2, c2, rs, nx, kd, A3, c3, fs, ⟨by rw [HL.out]; exact hl, hnx, HSM.out, by rw [HL.out]; exact hcc⟩, ⟨hkd, by rw [HM.out]; exact hfl, HSS.out⟩, by rw [HL.out, HM.out], ?_, ?_, (bel_set (bel_set (bel_set (bel_set g1 (by first | (simp; done) | (simp; omega) | omega) _) (by first | (simp; done) | (simp; omega) | omega) _) (by first | (simp; done) | (simp; omega) | omega) _) (by first | (simp; done) | (simp; omega) | omega) _)⟩
  · rw [HL.out]
    exact OwnI.rdM (OwnI.low (OwnI.low (OwnI.low (OwnI.low ho2 (by first | (simp; done) | (simp; omega) | omega) _) (by first | (simp; done) | (simp; omega) | omega) _) (by first | (simp; done) | (simp; omega) | omega) _) (by first | (simp; done) | (simp; omega) | omega) _) HL.out
  · rw [HM.out]
    exact OwnT.rdM (OwnT.low (OwnT.low (OwnT.low (OwnT.low ho3 (by first | (simp; done) | (simp; omega) | omega) _) (by first | (simp; done) | (simp; omega) | omega) _) (by first | (simp; done) | (simp; omega) | omega) _) (by first | (simp; done) | (simp; omega) | omega) _) HM.out
theorem l4Id_any (g : Nat) (code : List UInt8) (A : Option Addr) (n c : Nat) (rs : List IR) (nx : Int) (w : World) (base : Nat) (hc : Cur w g code) (ho : OwnI w base (.slice A n c) rs) (hl : rs.length = n) (hgb : g < base) (hn : n ≤ 1048576) :
    Calls Try.prog 59 #[.pointer (some ⟨g, 0, none⟩), .agg #[.slice A n c, .int .i64 nx]] w fun e w' => ∃ x : Int, e = .returned (.int .i64 x) ∧ Cur w' g code ∧ w.grownBy w' (some g) := by
  have HL := Lib.hid hl; clear hl
  have hg := hc.lt
  have gv : Below w.heap.size w (w.alloc (.cells #[.slice A n c, .int .i64 nx] 32)) := bel_alloc (bel_refl w) _
  have HB := Blk.new w 32 #[.slice A n c, .int .i64 nx]
  replace ho := ho.kept gv
  have hc1 := hc.alloc (.cells #[.slice A n c, .int .i64 nx] 32)
  have hg1 : w.grownBy (w.alloc (.cells #[.slice A n c, .int .i64 nx] 32)) (some g) := gr_alloc (World.grownBy.refl _ _) _
  obtain ⟨y0, y1, fy0, fy1⟩ := HB.two
  clear gv hc
  by_cases h0 : n = 0
  · subst h0
    go_enter Try.func59, Try.ntmps59
    go_wp2_with fail
    refine (l1Below_any g code 9 _ hc1 (by omega)).mono ?_
    rintro e w2 ⟨x, hx, rfl, hc2, hg2⟩
    go_wp2
    go_ret
    first | exact ⟨_, rfl, hc2, World.grownBy.trans hg1 hg2⟩ | exact ⟨hc2, World.grownBy.trans hg1 hg2⟩
  · have hn0 : (0 : Int) < (n : Int) := by omega
    go_enter Try.func59, Try.ntmps59
    go_wp2_with fail
    refine (l1Once_any g code _ _ hc1 (by omega)).mono ?_
    rintro e w2 ⟨b, rfl, hc2, hg2⟩
    have hs2 := hg2.size
    simp at hs2
    replace HB := HB.grown hg2 (by omega)
    replace ho := OwnI.grownG ho hg2 (by omega)
    replace hg1 := World.grownBy.trans hg1 hg2
    clear hg2 hc1 y0 y1 fy0 fy1
    obtain ⟨y0, y1, fy0, fy1⟩ := HB.two
    cases b
    · have hform := World.ownsRow.form ho.1 (by rw [HL.out]; omega)
      obtain ⟨b0, cap, hv, hbb0, hbl0⟩ := hform
      injection hv with e1 e2 e3
      subst e1
      clear e2 e3
      have hids : ∀ k (hk : k < n), w2.cell? ⟨b0, k * 3, none⟩ = some (.int .i64 (rs[k]'(by rw [HL.out]; exact hk)).id) := by
        intro j hj
        obtain ⟨b', o', e, _, hcc⟩ := (ho.rdM HL.out).at_ (by omega)
        injection e with e
        injection e with e1 e2
        subst e1 e2
        obtain ⟨rid, kd, Ai, ci, fs, he, p0, _⟩ := hcc j hj
        rw [Nat.zero_add] at p0
        rw [he]
        exact p0
      go_upto_region 2 with fail
      refine wp_region_held_drew (S := (fun _ => True)) (by kernel_rfl) ?_ (fun hHeld => ?_)
      · (try dsimp only) <;> (trivial)
      refine h_take 0 (some 14) (?_) rfl rfl (by kernel_rfl) (by kernel_rfl) (by kernel_rfl) (fun _ _ _ h => h) (by kernel_rfl) ?_ (by assumption) ?_
      rotate_left
      · intro w hSw; (try dsimp only at hSw); go_simp
        all_goals first | with_reducible rfl | omega | (simp; omega)
      try simp only [Act.put, List.setIfInBounds_toArray, List.set_cons_zero, List.set_cons_succ]
      refine h_take 2 (some 16) (?_) rfl rfl (by kernel_rfl) (by kernel_rfl) (by kernel_rfl) (fun _ _ _ h => h) (by kernel_rfl) ?_ (by assumption) ?_
      rotate_left
      · intro w hSw; (try dsimp only at hSw); go_simp
        all_goals first | with_reducible rfl | omega | (simp; omega)
      try simp only [Act.put, List.setIfInBounds_toArray, List.set_cons_zero, List.set_cons_succ]
      refine h_take 3 (some 17) (?_) rfl rfl (by kernel_rfl) (by kernel_rfl) (by kernel_rfl) (fun _ _ _ h => h) (by kernel_rfl) ?_ (by assumption) ?_
      rotate_left
      · intro w hSw; (try dsimp only at hSw); go_simp
        all_goals first | with_reducible rfl | omega | (simp; omega)
      try simp only [Act.put, List.setIfInBounds_toArray, List.set_cons_zero, List.set_cons_succ]
      refine wpAnyH_ready (rs := [1, 4]) (by kernel_rfl) (by simp) ?_
      refine AllReadyH.cons rfl (fun K hK => ?_) (AllReadyH.cons rfl (fun K hK => ?_) AllReadyH.nil)
      · rw [if_pos (by kernel_rfl)]
        go_simp
        refine hK.out _ _ ?_ (fun hHeld => ?_)
        · (try dsimp only) <;> (trivial)
        clear hK K
        try simp only [Act.put, List.setIfInBounds_toArray, List.set_cons_zero, List.set_cons_succ]
        refine h_call 4 (by kernel_rfl) rfl (by kernel_rfl) (fun K hK => ?_)
        go_simp
        refine hK.out _ _ ?_ (fun hHeld => ?_)
        · (try dsimp only) <;> (trivial)
        clear hK K
        try simp only [Act.put, List.setIfInBounds_toArray, List.set_cons_zero, List.set_cons_succ]
        refine h_take 5 (some 19) (?_) rfl rfl (by kernel_rfl) (by kernel_rfl) (by kernel_rfl) (fun _ _ _ h => h) (by kernel_rfl) ?_ (by assumption) ?_
        rotate_left
        · intro w hSw; (try dsimp only at hSw); go_simp
          all_goals first | with_reducible rfl | omega | (simp; omega)
        try simp only [Act.put, List.setIfInBounds_toArray, List.set_cons_zero, List.set_cons_succ]
        refine h_call 6 (by kernel_rfl) rfl (by kernel_rfl) (fun K hK => ?_)
        go_simp
        refine (l1Below_any g code (n : Int) _ (show Cur w2.drew g code from hc2) (by omega)).mono ?_
        rintro e w3 ⟨y, hy, rfl, hc3, hg3⟩
        have hyN : y < n := by omega
        have y03 := gr_cell (w := w2.drew) hg3 y0 (by omega)
        have hid3 := gr_cell (w := w2.drew) hg3 (hids y hyN) (by omega)
        refine hK.out _ _ ?_ (fun hHeld => ?_)
        · (try dsimp only) <;> (trivial)
        clear hK K
        try simp only [Act.put, List.setIfInBounds_toArray, List.set_cons_zero, List.set_cons_succ]
        refine h_take 7 (some 21) (?_) rfl rfl (by kernel_rfl) (by kernel_rfl) (by kernel_rfl) (fun _ _ _ h => h) (by kernel_rfl) ?_ (by assumption) ?_
        rotate_left
        · intro w hSw; (try dsimp only at hSw); go_simp
          all_goals first | with_reducible rfl | omega | (simp; omega)
        try simp only [Act.put, List.setIfInBounds_toArray, List.set_cons_zero, List.set_cons_succ]
        refine h_call 8 (by kernel_rfl) rfl (by kernel_rfl) (fun K hK => ?_)
        go_simp
        refine hK.out _ _ ?_ (fun hHeld => ?_)
        · (try dsimp only) <;> (trivial)
        clear hK K
        try simp only [Act.put, List.setIfInBounds_toArray, List.set_cons_zero, List.set_cons_succ]
        refine h_call 9 (by kernel_rfl) rfl (by kernel_rfl) (fun K hK => ?_)
        go_simp
        refine hK.out _ _ ?_ (fun hHeld => ?_)
        · (try dsimp only) <;> (trivial)
        clear hK K
        try simp only [Act.put, List.setIfInBounds_toArray, List.set_cons_zero, List.set_cons_succ]
        refine h_take 10 (some 4) (?_) rfl rfl (by kernel_rfl) (by kernel_rfl) (by kernel_rfl) (fun _ _ _ h => h) (by kernel_rfl) ?_ (by assumption) ?_
        rotate_left
        · intro w hSw; (try dsimp only at hSw); go_simp
          all_goals first | with_reducible rfl | omega | (simp; omega)
        try simp only [Act.put, List.setIfInBounds_toArray, List.set_cons_zero, List.set_cons_succ]
        refine wpAnyH_done (by kernel_rfl) ?_ _
        go_wp2
        go_ret
        first | exact ⟨_, rfl, hc3, World.grownBy.trans (gr_drew hg1) hg3⟩ | exact ⟨hc3, World.grownBy.trans (gr_drew hg1) hg3⟩
      · rw [if_pos (by kernel_rfl)]
        go_simp
        refine hK.out _ _ ?_ (fun hHeld => ?_)
        · (try dsimp only) <;> (trivial)
        clear hK K
        try simp only [Act.put, List.setIfInBounds_toArray, List.set_cons_zero, List.set_cons_succ]
        refine h_take 5 (some 19) (?_) rfl rfl (by kernel_rfl) (by kernel_rfl) (by kernel_rfl) (fun _ _ _ h => h) (by kernel_rfl) ?_ (by assumption) ?_
        rotate_left
        · intro w hSw; (try dsimp only at hSw); go_simp
          all_goals first | with_reducible rfl | omega | (simp; omega)
        try simp only [Act.put, List.setIfInBounds_toArray, List.set_cons_zero, List.set_cons_succ]
        refine wpAnyH_ready (rs := [1, 6]) (by kernel_rfl) (by simp) ?_
        refine AllReadyH.cons rfl (fun K hK => ?_) (AllReadyH.cons rfl (fun K hK => ?_) AllReadyH.nil)
        · rw [if_pos (by kernel_rfl)]
          go_simp
          refine hK.out _ _ ?_ (fun hHeld => ?_)
          · (try dsimp only) <;> (trivial)
          clear hK K
          try simp only [Act.put, List.setIfInBounds_toArray, List.set_cons_zero, List.set_cons_succ]
          refine h_call 6 (by kernel_rfl) rfl (by kernel_rfl) (fun K hK => ?_)
          go_simp
          refine (l1Below_any g code (n : Int) _ (show Cur w2.drew g code from hc2) (by omega)).mono ?_
          rintro e w3 ⟨y, hy, rfl, hc3, hg3⟩
          have hyN : y < n := by omega
          have y03 := gr_cell (w := w2.drew) hg3 y0 (by omega)
          have hid3 := gr_cell (w := w2.drew) hg3 (hids y hyN) (by omega)
          refine hK.out _ _ ?_ (fun hHeld => ?_)
          · (try dsimp only) <;> (trivial)
          clear hK K
          try simp only [Act.put, List.setIfInBounds_toArray, List.set_cons_zero, List.set_cons_succ]
          refine h_take 7 (some 21) (?_) rfl rfl (by kernel_rfl) (by kernel_rfl) (by kernel_rfl) (fun _ _ _ h => h) (by kernel_rfl) ?_ (by assumption) ?_
          rotate_left
          · intro w hSw; (try dsimp only at hSw); go_simp
            all_goals first | with_reducible rfl | omega | (simp; omega)
          try simp only [Act.put, List.setIfInBounds_toArray, List.set_cons_zero, List.set_cons_succ]
          refine h_call 8 (by kernel_rfl) rfl (by kernel_rfl) (fun K hK => ?_)
          go_simp
          refine hK.out _ _ ?_ (fun hHeld => ?_)
          · (try dsimp only) <;> (trivial)
          clear hK K
          try simp only [Act.put, List.setIfInBounds_toArray, List.set_cons_zero, List.set_cons_succ]
          refine h_call 9 (by kernel_rfl) rfl (by kernel_rfl) (fun K hK => ?_)
          go_simp
          refine hK.out _ _ ?_ (fun hHeld => ?_)
          · (try dsimp only) <;> (trivial)
          clear hK K
          try simp only [Act.put, List.setIfInBounds_toArray, List.set_cons_zero, List.set_cons_succ]
          refine h_take 10 (some 4) (?_) rfl rfl (by kernel_rfl) (by kernel_rfl) (by kernel_rfl) (fun _ _ _ h => h) (by kernel_rfl) ?_ (by assumption) ?_
          rotate_left
          · intro w hSw; (try dsimp only at hSw); go_simp
            all_goals first | with_reducible rfl | omega | (simp; omega)
          try simp only [Act.put, List.setIfInBounds_toArray, List.set_cons_zero, List.set_cons_succ]
          refine wpAnyH_done (by kernel_rfl) ?_ _
          go_wp2
          go_ret
          first | exact ⟨_, rfl, hc3, World.grownBy.trans (gr_drew hg1) hg3⟩ | exact ⟨hc3, World.grownBy.trans (gr_drew hg1) hg3⟩
        · rw [if_pos (by kernel_rfl)]
          go_simp
          refine (l1Below_any g code (n : Int) _ (show Cur w2.drew g code from hc2) (by omega)).mono ?_
          rintro e w3 ⟨y, hy, rfl, hc3, hg3⟩
          have hyN : y < n := by omega
          have y03 := gr_cell (w := w2.drew) hg3 y0 (by omega)
          have hid3 := gr_cell (w := w2.drew) hg3 (hids y hyN) (by omega)
          refine hK.out _ _ ?_ (fun hHeld => ?_)
          · (try dsimp only) <;> (trivial)
          clear hK K
          try simp only [Act.put, List.setIfInBounds_toArray, List.set_cons_zero, List.set_cons_succ]
          refine h_call 1 (by kernel_rfl) rfl (by kernel_rfl) (fun K hK => ?_)
          go_simp
          refine hK.out _ _ ?_ (fun hHeld => ?_)
          · (try dsimp only) <;> (trivial)
          clear hK K
          try simp only [Act.put, List.setIfInBounds_toArray, List.set_cons_zero, List.set_cons_succ]
          refine h_take 7 (some 21) (?_) rfl rfl (by kernel_rfl) (by kernel_rfl) (by kernel_rfl) (fun _ _ _ h => h) (by kernel_rfl) ?_ (by assumption) ?_
          rotate_left
          · intro w hSw; (try dsimp only at hSw); go_simp
            all_goals first | with_reducible rfl | omega | (simp; omega)
          try simp only [Act.put, List.setIfInBounds_toArray, List.set_cons_zero, List.set_cons_succ]
          refine h_call 8 (by kernel_rfl) rfl (by kernel_rfl) (fun K hK => ?_)
          go_simp
          refine hK.out _ _ ?_ (fun hHeld => ?_)
          · (try dsimp only) <;> (trivial)
          clear hK K
          try simp only [Act.put, List.setIfInBounds_toArray, List.set_cons_zero, List.set_cons_succ]
          refine h_call 9 (by kernel_rfl) rfl (by kernel_rfl) (fun K hK => ?_)
          go_simp
          refine hK.out _ _ ?_ (fun hHeld => ?_)
          · (try dsimp only) <;> (trivial)
          clear hK K
          try simp only [Act.put, List.setIfInBounds_toArray, List.set_cons_zero, List.set_cons_succ]
          refine h_take 10 (some 4) (?_) rfl rfl (by kernel_rfl) (by kernel_rfl) (by kernel_rfl) (fun _ _ _ h => h) (by kernel_rfl) ?_ (by assumption) ?_
          rotate_left
          · intro w hSw; (try dsimp only at hSw); go_simp
            all_goals first | with_reducible rfl | omega | (simp; omega)
          try simp only [Act.put, List.setIfInBounds_toArray, List.set_cons_zero, List.set_cons_succ]
          refine wpAnyH_done (by kernel_rfl) ?_ _
          go_wp2
          go_ret
          first | exact ⟨_, rfl, hc3, World.grownBy.trans (gr_drew hg1) hg3⟩ | exact ⟨hc3, World.grownBy.trans (gr_drew hg1) hg3⟩
    · go_wp2_with fail
      refine (l1Below_any g code 9 _ hc2 (by omega)).mono ?_
      rintro e w3 ⟨x, hx, rfl, hc3, hg3⟩
      go_wp2
      go_ret
      first | exact ⟨_, rfl, hc3, World.grownBy.trans hg1 hg3⟩ | exact ⟨hc3, World.grownBy.trans hg1 hg3⟩
theorem DrawRetract_any (A : Option Addr) (n c : Nat) (code : List UInt8) (w : World) (B : Nat) (hr : RdB w B A n code) (hB : B ≤ w.heap.size) (hn : n ≤ 70368744177664) :
    Calls Try.prog 32 #[.slice A n c] w fun e w' => ∃ (A2 : Option Addr) (c2 : Nat) (rs : List IR) (nx id : Int), (rs.length ≤ 41 ∧ (0 ≤ nx ∧ nx ≤ 1000001) ∧ (∀ r ∈ rs, smallR r) ∧ rs.length ≤ c2) ∧ e = .returned (.tuple #[.agg #[.slice A2 rs.length c2, .int .i64 nx], .int .i64 id]) ∧ RdI w' w'.heap.size A2 rs.length rs ∧ Below w.heap.size w w' := by
  have HZ0 := Blk.new w 32 #[.slice none 0 0, .int .i64 0]
  have hr3 : RdY (w.alloc (.cells #[.slice none 0 0, .int .i64 0] 32)) B A n code := (RdY.alloc ⟨hB, hr⟩ _)
  have g0 : Below w.heap.size w (w.alloc (.cells #[.slice none 0 0, .int .i64 0] 32)) := (bel_alloc (bel_refl w) _)
  go_enter Try.func32, Try.ntmps32
  go_wp2_with fail
  refine (l1New_any A n c code _ B hr3.b hr3.le hn).mono ?_
  rintro e w1 ⟨rfl, hc1, hb1⟩
  replace HZ0 := HZ0.kept hb1
  simp only [World.alloc_size6] at hc1
  have hl1 := hc1.lt
  have g1 : Below w.heap.size w w1 := bel_trans g0 hb1
  clear hb1 g0 hr3
  go_wp2_with fail
  refine (l4Any_any (w.heap.size + 1) code _ hc1).mono ?_
  rintro e w2 ⟨A2, c2, rs, nx, ⟨hl, hnx, hsm⟩, hcc, rfl, ho2, hc2, hg2⟩
  replace HZ0 := HZ0.grown hg2 (by omega)
  have hs2 := hg2.size
  replace g1 := g1.trans (below_grown' hg2 (by omega) (by omega))
  obtain ⟨N, hN⟩ : ∃ N, rs.length = N := ⟨_, rfl⟩
  rw [hN] at ho2 hcc hl ⊢
  have HL := Lib.hid hN; have HSM := Lib.hid hsm; clear hN hsm
  clear hg2 hc1
  have HB := Blk.new w2 32 #[.slice A2 N c2, .int .i64 nx]
  have gv : Below w2.heap.size w2 (w2.alloc (.cells #[.slice A2 N c2, .int .i64 nx] 32)) := bel_alloc (bel_refl w2) _
  replace HZ0 := HZ0.kept gv
  replace ho2 := ho2.kept gv
  replace hc2 := hc2.alloc (.cells #[.slice A2 N c2, .int .i64 nx] 32)
  replace g1 := bel_trans g1 gv
  clear gv
  have hbl := HB.lt
  go_upto_region 3 with fail
  generalize hvv : w2.alloc (.cells #[.slice A2 N c2, .int .i64 nx] 32) = v at HB HZ0 ho2 hc2 g1 hbl ⊢
  clear hvv
  obtain ⟨x0, x1, fx0, fx1⟩ := HB.two
  refine wp_region_held_drew (S := (fun w' => w'.cell? ⟨w2.heap.size, 0, none⟩ = some (.slice A2 N c2) ∧ w'.cell? ⟨w2.heap.size, 1, none⟩ = some (.int .i64 nx))) (by kernel_rfl) ?_ (fun hHeld => ?_)
  · (try dsimp only) <;> (first | exact ⟨x0, x1⟩ | exact hHeld | exact ⟨gr_cell hg4 hHeld.1 (by omega), gr_cell hg4 hHeld.2 (by omega)⟩ | exact ⟨cell_other (cell_other hHeld.1 (by simp; omega)) (by simp; omega), cell_other (cell_other hHeld.2 (by simp; omega)) (by simp; omega)⟩)
  refine h_take 0 (some 10) (?_) rfl rfl (by kernel_rfl) (by kernel_rfl) (by kernel_rfl) (fun _ _ _ h => h) (by kernel_rfl) ?_ (by assumption) ?_
  rotate_left
  · intro w hSw; (try dsimp only at hSw); go_simp
    all_goals first | with_reducible rfl | omega | (simp; omega)
  try simp only [Act.put, List.setIfInBounds_toArray, List.set_cons_zero, List.set_cons_succ]
  refine h_take 1 (some 11) (?_) rfl rfl (by kernel_rfl) (by kernel_rfl) (by kernel_rfl) (fun _ _ _ h => h) (by kernel_rfl) ?_ (by assumption) ?_
  rotate_left
  · intro w hSw; (try dsimp only at hSw); go_simp
    all_goals first | with_reducible rfl | omega | (simp; omega)
  try simp only [Act.put, List.setIfInBounds_toArray, List.set_cons_zero, List.set_cons_succ]
  refine h_take 2 (some 12) (?_) rfl rfl (by kernel_rfl) (by kernel_rfl) (by kernel_rfl) (fun _ _ _ h => h) (by kernel_rfl) ?_ (by assumption) ?_
  rotate_left
  · intro w hSw; (try dsimp only at hSw); go_simp
    all_goals first | with_reducible rfl | omega | (simp; omega)
  try simp only [Act.put, List.setIfInBounds_toArray, List.set_cons_zero, List.set_cons_succ]
  refine h_call 3 (by kernel_rfl) rfl (by kernel_rfl) (fun K hK => ?_)
  go_simp
  refine (l4Id_any (w.heap.size + 1) code A2 N c2 rs nx _ _ (show Cur v.drew (w.heap.size + 1) code from hc2) (show OwnI v.drew _ (.slice A2 N c2) rs from ho2) HL.out (by omega) (by omega)).mono ?_
  rintro e w4 ⟨id, rfl, hc4, hg4⟩
  have HZ4 := Blk.grown (w := v.drew) HZ0 hg4 (by omega)
  have ho4 := OwnI.grownG (w := v.drew) ho2 hg4 (by omega)
  have g4 : Below w.heap.size w w4 := (bel_drew g1).trans (below_grown' hg4 (by omega) (by simp only [drew_size']; omega))
  have hs4 := hg4.size
  simp only [drew_size'] at hs4
  obtain ⟨z0, z1, fz0, fz1⟩ := HZ4.two
  refine hK.out _ _ ?_ (fun hHeld => ?_)
  · (try dsimp only) <;> (first | exact ⟨x0, x1⟩ | exact hHeld | exact ⟨gr_cell hg4 hHeld.1 (by omega), gr_cell hg4 hHeld.2 (by omega)⟩ | exact ⟨cell_other (cell_other hHeld.1 (by simp; omega)) (by simp; omega), cell_other (cell_other hHeld.2 (by simp; omega)) (by simp; omega)⟩)
  clear hK K
  try simp only [Act.put, List.setIfInBounds_toArray, List.set_cons_zero, List.set_cons_succ]
  refine h_call 4 (by kernel_rfl) rfl (by kernel_rfl) (fun K hK => ?_)
  go_simp
  refine hK.out _ _ ?_ (fun hHeld => ?_)
  · (try dsimp only) <;> (first | exact ⟨x0, x1⟩ | exact hHeld | exact ⟨gr_cell hg4 hHeld.1 (by omega), gr_cell hg4 hHeld.2 (by omega)⟩ | exact ⟨cell_other (cell_other hHeld.1 (by simp; omega)) (by simp; omega), cell_other (cell_other hHeld.2 (by simp; omega)) (by simp; omega)⟩)
  clear hK K
  try simp only [Act.put, List.setIfInBounds_toArray, List.set_cons_zero, List.set_cons_succ]
  refine h_take 5 (some 3) (?_) rfl rfl (by kernel_rfl) (by kernel_rfl) (by kernel_rfl) (fun _ _ _ h => h) (by kernel_rfl) ?_ (by assumption) ?_
  rotate_left
  · intro w hSw; (try dsimp only at hSw); go_simp
    all_goals first | with_reducible rfl | omega | (simp; omega)
  try simp only [Act.put, List.setIfInBounds_toArray, List.set_cons_zero, List.set_cons_succ]
  refine wpAnyH_done (by kernel_rfl) ?_ _
  go_wp2
  refine bodyPost_ret (v := .tuple #[.agg #[.slice A2 N c2, .int .i64 nx], .int .i64 id]) (by simp [results, Try.results32, go_sem, z0, z1]) rfl ⟨A2, c2, rs, nx, id, ⟨by rw [HL.out]; exact hl, hnx, HSM.out, by rw [HL.out]; exact hcc⟩, by rw [HL.out], ?_, (bel_set (bel_set g4 (by first | (simp; done) | (simp; omega) | omega) _) (by first | (simp; done) | (simp; omega) | omega) _)⟩
  rw [HL.out]
  exact OwnI.rdM (OwnI.low (OwnI.low ho4 (by first | (simp; done) | (simp; omega) | omega) _) (by first | (simp; done) | (simp; omega) | omega) _) HL.out
end Go.Proofs.Ytndhjijcicebkaa
