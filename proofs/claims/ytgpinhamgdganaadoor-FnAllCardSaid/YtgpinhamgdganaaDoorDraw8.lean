/- A condition that is drawn, bent; a condition and binds. No condition but lengths. -/
import Derived.Test.YtgpinhamgdganaaDoorDraw7
namespace Go.Proofs.YtgpinhamgdganaaDoor
open Go.RowKit
set_option maxRecDepth 100000
set_option maxHeartbeats 4000000
theorem set_at_len : ∀ (pre : List Value) (x v : Value) (r : List Value), (pre ++ x :: r).set pre.length v = pre ++ v :: r
  | [], x, v, r => rfl
  | a :: pre, x, v, r => by simp
theorem Blk.setCells_ {b : Nat} {t : TypeId} : ∀ (cs mid pre post : List Value) {w : World}, mid.length = cs.length → Blk w b t (pre ++ (mid ++ post)).toArray → Blk (w.setCells b pre.length cs) b t (pre ++ (cs ++ post)).toArray
  | [], [], pre, post, w, _, h => h
  | [], _ :: _, _, _, _, hl, _ => by simp at hl
  | _ :: _, [], _, _, _, hl, _ => by simp at hl
  | v :: cs, m :: mid, pre, post, w, hl, h => by
    unfold World.setCells
    have h1 := h.set_ pre.length v
    have h2 : Blk (w.setCell ⟨b, pre.length, none⟩ v) b t ((pre ++ [v]) ++ (mid ++ post)).toArray := by
      rw [List.append_assoc, List.singleton_append, ← set_at_len pre m v (mid ++ post)]
      simpa using h1
    have h3 := Blk.setCells_ cs mid (pre ++ [v]) post (by simpa using hl) h2
    rw [List.append_assoc, List.singleton_append] at h3
    simpa using h3
theorem Blk.there_at {w : World} {b : Nat} {t : TypeId} {cs : Array Value} {o n : Nat} (h : Blk w b t cs) (hn : o + n ≤ cs.size) : w.there b o n := fun j hj => by
  rw [h.cell (o + j), h.frozen (o + j)]
  exact ⟨by simp; omega, rfl⟩
/-- some cells are stored into a block that is known whole: it is known whole behind it -/
theorem wpList_store_at {P : Program} {ops : Array Oper} {rest : List Oper} {op : Oper} {a : Act} {w : World} {Q : Exit → Act → World → Prop} (hgd : op.guard = none) (ty : TypeId) (x y : Operand) (ho : op.op = .store ty x y)
    (b : Nat) (pre mid post cs : List Value) (hx : a.eval x = .pointer (some ⟨b, pre.length, none⟩)) (hy : a.eval y = .agg cs.toArray) {t : TypeId} (hB : Blk w b t (pre ++ (mid ++ post)).toArray) (hn : mid.length = cs.length)
    (hi : (P.info? ty).map (·.size) = some cs.length) (h1 : ∀ v ∈ cs, v.oneCell' = true) (Pr : World → Prop) (hQ : ∀ W o v, Pr W → Pr (W.setCell ⟨b, o, none⟩ v)) (hp : Pr w)
    (h : ∀ W', Blk W' b t (pre ++ (cs ++ post)).toArray → Pr W' → wpList P ops Q rest (a.put op.dst undef) W') : wpList P ops Q (op :: rest) a w := by
  refine wpList_store_mid hgd ty x y ho b pre.length cs.toArray hx hy (hB.there_at (by simp; omega)) (by simpa using hi) (all_oneCell_toArray h1) ?_
  exact h _ (Blk.setCells_ cs mid pre post hn hB) (pr_cells hQ hp cs)
theorem Blk.range_at {w : World} {b : Nat} {t : TypeId} {cs0 : Array Value} (o : Nat) {cs : List Value} (h : Blk w b t cs0) (hc : ∀ j v, cs[j]? = some v → cs0[o + j]? = some v) : w.rangeAt b o cs := fun j v hv => by
  rw [h.cell (o + j)]
  exact hc j v hv
theorem l7Any_any (g : Nat) (code : List UInt8) (w : World) (hc : Cur w g code) : Calls Tryd.prog 35 #[.pointer (some ⟨g, 0, none⟩)] w fun e w' =>
    ∃ (op lk : Int) (ls : ByteArray) (lvk lvn : Int) (lvs : ByteArray) (rk : Int) (rs : ByteArray) (rvk rvn : Int) (rvs : ByteArray), (ls.size ≤ 30 ∧ lvs.size ≤ 30 ∧ rs.size ≤ 30 ∧ rvs.size ≤ 30) ∧ e = .returned (.agg #[.int .i64 op, .int .i64 lk, .string ls, .int .i64 lvk, .int .i64 lvn, .string lvs, .int .i64 rk, .string rs, .int .i64 rvk, .int .i64 rvn, .string rvs]) ∧ Cur w' g code ∧ w.grownBy w' (some g) := by
  have hg := hc.lt
  have HZ := Blk.new w 34 #[.int .i64 0, .int .i64 0, .string ⟨#[]⟩, .int .i64 0, .int .i64 0, .string ⟨#[]⟩, .int .i64 0, .string ⟨#[]⟩, .int .i64 0, .int .i64 0, .string ⟨#[]⟩]
  go_enter Tryd.func35, Tryd.ntmps35
  go_wp2_with fail
  refine (l7Draw_any g code _ (hc.alloc _)).mono ?_
  rintro e w1 ⟨op, lk, ls, lvk, lvn, lvs, rk, rs, rvk, rvn, rvs, ⟨hl1, hl2, hr1, hr2⟩, rfl, hc1, hg1⟩
  replace HZ := HZ.grown hg1 (by omega)
  have hs1 := hg1.size
  simp at hs1
  replace hg1 := (World.grownBy_alloc w _ (some g)).trans hg1
  have hl1' := hc1.lt
  have HX := Blk.new w1 34 #[.int .i64 0, .int .i64 0, .string ⟨#[]⟩, .int .i64 0, .int .i64 0, .string ⟨#[]⟩, .int .i64 0, .string ⟨#[]⟩, .int .i64 0, .int .i64 0, .string ⟨#[]⟩]
  have HZ' := HZ.alloc (.cells #[.int .i64 0, .int .i64 0, .string ⟨#[]⟩, .int .i64 0, .int .i64 0, .string ⟨#[]⟩, .int .i64 0, .string ⟨#[]⟩, .int .i64 0, .int .i64 0, .string ⟨#[]⟩] 34)
  go_upto_region 2 with ((with_reducible show wpList _ _ _ (Oper.mk none (Op.store _ _ _) _ _ _ _ :: _) _ _); refine wpList_store_at (by rfl) 34 (.tmp 3) (.tmp 5) (by rfl) _ [] [.int .i64 0, .int .i64 0, .string ⟨#[]⟩, .int .i64 0, .int .i64 0, .string ⟨#[]⟩, .int .i64 0, .string ⟨#[]⟩, .int .i64 0, .int .i64 0, .string ⟨#[]⟩] [] [.int .i64 op, .int .i64 lk, .string ls, .int .i64 lvk, .int .i64 lvn, .string lvs, .int .i64 rk, .string rs, .int .i64 rvk, .int .i64 rvn, .string rvs] (by rfl) (by rfl) HX (by rfl) (by kernel_rfl) (by simp [Value.oneCell']) (fun W => Cur W g code ∧ w.grownBy W (some g) ∧ Blk W w.heap.size 34 #[.int .i64 0, .int .i64 0, .string ⟨#[]⟩, .int .i64 0, .int .i64 0, .string ⟨#[]⟩, .int .i64 0, .string ⟨#[]⟩, .int .i64 0, .int .i64 0, .string ⟨#[]⟩]) (fun W o v h => ⟨Cur.set h.1 hl1' v, gr_set h.2.1 (by simp; omega) v, h.2.2.far (by simp; omega) v⟩) ⟨hc1.alloc _, gr_alloc hg1 _, HZ'⟩ ?_; intro W2 HX2 hpr)
  obtain ⟨hc2, hg2, HZ2⟩ := hpr
  replace HX2 : Blk W2 w1.heap.size 34 #[.int .i64 op, .int .i64 lk, .string ls, .int .i64 lvk, .int .i64 lvn, .string lvs, .int .i64 rk, .string rs, .int .i64 rvk, .int .i64 rvn, .string rvs] := HX2
  clear HX HZ HZ' hc1 hg1
  go_wp2_with fail
  refine (l1Below_any g code 8 _ hc2 (by omega)).mono ?_
  rintro e w3 ⟨x, hx, rfl, hc3, hg3⟩
  replace HX2 := HX2.grown hg3 (by omega)
  replace HZ2 := HZ2.grown hg3 (by omega)
  replace hg3 := World.grownBy.trans hg2 hg3
  clear hc2 hg2
  by_cases b0 : x = 0
  · subst b0
    go_wp2_with fail
    refine (l1Below_any g code 6 _ hc3 (by omega)).mono ?_
    rintro e w4 ⟨y, hy, rfl, hc4, hg4⟩
    replace HX2 := HX2.grown hg4 (by omega)
    replace HZ2 := HZ2.grown hg4 (by omega)
    replace hg4 := World.grownBy.trans hg3 hg4
    have c0 := HX2.cell 0; have f0 := HX2.frozen 0
    simp at c0
    have HX5 := HX2.set_ 0 (.int .i64 (y : Int))
    have HZ5 := HZ2.far (p := ⟨w1.heap.size, 0, none⟩) (by simp; omega) (.int .i64 (y : Int))
    have hc5 := Cur.set (p := ⟨w1.heap.size, 0, none⟩) hc4 hl1' (.int .i64 (y : Int))
    have hg5 := gr_set (p := ⟨w1.heap.size, 0, none⟩) hg4 (by simp; omega) (.int .i64 (y : Int))
    clear HX2 HZ2
    have HX2 : Blk _ w1.heap.size 34 #[.int .i64 y, .int .i64 lk, .string ls, .int .i64 lvk, .int .i64 lvn, .string lvs, .int .i64 rk, .string rs, .int .i64 rvk, .int .i64 rvn, .string rvs] := HX5
    have HZ2 := HZ5
    have hld := Blk.range_at 0 (cs := [.int .i64 y, .int .i64 lk, .string ls, .int .i64 lvk, .int .i64 lvn, .string lvs, .int .i64 rk, .string rs, .int .i64 rvk, .int .i64 rvn, .string rvs]) HX2 (fun j v h => by simpa using h)
    go_upto_region 9 with fail
    refine wp_region_lit ?_
    refine wpList_load_mid (by rfl) 34 (.tmp 3) (by rfl) _ 0 (by rfl) _ _ hld Tryd.underlying34 (by rfl) (by kernel_rfl) ?_
    refine wpList_store_at (by rfl) 34 (.tmp 2) (.tmp 24) (by rfl) _ [] [.int .i64 0, .int .i64 0, .string ⟨#[]⟩, .int .i64 0, .int .i64 0, .string ⟨#[]⟩, .int .i64 0, .string ⟨#[]⟩, .int .i64 0, .int .i64 0, .string ⟨#[]⟩] [] [.int .i64 y, .int .i64 lk, .string ls, .int .i64 lvk, .int .i64 lvn, .string lvs, .int .i64 rk, .string rs, .int .i64 rvk, .int .i64 rvn, .string rvs] (by rfl) (by rfl) HZ2 (by rfl) (by kernel_rfl) (by simp [Value.oneCell']) (fun W => Cur W g code ∧ w.grownBy W (some g)) (fun W o v h => ⟨Cur.set h.1 hg v, gr_set h.2 (Nat.le_refl _) v⟩) ⟨hc5, hg5⟩ ?_
    intro W' hres hpr
    go_wp2
    exact ret_row (cs := [.int .i64 y, .int .i64 lk, .string ls, .int .i64 lvk, .int .i64 lvn, .string lvs, .int .i64 rk, .string rs, .int .i64 rvk, .int .i64 rvn, .string rvs]) (by rfl) (by rfl) (Blk.range_at 0 hres (fun j v h => by simpa using h)) Tryd.underlying34 (by rfl) (by kernel_rfl) (by rfl) ⟨(y : Int), lk, ls, lvk, lvn, lvs, rk, rs, rvk, rvn, rvs, ⟨hl1, hl2, hr1, hr2⟩, rfl, hpr⟩
  have q0 : ((x : Int) == 0) = false := by simp; omega
  by_cases b1 : x = 1
  · subst b1
    go_wp2_with fail
    refine (l6Arg_any g code _ hc3).mono ?_
    rintro e w4 ⟨ak, as_, avk, avn, avs, ha1, ha2, rfl, hc4, hg4⟩
    replace HX2 := HX2.grown hg4 (by omega)
    replace HZ2 := HZ2.grown hg4 (by omega)
    replace hg4 := World.grownBy.trans hg3 hg4
    go_upto_region 9 with ((with_reducible show wpList _ _ _ (Oper.mk none (Op.store _ _ _) _ _ _ _ :: _) _ _); refine wpList_store_at (by rfl) 32 (.tmp 17) (.tmp 16) (by rfl) _ [.int .i64 op] [.int .i64 lk, .string ls, .int .i64 lvk, .int .i64 lvn, .string lvs] [.int .i64 rk, .string rs, .int .i64 rvk, .int .i64 rvn, .string rvs] [.int .i64 ak, .string as_, .int .i64 avk, .int .i64 avn, .string avs] (by rfl) (by rfl) HX2 (by rfl) (by kernel_rfl) (by simp [Value.oneCell']) (fun W => Cur W g code ∧ w.grownBy W (some g) ∧ Blk W w.heap.size 34 #[.int .i64 0, .int .i64 0, .string ⟨#[]⟩, .int .i64 0, .int .i64 0, .string ⟨#[]⟩, .int .i64 0, .string ⟨#[]⟩, .int .i64 0, .int .i64 0, .string ⟨#[]⟩]) (fun W o v h => ⟨Cur.set h.1 hl1' v, gr_set h.2.1 (by simp; omega) v, h.2.2.far (by simp; omega) v⟩) ⟨hc4, hg4, HZ2⟩ ?_; intro W5 HX5 hpr)
    obtain ⟨hc5, hg5, HZ5⟩ := hpr
    have HX2 : Blk W5 w1.heap.size 34 #[.int .i64 op, .int .i64 ak, .string as_, .int .i64 avk, .int .i64 avn, .string avs, .int .i64 rk, .string rs, .int .i64 rvk, .int .i64 rvn, .string rvs] := HX5
    have HZ2 := HZ5
    have hld := Blk.range_at 0 (cs := [.int .i64 op, .int .i64 ak, .string as_, .int .i64 avk, .int .i64 avn, .string avs, .int .i64 rk, .string rs, .int .i64 rvk, .int .i64 rvn, .string rvs]) HX2 (fun j v h => by simpa using h)
    refine wp_region_lit ?_
    refine wpList_load_mid (by rfl) 34 (.tmp 3) (by rfl) _ 0 (by rfl) _ _ hld Tryd.underlying34 (by rfl) (by kernel_rfl) ?_
    refine wpList_store_at (by rfl) 34 (.tmp 2) (.tmp 24) (by rfl) _ [] [.int .i64 0, .int .i64 0, .string ⟨#[]⟩, .int .i64 0, .int .i64 0, .string ⟨#[]⟩, .int .i64 0, .string ⟨#[]⟩, .int .i64 0, .int .i64 0, .string ⟨#[]⟩] [] [.int .i64 op, .int .i64 ak, .string as_, .int .i64 avk, .int .i64 avn, .string avs, .int .i64 rk, .string rs, .int .i64 rvk, .int .i64 rvn, .string rvs] (by rfl) (by rfl) HZ2 (by rfl) (by kernel_rfl) (by simp [Value.oneCell']) (fun W => Cur W g code ∧ w.grownBy W (some g)) (fun W o v h => ⟨Cur.set h.1 hg v, gr_set h.2 (Nat.le_refl _) v⟩) ⟨hc5, hg5⟩ ?_
    intro W' hres hpr
    go_wp2
    exact ret_row (cs := [.int .i64 op, .int .i64 ak, .string as_, .int .i64 avk, .int .i64 avn, .string avs, .int .i64 rk, .string rs, .int .i64 rvk, .int .i64 rvn, .string rvs]) (by rfl) (by rfl) (Blk.range_at 0 hres (fun j v h => by simpa using h)) Tryd.underlying34 (by rfl) (by kernel_rfl) (by rfl) ⟨op, ak, as_, avk, avn, avs, rk, rs, rvk, rvn, rvs, ⟨ha1, ha2, hr1, hr2⟩, rfl, hpr⟩
  have q1 : ((x : Int) == 1) = false := by simp; omega
  by_cases b2 : x = 2
  · subst b2
    go_wp2_with fail
    refine (l1Below_any g code 5 _ hc3 (by omega)).mono ?_
    rintro e w4 ⟨y, hy, rfl, hc4, hg4⟩
    replace HX2 := HX2.grown hg4 (by omega)
    replace HZ2 := HZ2.grown hg4 (by omega)
    replace hg4 := World.grownBy.trans hg3 hg4
    go_upto_region 9 with ((with_reducible show wpList _ _ _ (Oper.mk none (Op.store _ _ _) _ _ _ _ :: _) _ _); refine wpList_store_at (by rfl) 32 (.tmp 23) (.tmp 22) (by rfl) _ [.int .i64 op, .int .i64 lk, .string ls, .int .i64 lvk, .int .i64 lvn, .string lvs] [.int .i64 rk, .string rs, .int .i64 rvk, .int .i64 rvn, .string rvs] [] [.int .i64 (y : Int), .string ⟨#[]⟩, .int .i64 0, .int .i64 0, .string ⟨#[]⟩] (by rfl) (by rfl) HX2 (by rfl) (by kernel_rfl) (by simp [Value.oneCell']) (fun W => Cur W g code ∧ w.grownBy W (some g) ∧ Blk W w.heap.size 34 #[.int .i64 0, .int .i64 0, .string ⟨#[]⟩, .int .i64 0, .int .i64 0, .string ⟨#[]⟩, .int .i64 0, .string ⟨#[]⟩, .int .i64 0, .int .i64 0, .string ⟨#[]⟩]) (fun W o v h => ⟨Cur.set h.1 hl1' v, gr_set h.2.1 (by simp; omega) v, h.2.2.far (by simp; omega) v⟩) ⟨hc4, hg4, HZ2⟩ ?_; intro W5 HX5 hpr)
    obtain ⟨hc5, hg5, HZ5⟩ := hpr
    have HX2 : Blk W5 w1.heap.size 34 #[.int .i64 op, .int .i64 lk, .string ls, .int .i64 lvk, .int .i64 lvn, .string lvs, .int .i64 (y:Int), .string ⟨#[]⟩, .int .i64 0, .int .i64 0, .string ⟨#[]⟩] := HX5
    have HZ2 := HZ5
    have hld := Blk.range_at 0 (cs := [.int .i64 op, .int .i64 lk, .string ls, .int .i64 lvk, .int .i64 lvn, .string lvs, .int .i64 (y:Int), .string ⟨#[]⟩, .int .i64 0, .int .i64 0, .string ⟨#[]⟩]) HX2 (fun j v h => by simpa using h)
    refine wp_region_lit ?_
    refine wpList_load_mid (by rfl) 34 (.tmp 3) (by rfl) _ 0 (by rfl) _ _ hld Tryd.underlying34 (by rfl) (by kernel_rfl) ?_
    refine wpList_store_at (by rfl) 34 (.tmp 2) (.tmp 24) (by rfl) _ [] [.int .i64 0, .int .i64 0, .string ⟨#[]⟩, .int .i64 0, .int .i64 0, .string ⟨#[]⟩, .int .i64 0, .string ⟨#[]⟩, .int .i64 0, .int .i64 0, .string ⟨#[]⟩] [] [.int .i64 op, .int .i64 lk, .string ls, .int .i64 lvk, .int .i64 lvn, .string lvs, .int .i64 (y:Int), .string ⟨#[]⟩, .int .i64 0, .int .i64 0, .string ⟨#[]⟩] (by rfl) (by rfl) HZ2 (by rfl) (by kernel_rfl) (by simp [Value.oneCell']) (fun W => Cur W g code ∧ w.grownBy W (some g)) (fun W o v h => ⟨Cur.set h.1 hg v, gr_set h.2 (Nat.le_refl _) v⟩) ⟨hc5, hg5⟩ ?_
    intro W' hres hpr
    go_wp2
    exact ret_row (cs := [.int .i64 op, .int .i64 lk, .string ls, .int .i64 lvk, .int .i64 lvn, .string lvs, .int .i64 (y:Int), .string ⟨#[]⟩, .int .i64 0, .int .i64 0, .string ⟨#[]⟩]) (by rfl) (by rfl) (Blk.range_at 0 hres (fun j v h => by simpa using h)) Tryd.underlying34 (by rfl) (by kernel_rfl) (by rfl) ⟨op, lk, ls, lvk, lvn, lvs, (y : Int), ⟨#[]⟩, 0, 0, ⟨#[]⟩, ⟨hl1, hl2, by decide, by decide⟩, rfl, hpr⟩
  have q2 : ((x : Int) == 2) = false := by simp; omega
  have hld := Blk.range_at 0 (cs := [.int .i64 op, .int .i64 lk, .string ls, .int .i64 lvk, .int .i64 lvn, .string lvs, .int .i64 rk, .string rs, .int .i64 rvk, .int .i64 rvn, .string rvs]) HX2 (fun j v h => by simpa using h)
  go_upto_region 9 with fail
  refine wp_region_lit ?_
  refine wpList_load_mid (by rfl) 34 (.tmp 3) (by rfl) _ 0 (by rfl) _ _ hld Tryd.underlying34 (by rfl) (by kernel_rfl) ?_
  refine wpList_store_at (by rfl) 34 (.tmp 2) (.tmp 24) (by rfl) _ [] [.int .i64 0, .int .i64 0, .string ⟨#[]⟩, .int .i64 0, .int .i64 0, .string ⟨#[]⟩, .int .i64 0, .string ⟨#[]⟩, .int .i64 0, .int .i64 0, .string ⟨#[]⟩] [] [.int .i64 op, .int .i64 lk, .string ls, .int .i64 lvk, .int .i64 lvn, .string lvs, .int .i64 rk, .string rs, .int .i64 rvk, .int .i64 rvn, .string rvs] (by rfl) (by rfl) HZ2 (by rfl) (by kernel_rfl) (by simp [Value.oneCell']) (fun W => Cur W g code ∧ w.grownBy W (some g)) (fun W o v h => ⟨Cur.set h.1 hg v, gr_set h.2 (Nat.le_refl _) v⟩) ⟨hc3, hg3⟩ ?_
  intro W' hres hpr
  go_wp2
  exact ret_row (cs := [.int .i64 op, .int .i64 lk, .string ls, .int .i64 lvk, .int .i64 lvn, .string lvs, .int .i64 rk, .string rs, .int .i64 rvk, .int .i64 rvn, .string rvs]) (by rfl) (by rfl) (Blk.range_at 0 hres (fun j v h => by simpa using h)) Tryd.underlying34 (by rfl) (by kernel_rfl) (by rfl) ⟨op, lk, ls, lvk, lvn, lvs, rk, rs, rvk, rvn, rvs, ⟨hl1, hl2, hr1, hr2⟩, rfl, hpr⟩
end Go.Proofs.YtgpinhamgdganaaDoor
