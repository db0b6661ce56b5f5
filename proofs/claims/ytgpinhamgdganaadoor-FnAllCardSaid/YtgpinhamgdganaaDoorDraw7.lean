/- What the drawing functions of conditions answer. No condition but lengths. -/
import Derived.Test.YtgpinhamgdganaaDoorDraw6
import Derived.Test.YtgpinhamgdganaaDoorCond
import Derived.Test.YtgpinhamgdganaaDoorRow
namespace Go.Proofs.YtgpinhamgdganaaDoor
open Go.RowKit
set_option maxRecDepth 100000
set_option maxHeartbeats 4000000
theorem pr_cells {Pr : World → Prop} {b : Nat} (hQ : ∀ W o v, Pr W → Pr (W.setCell ⟨b, o, none⟩ v)) : ∀ {w : World} {o : Nat}, Pr w → ∀ cs : List Value, Pr (w.setCells b o cs)
  | w, o, h, [] => h
  | w, o, h, v :: cs => by
    unfold World.setCells
    exact pr_cells hQ (hQ _ _ _ h) cs
theorem wpList_store_pr {P : Program} {ops : Array Oper} {rest : List Oper} {op : Oper} {a : Act} {w : World} {Q : Exit → Act → World → Prop} (hgd : op.guard = none) (ty : TypeId) (x y : Operand) (ho : op.op = .store ty x y)
    (b : Nat) (cs : List Value) (hx : a.eval x = .pointer (some ⟨b, 0, none⟩)) (hy : a.eval y = .agg cs.toArray) {t : TypeId} {cs0 : Array Value} (hB : Blk w b t cs0) (hn : cs0.size = cs.length)
    (hi : (P.info? ty).map (·.size) = some cs.length) (h1 : ∀ v ∈ cs, v.oneCell' = true) (Pr : World → Prop) (hQ : ∀ W o v, Pr W → Pr (W.setCell ⟨b, o, none⟩ v)) (hp : Pr w)
    (h : ∀ W', W'.rangeAt b 0 cs → Pr W' → wpList P ops Q rest (a.put op.dst undef) W') : wpList P ops Q (op :: rest) a w := by
  refine wpList_store_mid hgd ty x y ho b 0 cs.toArray hx hy (hB.there_ (by simpa using hn)) (by simpa using hi) (all_oneCell_toArray h1) ?_
  exact h _ (World.rangeAt_setCells_same w b 0 cs (hB.there_ (by simpa using hn))) (pr_cells hQ hp cs)
theorem l7Draw_any (g : Nat) (code : List UInt8) (w : World) (hc : Cur w g code) : Calls Tryd.prog 65 #[.pointer (some ⟨g, 0, none⟩)] w fun e w' =>
    ∃ (op lk : Int) (ls : ByteArray) (lvk lvn : Int) (lvs : ByteArray) (rk : Int) (rs : ByteArray) (rvk rvn : Int) (rvs : ByteArray), (ls.size ≤ 30 ∧ lvs.size ≤ 30 ∧ rs.size ≤ 30 ∧ rvs.size ≤ 30) ∧ e = .returned (.agg #[.int .i64 op, .int .i64 lk, .string ls, .int .i64 lvk, .int .i64 lvn, .string lvs, .int .i64 rk, .string rs, .int .i64 rvk, .int .i64 rvn, .string rvs]) ∧ Cur w' g code ∧ w.grownBy w' (some g) := by
  have hg := hc.lt
  have HZ := Blk.new w 34 #[.int .i64 0, .int .i64 0, .string ⟨#[]⟩, .int .i64 0, .int .i64 0, .string ⟨#[]⟩, .int .i64 0, .string ⟨#[]⟩, .int .i64 0, .int .i64 0, .string ⟨#[]⟩]
  go_enter Tryd.func65, Tryd.ntmps65
  go_wp2_with fail
  refine (l1Below_any g code 3 _ (hc.alloc _) (by omega)).mono ?_
  rintro e w1 ⟨x, hx, rfl, hc1, hg1⟩
  replace HZ := HZ.grown hg1 (by omega)
  replace hg1 := (World.grownBy_alloc w _ (some g)).trans hg1
  go_wp2_with fail
  refine (l7Arg_any g code _ hc1).mono ?_
  rintro e w2 ⟨lk, ls, lvk, lvn, lvs, hl1, hl2, rfl, hc2, hg2⟩
  replace HZ := HZ.grown hg2 (by omega)
  replace hg2 := World.grownBy.trans hg1 hg2
  go_wp2_with fail
  refine (l7Arg_any g code _ hc2).mono ?_
  rintro e w3 ⟨rk, rs, rvk, rvn, rvs, hr1, hr2, rfl, hc3, hg3⟩
  replace HZ := HZ.grown hg3 (by omega)
  replace hg3 := World.grownBy.trans hg2 hg3
  have hs3 := hg3.size
  go_wp2_with (refine wpList_store_pr (by rfl) 34 (.tmp 2) (.tmp 10) (by rfl) _ [.int .i64 (1 + x), .int .i64 lk, .string ls, .int .i64 lvk, .int .i64 lvn, .string lvs, .int .i64 rk, .string rs, .int .i64 rvk, .int .i64 rvn, .string rvs] (by rfl) (by rfl) HZ (by rfl) (by kernel_rfl) (by simp [Value.oneCell']) (fun W => Cur W g code ∧ w.grownBy W (some g)) (fun W o v h => ⟨Cur.set h.1 hg v, gr_set h.2 (Nat.le_refl _) v⟩) ⟨hc3, hg3⟩ ?_; intro W' hres hpr)
  exact ret_row (cs := [.int .i64 (1 + x), .int .i64 lk, .string ls, .int .i64 lvk, .int .i64 lvn, .string lvs, .int .i64 rk, .string rs, .int .i64 rvk, .int .i64 rvn, .string rvs]) (by rfl) (by rfl) hres Tryd.underlying34 (by rfl) (by kernel_rfl) (by rfl) ⟨1 + x, lk, ls, lvk, lvn, lvs, rk, rs, rvk, rvn, rvs, ⟨hl1, hl2, hr1, hr2⟩, rfl, hpr⟩
end Go.Proofs.YtgpinhamgdganaaDoor
