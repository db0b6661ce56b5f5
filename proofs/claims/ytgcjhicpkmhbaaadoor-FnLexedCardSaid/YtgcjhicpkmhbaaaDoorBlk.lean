/- A block that is known whole, and what a drawing call leaves alone. Names no program. No condition. -/
import Derived.Test.YtgcjhicpkmhbaaaDoorDraw2
import Derived.Test.YtgcjhicpkmhbaaaDoorBox
namespace Go.Proofs.YtgcjhicpkmhbaaaDoor
open Go.RowKit
set_option maxRecDepth 100000
set_option maxHeartbeats 2000000

section
variable {a w w' : World} {g : Nat} {code : List UInt8} {row : Option Nat}
theorem gr_alloc (h : a.grownBy w row) (o : Obj) : a.grownBy (w.alloc o) row := World.grownBy.trans h (World.grownBy_alloc w o row)
theorem gr_drew (h : a.grownBy w row) : a.grownBy w.drew row := ⟨h.os, h.tape, h.output, h.size, h.block⟩
theorem gr_drewN (h : a.grownBy w row) (n : Nat) : a.grownBy (w.drewN n) row := grown_drewN h n
theorem gr_set (h : a.grownBy w (some g)) {p : Addr} (hp : a.heap.size ≤ p.block) (u : Value) : a.grownBy (w.setCell p u) (some g) :=
  ⟨h.os, h.tape, h.output, by simpa [World.setCell] using h.size, fun i hi hne => (Below.heap_setCell w p u i (by rintro rfl; omega)).trans (h.block i hi hne)⟩
theorem Cur.alloc (h : Cur w g code) (o : Obj) : Cur (w.alloc o) g code := h.below (bel_alloc (bel_refl _) _)
theorem Cur.drew (h : Cur w g code) : Cur w.drew g code := h
theorem Cur.set (h : Cur w g code) {p : Addr} (hp : g < p.block) (u : Value) : Cur (w.setCell p u) g code :=
  h.below' (B := g + 1) ((Below.refl _ _).setCell (by omega) u) (by omega)
end
theorem gr_cell {w w' : World} {g b o : Nat} {v : Value} (hg : w.grownBy w' (some g)) (h : w.cell? ⟨b, o, none⟩ = some v) (hb : b ≠ g) : w'.cell? ⟨b, o, none⟩ = some v :=
  hg.cell (a := ⟨b, o, none⟩) h (by simpa using hb)
theorem gr_frozen {w w' : World} {g b o : Nat} (hg : w.grownBy w' (some g)) (hl : b < w.heap.size) (h : w.frozen? ⟨b, o, none⟩ = false) (hb : b ≠ g) : w'.frozen? ⟨b, o, none⟩ = false :=
  (World.frozen?_of_block (a := ⟨b, o, none⟩) (hg.block b hl (by simpa using hb))).trans h
/-- a drawn value: of whatever kind, its text is short -/
structure Vl' where
  k : Int
  n : Int
  s : ByteArray
def DrawnV (g : Nat) (code : List UInt8) (w : World) (e : Ending) (w' : World) : Prop :=
  ∃ (k n : Int) (s : ByteArray), s.size ≤ 30 ∧ e = .returned (.agg #[.int .i64 k, .int .i64 n, .string s]) ∧ Cur w' g code ∧ w.grownBy w' (some g)
def DrawnB (g : Nat) (code : List UInt8) (w : World) (e : Ending) (w' : World) : Prop := ∃ b : Bool, e = .returned (.bool b) ∧ Cur w' g code ∧ w.grownBy w' (some g)
def DrawnS (g : Nat) (code : List UInt8) (Q : ByteArray → Prop) (w : World) (e : Ending) (w' : World) : Prop := ∃ s : ByteArray, Q s ∧ e = .returned (.string s) ∧ Cur w' g code ∧ w.grownBy w' (some g)
theorem l1Once_any (g : Nat) (code : List UInt8) (n : Int) (w : World) (hc : Cur w g code) (hn : n ≤ 4611686018427387904) :
    Calls Tryd.prog 38 #[.pointer (some ⟨g, 0, none⟩), .int .i64 n] w (DrawnB g code w) := by
  go_enter Tryd.func38, Tryd.ntmps38
  go_wp2_with fail
  refine (l1Below_any g code n _ hc hn).mono ?_
  rintro e w1 ⟨x, hx, rfl, hc1, hg1⟩
  go_wp2
  go_ret
  exact ⟨_, rfl, hc1, hg1⟩
theorem l1Str_any (g : Nat) (code : List UInt8) (A : Option Addr) (n c : Nat) (xs : List ByteArray) (w : World) (B : Nat) (hc : Cur w g code) (hr : Rd w B 1 A n (xs.map Value.string)) (h0 : 0 < n) (hn : n ≤ 4611686018427387904) (hgr : ∀ b o, A = some ⟨b, o, none⟩ → b ≠ g) :
    Calls Tryd.prog 37 #[.pointer (some ⟨g, 0, none⟩), .slice A n c] w (DrawnS g code (· ∈ xs) w) := by
  have hl : xs.length = n := by simpa using hr.1
  obtain ⟨b, o, rfl, hb, hcell⟩ := hr.2 h0
  have hne := hgr b o rfl
  have HC := Lib.hid hcell; clear hcell
  have HL := Lib.hid hl; clear hl
  go_enter Tryd.func37, Tryd.ntmps37
  go_wp2_with fail
  refine (l1Below_any g code _ _ hc (by omega)).mono ?_
  rintro e w1 ⟨x, hx, rfl, hc1, hg1⟩
  have hxn : x < n := by omega
  have hxl : x < xs.length := by rw [HL.out]; exact hxn
  have hget : w1.cell? ⟨b, o + x, none⟩ = some (.string xs[x]) :=
    hg1.cell (a := ⟨b, o + x, none⟩) (HC.out x _ (by rw [List.getElem?_map, List.getElem?_eq_getElem hxl]; rfl)) (fun e => hne (by injection e))
  go_wp2
  go_ret
  exact ⟨xs[x], List.getElem_mem _, rfl, hc1, hg1⟩
theorem ne_lit {w : World} {g : Nat} (h : g < w.heap.size) : ∀ b o, (some (⟨w.heap.size, 0, none⟩ : Addr)) = some ⟨b, o, none⟩ → b ≠ g := fun b o e => by
  injection e with e; injection e with e1; omega
end Go.Proofs.YtgcjhicpkmhbaaaDoor
