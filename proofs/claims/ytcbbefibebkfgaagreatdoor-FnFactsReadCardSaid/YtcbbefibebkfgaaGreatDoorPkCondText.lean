import Derived.Test.YtcbbefibebkfgaaGreatDoorBox
import Derived.Deep.MidRow
import Derived.Test.YtcbbefibebkfgaaGreatDoorValS
import Derived.Test.YtcbbefibebkfgaaGreatDoorStep
import Derived.Test.YtcbbefibebkfgaaGreatDoorVar
import Derived.Test.YtcbbefibebkfgaaGreatDoorPkValText
/- Whole structs in and out of a block that is known whole; a function's result that lies in a block. Names no program. No condition. -/
namespace Go.Proofs.YtcbbefibebkfgaaGreatDoor
open Go.RowKit

theorem bel_cells {a : World} {b : Nat} : ∀ {w : World} {o : Nat}, Below a.heap.size a w → a.heap.size ≤ b → ∀ cs : List Value, Below a.heap.size a (w.setCells b o cs)
  | w, o, h, hb, [] => h
  | w, o, h, hb, v :: cs => by
    unfold World.setCells
    exact bel_cells (bel_set h hb v) hb cs
theorem Blk.range {w : World} {b : Nat} {t : TypeId} {cs : List Value} (h : Blk w b t cs.toArray) : w.rangeAt b 0 cs := fun j v hv => by
  rw [Nat.zero_add, h.cell j]
  simpa using hv
theorem Blk.there_ {w : World} {b : Nat} {t : TypeId} {cs : Array Value} {n : Nat} (h : Blk w b t cs) (hn : cs.size = n) : w.there b 0 n := fun j hj => by
  rw [Nat.zero_add, h.cell j, h.frozen j]
  exact ⟨by simp; omega, rfl⟩
/-- a whole struct is stored into a block of the call's own: behind it the world is a letter -/
theorem wpList_store_blk {P : Program} {ops : Array Oper} {rest : List Oper} {op : Oper} {a : Act} {w : World} {Q : Exit → Act → World → Prop} (hgd : op.guard = none) (ty : TypeId) (x y : Operand) (ho : op.op = .store ty x y)
    (b : Nat) (cs : List Value) (hx : a.eval x = .pointer (some ⟨b, 0, none⟩)) (hy : a.eval y = .agg cs.toArray) {t : TypeId} {cs0 : Array Value} (hB : Blk w b t cs0) (hn : cs0.size = cs.length)
    (hi : (P.info? ty).map (·.size) = some cs.length) (h1 : ∀ v ∈ cs, v.oneCell' = true) (a0 : World) (hb : Below a0.heap.size a0 w) (hab : a0.heap.size ≤ b)
    (h : ∀ W', W'.rangeAt b 0 cs → Below a0.heap.size a0 W' → wpList P ops Q rest (a.put op.dst undef) W') : wpList P ops Q (op :: rest) a w := by
  refine wpList_store_mid hgd ty x y ho b 0 cs.toArray hx hy (hB.there_ (by simpa using hn)) (by simpa using hi) (all_oneCell_toArray h1) ?_
  exact h _ (World.rangeAt_setCells_same w b 0 cs (hB.there_ (by simpa using hn))) (bel_cells hb hab cs)
section
variable {P : Program} {fn : Func} {R : Ending → World → Prop} {a : Act} {w : World} {t u x : Tmp} {T : TypeId} {d : TypeDesc} {b : Nat} {cs : List Value}
theorem ret_row (h : fn.results = #[.cell t T]) (hp : a.tmps.getD t undef = .pointer (some ⟨b, 0, none⟩)) (hc : w.rangeAt b 0 cs) (hu : P.underlying T = some d) (hd : d.isRow = true) (hi : (P.info? T).map (·.size) = some cs.length)
    (hdf : a.defers = []) (hR : R (.returned (.agg cs.toArray)) w) : bodyPost P fn R .ret a w :=
  bodyPost_ret (v := .agg cs.toArray) (by
    have hp' : a.tmps[t]?.getD undef = .pointer (some ⟨b, 0, none⟩) := by simpa using hp
    simp [results, h, hp', asAddr, run_loadVar_mid w b 0 T cs d hc hu hd hi]) hdf hR
end
end Go.Proofs.YtcbbefibebkfgaaGreatDoor

/- The laws' helpers on the struct Arg. Each answers what the plain function says and makes at most new blocks. No condition but lengths. -/
namespace Go.Proofs.YtcbbefibebkfgaaGreatDoor
open Go.RowKit
set_option maxRecDepth 100000
set_option maxHeartbeats 2000000

structure Ag where
  k : Int
  s : ByteArray
  v : Vl
deriving DecidableEq
def aC (a : Ag) : List Value := [.int .i64 a.k, .string a.s, .int .i64 a.v.k, .int .i64 a.v.n, .string a.v.s]
theorem aC_sz : Sz aC 5 := fun _ => rfl
def szA (a : Ag) : Nat := a.s.size + szOf a.v
def goodA (a : Ag) : Prop := a.s.size ≤ 9223372036854775807 ∧ a.v.s.size ≤ 9223372036854775807
def aC_0 : Ag := ⟨0, ByteArray.empty, ⟨0, 0, ByteArray.empty⟩⟩
end Go.Proofs.YtcbbefibebkfgaaGreatDoor

/- ArgOk, CondOk, ExprOk of the program and of the reference. Each answers what the plain function says and makes at most new blocks. No condition but lengths. -/
namespace Go.Proofs.YtcbbefibebkfgaaGreatDoor
open Go.RowKit
set_option maxRecDepth 100000
set_option maxHeartbeats 2000000

def zV : Vl := ⟨0, 0, ByteArray.empty⟩
def argOk (a : Ag) : Bool := if a.k = 1 then varOk a.s && decide (a.v = zV) else if a.k = 2 then decide (a.s.size = 0) && valOk a.v else if a.k = 3 then decide (a.s.size = 0) && decide (a.v = zV) else false
theorem toList_nil (s : ByteArray) : s.toList = [] ↔ s.size = 0 := by
  rw [ByteArray.toList_eq, ← size_data]
  exact List.length_eq_zero_iff.symm
theorem zV_iff (k n : Int) (s : ByteArray) : decide ((⟨k, n, s⟩ : Vl) = zV) = (decide (k = 0) && (decide (n = 0) && decide (s.size = 0))) := by
  have h : s = ByteArray.empty ↔ s.size = 0 := by
    constructor
    · rintro rfl; rfl
    · intro h
      have := (str_eq s ByteArray.empty)
      rw [(toList_nil s).2 h] at this
      simpa [ByteArray.toList_eq] using this
  unfold zV
  simp only [Vl.mk.injEq, h]
  by_cases h1 : k = 0 <;> by_cases h2 : n = 0 <;> by_cases h3 : s.size = 0 <;> simp [h1, h2, h3]
end Go.Proofs.YtcbbefibebkfgaaGreatDoor

/- The laws' helpers on the struct Expr. Each answers what the plain function says and makes at most new blocks. No condition but lengths. -/
namespace Go.Proofs.YtcbbefibebkfgaaGreatDoor
open Go.RowKit
set_option maxRecDepth 100000
set_option maxHeartbeats 2000000

structure Ex where
  op : ByteArray
  l : Ag
  r : Ag
deriving DecidableEq
def eC (a : Ex) : List Value := [.string a.op, .int .i64 a.l.k, .string a.l.s, .int .i64 a.l.v.k, .int .i64 a.l.v.n, .string a.l.v.s, .int .i64 a.r.k, .string a.r.s, .int .i64 a.r.v.k, .int .i64 a.r.v.n, .string a.r.v.s]
theorem eC_sz : Sz eC 11 := fun _ => rfl
def szE (a : Ex) : Nat := a.op.size + szA a.l + szA a.r
def goodE (a : Ex) : Prop := a.op.size ≤ 9223372036854775807 ∧ a.l.s.size ≤ 9223372036854775807 ∧ a.l.v.s.size ≤ 9223372036854775807 ∧ a.r.s.size ≤ 9223372036854775807 ∧ a.r.v.s.size ≤ 9223372036854775807
def eC_0 : Ex := ⟨ByteArray.empty, ⟨0, ByteArray.empty, ⟨0, 0, ByteArray.empty⟩⟩, ⟨0, ByteArray.empty, ⟨0, 0, ByteArray.empty⟩⟩⟩
end Go.Proofs.YtcbbefibebkfgaaGreatDoor

/- The laws' helpers on the struct Cond. Each answers what the plain function says and makes at most new blocks. No condition but lengths. -/
namespace Go.Proofs.YtcbbefibebkfgaaGreatDoor
open Go.RowKit
set_option maxRecDepth 100000
set_option maxHeartbeats 2000000

structure Cd where
  op : Int
  l : Ag
  r : Ag
deriving DecidableEq
def cC (a : Cd) : List Value := [.int .i64 a.op, .int .i64 a.l.k, .string a.l.s, .int .i64 a.l.v.k, .int .i64 a.l.v.n, .string a.l.v.s, .int .i64 a.r.k, .string a.r.s, .int .i64 a.r.v.k, .int .i64 a.r.v.n, .string a.r.v.s]
theorem cC_sz : Sz cC 11 := fun _ => rfl
def szC (a : Cd) : Nat := szA a.l + szA a.r
def goodC (a : Cd) : Prop := a.l.s.size ≤ 9223372036854775807 ∧ a.l.v.s.size ≤ 9223372036854775807 ∧ a.r.s.size ≤ 9223372036854775807 ∧ a.r.v.s.size ≤ 9223372036854775807
def cC_0 : Cd := ⟨0, ⟨0, ByteArray.empty, ⟨0, 0, ByteArray.empty⟩⟩, ⟨0, ByteArray.empty, ⟨0, 0, ByteArray.empty⟩⟩⟩
end Go.Proofs.YtcbbefibebkfgaaGreatDoor

/- Texts of arguments, of the program and of the reference. Each answers what the plain function says and makes at most new blocks. Conditions: lengths; an argument that is a value is right; the library's table of powers of ten is as its text lays it. -/
namespace Go.Proofs.YtcbbefibebkfgaaGreatDoor
open Go.RowKit
set_option maxRecDepth 100000
set_option maxHeartbeats 4000000
def argText (a : Ag) : ByteArray := if a.k = 1 then a.s else if a.k = 2 then rawText a.v else ⟨#[95]⟩
theorem argOk_val {k : Int} {s : ByteArray} {v : Vl} (h : argOk ⟨k, s, v⟩ = true) (hk : k = 2) : valOk v = true := by
  subst hk
  simp [argOk] at h
  exact h.2
end Go.Proofs.YtcbbefibebkfgaaGreatDoor

/- CondOk, ExprOk of the program and of the reference. Each answers what the plain function says and makes at most new blocks. No condition but lengths. -/
namespace Go.Proofs.YtcbbefibebkfgaaGreatDoor
open Go.RowKit
set_option maxRecDepth 100000
set_option maxHeartbeats 2000000

def termOk (a : Ag) : Bool := decide (a.k ≠ 3) && argOk a
def condOk (c : Cd) : Bool := inB c.op 1 3 && (termOk c.l && termOk c.r)
end Go.Proofs.YtcbbefibebkfgaaGreatDoor

/- Texts of conditions, of the program and of the reference. Each answers what the plain function says and makes at most new blocks. Conditions: lengths; the library's table of powers of ten is as its text lays it. -/
namespace Go.Proofs.YtcbbefibebkfgaaGreatDoor
open Go.RowKit
set_option maxRecDepth 100000
set_option maxHeartbeats 4000000
def condText (c : Cd) : ByteArray := if condOk c then ((argText c.l ++ (if c.op = 2 then ⟨#[32, 35, 32]⟩ else if c.op = 3 then ⟨#[32, 60, 32]⟩ else ⟨#[32, 61, 32]⟩)) ++ argText c.r) else ⟨#[]⟩
theorem cat5 (x y : ByteArray) (c : UInt8) : ((((x ++ ⟨#[32]⟩) ++ ⟨#[c]⟩) ++ ⟨#[32]⟩) ++ y : ByteArray) = (x ++ ⟨#[32, c, 32]⟩) ++ y := by
  apply ByteArray.ext
  apply Array.ext'
  simp
theorem numT_len {n : Int} (h0 : -1000000000 ≤ n) (h1 : n ≤ 1000000000) : (numT n).size ≤ 21 := by
  have := Lib.itoa_length_le n (by omega) (by omega)
  unfold numT ByteArray.size
  simpa using this
theorem rawText_len {v : Vl} (h : valOk v = true) : (rawText v).size ≤ 30 := by
  obtain ⟨k, n, s⟩ := v
  unfold rawText
  split
  · rename_i hk
    have := valOk_num h hk
    have := numT_len this.1 this.2
    simp only at *
    omega
  · have := valOk_len h
    show ((⟨#[39]⟩ ++ s) ++ ⟨#[39]⟩ : ByteArray).size ≤ 30
    rw [ByteArray.size_append, ByteArray.size_append]
    have h1 : (⟨#[39]⟩ : ByteArray).size = 1 := rfl
    omega
theorem varOk_len {s : ByteArray} (h : varOk s = true) : s.size ≤ 12 := by
  unfold varOk at h
  simp at h
  omega
theorem argText_len {a : Ag} (h : argOk a = true) : (argText a).size ≤ 100 := by
  obtain ⟨k, s, v⟩ := a
  unfold argText
  by_cases h1 : k = 1
  · subst h1
    simp [argOk] at h
    have := varOk_len h.1
    simp
    omega
  · by_cases h2 : k = 2
    · have := rawText_len (argOk_val h h2)
      simp [h2]
      omega
    · rw [if_neg h1, if_neg h2]
      show (⟨#[95]⟩ : ByteArray).size ≤ 100
      decide
theorem condOk_parts {op : Int} {l r : Ag} (h : condOk ⟨op, l, r⟩ = true) : (op = 1 ∨ op = 2 ∨ op = 3) ∧ (l.k = 2 → valOk l.v = true) ∧ (r.k = 2 → valOk r.v = true) ∧ (argText l).size ≤ 100 ∧ (argText r).size ≤ 100 := by
  obtain ⟨lk, ls, lv⟩ := l
  obtain ⟨rk, rs, rv⟩ := r
  simp [condOk, termOk, inB] at h
  obtain ⟨⟨h1, h2⟩, ⟨_, h3⟩, _, h4⟩ := h
  exact ⟨by omega, argOk_val h3, argOk_val h4, argText_len h3, argText_len h4⟩
theorem argVal_len {k vk vn : Int} {vs : ByteArray} (_ : k = 2 → valOk ⟨vk, vn, vs⟩ = true) (hvs : vs.size ≤ 9223372036854775807) : vs.size ≤ 9223372036854775807 := hvs
end Go.Proofs.YtcbbefibebkfgaaGreatDoor
