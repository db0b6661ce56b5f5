import Derived.Test.YtgcjhicpkmhbaaaDoorPkArg
import Derived.Test.YtgcjhicpkmhbaaaDoorRow
import Derived.Test.YtgcjhicpkmhbaaaDoorPkValText
import Derived.Test.YtgcjhicpkmhbaaaDoorPkArgOk
/- The laws' helpers on the struct Expr. Each answers what the plain function says and makes at most new blocks. No condition but lengths. -/
namespace Go.Proofs.YtgcjhicpkmhbaaaDoor
open Go.RowKit
set_option maxRecDepth 100000
set_option maxHeartbeats 2000000

structure Ex where
  op : ByteArray
  l : Ag
  r : Ag
deriving DecidableEq
def eC (a : Ex) : List Value := [.string a.op, .int .i64 a.l.k, .string a.l.s, .int .i64 a.l.v.k, .int .i64 a.l.v.n, .string a.l.v.s, .int .i64 a.r.k, .string a.r.s, .int .i64 a.r.v.k, .int .i64 a.r.v.n, .string a.r.v.s]
theorem eC_sz : Sz eC 11 := fun _ => rfl
def szE (a : Ex) : Nat := a.op.size + szA a.l + szA a.r
def goodE (a : Ex) : Prop := a.op.size ≤ 9223372036854775807 ∧ a.l.s.size ≤ 9223372036854775807 ∧ a.l.v.s.size ≤ 9223372036854775807 ∧ a.r.s.size ≤ 9223372036854775807 ∧ a.r.v.s.size ≤ 9223372036854775807
def eC_0 : Ex := ⟨ByteArray.empty, ⟨0, ByteArray.empty, ⟨0, 0, ByteArray.empty⟩⟩, ⟨0, ByteArray.empty, ⟨0, 0, ByteArray.empty⟩⟩⟩
end Go.Proofs.YtgcjhicpkmhbaaaDoor

/- The laws' helpers on the struct Cond. Each answers what the plain function says and makes at most new blocks. No condition but lengths. -/
namespace Go.Proofs.YtgcjhicpkmhbaaaDoor
open Go.RowKit
set_option maxRecDepth 100000
set_option maxHeartbeats 2000000

structure Cd where
  op : Int
  l : Ag
  r : Ag
deriving DecidableEq
def cC (a : Cd) : List Value := [.int .i64 a.op, .int .i64 a.l.k, .string a.l.s, .int .i64 a.l.v.k, .int .i64 a.l.v.n, .string a.l.v.s, .int .i64 a.r.k, .string a.r.s, .int .i64 a.r.v.k, .int .i64 a.r.v.n, .string a.r.v.s]
theorem cC_sz : Sz cC 11 := fun _ => rfl
def szC (a : Cd) : Nat := szA a.l + szA a.r
def goodC (a : Cd) : Prop := a.l.s.size ≤ 9223372036854775807 ∧ a.l.v.s.size ≤ 9223372036854775807 ∧ a.r.s.size ≤ 9223372036854775807 ∧ a.r.v.s.size ≤ 9223372036854775807
def cC_0 : Cd := ⟨0, ⟨0, ByteArray.empty, ⟨0, 0, ByteArray.empty⟩⟩, ⟨0, ByteArray.empty, ⟨0, 0, ByteArray.empty⟩⟩⟩
end Go.Proofs.YtgcjhicpkmhbaaaDoor

/- Texts of arguments, of the program and of the reference. Each answers what the plain function says and makes at most new blocks. Conditions: lengths; an argument that is a value is right; the library's table of powers of ten is as its text lays it. -/
namespace Go.Proofs.YtgcjhicpkmhbaaaDoor
open Go.RowKit
set_option maxRecDepth 100000
set_option maxHeartbeats 4000000
def argText (a : Ag) : ByteArray := if a.k = 1 then a.s else if a.k = 2 then rawText a.v else ⟨#[95]⟩
theorem argOk_val {k : Int} {s : ByteArray} {v : Vl} (h : argOk ⟨k, s, v⟩ = true) (hk : k = 2) : valOk v = true := by
  subst hk
  simp [argOk] at h
  exact h.2
end Go.Proofs.YtgcjhicpkmhbaaaDoor

/- CondOk, ExprOk of the program and of the reference. Each answers what the plain function says and makes at most new blocks. No condition but lengths. -/
namespace Go.Proofs.YtgcjhicpkmhbaaaDoor
open Go.RowKit
set_option maxRecDepth 100000
set_option maxHeartbeats 2000000

def termOk (a : Ag) : Bool := decide (a.k ≠ 3) && argOk a
def condOk (c : Cd) : Bool := inB c.op 1 3 && (termOk c.l && termOk c.r)
end Go.Proofs.YtgcjhicpkmhbaaaDoor

/- Texts of conditions, of the program and of the reference. Each answers what the plain function says and makes at most new blocks. Conditions: lengths; the library's table of powers of ten is as its text lays it. -/
namespace Go.Proofs.YtgcjhicpkmhbaaaDoor
open Go.RowKit
set_option maxRecDepth 100000
set_option maxHeartbeats 4000000
def condText (c : Cd) : ByteArray := if condOk c then ((argText c.l ++ (if c.op = 2 then ⟨#[32, 35, 32]⟩ else if c.op = 3 then ⟨#[32, 60, 32]⟩ else ⟨#[32, 61, 32]⟩)) ++ argText c.r) else ⟨#[]⟩
theorem cat5 (x y : ByteArray) (c : UInt8) : ((((x ++ ⟨#[32]⟩) ++ ⟨#[c]⟩) ++ ⟨#[32]⟩) ++ y : ByteArray) = (x ++ ⟨#[32, c, 32]⟩) ++ y := by
  apply ByteArray.ext
  apply Array.ext'
  simp
theorem numT_len {n : Int} (h0 : -1000000000 ≤ n) (h1 : n ≤ 1000000000) : (numT n).size ≤ 21 := by
  have := Lib.itoa_length_le n (by omega) (by omega)
  unfold numT ByteArray.size
  simpa using this
theorem rawText_len {v : Vl} (h : valOk v = true) : (rawText v).size ≤ 30 := by
  obtain ⟨k, n, s⟩ := v
  unfold rawText
  split
  · rename_i hk
    have := valOk_num h hk
    have := numT_len this.1 this.2
    simp only at *
    omega
  · have := valOk_len h
    show ((⟨#[39]⟩ ++ s) ++ ⟨#[39]⟩ : ByteArray).size ≤ 30
    rw [ByteArray.size_append, ByteArray.size_append]
    have h1 : (⟨#[39]⟩ : ByteArray).size = 1 := rfl
    omega
theorem varOk_len {s : ByteArray} (h : varOk s = true) : s.size ≤ 12 := by
  unfold varOk at h
  simp at h
  omega
theorem argText_len {a : Ag} (h : argOk a = true) : (argText a).size ≤ 100 := by
  obtain ⟨k, s, v⟩ := a
  unfold argText
  by_cases h1 : k = 1
  · subst h1
    simp [argOk] at h
    have := varOk_len h.1
    simp
    omega
  · by_cases h2 : k = 2
    · have := rawText_len (argOk_val h h2)
      simp [h2]
      omega
    · rw [if_neg h1, if_neg h2]
      show (⟨#[95]⟩ : ByteArray).size ≤ 100
      decide
theorem condOk_parts {op : Int} {l r : Ag} (h : condOk ⟨op, l, r⟩ = true) : (op = 1 ∨ op = 2 ∨ op = 3) ∧ (l.k = 2 → valOk l.v = true) ∧ (r.k = 2 → valOk r.v = true) ∧ (argText l).size ≤ 100 ∧ (argText r).size ≤ 100 := by
  obtain ⟨lk, ls, lv⟩ := l
  obtain ⟨rk, rs, rv⟩ := r
  simp [condOk, termOk, inB] at h
  obtain ⟨⟨h1, h2⟩, ⟨_, h3⟩, _, h4⟩ := h
  exact ⟨by omega, argOk_val h3, argOk_val h4, argText_len h3, argText_len h4⟩
theorem argVal_len {k vk vn : Int} {vs : ByteArray} (_ : k = 2 → valOk ⟨vk, vn, vs⟩ = true) (hvs : vs.size ≤ 9223372036854775807) : vs.size ≤ 9223372036854775807 := hvs
end Go.Proofs.YtgcjhicpkmhbaaaDoor
