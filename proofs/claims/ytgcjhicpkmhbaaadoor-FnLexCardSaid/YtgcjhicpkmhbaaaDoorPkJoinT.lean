import Derived.Test.YtgcjhicpkmhbaaaDoorShelfT
import Derived.Lib.Join
import Derived.Test.YtgcjhicpkmhbaaaDoorStringS
import Derived.Test.YtgcjhicpkmhbaaaDoorPkNumT
import Derived.Test.YtgcjhicpkmhbaaaDoorBox
/- Texts that are joined: plain laws, and the library's Join over a row of texts. Conditions: lengths. -/
namespace Go.Proofs.YtgcjhicpkmhbaaaDoor
open Go.RowKit
set_option maxRecDepth 100000
set_option maxHeartbeats 4000000
theorem blk_bel2 {w w' : World} {b B : Nat} {t : TypeId} {cs : Array Value} (h : Blk w b t cs) (hb : Below B w w') (hB : b < B) : Blk w' b t cs := (hb.block b hB).trans h
def joinB (sep : ByteArray) (l : List ByteArray) : ByteArray := ⟨(Lib.join (l.map (·.data.toList)) sep.data.toList).toArray⟩
theorem joinB_nil (sep : ByteArray) : joinB sep [] = ⟨#[]⟩ := rfl
theorem joinB_one (sep x : ByteArray) : joinB sep [x] = x := by
  unfold joinB
  apply ByteArray.ext
  simp [Lib.join_one]
theorem join_snoc (s y : List UInt8) : ∀ xs : List (List UInt8), xs ≠ [] → Lib.join (xs ++ [y]) s = Lib.join xs s ++ (s ++ y)
  | [], h => absurd rfl h
  | x :: r, _ => by
    rw [List.cons_append, Lib.join_cons, Lib.join_cons]
    simp [Lib.joinTail]
theorem joinB_snoc (sep x : ByteArray) {l : List ByteArray} (h : l ≠ []) : joinB sep (l ++ [x]) = (joinB sep l ++ sep) ++ x := by
  unfold joinB
  apply ByteArray.ext
  apply Array.ext'
  rw [List.map_append, List.map_singleton, join_snoc _ _ _ (by simpa using h)]
  simp
theorem joinB_step (sep : ByteArray) {l : List ByteArray} {k : Nat} (h : k < l.length) : joinB sep (l.take (k + 1)) = if k = 0 then l[k] else (joinB sep (l.take k) ++ sep) ++ l[k] := by
  rw [List.take_succ_eq_append_getElem h]
  by_cases h0 : k = 0
  · subst h0
    simp [joinB_one]
  · rw [if_neg h0, joinB_snoc]
    intro he
    have := congrArg List.length he
    rw [List.length_take, List.length_nil] at this
    omega
theorem lens_le {M : Nat} : ∀ l : List ByteArray, (∀ x ∈ l, x.size ≤ M) → Lib.lens (l.map (·.data.toList)) ≤ l.length * M
  | [], _ => by simp [Lib.lens]
  | x :: r, h => by
    have h1 := lens_le r (fun y hy => h y (List.mem_cons_of_mem _ hy))
    have h2 := h x List.mem_cons_self
    have e : (x :: r).length * M = r.length * M + M := by rw [List.length_cons, Nat.add_mul, Nat.one_mul]
    have e2 : Lib.lens ((x :: r).map (·.data.toList)) = x.size + Lib.lens (r.map (·.data.toList)) := by
      rw [← size_data]
      simp [Lib.lens]
    rw [e, e2]
    omega
theorem joinB_len {M : Nat} (sep : ByteArray) : ∀ l : List ByteArray, (∀ x ∈ l, x.size ≤ M) → (joinB sep l).size ≤ l.length * (M + sep.size)
  | [], _ => Nat.le_trans (Nat.le_of_eq (show (joinB sep []).size = 0 from rfl)) (Nat.zero_le _)
  | x :: r, h => by
    have h1 := lens_le (x :: r) h
    show (joinB sep (x :: r)).data.size ≤ _
    unfold joinB
    rw [List.size_toArray, List.map_cons, Lib.join_length]
    rw [← List.map_cons (f := fun z : ByteArray => z.data.toList), List.length_map, size_data]
    have e : (x :: r).length * (M + sep.size) = (x :: r).length * M + (sep.size * r.length + sep.size) := by
      rw [Nat.mul_add, List.length_cons, Nat.add_mul r.length 1 sep.size, Nat.one_mul, Nat.mul_comm r.length sep.size]
    rw [e]
    omega
theorem joinB_any (A : Option Addr) (c : Nat) (xs : List ByteArray) (sep : ByteArray) (w : World) (B : Nat) (hr : RdS sC 1 w B A xs.length xs) (hc : xs.length ≤ c) (hN : xs.length ≤ 140737488355328) (hlen : (joinB sep xs).size ≤ 140737488355328) :
    Calls Tryd.prog 28 #[.slice A xs.length c, .string sep] w fun e w' => e = .returned (.string (joinB sep xs)) ∧ Below w.heap.size w w' := by
  cases xs with
  | nil => exact (Tryd.strings_Join_none A c sep w).mono fun e w' ⟨he, hw⟩ => ⟨he, hw ▸ Below.refl _ _⟩
  | cons x r =>
    obtain ⟨b, o, rfl, hb, hcell⟩ := hr.2.string_ (by simp)
    refine Tryd.strings_Join b o c (x :: r) sep w (fun j y hy => ?_) (Nat.lt_of_lt_of_le hb hr.1) hN hc (by have := hlen; unfold joinB at this; simpa [ByteArray.size] using this)
    have hj := (List.getElem?_eq_some_iff.1 hy).1
    obtain ⟨es, he, hcc⟩ := hcell j hj
    rw [hcc, ← he]
    rw [List.getElem?_eq_getElem hj] at hy
    injection hy with hy
    rw [hy]
end Go.Proofs.YtgcjhicpkmhbaaaDoor
