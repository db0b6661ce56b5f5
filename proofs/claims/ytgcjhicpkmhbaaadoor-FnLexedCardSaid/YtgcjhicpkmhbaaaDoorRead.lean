/- How a law's arguments are opened: from the reading of a value to what the walks are told of it. No condition. -/
import Derived.Test.YtgcjhicpkmhbaaaDoorOwn
import Derived.Test.YtgcjhicpkmhbaaaDoorChecked
import Derived.ProofKit
import Derived.OpenShut
import Derived.ShutString
import Derived.ChangeOld
import Derived.Deep.Fields
namespace Go.Proofs.YtgcjhicpkmhbaaaDoor
open Go.ChangeShapes Go.WideShapes Go.ChangeAt Go.RowKit
open Go.ChangeMaps (open_string shut_string)
open Go.Deep

section
variable {H : Type} {enc : TypeId × Value → H} {P : Program} {W : World} {base : Nat} {r : Reach} {b0 : Nat} {t : TypeId} {v : Value} {d : DataW H} {p : List MemPlace}

theorem open_str (ht : P.underlying t = some .string) (hv : Value.okWide P W r b0 t v) (h : DataW.Trod enc P W 0 (fun _ => true) true t v d p) : ∃ s, v = .string s ∧ s.size ≤ maxLen := by
  obtain ⟨s, hs, _, _, hl⟩ := open_string ht hv h
  exact ⟨s, hs, hl⟩
theorem open_i64 (ht : P.underlying t = some (.int .i64)) (hv : Value.okWide P W r b0 t v) (h : DataW.Trod enc P W 0 (fun _ => true) true t v d p) : ∃ x, v = .int .i64 x ∧ -9223372036854775808 ≤ x ∧ x ≤ 9223372036854775807 := by
  obtain ⟨x, hx, _, _, hl⟩ := open_int ht hv h
  exact ⟨x, hx, bounds_i64 hl⟩
theorem u8_of_wf {x : Int} (h : (Lit.int .u8 x).wf = true) : ((UInt8.ofNat x.toNat).toNat : Int) = x := by
  have h2 := bounds_u8 h
  rw [UInt8.toNat_ofNat']
  omega
theorem open_bytes {e : TypeId} (ht : P.underlying t = some (.slice e)) (he : P.underlying e = some (.int .u8)) (hC : P.cellsOf e = 1) (hv : Value.okWide P W r b0 t v) (h : DataW.Trod enc P W 0 (fun _ => true) true t v d p) :
    ∃ A n c bs, v = .slice A n c ∧ n ≤ c ∧ c ≤ maxLen ∧ RdB W W.heap.size A n bs := by
  obtain ⟨A, n, c, rfl⟩ := okWide_slice ht hv
  obtain ⟨fuel, hf⟩ := h
  rcases open_ints ht he hC hf with ⟨hcs, _⟩ | ⟨x, l, c', zs, hcs, _, hl, hm, hz, hx, hcell, hwz⟩
  · simp [Value.cells] at hcs
    obtain ⟨rfl, rfl, rfl⟩ := hcs
    exact ⟨none, 0, 0, [], rfl, Nat.le_refl _, by simp [maxLen], RdB.nil_ _ _ _⟩
  · simp [Value.cells] at hcs
    obtain ⟨rfl, rfl, rfl⟩ := hcs
    have hz' : zs.length = c := by simpa using hz
    refine ⟨some x, n, c, (zs.take n).map fun z => UInt8.ofNat z.toNat, rfl, hl, hm, by simp; omega, fun h0 => ?_⟩
    obtain ⟨b, o, s⟩ := x
    have h00 := hcell 0 (by omega)
    have hsp : s = none := by simpa [Addr.add] using World.cell?_spot h00
    subst hsp
    refine ⟨b, o, rfl, ?_, fun j u hu => ?_⟩
    · have := hcell 0 (by omega)
      rw [add_lit'] at this
      rcases Nat.lt_or_ge b W.heap.size with hlt | hge
      · exact hlt
      · simp [World.cell?, Array.getElem?_eq_none hge] at this
    · have hj : j < n := by
        rcases Nat.lt_or_ge j n with h1 | h1
        · exact h1
        · rw [List.getElem?_eq_none (by simp; omega)] at hu; cases hu
      have hc := hcell j (by omega)
      rw [add_lit'] at hc
      rw [hc]
      have hget : zs.getD j 0 = zs[j]'(by omega) := by simp [List.getD, List.getElem?_eq_getElem (show j < zs.length by omega)]
      have hw := hwz (zs[j]'(by omega)) (List.getElem_mem _)
      simp only [List.getElem?_map, List.getElem?_take, if_pos hj, List.getElem?_eq_getElem (show j < zs.length by omega), Option.map_some, Option.some.injEq] at hu
      rw [← hu, hget]
      unfold bv
      rw [u8_of_wf hw]
/-- the cells of a value of three fields: two numbers and a text -/
theorem open_iis {w : World} {f0 f1 f2 : Field} {n : Nat} {cs : List Value} {x : DataW H × List MemPlace} {base : Nat} {spare : Nat → Bool} {held : Bool} (hs : P.underlying t = some (.struct #[f0, f1, f2])) (h0 : P.underlying f0.type = some (.int .i64)) (h1 : P.underlying f1.type = some (.int .i64)) (h2 : P.underlying f2.type = some .string)
    (hone : oneCellFields P #[f0, f1, f2] = true) (hl : cs.length = 3) (h : DataW.trod enc P w base spare held n t cs = some x) :
    ∃ k m s, cs = [.int .i64 k, .int .i64 m, .string s] ∧ s.size ≤ maxLen := by
  obtain ⟨xs, n', _, hx, _, hlen, hg⟩ := DataW.trod_struct hs h
  match cs, hl with
  | [c0, c1, c2], _ =>
    obtain ⟨o0, k0⟩ := hone_of hone 0 f0 rfl
    obtain ⟨o1, k1⟩ := hone_of hone 1 f1 rfl
    obtain ⟨o2, k2⟩ := hone_of hone 2 f2 rfl
    have g0 := hg 0 f0 rfl
    have g1 := hg 1 f1 rfl
    have g2 := hg 2 f2 rfl
    rw [o0, k0] at g0
    rw [o1, k1] at g1
    rw [o2, k2] at g2
    obtain ⟨y0, hy0⟩ : ∃ y, DataW.trod enc P w base spare held n' f0.type [c0] = some y := ⟨_, g0.trans (List.getElem?_eq_getElem (by rw [hlen]; simp))⟩
    obtain ⟨y1, hy1⟩ : ∃ y, DataW.trod enc P w base spare held n' f1.type [c1] = some y := ⟨_, g1.trans (List.getElem?_eq_getElem (by rw [hlen]; simp))⟩
    obtain ⟨y2, hy2⟩ : ∃ y, DataW.trod enc P w base spare held n' f2.type [c2] = some y := ⟨_, g2.trans (List.getElem?_eq_getElem (by rw [hlen]; simp))⟩
    obtain ⟨k, e0, _, _⟩ := DataW.trod_int h0 hy0
    obtain ⟨m, e1, _, _⟩ := DataW.trod_int h1 hy1
    obtain ⟨s, e2, _, hsz⟩ := DataW.trod_string h2 hy2
    simp only [List.cons.injEq, and_true] at e0 e1 e2
    exact ⟨k, m, s, by rw [e0, e1, e2], hsz⟩
theorem open_val {f0 f1 f2 : Field} (hs : P.underlying t = some (.struct #[f0, f1, f2])) (h0 : P.underlying f0.type = some (.int .i64)) (h1 : P.underlying f1.type = some (.int .i64)) (h2 : P.underlying f2.type = some .string)
    (hone : oneCellFields P #[f0, f1, f2] = true) (hC : P.cellsOf t = 3) (hv : Value.okWide P W r b0 t v) (h : DataW.Trod enc P W 0 (fun _ => true) true t v d p) :
    ∃ k m s, v = .agg #[.int .i64 k, .int .i64 m, .string s] ∧ s.size ≤ 9223372036854775807 := by
  obtain ⟨cs, rfl, hsz⟩ := okWide_struct hs hv
  obtain ⟨fuel, hf⟩ := h
  have hl : (Value.agg cs).cells.toList.length = 3 := by rw [← hC, ← hsz]; simp [Value.cells]
  obtain ⟨k, m, s, e, hs'⟩ := open_iis hs h0 h1 h2 hone hl hf
  refine ⟨k, m, s, ?_, by simpa [maxLen] using hs'⟩
  obtain ⟨l⟩ := cs
  simp [Value.cells] at e
  rw [e]
end
end Go.Proofs.YtgcjhicpkmhbaaaDoor
