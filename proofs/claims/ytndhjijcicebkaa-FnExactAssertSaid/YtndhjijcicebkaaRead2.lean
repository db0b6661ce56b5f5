/- How a law's arguments that hold slices of structs are opened. No condition. -/
import Derived.Test.YtndhjijcicebkaaRead
import Derived.Test.YtndhjijcicebkaaFact
import Derived.Deep.Slices
namespace Go.Proofs.Ytndhjijcicebkaa
open Go.ChangeShapes Go.WideShapes Go.ChangeAt Go.RowKit
open Go.Deep
set_option maxRecDepth 100000

theorem exists_list {α : Type} {p : Nat → α → Prop} : ∀ n, (∀ i, i < n → ∃ a, p i a) → ∃ xs : List α, xs.length = n ∧ ∀ i (h : i < xs.length), p i xs[i]
  | 0, _ => ⟨[], rfl, fun i h => absurd h (by simp)⟩
  | n + 1, h => by
    obtain ⟨xs, hl, hx⟩ := exists_list n fun i hi => h i (by omega)
    obtain ⟨a, ha⟩ := h n (by omega)
    refine ⟨xs ++ [a], by simp [hl], fun i hi => ?_⟩
    by_cases hin : i < xs.length
    · rw [List.getElem_append_left hin]; exact hx i hin
    · have : i = n := by simp at hi; omega
      subst this
      rw [List.getElem_append_right (by omega)]
      simpa using ha
section
variable {H : Type} {enc : TypeId × Value → H} {P : Program} {W : World} {base : Nat} {spare : Nat → Bool} {held : Bool} {fuel : Nat} {t : TypeId} {cs : List Value} {x : DataW H × List MemPlace}
theorem field_of {fs : Array Field} (hs : P.underlying t = some (.struct fs)) (h : DataW.trod enc P W base spare held fuel t cs = some x) (i : Nat) (f : Field) (hf : fs[i]? = some f) (o z : Nat) (ho : f.offset = o) (hz : P.cellsOf f.type = z) :
    ∃ n y, DataW.trod enc P W base spare held n f.type ((cs.drop o).take z) = some y := by
  obtain ⟨xs, n, _, _, _, hlen, hg⟩ := DataW.trod_struct hs h
  have hi : i < fs.size := (Array.getElem?_eq_some_iff.1 hf).1
  have := hg i f hf
  rw [ho, hz] at this
  exact ⟨n, _, this.trans (List.getElem?_eq_getElem (by rw [hlen]; exact hi))⟩
theorem read_int {c : Value} (ht : P.underlying t = some (.int .i64)) (h : DataW.trod enc P W base spare held fuel t [c] = some x) : ∃ n : Int, c = .int .i64 n := by
  obtain ⟨k, e0, _, _⟩ := DataW.trod_int ht h
  simp only [List.cons.injEq, and_true] at e0
  exact ⟨k, e0⟩
theorem read_bool {c : Value} (ht : P.underlying t = some .bool) (h : DataW.trod enc P W base spare held fuel t [c] = some x) : ∃ n : Bool, c = .bool n := by
  obtain ⟨k, e0, _⟩ := DataW.trod_bool ht h
  simp only [List.cons.injEq, and_true] at e0
  exact ⟨k, e0⟩
theorem read_str {c : Value} (ht : P.underlying t = some .string) (h : DataW.trod enc P W base spare held fuel t [c] = some x) : ∃ s : ByteArray, c = .string s ∧ s.size ≤ 9223372036854775807 := by
  obtain ⟨s, e2, _, hsz⟩ := DataW.trod_string ht h
  simp only [List.cons.injEq, and_true] at e2
  exact ⟨s, e2, by simpa [maxLen] using hsz⟩
theorem read_list {α : Type} {f : α → List Value} {z : Nat} {good : α → Prop} {e : TypeId} (ht : P.underlying t = some (.slice e)) (hC : P.cellsOf e = z) (hz : 0 < z) (hf : Sz f z)
    (he : ∀ n cs x, DataW.trod enc P W base spare held n e cs = some x → cs.length = z → ∃ a, cs = f a ∧ good a) (h : DataW.trod enc P W base spare held fuel t cs = some x) :
    ∃ A n c xs, cs = [.slice A n c] ∧ n ≤ c ∧ c ≤ 9223372036854775807 ∧ RdS f z W W.heap.size A n xs ∧ ∀ a ∈ xs, good a := by
  rcases open_slice ht h with ⟨hcs, _⟩ | ⟨ad, len, cap, m, n, D, Pl, hcs, hb, hl, hm, hmm, hx, hi⟩
  · exact ⟨none, 0, 0, [], hcs, Nat.le_refl _, by omega, ⟨Nat.le_refl _, RdT.nil_ _ _ _⟩, fun _ h => by cases h⟩
  · have hlm : len ≤ m := by rw [hmm]; split <;> omega
    obtain ⟨xs, hxl, hxs⟩ := exists_list (p := fun i a => W.cells? base (ad.add (i * z)) z = some (f a) ∧ good a) len fun i hil => by
      obtain ⟨cs', hc, htr⟩ := hi i (by omega)
      rw [hC] at hc
      obtain ⟨a, ha, hg⟩ := he n cs' _ htr (World.cells?_some hc).2.1
      exact ⟨a, by rw [hc, ha], hg⟩
    refine ⟨some ad, len, cap, xs, hcs, hl, by simpa [maxLen] using hm, ⟨Nat.le_refl _, hxl, by rw [fl_len hf, hxl], fun h0 => ?_⟩, fun a ha => ?_⟩
    · obtain ⟨b, o, s⟩ := ad
      have hat : ∀ k, (hk : k < xs.length) → ∀ d, d < z → W.cell? ((⟨b, o, s⟩ : Addr).add (k * z + d)) = (f xs[k])[d]? := fun k hk d hd => by
        have := (World.cells?_some (hxs k hk).1).2.2 d hd
        rwa [add_add] at this
      have h00 := hat 0 (by omega) 0 hz
      rw [List.getElem?_eq_getElem (by rw [hf]; exact hz)] at h00
      have hsp : s = none := by simpa [Addr.add] using World.cell?_spot h00
      subst hsp
      refine ⟨b, o, rfl, ?_, fun j u hu => ?_⟩
      · rw [add_lit'] at h00
        exact cell_lt h00
      · have hj : j < xs.length * z := by
          rcases Nat.lt_or_ge j (xs.length * z) with h1 | h1
          · exact h1
          · rw [List.getElem?_eq_none (by rw [fl_len hf]; exact h1)] at hu; cases hu
        have hk : j / z < xs.length := Nat.div_lt_of_lt_mul (by rw [Nat.mul_comm]; exact hj)
        have hd : j % z < z := Nat.mod_lt _ hz
        have e : j = j / z * z + j % z := by rw [Nat.mul_comm]; exact (Nat.div_add_mod j z).symm
        have h1 := hat (j / z) hk (j % z) hd
        rw [← e, add_lit'] at h1
        rw [h1, ← hu]
        have h2 := fl_get hf xs (j / z) (j % z) hk hd
        rw [← e] at h2
        exact h2.symm
    · obtain ⟨i, hil, rfl⟩ := List.getElem_of_mem ha
      exact (hxs i hil).2
/-- a struct of two numbers and a text as a value -/
theorem read_iis {f0 f1 f2 : Field} (hs : P.underlying t = some (.struct #[f0, f1, f2])) (h0 : P.underlying f0.type = some (.int .i64)) (h1 : P.underlying f1.type = some (.int .i64)) (h2 : P.underlying f2.type = some .string)
    (hone : oneCellFields P #[f0, f1, f2] = true) : ∀ n cs (x : DataW H × List MemPlace), DataW.trod enc P W base spare held n t cs = some x → cs.length = 3 → ∃ a : Vl, cs = vC a ∧ a.s.size ≤ 9223372036854775807 := by
  intro n cs x h hl
  obtain ⟨k, m, s, e, hs'⟩ := open_iis hs h0 h1 h2 hone hl h
  exact ⟨⟨k, m, s⟩, e, by simpa [maxLen] using hs'⟩
end
theorem open_fact {H : Type} {enc : TypeId × Value → H} {W : World} {r : Reach} {b0 : Nat} {v : Value} {d : DataW H} {p : List MemPlace} (hv : Value.okWide Try.prog W r b0 27 v) (h : DataW.Trod enc Try.prog W 0 (fun _ => true) true 27 v d p) :
    ∃ kd A n c xs, v = .agg #[.string kd, .slice A n c] ∧ n ≤ c ∧ c ≤ 9223372036854775807 ∧ kd.size ≤ 9223372036854775807 ∧ RdS vC 3 W W.heap.size A n xs ∧ ∀ a ∈ xs, a.s.size ≤ 9223372036854775807 := by
  obtain ⟨cs, rfl, hsz⟩ := okWide_struct Try.underlying27 hv
  obtain ⟨fuel, hf⟩ := h
  have hC : Try.prog.cellsOf 27 = 2 := by kernel_rfl
  obtain ⟨l⟩ := cs
  match l, hsz.trans hC with
  | [c0, c1], _ =>
    obtain ⟨n0, y0, t0⟩ := field_of Try.underlying27 hf 0 _ rfl 0 1 rfl (by kernel_rfl)
    obtain ⟨n1, y1, t1⟩ := field_of Try.underlying27 hf 1 _ rfl 1 1 rfl (by kernel_rfl)
    obtain ⟨kd, rfl, hk⟩ := read_str Try.underlying9 t0
    obtain ⟨A, n, c, xs, e, h1, h2, h3, h4⟩ := read_list (f := vC) (z := 3) Try.underlying25 (by kernel_rfl) (by omega) vC_sz (read_iis Try.underlying96 Try.underlying3 Try.underlying3 Try.underlying9 (by kernel_rfl)) t1
    simp [Value.cells] at e
    exact ⟨kd, A, n, c, xs, by rw [e], h1, h2, hk, h3, h4⟩
end Go.Proofs.Ytndhjijcicebkaa
