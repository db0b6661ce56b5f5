/- Plain laws of stores: what a right store is; a fact asserted; an item retracted. Names no program. No condition. -/
import Derived.Test.YtndhjijcicebkaaStoreOk2
import Derived.Test.YtndhjijcicebkaaFactOf
namespace Go.Proofs.Ytndhjijcicebkaa
open Go.RowKit
def Right (l : List It) (nx : Int) : Prop := (1 ≤ nx ∧ nx ≤ 1000000) ∧ l.length ≤ 40 ∧ (∀ x ∈ l, factOk x.f = true ∧ 1 ≤ x.id ∧ x.id < nx) ∧ l.Pairwise (fun a b => a.id < b.id) ∧ l.Pairwise (fun a b => a.f ≠ b.f)
theorem idOf_mem : ∀ {l : List It} {x : It}, l.Pairwise (fun a b => a.f ≠ b.f) → x ∈ l → idOf l x.f = x.id
  | y :: l, x, h, hx => by
    rw [List.pairwise_cons] at h
    rw [idOf]
    rcases List.mem_cons.1 hx with rfl | hx
    · rw [if_pos rfl]
    · rw [if_neg (h.1 x hx), idOf_mem h.2 hx]
theorem factOf_mem : ∀ {l : List It} {x : It}, l.Pairwise (fun a b => a.id < b.id) → x ∈ l → factOf l x.id = (x.f, true)
  | y :: l, x, h, hx => by
    rw [List.pairwise_cons] at h
    rw [factOf]
    rcases List.mem_cons.1 hx with rfl | hx
    · rw [if_pos rfl]
    · rw [if_neg (by have := h.1 x hx; omega), factOf_mem h.2 hx]
theorem idOf_zero : ∀ {l : List It} {f : Ft}, (∀ x ∈ l, 1 ≤ x.id) → idOf l f = 0 → ∀ x ∈ l, x.f ≠ f
  | y :: l, f, h, h0, x, hx => by
    rw [idOf] at h0
    split at h0
    · have := h y (by simp); omega
    · rename_i hy
      rcases List.mem_cons.1 hx with rfl | hx
      · exact hy
      · exact idOf_zero (fun z hz => h z (List.mem_cons_of_mem _ hz)) h0 x hx
theorem idOf_none : ∀ {l : List It} {f : Ft}, (∀ x ∈ l, x.f ≠ f) → idOf l f = 0
  | [], _, _ => rfl
  | y :: l, f, h => by rw [idOf, if_neg (h y (by simp)), idOf_none fun z hz => h z (List.mem_cons_of_mem _ hz)]
theorem idOf_some : ∀ {l : List It} {f : Ft}, idOf l f ≠ 0 → ∃ x ∈ l, x.f = f ∧ x.id = idOf l f
  | [], _, h => absurd rfl h
  | y :: l, f, h => by
    rw [idOf] at h ⊢
    split
    · rename_i hy; exact ⟨y, by simp, hy, rfl⟩
    · rename_i hy
      rw [if_neg hy] at h
      obtain ⟨x, hx, h1, h2⟩ := idOf_some h
      exact ⟨x, List.mem_cons_of_mem _ hx, h1, h2⟩
theorem factOf_none : ∀ {l : List It} {id : Int}, (∀ x ∈ l, x.id ≠ id) → factOf l id = (⟨⟨#[]⟩, []⟩, false)
  | [], _, _ => rfl
  | y :: l, id, h => by rw [factOf, if_neg (h y (by simp)), factOf_none fun z hz => h z (List.mem_cons_of_mem _ hz)]
theorem factOf_some : ∀ {l : List It} {id : Int} {f : Ft}, factOf l id = (f, true) → ∃ x ∈ l, x.id = id ∧ x.f = f
  | [], id, f, h => by rw [factOf] at h; cases h
  | y :: l, id, f, h => by
    rw [factOf] at h
    split at h
    · rename_i hy
      injection h with h
      exact ⟨y, by simp, hy, h⟩
    · obtain ⟨x, hx, h1⟩ := factOf_some h
      exact ⟨x, List.mem_cons_of_mem _ hx, h1⟩
theorem storeOk_right {l : List It} {nx : Int} (h : storeOk ⟨l, nx⟩ = true) : Right l nx := by
  unfold storeOk inB at h
  simp only [Bool.and_eq_true, decide_eq_true_eq, List.all_eq_true] at h
  obtain ⟨h1, h2, h3⟩ := h
  have hok : ∀ k, k < l.length → itemOk nx l k = true := fun k hk => h3 k (List.mem_range.2 hk)
  have hlt : ∀ d i (h : i + d + 1 < l.length), l[i].id < l[i + d + 1].id := by
    intro d
    induction d with
    | zero =>
      intro i hi
      have := (itemOk_id hi (hok _ hi)).2 (by omega) (by omega)
      simpa using this
    | succ d ih =>
      intro i hi
      have e1 := ih i (by omega)
      have e2 := (itemOk_id (k := i + (d + 1) + 1) hi (hok _ hi)).2 (by omega) (by omega)
      simp only [Nat.add_sub_cancel] at e2
      have e3 : l[i + (d + 1)].id = l[i + d + 1].id := rfl
      omega
  have hinc : l.Pairwise (fun a b => a.id < b.id) := by
    rw [List.pairwise_iff_getElem]
    intro i j hi hj hij
    have := hlt (j - i - 1) i (by omega)
    have e : i + (j - i - 1) + 1 = j := by omega
    simp only [e] at this
    exact this
  refine ⟨h1, h2, ?_, hinc, ?_⟩
  · intro x hx
    obtain ⟨k, hk, rfl⟩ := List.getElem_of_mem hx
    have := hok k hk
    rw [itemOk_at (List.getElem?_eq_getElem hk)] at this
    simp only [Bool.and_eq_true, decide_eq_true_eq] at this
    exact ⟨this.1, this.2.1, this.2.2.1⟩
  · rw [List.pairwise_iff_getElem] at hinc ⊢
    intro i j hi hj hij hf
    have e1 := (itemOk_id hi (hok i hi)).1
    have e2 := (itemOk_id hj (hok j hj)).1
    rw [hf, e2] at e1
    have := hinc i j hi hj hij
    omega
theorem right_storeOk {l : List It} {nx : Int} (h : Right l nx) : storeOk ⟨l, nx⟩ = true := by
  obtain ⟨h1, h2, h3, h4, h5⟩ := h
  refine storeOk_good ?_ h2 ?_
  · unfold inB; rw [Bool.and_eq_true, decide_eq_true_eq, decide_eq_true_eq]; exact h1
  · intro k hk
    rw [itemOk_at (List.getElem?_eq_getElem hk)]
    obtain ⟨q1, q2, q3⟩ := h3 _ (List.getElem_mem hk)
    rw [q1, decide_eq_true q2, decide_eq_true q3, decide_eq_true (idOf_mem h5 (List.getElem_mem hk)), Bool.and_true, Bool.true_and, Bool.true_and, Bool.true_and, Bool.or_eq_true]
    rcases Nat.eq_zero_or_pos k with rfl | h0
    · exact Or.inl rfl
    · right
      rw [List.getElem?_eq_getElem (show k - 1 < l.length by omega), decide_eq_true_eq]
      rw [List.pairwise_iff_getElem] at h4
      exact h4 (k - 1) k (by omega) hk (by omega)
theorem right_snoc {l : List It} {nx : Int} {f : Ft} (h : Right l nx) (hf : factOk f = true) (hno : ∀ x ∈ l, x.f ≠ f) (hl : l.length < 40) (hn : nx < 1000000) : Right (l ++ [⟨nx, f⟩]) (nx + 1) := by
  obtain ⟨h1, h2, h3, h4, h5⟩ := h
  refine ⟨⟨by omega, by omega⟩, by rw [List.length_append, List.length_singleton]; omega, ?_, ?_, ?_⟩
  · intro x hx
    rcases List.mem_append.1 hx with hx | hx
    · obtain ⟨q1, q2, q3⟩ := h3 x hx
      exact ⟨q1, q2, by omega⟩
    · rw [List.mem_singleton] at hx
      subst hx
      exact ⟨hf, h1.1, by show nx < nx + 1; omega⟩
  · rw [List.pairwise_append]
    exact ⟨h4, List.pairwise_singleton _ _, fun a ha b hb => by rw [List.mem_singleton] at hb; subst hb; exact (h3 a ha).2.2⟩
  · rw [List.pairwise_append]
    exact ⟨h5, List.pairwise_singleton _ _, fun a ha b hb => by rw [List.mem_singleton] at hb; subst hb; exact hno a ha⟩
theorem right_filter {l : List It} {nx : Int} (p : It → Bool) (h : Right l nx) : Right (l.filter p) nx := by
  obtain ⟨h1, h2, h3, h4, h5⟩ := h
  exact ⟨h1, Nat.le_trans (List.length_filter_le _ _) h2, fun x hx => h3 x (List.mem_filter.1 hx).1, h4.filter _, h5.filter _⟩
/-- what a store becomes when a fact is asserted; its number, 0: there is no room -/
def asrt (l : List It) (nx : Int) (f : Ft) : List It × Int × Int :=
  if idOf l f ≠ 0 then (l, nx, idOf l f) else if 40 ≤ l.length ∨ 1000000 ≤ nx then (l, nx, 0) else (l ++ [⟨nx, f⟩], nx + 1, nx)
def assertF (l : List It) (nx : Int) (f : Ft) : List It × Int × Int × Bool :=
  if storeOk ⟨l, nx⟩ && factOk f then ((asrt l nx f).1, (asrt l nx f).2.1, (asrt l nx f).2.2, decide ((asrt l nx f).2.2 ≠ 0)) else (l, nx, 0, false)
theorem assert_no {l : List It} {nx : Int} {f : Ft} (h : (assertF l nx f).2.2.2 = false) : assertF l nx f = (l, nx, 0, false) := by
  unfold assertF at h ⊢
  split
  · rename_i hc
    rw [if_pos hc] at h
    have h0 : (asrt l nx f).2.2 = 0 := by simpa using h
    rw [Bool.and_eq_true] at hc
    have hr := storeOk_right hc.1
    unfold asrt at h0 ⊢
    split
    · rename_i h1
      rw [if_pos h1] at h0
      exact absurd h0 h1
    · rename_i h1
      rw [if_neg h1] at h0
      split
      · simp
      · rename_i h2
        rw [if_neg h2] at h0
        have := hr.1.1
        simp only at h0
        omega
  · rfl
/-- all that holds behind an assertion that went well -/
theorem assert_yes {l l2 : List It} {nx nx2 id : Int} {f : Ft} (h : assertF l nx f = (l2, nx2, id, true)) :
    Right l2 nx2 ∧ factOk f = true ∧ assertF l2 nx2 f = (l2, nx2, id, true) ∧ factOf l2 id = (f, true) ∧ idOf l2 f = id ∧ l2.length ≤ l.length + 1 ∧ (∀ x ∈ l, factOf l2 x.id = (x.f, true)) ∧ (idOf l f = 0 → id = nx) := by
  unfold assertF at h
  split at h
  · rename_i hc
    injection h with e1 h
    injection h with e2 h
    injection h with e3 h
    rw [decide_eq_true_eq, e3] at h
    rw [Bool.and_eq_true] at hc
    have hr := storeOk_right hc.1
    have hf := hc.2
    have done : ∀ {l2 : List It} {nx2 id : Int}, Right l2 nx2 → idOf l2 f = id → id ≠ 0 → assertF l2 nx2 f = (l2, nx2, id, true) ∧ factOf l2 id = (f, true) := by
      intro l2 nx2 id hr2 hi h0
      constructor
      · unfold assertF asrt
        rw [right_storeOk hr2, hf, Bool.and_self, if_pos rfl, if_pos (by rw [hi]; exact h0), hi]
        simp [h0]
      · obtain ⟨x, hx, h1, h2⟩ := idOf_some (l := l2) (f := f) (by rw [hi]; exact h0)
        have := factOf_mem hr2.2.2.2.1 hx
        rw [h2, hi, h1] at this
        exact this
    unfold asrt at e1 e2 e3
    split at e1
    · rename_i h1
      rw [if_pos h1] at e2 e3
      simp only at e1 e2 e3
      subst e1 e2 e3
      obtain ⟨d1, d2⟩ := done hr rfl h1
      exact ⟨hr, hf, d1, d2, rfl, by omega, fun x hx => factOf_mem hr.2.2.2.1 hx, fun e => absurd e h1⟩
    · rename_i h1
      rw [if_neg h1] at e2 e3
      split at e1
      · rename_i h2
        rw [if_pos h2] at e3
        exact absurd e3.symm h
      · rename_i h2
        rw [if_neg h2] at e2 e3
        simp only at e1 e2 e3
        subst e1 e2 e3
        have hno := idOf_zero (fun x hx => (hr.2.2.1 x hx).2.1) (by simpa using h1)
        have hr2 := right_snoc hr hf hno (by omega) (by omega)
        have hi : idOf (l ++ [⟨nx, f⟩]) f = nx := idOf_mem (x := ⟨nx, f⟩) hr2.2.2.2.2 (by simp)
        obtain ⟨d1, d2⟩ := done hr2 hi h
        exact ⟨hr2, hf, d1, d2, hi, by rw [List.length_append, List.length_singleton]; omega, fun x hx => factOf_mem hr2.2.2.2.1 (List.mem_append_left _ hx), fun _ => rfl⟩
  · injection h with _ h
    injection h with _ h
    injection h with _ h
    cases h
/-- what a store becomes when an item is taken out -/
def dropI (l : List It) (id : Int) : List It := l.filter fun x => decide (x.id ≠ id)
def retractF (l : List It) (nx id : Int) : List It × Bool :=
  if storeOk ⟨l, nx⟩ && decide ((dropI l id).length < l.length) then (dropI l id, true) else (l, false)
theorem drop_none : ∀ {l : List It} {id : Int}, (∀ x ∈ l, x.id ≠ id) → dropI l id = l := by
  intro l id h
  unfold dropI
  rw [List.filter_eq_self]
  intro x hx
  rw [decide_eq_true_eq]
  exact h x hx
theorem drop_at : ∀ {l : List It} {k : Nat} (h : k < l.length), l.Pairwise (fun a b => a.id < b.id) → dropI l l[k].id = l.take k ++ l.drop (k + 1) := by
  intro l k h hp
  rw [List.pairwise_iff_getElem] at hp
  have e : l = l.take k ++ (l[k] :: l.drop (k + 1)) := by rw [← List.drop_eq_getElem_cons h, List.take_append_drop]
  have h1 : dropI (l.take k) l[k].id = l.take k := drop_none fun x hx => by
    obtain ⟨j, hj, rfl⟩ := List.getElem_of_mem hx
    rw [List.length_take] at hj
    have := hp j k (by omega) h (by omega)
    rw [List.getElem_take]
    omega
  have h2 : dropI (l.drop (k + 1)) l[k].id = l.drop (k + 1) := drop_none fun x hx => by
    obtain ⟨j, hj, rfl⟩ := List.getElem_of_mem hx
    rw [List.length_drop] at hj
    have := hp k (k + 1 + j) h (by omega) (by omega)
    rw [List.getElem_drop]
    omega
  have h3 : dropI (l.take k ++ (l[k] :: l.drop (k + 1))) l[k].id = dropI (l.take k) l[k].id ++ dropI (l.drop (k + 1)) l[k].id := by
    unfold dropI
    rw [List.filter_append, List.filter_cons]
    simp
  rw [← e, h1, h2] at h3
  exact h3
theorem drop_len {l : List It} {k : Nat} (h : k < l.length) : (l.take k ++ l.drop (k + 1)).length = l.length - 1 := by
  rw [List.length_append, List.length_take, List.length_drop]
  omega
theorem retract_no {l : List It} {nx id : Int} (h : (retractF l nx id).2 = false) : retractF l nx id = (l, false) := by
  unfold retractF at h ⊢
  split
  · rename_i hc
    rw [if_pos hc] at h
    cases h
  · rfl
theorem retract_yes {l l2 : List It} {nx id : Int} (h : retractF l nx id = (l2, true)) :
    ∃ f, Right l nx ∧ factOf l id = (f, true) ∧ factOf l2 id = (⟨⟨#[]⟩, []⟩, false) ∧ Right l2 nx ∧ l2.length + 1 = l.length ∧ idOf l2 f = 0 ∧ id < nx := by
  unfold retractF at h
  split at h
  · rename_i hc
    injection h with h _
    rw [Bool.and_eq_true, decide_eq_true_eq] at hc
    obtain ⟨hs, hl⟩ := hc
    have hr := storeOk_right hs
    have hex : ∃ x ∈ l, x.id = id := by
      rcases Classical.em (∃ x ∈ l, x.id = id) with h1 | h1
      · exact h1
      · exfalso
        rw [drop_none (fun x hx e => h1 ⟨x, hx, e⟩)] at hl
        omega
    obtain ⟨x, hx, rfl⟩ := hex
    obtain ⟨k, hk, rfl⟩ := List.getElem_of_mem hx
    have hd := drop_at hk hr.2.2.2.1
    refine ⟨l[k].f, hr, factOf_mem hr.2.2.2.1 hx, ?_, ?_, ?_, ?_, (hr.2.2.1 _ hx).2.2⟩
    · subst h
      refine factOf_none fun y hy e => ?_
      have := (List.mem_filter.1 hy).2
      rw [decide_eq_true_eq] at this
      exact this e
    · subst h
      exact right_filter _ hr
    · rw [← h, hd, drop_len hk]
      omega
    · subst h
      refine idOf_none fun y hy e => ?_
      obtain ⟨h1, h2⟩ := List.mem_filter.1 hy
      rw [decide_eq_true_eq] at h2
      have e1 := idOf_mem hr.2.2.2.2 h1
      rw [e, idOf_mem hr.2.2.2.2 hx] at e1
      exact h2 e1.symm
  · injection h with _ h
    cases h
end Go.Proofs.Ytndhjijcicebkaa
