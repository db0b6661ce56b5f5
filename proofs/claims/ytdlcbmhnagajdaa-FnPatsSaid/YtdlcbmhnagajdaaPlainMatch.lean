/- Plain laws: what a match binds. No condition. -/
import Derived.Test.YtdlcbmhnagajdaaMatch
namespace Go.Proofs.Ytdlcbmhnagajdaa
open Go.RowKit
theorem bindOf_cons (b : Bd) (l : List Bd) (s : ByteArray) : bindOf (b :: l) s = if b.s = s then (b.v, true) else bindOf l s := by rw [bindOf]
theorem bindOf_app {m : List Bd} {s : ByteArray} : ∀ {l : List Bd}, (bindOf l s).2 = true → bindOf (l ++ m) s = bindOf l s
  | [], h => by simp [bindOf] at h
  | b :: l, h => by
    rw [List.cons_append, bindOf_cons, bindOf_cons]
    rw [bindOf_cons] at h
    split
    · rfl
    · rename_i h1
      rw [if_neg h1] at h
      exact bindOf_app h
theorem bindOf_new {s : ByteArray} {v : Vl} : ∀ {l : List Bd}, (bindOf l s).2 = false → bindOf (l ++ [⟨s, v⟩]) s = (v, true)
  | [], _ => by rw [List.nil_append, bindOf_cons, if_pos rfl]
  | b :: l, h => by
    rw [List.cons_append, bindOf_cons]
    rw [bindOf_cons] at h
    split
    · rename_i h1
      rw [if_pos h1] at h
      cases h
    · rename_i h1
      rw [if_neg h1] at h
      exact bindOf_new h
def fits (x : List Bd) (a : Ag) (v : Vl) : Prop := (a.k = 1 → bindOf x a.s = (v, true)) ∧ (a.k = 2 → a.v = v)
theorem mstep_fits {acc acc' : List Bd} {a : Ag} {v : Vl} (h : mstep acc a v = some acc') : (∃ m, acc' = acc ++ m) ∧ ∀ m, fits (acc' ++ m) a v := by
  unfold mstep at h
  split at h
  · rename_i h2
    split at h
    · rename_i h3
      injection h with h
      subst h
      exact ⟨⟨[], by simp⟩, fun m => ⟨fun h1 => by omega, fun _ => h3⟩⟩
    · cases h
  · rename_i h2
    split at h
    · rename_i h1
      split at h
      · rename_i h3
        split at h
        · rename_i h4
          injection h with h
          subst h
          refine ⟨⟨[], by simp⟩, fun m => ⟨fun _ => ?_, fun h => absurd h h2⟩⟩
          rw [bindOf_app h3]
          exact Prod.ext h4 h3
        · cases h
      · rename_i h3
        injection h with h
        subst h
        refine ⟨⟨_, rfl⟩, fun m => ⟨fun _ => ?_, fun h => absurd h h2⟩⟩
        have h4 := bindOf_new (v := v) (by simpa using h3)
        rw [bindOf_app (by rw [h4]), h4]
    · rename_i h1
      injection h with h
      subst h
      exact ⟨⟨[], by simp⟩, fun m => ⟨fun h => absurd h h1, fun h => absurd h h2⟩⟩
theorem mgo_fits : ∀ {gs : List Ag} {vs : List Vl} {acc x : List Bd}, mgo gs vs acc = some x → (∃ m, x = acc ++ m) ∧ ∀ i (h1 : i < gs.length) (h2 : i < vs.length), fits x gs[i] vs[i]
  | [], vs, acc, x, h => by
    rw [mgo] at h
    · injection h with h
      exact ⟨⟨[], by simp [h]⟩, fun i h1 => absurd h1 (by simp)⟩
    · intro a gs v vs h; cases h
  | a :: gs, [], acc, x, h => by
    rw [mgo] at h
    · injection h with h
      exact ⟨⟨[], by simp [h]⟩, fun i h1 h2 => absurd h2 (by simp)⟩
    · intro a gs v vs _ h; cases h
  | a :: gs, v :: vs, acc, x, h => by
    rw [mgo] at h
    cases hs : mstep acc a v with
    | none => rw [hs] at h; cases h
    | some acc' =>
      rw [hs] at h
      obtain ⟨⟨m1, rfl⟩, hf⟩ := mstep_fits hs
      obtain ⟨⟨m2, rfl⟩, hg⟩ := mgo_fits h
      refine ⟨⟨m1 ++ m2, by simp⟩, fun i h1 h2 => ?_⟩
      cases i with
      | zero => exact hf m2
      | succ i => exact hg i (by simpa using h1) (by simpa using h2)
theorem mgo_again {x : List Bd} : ∀ {gs : List Ag} {vs : List Vl}, (∀ i (h1 : i < gs.length) (h2 : i < vs.length), fits x gs[i] vs[i]) → mgo gs vs x = some x
  | [], vs, _ => by
    rw [mgo]
    intro a gs v vs h; cases h
  | a :: gs, [], _ => by
    rw [mgo]
    intro a gs v vs _ h; cases h
  | a :: gs, v :: vs, h => by
    rw [mgo]
    have h0 := h 0 (by simp) (by simp)
    have hs : mstep x a v = some x := by
      unfold mstep
      split
      · rename_i h2
        have h3 := h0.2 h2
        rw [List.getElem_cons_zero, List.getElem_cons_zero] at h3
        rw [if_pos h3]
      · split
        · rename_i h1
          have := h0.1 h1
          rw [List.getElem_cons_zero, List.getElem_cons_zero] at this
          rw [this]
          simp
        · rfl
    rw [hs]
    exact mgo_again fun i h1 h2 => h (i + 1) (by simpa using h1) (by simpa using h2)
theorem match_fits {kd : ByteArray} {gs : List Ag} {f : Ft} {l x : List Bd} (h : matchPat kd gs f l = (x, true)) : gs.length = f.fs.length ∧ (∃ m, x = l ++ m) ∧ (∀ i (h1 : i < gs.length) (h2 : i < f.fs.length), fits x gs[i] f.fs[i]) ∧ matchPat kd gs f x = (x, true) := by
  unfold matchPat at h
  split at h
  · rename_i hk
    cases hm : mgo gs f.fs l with
    | none => rw [hm] at h; cases h
    | some y =>
      rw [hm] at h
      have hyx : y = x := by injection h
      subst hyx
      obtain ⟨h1, h2⟩ := mgo_fits hm
      refine ⟨hk.2, h1, h2, ?_⟩
      rw [matchPat, if_pos hk, mgo_again h2]
      rfl
  · cases h
theorem match_not {kd : ByteArray} {gs : List Ag} {f : Ft} {l x : List Bd} (h : matchPat kd gs f l = (x, false)) : x = l := by
  unfold matchPat at h
  split at h
  · cases hm : mgo gs f.fs l with
    | none => rw [hm] at h; cases h; rfl
    | some y => rw [hm] at h; cases h
  · cases h; rfl
end Go.Proofs.Ytdlcbmhnagajdaa
