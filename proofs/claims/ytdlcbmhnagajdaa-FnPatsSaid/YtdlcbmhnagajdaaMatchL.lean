/- How long the result of a match is. No condition. -/
import Derived.Test.YtdlcbmhnagajdaaMatch
namespace Go.Proofs.Ytdlcbmhnagajdaa
theorem mgo_len : ∀ {gs : List Ag} {vs : List Vl} {acc rs : List Bd}, mgo gs vs acc = some rs → rs.length ≤ acc.length + gs.length
  | [], vs, acc, rs, h => by
    simp [mgo] at h; subst h; simp
  | a :: gs, [], acc, rs, h => by
    simp [mgo] at h; subst h; simp
  | a :: gs, v :: vs, acc, rs, h => by
    rw [mgo] at h
    cases hm : mstep acc a v with
    | none => rw [hm] at h; cases h
    | some acc' =>
      rw [hm] at h
      have h1 := mgo_len h
      have h2 : acc'.length ≤ acc.length + 1 := by
        unfold mstep at hm
        split at hm
        · split at hm
          · simp at hm; subst hm; omega
          · cases hm
        · split at hm
          · split at hm
            · split at hm
              · simp at hm; subst hm; omega
              · cases hm
            · simp at hm; subst hm; simp
          · simp at hm; subst hm; omega
      simp only [List.length_cons]
      omega
theorem matchPat_len {kd : ByteArray} {gs : List Ag} {f : Ft} {l rs : List Bd} {rb : Bool} (h : matchPat kd gs f l = (rs, rb)) : rs.length ≤ l.length + gs.length := by
  unfold matchPat at h
  split at h
  · cases hm : mgo gs f.fs l with
    | none => rw [hm] at h; simp [mfin] at h; rw [← h.1]; omega
    | some x => rw [hm] at h; simp [mfin] at h; rw [← h.1]; exact mgo_len hm
  · simp at h
    rw [← h.1]; omega
end Go.Proofs.Ytdlcbmhnagajdaa
