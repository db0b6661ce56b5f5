/- Slices of Bind: the laws' helpers on them. Each answers what the plain function says. No condition but lengths. -/
import Derived.Test.YtdlcbmhnagajdaaBind
import Derived.Test.YtdlcbmhnagajdaaStep
namespace Go.Proofs.Ytdlcbmhnagajdaa
open Go.RowKit
set_option maxRecDepth 100000
set_option maxHeartbeats 2000000

theorem RdT.bind_ {w : World} {B n : Nat} {A : Option Addr} {xs : List Bd} (h : RdT bC 4 w B A n xs) (hn : 0 < n) :
    ∃ b o, A = some ⟨b, o, none⟩ ∧ b < B ∧ ∀ k (hk : k < n), ∃ (es : ByteArray) (evk : Int) (evn : Int) (evs : ByteArray), xs[k]'(by rw [h.1]; exact hk) = ⟨es, ⟨evk, evn, evs⟩⟩ ∧ w.cell? ⟨b, o + k * 4, none⟩ = some (.string es) ∧ w.cell? ⟨b, o + k * 4 + 1, none⟩ = some (.int .i64 evk) ∧ w.cell? ⟨b, o + k * 4 + 2, none⟩ = some (.int .i64 evn) ∧ w.cell? ⟨b, o + k * 4 + 3, none⟩ = some (.string evs) := by
  obtain ⟨b, o, e, hb, hc⟩ := h.at_ bC_sz hn
  exact ⟨b, o, e, hb, fun k hk => ⟨_, _, _, _, rfl, hc k hk 0 _ (by omega) rfl, hc k hk 1 _ (by omega) rfl, hc k hk 2 _ (by omega) rfl, hc k hk 3 _ (by omega) rfl⟩⟩
def totB (xs : List Bd) : Nat := xs.length + sumF szB xs
theorem totB_mem {xs : List Bd} {x : Bd} (h : x ∈ xs) : szB x ≤ totB xs := by
  have := sumF_mem szB xs x h
  unfold totB; omega
theorem infoBind : (Try.prog.info? 49).map (fun i => (i.zero, i.size, i.bytes)) = some (some (.agg #[.string ⟨#[]⟩, .int .i64 0, .int .i64 0, .string ⟨#[]⟩]), 4, 48) := by kernel_rfl
end Go.Proofs.Ytdlcbmhnagajdaa
