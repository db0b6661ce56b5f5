/- Slices of Arg: the laws' helpers on them. Each answers what the plain function says. No condition but lengths. -/
import Derived.Test.YtdlcbmhnagajdaaArg
import Derived.Test.YtdlcbmhnagajdaaStep
namespace Go.Proofs.Ytdlcbmhnagajdaa
open Go.RowKit
set_option maxRecDepth 100000
set_option maxHeartbeats 2000000

theorem RdT.arg_ {w : World} {B n : Nat} {A : Option Addr} {xs : List Ag} (h : RdT aC 5 w B A n xs) (hn : 0 < n) :
    ∃ b o, A = some ⟨b, o, none⟩ ∧ b < B ∧ ∀ k (hk : k < n), ∃ (ek : Int) (es : ByteArray) (evk : Int) (evn : Int) (evs : ByteArray), xs[k]'(by rw [h.1]; exact hk) = ⟨ek, es, ⟨evk, evn, evs⟩⟩ ∧ w.cell? ⟨b, o + k * 5, none⟩ = some (.int .i64 ek) ∧ w.cell? ⟨b, o + k * 5 + 1, none⟩ = some (.string es) ∧ w.cell? ⟨b, o + k * 5 + 2, none⟩ = some (.int .i64 evk) ∧ w.cell? ⟨b, o + k * 5 + 3, none⟩ = some (.int .i64 evn) ∧ w.cell? ⟨b, o + k * 5 + 4, none⟩ = some (.string evs) := by
  obtain ⟨b, o, e, hb, hc⟩ := h.at_ aC_sz hn
  exact ⟨b, o, e, hb, fun k hk => ⟨_, _, _, _, _, rfl, hc k hk 0 _ (by omega) rfl, hc k hk 1 _ (by omega) rfl, hc k hk 2 _ (by omega) rfl, hc k hk 3 _ (by omega) rfl, hc k hk 4 _ (by omega) rfl⟩⟩
def totA (xs : List Ag) : Nat := xs.length + sumF szA xs
theorem totA_mem {xs : List Ag} {x : Ag} (h : x ∈ xs) : szA x ≤ totA xs := by
  have := sumF_mem szA xs x h
  unfold totA; omega
theorem infoArg : (Try.prog.info? 41).map (fun i => (i.zero, i.size, i.bytes)) = some (some (.agg #[.int .i64 0, .string ⟨#[]⟩, .int .i64 0, .int .i64 0, .string ⟨#[]⟩]), 5, 56) := by kernel_rfl
end Go.Proofs.Ytdlcbmhnagajdaa
