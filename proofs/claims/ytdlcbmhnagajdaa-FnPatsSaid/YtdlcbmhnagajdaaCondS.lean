/- Slices of Cond: the laws' helpers on them. Each answers what the plain function says. No condition but lengths. -/
import Derived.Test.YtdlcbmhnagajdaaCond
import Derived.Test.YtdlcbmhnagajdaaStep
namespace Go.Proofs.Ytdlcbmhnagajdaa
open Go.RowKit
set_option maxRecDepth 100000
set_option maxHeartbeats 2000000

theorem RdT.cond_ {w : World} {B n : Nat} {A : Option Addr} {xs : List Cd} (h : RdT cC 11 w B A n xs) (hn : 0 < n) :
    ∃ b o, A = some ⟨b, o, none⟩ ∧ b < B ∧ ∀ k (hk : k < n), ∃ (eop : Int) (elk : Int) (els : ByteArray) (elvk : Int) (elvn : Int) (elvs : ByteArray) (erk : Int) (ers : ByteArray) (ervk : Int) (ervn : Int) (ervs : ByteArray), xs[k]'(by rw [h.1]; exact hk) = ⟨eop, ⟨elk, els, ⟨elvk, elvn, elvs⟩⟩, ⟨erk, ers, ⟨ervk, ervn, ervs⟩⟩⟩ ∧ w.cell? ⟨b, o + k * 11, none⟩ = some (.int .i64 eop) ∧ w.cell? ⟨b, o + k * 11 + 1, none⟩ = some (.int .i64 elk) ∧ w.cell? ⟨b, o + k * 11 + 2, none⟩ = some (.string els) ∧ w.cell? ⟨b, o + k * 11 + 3, none⟩ = some (.int .i64 elvk) ∧ w.cell? ⟨b, o + k * 11 + 4, none⟩ = some (.int .i64 elvn) ∧ w.cell? ⟨b, o + k * 11 + 5, none⟩ = some (.string elvs) ∧ w.cell? ⟨b, o + k * 11 + 6, none⟩ = some (.int .i64 erk) ∧ w.cell? ⟨b, o + k * 11 + 7, none⟩ = some (.string ers) ∧ w.cell? ⟨b, o + k * 11 + 8, none⟩ = some (.int .i64 ervk) ∧ w.cell? ⟨b, o + k * 11 + 9, none⟩ = some (.int .i64 ervn) ∧ w.cell? ⟨b, o + k * 11 + 10, none⟩ = some (.string ervs) := by
  obtain ⟨b, o, e, hb, hc⟩ := h.at_ cC_sz hn
  exact ⟨b, o, e, hb, fun k hk => ⟨_, _, _, _, _, _, _, _, _, _, _, rfl, hc k hk 0 _ (by omega) rfl, hc k hk 1 _ (by omega) rfl, hc k hk 2 _ (by omega) rfl, hc k hk 3 _ (by omega) rfl, hc k hk 4 _ (by omega) rfl, hc k hk 5 _ (by omega) rfl, hc k hk 6 _ (by omega) rfl, hc k hk 7 _ (by omega) rfl, hc k hk 8 _ (by omega) rfl, hc k hk 9 _ (by omega) rfl, hc k hk 10 _ (by omega) rfl⟩⟩
def totC (xs : List Cd) : Nat := xs.length + sumF szC xs
theorem totC_mem {xs : List Cd} {x : Cd} (h : x ∈ xs) : szC x ≤ totC xs := by
  have := sumF_mem szC xs x h
  unfold totC; omega
end Go.Proofs.Ytdlcbmhnagajdaa
