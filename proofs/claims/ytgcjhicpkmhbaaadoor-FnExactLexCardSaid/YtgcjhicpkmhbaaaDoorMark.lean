/- The text with which the laws mark a place. No condition but the number's size. -/
import Derived.Test.YtgcjhicpkmhbaaaDoorStep
import Derived.Test.YtgcjhicpkmhbaaaDoorChecked
namespace Go.Proofs.YtgcjhicpkmhbaaaDoor
open Go.RowKit
set_option maxRecDepth 100000
set_option maxHeartbeats 2000000

def mdig : Nat → Nat → List UInt8 → List UInt8
  | 0, _, acc => acc
  | f + 1, k, acc => if k = 0 then acc else mdig f (k / 10) (UInt8.ofNat (48 + k % 10) :: acc)
def mtxt (k : Nat) : ByteArray := if k = 0 then ⟨#[109, 48]⟩ else ⟨(109 :: mdig k k []).toArray⟩
theorem mdig_step {j : Nat} (f : Nat) (acc : List UInt8) (h : 0 < j) : mdig (f + 1) j acc = mdig f (j / 10) (UInt8.ofNat (48 + j % 10) :: acc) := by
  rw [mdig, if_neg (by omega)]
theorem cat_cons (x : UInt8) (acc : List UInt8) : (⟨#[x]⟩ : ByteArray) ++ ⟨acc.toArray⟩ = ⟨(x :: acc).toArray⟩ := by
  apply ByteArray.ext
  simp
theorem markText_any (K : Int) (k : Nat) (hK : K = k) (w : World) (hk : k ≤ 70368744177664) :
    Calls Tryd.prog 25 #[.int .i64 K] w fun e w' => e = .returned (.string (mtxt k)) ∧ Below w.heap.size w w' := by
  subst hK
  by_cases h0 : k = 0
  · subst h0
    go_enter Tryd.func25, Tryd.ntmps25
    go_wp2
    go_ret
    exact ⟨ret_str rfl, bel_refl _⟩
  · have hpos : 0 < k := by omega
    have HT := Lib.hid (show mtxt k = ⟨(109 :: mdig k k []).toArray⟩ from if_neg h0)
    clear h0
    go_enter Tryd.func25, Tryd.ntmps25
    go_wp2
    go_loopw [0, 3] (fun kk out wr => ∃ (f j : Nat) (acc : List UInt8), kk = .int .i64 j ∧ out = .string ⟨acc.toArray⟩ ∧ mdig f j acc = mdig k k [] ∧ j ≤ f ∧ acc.length + f ≤ k ∧ Below w.heap.size w wr) (fun kk _ _ => (intOf kk).toNat)
    case atStart => exact ⟨k, k, [], rfl, rfl, rfl, Nat.le_refl _, by simp, bel_refl _⟩
    case round =>
      obtain ⟨f, j, acc, rfl, rfl, hm, hf, hjk, hbel⟩ := hrel
      have HM := Lib.hid hm; clear hm
      by_cases hj : 0 < j
      · obtain ⟨f, rfl⟩ : ∃ f', f = f' + 1 := ⟨f - 1, by omega⟩
        have hcv := conv_bytes (P := Tryd.prog) (RdB.one wr 5 (48 + (j : Int) % 10) (by omega) (by omega)) 28 5 Tryd.underlying28 Tryd.underlying5 9 Tryd.underlying9 1
        have hs := mdig_step f acc hj
        have HS := Lib.hid hs; clear hs
        go_wp2
        go_roundw
        case rel => exact ⟨f, j / 10, UInt8.ofNat (48 + j % 10) :: acc, by go_num, congrArg Value.string (by rw [cat_cons]; congr 2; congr 1; simp), by rw [← HS.out, HM.out], by omega, by simp only [List.length_cons]; omega, (by repeat (first | with_reducible exact bel_refl _ | with_reducible assumption | with_reducible refine bel_set ?_ (by first | (simp; done) | (simp; omega) | omega) _ | with_reducible refine bel_alloc ?_ _ | with_reducible refine bel_drew ?_ | with_reducible refine bel_drewN ?_ _ | with_reducible refine bel_trans ?_ (by assumption)))⟩
        case measure => simp [intOf]; omega
      · obtain rfl : j = 0 := by omega
        have hz : mdig f 0 acc = acc := by cases f <;> simp [mdig]
        have HZ := Lib.hid hz; clear hz
        go_wp2
        go_ret
        exact ⟨ret_str (by rw [HT.out, ← HM.out, HZ.out, cat_cons]), hbel⟩
end Go.Proofs.YtgcjhicpkmhbaaaDoor
