/- Marking and holding slices of Int. No condition but lengths. -/
import Derived.Test.YtflhfcpenehjaaaIntS
import Derived.Test.YtflhfcpenehjaaaMark
namespace Go.Proofs.Ytflhfcpenehjaaa
open Go.RowKit
set_option maxRecDepth 100000
set_option maxHeartbeats 2000000

def mkInt (k : Nat) : Int := ((k + 0 : Nat) : Int)
def marksInt (k n : Nat) : List Int := (List.range n).map fun i => mkInt (k + 1 * i)
theorem marksInt_len (k n : Nat) : (marksInt k n).length = n := by simp [marksInt]
theorem marksInt_get (k n i : Nat) (h : i < (marksInt k n).length) : (marksInt k n)[i] = mkInt (k + 1 * i) := by simp [marksInt]
theorem gr_belInt {a w w' : World} {row : Option Nat} (h : a.grownBy w row) (hb : Below w.heap.size w w') : a.grownBy w' row :=
  ⟨hb.os.trans h.os, hb.tape.trans h.tape, hb.output.trans h.output, Nat.le_trans h.size hb.size, fun k hk hne => (hb.block k (Nat.lt_of_lt_of_le hk h.size)).trans (h.block k hk hne)⟩
theorem markIntS_any (A : Option Addr) (n c : Nat) (xs : List Int) (K : Int) (k0 : Nat) (w : World) (base : Nat) (ho : OwnT iC 1 w base 3 (.slice A n c) xs) (hl : xs.length = n) (hK : K = k0) (hn : n ≤ 1048576) (hk0 : k0 ≤ 70368744177) :
    Calls Try.prog 30 #[.slice A n c, .int .i64 K] w fun e w' => e = .returned (.int .i64 ((k0 + 1 * n : Nat) : Int)) ∧ OwnT iC 1 w' base 3 (.slice A n c) (marksInt k0 n) ∧ w.grownBy w' (Value.ownBlock (.slice A n c)) := by
  subst hK
  unfold OwnT at ho ⊢
  rw [hl] at ho
  rw [marksInt_len]
  clear hl
  have HO := Lib.hid ho; clear ho
  have hfl : (fl iC (marksInt k0 n)).length = n * 1 := by rw [fl_len iC_sz, marksInt_len]
  have HFL := Lib.hid hfl; clear hfl
  go_enter Try.func30, Try.ntmps30
  go_wp2
  go_loopw [1, 5] (fun kk i wr => ∃ (k : Nat) (ys : List Value), i = .int .i64 k ∧ kk = .int .i64 ((k0 + 1 * k : Nat) : Int) ∧ k ≤ n ∧ wr.ownsRow base 3 1 (.slice A n c) n ys ∧ Agree ys (fl iC (marksInt k0 n)) (k * 1) ∧ w.grownBy wr (Value.ownBlock (.slice A n c))) (fun _ i _ => n - (intOf i).toNat)
  case atStart => exact ⟨0, _, rfl, by go_num, by omega, HO.out, by rw [Nat.zero_mul]; exact Agree.zero _ _, World.grownBy.refl _ _⟩
  case round =>
    obtain ⟨k, ys, rfl, rfl, hk, hown, hx, hg⟩ := hrel
    have HX := Lib.hid hx; clear hx
    by_cases hlt : k < n
    · obtain ⟨g, cap, hv, hbg, hglt⟩ := hown.form (by omega)
      have hA : A = some ⟨g, 0, none⟩ := by injection hv
      subst hA
      have H0 := Lib.hid hown; clear hown
      clear hv
      have hmk : k < (marksInt k0 n).length := by rw [marksInt_len]; exact hlt
      obtain ⟨⟨d0, e0⟩, f0⟩ := own_there H0.out (k) (by omega)
      go_wp2
      go_roundw
      case rel =>
        refine ⟨k + 1, _, by go_num, by go_num, by omega, (H0.out.stored (k) _).1, ?_, (World.grownBy.trans hg (H0.out.stored (k) _).2)⟩
        have hyl : ys.length = (marksInt k0 n).length * 1 := by rw [H0.out.1, marksInt_len]
        have a0 := agree_fl iC_sz (k := k) (d := 0) hmk (by omega) (u := .int .i64 ((k0 : Int) + (k : Int))) (by rw [marksInt_get]; exact congrArg (fun x : Int => some (Value.int .i64 x)) (show ((k0 + 1 * k + 0 : Nat) : Int) = (k0 : Int) + (k : Int) by omega)) (by simpa using HX.out) (by simpa using hyl)
        simpa using a0
      case measure => simp [intOf]; omega
    · have HOW := Lib.hid hown; clear hown
      go_wp2
      go_ret
      have hkn : k = n := by omega
      subst hkn
      refine ⟨rfl, ?_, hg⟩
      have hys := HX.out.full HOW.out.1 HFL.out
      rw [← hys]
      exact HOW.out
theorem heldIntS_any (A : Option Addr) (c n : Nat) (K : Int) (k0 : Nat) (w : World) (B : Nat) (hr : RdS iC 1 w B A n (marksInt k0 n)) (hK : K = k0) (hn : n ≤ 1048576) (hk0 : k0 ≤ 70368744177) :
    Calls Try.prog 31 #[.slice A n c, .int .i64 K] w fun e w' => e = .returned (.int .i64 ((k0 + 1 * n : Nat) : Int)) ∧ Below w.heap.size w w' := by
  subst hK
  go_enter Try.func31, Try.ntmps31
  go_wp2
  go_loopw [1, 5] (fun kk i wr => ∃ (k : Nat), i = .int .i64 k ∧ kk = .int .i64 ((k0 + 1 * k : Nat) : Int) ∧ k ≤ n ∧ Below w.heap.size w wr) (fun _ i _ => n - (intOf i).toNat)
  case atStart => exact ⟨0, rfl, by go_num, by omega, bel_refl _⟩
  case round =>
    obtain ⟨k, rfl, rfl, hk, hbel⟩ := hrel
    by_cases hlt : k < n
    · obtain ⟨b, o, rfl, hb0, hc⟩ := (hr.kept hbel).2.at_ iC_sz (by omega)
      have hmk : k < (marksInt k0 n).length := by rw [marksInt_len]; exact hlt
      have hk0' : (0:Int) ≤ (k : Int) := by omega
      have hk1' : (k:Int) < (n : Int) := by omega
      have c0 : wr.cell? ⟨b, o + k, none⟩ = some (.int .i64 ((k0 : Int) + k)) := by have h := hc k hlt 0 (.int .i64 ((k0 + 1 * k + 0 : Nat) : Int)) (by omega) (by rw [marksInt_get]; rfl); simpa using h
      clear hc
      go_wp2
      go_roundw
      case rel => exact ⟨k + 1, by go_num, by go_num, by omega, hbel⟩
      case measure => simp [intOf]; omega
    · go_wp2
      go_ret
      exact ⟨ret_int (by omega), hbel⟩
end Go.Proofs.Ytflhfcpenehjaaa
