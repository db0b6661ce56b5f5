/- The laws' own helpers: is the input too big; a byte of the input or a number in its place. No condition but lengths. -/
import Derived.Test.YtpmigmpghmccdaaOwn
import Derived.Test.YtpmigmpghmccdaaChecked
namespace Go.Proofs.Ytpmigmpghmccdaa
open Go.RowKit
set_option maxRecDepth 100000
set_option maxHeartbeats 2000000

theorem big_any (A : Option Addr) (n c : Nat) (w : World) :
    Calls Try.prog 31 #[.slice A n c] w fun e w' => e = .returned (.bool (decide ((1048576 : Int) < n))) ∧ w = w' := by
  go_enter Try.func31, Try.ntmps31
  go_wp2
  go_ret
  exact ⟨rfl, rfl⟩
def atN (code : List UInt8) (i : Nat) : Nat := match code[i]? with | some b => b.toNat | none => (i * 31 + code.length * 7) % 256
theorem atN_le (code : List UInt8) (i : Nat) : atN code i ≤ 255 := by
  unfold atN
  split
  · exact byte_le _
  · omega
theorem at_any (A : Option Addr) (n c : Nat) (code : List UInt8) (I : Int) (i : Nat) (hI : I = i) (w : World) (B : Nat) (hr : RdB w B A n code) (hn : n ≤ 70368744177664) (hi : i ≤ 70368744177664) :
    Calls Try.prog 33 #[.slice A n c, .int .i64 I] w fun e w' => e = .returned (.int .i64 (atN code i)) ∧ w = w' := by
  subst hI
  have hl := hr.len
  by_cases hlt : i < n
  · obtain ⟨b, o, rfl, hb, hc⟩ := hr.at_ (by omega)
    obtain ⟨x, hx, hxb, hxe⟩ : ∃ x : Nat, w.cell? ⟨b, o + i, none⟩ = some (.int .u8 (x : Int)) ∧ x ≤ 255 ∧ atN code i = x := ⟨_, hc i (by omega), byte_le _, by unfold atN; rw [List.getElem?_eq_getElem (by omega)]⟩
    have HX := Lib.hid hxe; clear hxe hc
    have HL := Lib.hid hl; clear hl
    go_enter Try.func33, Try.ntmps33
    go_wp2
    go_ret
    exact ⟨ret_int (by rw [HX.out]), rfl⟩
  · have hx : atN code i = (i * 31 + n * 7) % 256 := by unfold atN; rw [List.getElem?_eq_none (by omega), hl]
    have HX := Lib.hid hx; clear hx
    have HL := Lib.hid hl; clear hl
    go_enter Try.func33, Try.ntmps33
    go_wp2
    go_ret
    exact ⟨ret_int (by rw [HX.out]; simp), rfl⟩
theorem RdB.front {w : World} {B n : Nat} {A : Option Addr} {bs : List UInt8} (h : RdB w B A n bs) (k : Nat) (hk : k ≤ n) : RdB w B A k (bs.take k) := by
  have hl := h.len
  refine ⟨by simp; omega, fun h0 => ?_⟩
  obtain ⟨b, o, rfl, hb, hc⟩ := h.2 (by omega)
  refine ⟨b, o, rfl, hb, fun j u hu => hc j u ?_⟩
  rw [List.map_take, List.getElem?_take] at hu
  split at hu
  · exact hu
  · cases hu
end Go.Proofs.Ytpmigmpghmccdaa
