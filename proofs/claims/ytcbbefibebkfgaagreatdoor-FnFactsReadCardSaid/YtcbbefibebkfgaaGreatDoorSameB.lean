/- The laws' helper on bytes: are two rows the same? No condition but lengths. -/
import Derived.Test.YtcbbefibebkfgaaGreatDoorBy
namespace Go.Proofs.YtcbbefibebkfgaaGreatDoor
open Go.RowKit
set_option maxRecDepth 100000
set_option maxHeartbeats 2000000
theorem sameBytes_any (A1 A2 : Option Addr) (n1 c1 n2 c2 : Nat) (l1 l2 : List UInt8) (w : World) (B : Nat) (h1 : RdB w B A1 n1 l1) (h2 : RdB w B A2 n2 l2) (hn : n1 ≤ 4611686018427387904) :
    Calls Tryz.prog 18 #[.slice A1 n1 c1, .slice A2 n2 c2] w fun e w' => e = .returned (.bool (decide (l1 = l2))) ∧ ∃ m, w' = w.drewN m := by
  have hl1 := h1.len
  have hl2 := h2.len
  by_cases hn : n1 = n2
  · subst hn
    have H1 := Lib.hid hl1; clear hl1
    have H2 := Lib.hid hl2; clear hl2
    go_enter Tryz.func18, Tryz.ntmps18
    go_wp2
    go_loopw [5] (fun i wr => ∃ k : Nat, k ≤ n1 ∧ i = .int .i64 k ∧ (∀ j (hj : j < l1.length) (hj2 : j < l2.length), j < k → l1[j] = l2[j]) ∧ ∃ m, wr = w.drewN m) (fun i _ => n1 - (intOf i).toNat)
    case atStart => exact ⟨0, Nat.zero_le _, rfl, fun _ _ _ h => absurd h (by omega), 0, rfl⟩
    case round =>
      obtain ⟨k, hk, rfl, ht, m, rfl⟩ := hrel
      have HT := Lib.hid ht; clear ht
      by_cases hlt : k < n1
      · obtain ⟨b1, o1, rfl, hb1, hc1⟩ := h1.at_ (by omega)
        obtain ⟨b2, o2, rfl, hb2, hc2⟩ := h2.at_ (by omega)
        obtain ⟨x, hx, hxe⟩ : ∃ x : Nat, w.cell? ⟨b1, o1 + k, none⟩ = some (.int .u8 (x : Int)) ∧ (l1[k]'(by rw [H1.out]; exact hlt)).toNat = x := ⟨_, hc1 k (by rw [H1.out]; exact hlt), rfl⟩
        obtain ⟨y, hy, hye⟩ : ∃ x : Nat, w.cell? ⟨b2, o2 + k, none⟩ = some (.int .u8 (x : Int)) ∧ (l2[k]'(by rw [H2.out]; exact hlt)).toNat = x := ⟨_, hc2 k (by rw [H2.out]; exact hlt), rfl⟩
        have HXE := Lib.hid hxe; clear hxe hc1
        have HYE := Lib.hid hye; clear hye hc2
        have hk0 : (0:Int) ≤ (k : Int) := by omega
        have hk1 : (k:Int) < (n1 : Int) := by omega
        by_cases hxy : x = y
        · subst hxy
          have hne : ((x : Int) != (x : Int)) = false := by simp
          go_wp2_with (go_quiet (fail))
          go_round
          case rel => exact ⟨k + 1, by omega, by go_num, fun j hj hj2 hjk => eq_at HT.out (by rw [H1.out]; exact hlt) (by rw [H2.out]; exact hlt) (f := UInt8.toNat) (HXE.out.trans HYE.out.symm) (fun _ _ h => UInt8.toNat_inj.1 h) j hj hj2 hjk, _, rfl⟩
          case measure => simp [intOf]; omega
        · have hne : ((x : Int) != (y : Int)) = true := by simp; omega
          go_wp2_with (go_quiet (fail))
          go_ret
          refine ⟨ret_bool ?_, _, World.drewN_drewN _ _ _⟩
          rw [eq_comm, decide_eq_false_iff_not]
          rintro rfl
          exact hxy (HXE.out.symm.trans HYE.out)
      · go_wp2
        go_ret
        refine ⟨ret_bool ?_, _, rfl⟩
        rw [eq_comm, decide_eq_true_eq]
        exact List.ext_getElem (H1.out.trans H2.out.symm) fun j hj hj2 => HT.out j hj hj2 (by have := H1.out; omega)
  · go_enter Tryz.func18, Tryz.ntmps18
    go_wp2
    go_ret
    refine ⟨ret_bool ?_, 0, rfl⟩
    rw [eq_comm, decide_eq_false_iff_not]
    rintro rfl
    omega
end Go.Proofs.YtcbbefibebkfgaaGreatDoor
