import Derived.Test.YtgcjhicpkmhbaaaDoorValS
import Derived.Test.YtgcjhicpkmhbaaaDoorStep
/- The laws' helpers on the struct Token. Each answers what the plain function says and makes at most new blocks. No condition but lengths. -/
namespace Go.Proofs.YtgcjhicpkmhbaaaDoor
open Go.RowKit
set_option maxRecDepth 100000
set_option maxHeartbeats 2000000

theorem eqToken_any (k : Int) (n : Int) (s : ByteArray) (k2 : Int) (n2 : Int) (s2 : ByteArray) (w : World) :
    Calls Tryd.prog 24 #[.agg #[.int .i64 k, .int .i64 n, .string s], .agg #[.int .i64 k2, .int .i64 n2, .string s2]] w fun e w' => e = .returned (.bool (decide ((⟨k, n, s⟩ : Vl) = ⟨k2, n2, s2⟩))) ∧ Below w.heap.size w w' := by
  go_enter Tryd.func24, Tryd.ntmps24
  go_wp2
  all_goals
    go_ret
    refine ⟨ret_bool ?_, (by repeat (first | with_reducible exact bel_refl _ | with_reducible assumption | with_reducible refine bel_set ?_ (by first | (simp; done) | (simp; omega) | omega) _ | with_reducible refine bel_alloc ?_ _ | with_reducible refine bel_drew ?_ | with_reducible refine bel_drewN ?_ _ | with_reducible refine bel_trans ?_ (by assumption)))⟩
    simp_all [str_eq]
end Go.Proofs.YtgcjhicpkmhbaaaDoor

/- Slices of Token: the laws' helpers on them. Each answers what the plain function says. No condition but lengths. -/
namespace Go.Proofs.YtgcjhicpkmhbaaaDoor
open Go.RowKit
set_option maxRecDepth 100000
set_option maxHeartbeats 2000000

def totT (xs : List Vl) : Nat := xs.length + sumF szOf xs
theorem totT_mem {xs : List Vl} {x : Vl} (h : x ∈ xs) : szOf x ≤ totT xs := by
  have := sumF_mem szOf xs x h
  unfold totT; omega
theorem infoToken : (Tryd.prog.info? 34).map (fun i => (i.zero, i.size, i.bytes)) = some (some (.agg #[.int .i64 0, .int .i64 0, .string ⟨#[]⟩]), 3, 32) := by kernel_rfl
theorem eqTokenS_any (A1 A2 : Option Addr) (n1 c1 n2 c2 : Nat) (l1 l2 : List Vl) (w : World) (B B2 : Nat) (h1 : RdS vC 3 w B A1 n1 l1) (h2 : RdS vC 3 w B2 A2 n2 l2) (hn : n1 ≤ 4611686018427387904) :
    Calls Tryd.prog 8 #[.slice A1 n1 c1, .slice A2 n2 c2] w fun e w' => e = .returned (.bool (decide (l1 = l2))) ∧ Below w.heap.size w w' := by
  obtain ⟨hB, h1⟩ := h1
  obtain ⟨hB2, h2⟩ := h2
  have hl1 := h1.len
  have hl2 := h2.len
  by_cases hn : n1 = n2
  · subst hn
    have H1 := Lib.hid hl1; clear hl1
    have H2 := Lib.hid hl2; clear hl2
    go_enter Tryd.func8, Tryd.ntmps8
    go_wp2
    go_loopw [5] (fun i wr => ∃ k : Nat, k ≤ n1 ∧ i = .int .i64 k ∧ Same l1 l2 k ∧ Below w.heap.size w wr) (fun i _ => n1 - (intOf i).toNat)
    case atStart => exact ⟨0, Nat.zero_le _, rfl, Same.zero _ _, bel_refl _⟩
    case round =>
      obtain ⟨k, hk, rfl, ht, hbel⟩ := hrel
      have HT := Lib.hid ht; clear ht
      by_cases hlt : k < n1
      · obtain ⟨b1, o1, rfl, hb1, hc1⟩ := (h1.below (hbel.mono hB)).val (by omega)
        obtain ⟨b2, o2, rfl, hb2, hc2⟩ := (h2.below (hbel.mono hB2)).val (by omega)
        obtain ⟨ek, en, es, he, c0, c1, c2⟩ := hc1 k hlt
        obtain ⟨ek2, en2, es2, he2, c02, c12, c22⟩ := hc2 k hlt
        have HE := Lib.hid he; clear he hc1
        have HE2 := Lib.hid he2; clear he2 hc2
        have hk0 : (0:Int) ≤ (k : Int) := by omega
        have hk1 : (k:Int) < (n1 : Int) := by omega
        obtain ⟨r, hr⟩ : ∃ r, decide ((⟨ek, en, es⟩ : Vl) = ⟨ek2, en2, es2⟩) = r := ⟨_, rfl⟩
        have HR := Lib.hid hr; clear hr
        cases r
        all_goals
          go_wp2_with fail
          refine wp_still 8 (by kernel_rfl) (by kernel_rfl) ?_
          simp only [List.take_succ_cons, List.take_zero, List.drop_succ_cons, List.drop_zero]
          repeat still_step
          refine wpStill_nil ?_
          go_wp2_with (go_at_call 24; refine (eqToken_any _ _ _ _ _ _ _).mono ?_; rw [HR.out]; rintro e w' ⟨rfl, hb3⟩)
        · go_ret
          refine ⟨ret_bool ?_, bel_trans (bel_drew hbel) hb3⟩
          rw [eq_comm, decide_eq_false_iff_not]
          rintro rfl
          have := of_decide_eq_false HR.out
          exact this (HE.out.symm.trans HE2.out)
        · go_roundw
          case rel => exact ⟨k + 1, by omega, by go_num, HT.out.succ (by rw [H1.out]; exact hlt) (by rw [H2.out]; exact hlt) (by rw [HE.out, HE2.out]; exact of_decide_eq_true HR.out), bel_trans (bel_drew hbel) hb3⟩
          case measure => simp [intOf]; omega
      · go_wp2
        go_ret
        refine ⟨ret_bool ?_, hbel⟩
        rw [eq_comm, decide_eq_true_eq]
        exact HT.out.full (H1.out.trans H2.out.symm) (by rw [H1.out]; omega)
  · go_enter Tryd.func8, Tryd.ntmps8
    go_wp2
    go_ret
    refine ⟨ret_bool ?_, bel_refl _⟩
    rw [eq_comm, decide_eq_false_iff_not]
    rintro rfl
    omega
end Go.Proofs.YtgcjhicpkmhbaaaDoor
