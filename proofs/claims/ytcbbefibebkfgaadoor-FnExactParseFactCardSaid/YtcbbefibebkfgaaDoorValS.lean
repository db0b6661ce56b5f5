/- Slices of values and facts: the laws' helpers on them. Each answers what the plain function says and makes at most new blocks. No condition but lengths. -/
import Derived.Test.YtcbbefibebkfgaaDoorVal
import Derived.Test.YtcbbefibebkfgaaDoorSl
namespace Go.Proofs.YtcbbefibebkfgaaDoor
open Go.RowKit
set_option maxRecDepth 100000
set_option maxHeartbeats 2000000

def vC (v : Vl) : List Value := [.int .i64 v.k, .int .i64 v.n, .string v.s]
theorem vC_sz : Sz vC 3 := fun _ => rfl
theorem vC_inj (x y : Vl) (h : vC x = vC y) : x = y := by
  cases x; cases y; simp [vC] at h; simp [h]
/-- the cells of an element -/
theorem RdT.val {w : World} {B n : Nat} {A : Option Addr} {xs : List Vl} (h : RdT vC 3 w B A n xs) (hn : 0 < n) :
    ∃ b o, A = some ⟨b, o, none⟩ ∧ b < B ∧ ∀ k (hk : k < n), ∃ x y s, xs[k]'(by rw [h.1]; exact hk) = ⟨x, y, s⟩ ∧ w.cell? ⟨b, o + k * 3, none⟩ = some (.int .i64 x) ∧ w.cell? ⟨b, o + k * 3 + 1, none⟩ = some (.int .i64 y) ∧ w.cell? ⟨b, o + k * 3 + 2, none⟩ = some (.string s) := by
  obtain ⟨b, o, e, hb, hc⟩ := h.at_ vC_sz hn
  exact ⟨b, o, e, hb, fun k hk => ⟨_, _, _, rfl, hc k hk 0 _ (by omega) rfl, hc k hk 1 _ (by omega) rfl, hc k hk 2 _ (by omega) rfl⟩⟩
def szOf (v : Vl) : Nat := v.s.size
def totV (xs : List Vl) : Nat := xs.length + sumF szOf xs
theorem totV_mem {xs : List Vl} {x : Vl} (h : x ∈ xs) : x.s.size ≤ totV xs := by
  have := sumF_mem szOf xs x h
  unfold totV; unfold szOf at this ⊢; omega
theorem infoVal : (Tryd.prog.info? 33).map (fun i => (i.zero, i.size, i.bytes)) = some (some (.agg #[.int .i64 0, .int .i64 0, .string ⟨#[]⟩]), 3, 32) := by kernel_rfl
theorem eqValS_any (A1 A2 : Option Addr) (n1 c1 n2 c2 : Nat) (l1 l2 : List Vl) (w : World) (B B2 : Nat) (h1 : RdS vC 3 w B A1 n1 l1) (h2 : RdS vC 3 w B2 A2 n2 l2) (hn : n1 ≤ 4611686018427387904) :
    Calls Tryd.prog 17 #[.slice A1 n1 c1, .slice A2 n2 c2] w fun e w' => e = .returned (.bool (decide (l1 = l2))) ∧ Below w.heap.size w w' := by
  obtain ⟨hB, h1⟩ := h1
  obtain ⟨hB2, h2⟩ := h2
  have hl1 := h1.len
  have hl2 := h2.len
  by_cases hn : n1 = n2
  · subst hn
    have H1 := Lib.hid hl1; clear hl1
    have H2 := Lib.hid hl2; clear hl2
    go_enter Tryd.func17, Tryd.ntmps17
    go_wp2
    go_loopw [5] (fun i wr => ∃ k : Nat, k ≤ n1 ∧ i = .int .i64 k ∧ Same l1 l2 k ∧ Below w.heap.size w wr) (fun i _ => n1 - (intOf i).toNat)
    case atStart => exact ⟨0, Nat.zero_le _, rfl, Same.zero _ _, bel_refl _⟩
    case round =>
      obtain ⟨k, hk, rfl, ht, hbel⟩ := hrel
      have HT := Lib.hid ht; clear ht
      by_cases hlt : k < n1
      · obtain ⟨b1, o1, rfl, hb1, hc1⟩ := (h1.below (hbel.mono hB)).val (by omega)
        obtain ⟨b2, o2, rfl, hb2, hc2⟩ := (h2.below (hbel.mono hB2)).val (by omega)
        obtain ⟨x, y, s, he, p0, p1, p2⟩ := hc1 k hlt
        obtain ⟨x2, y2, s2, he2, q0, q1, q2⟩ := hc2 k hlt
        have HE := Lib.hid he; clear he hc1
        have HE2 := Lib.hid he2; clear he2 hc2
        have hk0 : (0:Int) ≤ (k : Int) := by omega
        have hk1 : (k:Int) < (n1 : Int) := by omega
        obtain ⟨r, hr⟩ : ∃ r, decide (Vl.mk x y s = Vl.mk x2 y2 s2) = r := ⟨_, rfl⟩
        have HR := Lib.hid hr; clear hr
        cases r
        all_goals
          go_wp2_with fail
          refine wp_still 8 (by kernel_rfl) (by kernel_rfl) ?_
          simp only [List.take_succ_cons, List.take_zero, List.drop_succ_cons, List.drop_zero]
          repeat still_step
          refine wpStill_nil ?_
          go_wp2_with (go_at_call 31; refine (eqVal_any _ _ _ _ _ _ _).mono ?_; rw [HR.out]; rintro e w' ⟨rfl, hb3⟩)
        · go_ret
          refine ⟨ret_bool ?_, bel_trans (bel_drew hbel) hb3⟩
          rw [eq_comm, decide_eq_false_iff_not]
          rintro rfl
          have := of_decide_eq_false HR.out
          exact this (HE.out.symm.trans HE2.out)
        · go_roundw
          case rel => exact ⟨k + 1, by omega, by go_num, HT.out.succ (by rw [H1.out]; exact hlt) (by rw [H2.out]; exact hlt) (by rw [HE.out, HE2.out]; exact of_decide_eq_true HR.out), bel_trans (bel_drew hbel) hb3⟩
          case measure => simp [intOf]; omega
      · go_wp2
        go_ret
        refine ⟨ret_bool ?_, hbel⟩
        rw [eq_comm, decide_eq_true_eq]
        exact HT.out.full (H1.out.trans H2.out.symm) (by rw [H1.out]; omega)
  · go_enter Tryd.func17, Tryd.ntmps17
    go_wp2
    go_ret
    refine ⟨ret_bool ?_, bel_refl _⟩
    rw [eq_comm, decide_eq_false_iff_not]
    rintro rfl
    omega
end Go.Proofs.YtcbbefibebkfgaaDoor
