/- Slices of values and facts: the laws' helpers on them. Each answers what the plain function says and makes at most new blocks. No condition but lengths. -/
import Derived.Test.YtndhjijcicebkaaVal
import Derived.Test.YtndhjijcicebkaaSl
namespace Go.Proofs.Ytndhjijcicebkaa
open Go.RowKit
set_option maxRecDepth 100000
set_option maxHeartbeats 2000000

def vC (v : Vl) : List Value := [.int .i64 v.k, .int .i64 v.n, .string v.s]
theorem vC_sz : Sz vC 3 := fun _ => rfl
theorem vC_inj (x y : Vl) (h : vC x = vC y) : x = y := by
  cases x; cases y; simp [vC] at h; simp [h]
/-- the cells of an element -/
theorem RdT.val {w : World} {B n : Nat} {A : Option Addr} {xs : List Vl} (h : RdT vC 3 w B A n xs) (hn : 0 < n) :
    ∃ b o, A = some ⟨b, o, none⟩ ∧ b < B ∧ ∀ k (hk : k < n), ∃ x y s, xs[k]'(by rw [h.1]; exact hk) = ⟨x, y, s⟩ ∧ w.cell? ⟨b, o + k * 3, none⟩ = some (.int .i64 x) ∧ w.cell? ⟨b, o + k * 3 + 1, none⟩ = some (.int .i64 y) ∧ w.cell? ⟨b, o + k * 3 + 2, none⟩ = some (.string s) := by
  obtain ⟨b, o, e, hb, hc⟩ := h.at_ vC_sz hn
  exact ⟨b, o, e, hb, fun k hk => ⟨_, _, _, rfl, hc k hk 0 _ (by omega) rfl, hc k hk 1 _ (by omega) rfl, hc k hk 2 _ (by omega) rfl⟩⟩
def szOf (v : Vl) : Nat := v.s.size
def totV (xs : List Vl) : Nat := xs.length + sumF szOf xs
theorem totV_mem {xs : List Vl} {x : Vl} (h : x ∈ xs) : x.s.size ≤ totV xs := by
  have := sumF_mem szOf xs x h
  unfold totV; unfold szOf at this ⊢; omega
theorem szValS_any (A : Option Addr) (n c : Nat) (left : Int) (xs : List Vl) (w : World) (B : Nat) (hr : RdS vC 3 w B A n xs) (hn : n ≤ 9223372036854775807) (hs : ∀ x ∈ xs, x.s.size ≤ 9223372036854775807) (h0 : 0 ≤ left) (h1 : left ≤ 1048576) :
    Calls Try.prog 34 #[.slice A n c, .int .i64 left] w fun e w' => e = .returned (.int .i64 (szR left (totV xs))) ∧ Below w.heap.size w w' := by
  obtain ⟨hB, hr⟩ := hr
  have HL := Lib.hid hr.len
  have HS := Lib.hid hs; clear hs
  by_cases hbig : left < (n : Int)
  · have HR := Lib.hid (szR_big (left := left) (t := totV xs) (by unfold totV; rw [HL.out]; omega))
    go_enter Try.func34, Try.ntmps34
    go_wp2
    go_ret
    exact ⟨ret_int HR.out.symm, bel_refl _⟩
  · go_enter Try.func34, Try.ntmps34
    go_wp2
    go_loopw [1, 5] (fun l i wr => ∃ k t : Nat, i = .int .i64 k ∧ k ≤ n ∧ l = .int .i64 (left - n - t) ∧ (t : Int) ≤ left - n ∧ sumF szOf (xs.take k) = t ∧ Below w.heap.size w wr) (fun _ i _ => n - (intOf i).toNat)
    case atStart => exact ⟨0, 0, rfl, by omega, by go_num, by omega, rfl, bel_refl _⟩
    case round =>
      obtain ⟨k, t, rfl, hk, rfl, ht, hsum, hbel⟩ := hrel
      have HT := Lib.hid hsum; clear hsum
      by_cases hlt : k < n
      · obtain ⟨b, o, rfl, hb, hc⟩ := (hr.below (hbel.mono hB)).val (by omega)
        obtain ⟨x, y, s, he, c0, c1, c2⟩ := hc k hlt
        clear hc
        have hss : s.size ≤ 9223372036854775807 := by
          have := HS.out (xs[k]'(by rw [HL.out]; exact hlt)) (List.getElem_mem _)
          rw [he] at this; exact this
        have hsn : sumF szOf (xs.take (k + 1)) = t + s.size := by rw [sumF_snoc _ _ _ (by rw [HL.out]; exact hlt), HT.out, he]; rfl
        have HN := Lib.hid hsn; clear hsn he
        by_cases hfit : (s.size : Int) ≤ left - n - t
        · go_wp2_with (go_at_call 61; refine (szVal_fit _ _ _ _ _ (by omega) hfit).mono ?_; rintro e w' ⟨rfl, hb1⟩)
          go_roundw
          case rel => exact ⟨k + 1, t + s.size, by go_num, by omega, by go_num, by omega, HN.out, bel_trans hbel hb1⟩
          case measure => simp [intOf]; omega
        · have HR := Lib.hid (szR_big (left := left) (t := totV xs) (by have := sumF_take_le szOf xs (k + 1); rw [HN.out] at this; unfold totV; rw [HL.out]; omega))
          go_wp2_with (go_at_call 61; refine (szVal_big _ _ _ _ _ hss (by omega) (by omega) (by omega)).mono ?_; rintro e w' ⟨rfl, hb1⟩)
          go_ret
          exact ⟨ret_int HR.out.symm, bel_trans hbel hb1⟩
      · have hk' : sumF szOf xs = t := by rw [← HT.out, sumF_full _ _ _ (by rw [HL.out]; omega)]
        have HR := Lib.hid (szR_fit (left := left) (t := totV xs) (by unfold totV; rw [HL.out, hk']; omega))
        have HK := Lib.hid hk'; clear hk'
        go_wp2
        go_ret
        exact ⟨ret_int (by rw [HR.out]; unfold totV; rw [HL.out, HK.out]; omega), hbel⟩
theorem infoVal : (Try.prog.info? 90).map (fun i => (i.zero, i.size, i.bytes)) = some (some (.agg #[.int .i64 0, .int .i64 0, .string ⟨#[]⟩]), 3, 32) := by kernel_rfl
theorem toValS_any (A : Option Addr) (n c : Nat) (xs : List Vl) (w : World) (B : Nat) (hr : RdS vC 3 w B A n xs) (hn : n ≤ 1048576) :
    Calls Try.prog 39 #[.slice A n c] w fun e w' => ∃ v', e = .returned v' ∧ OwnT vC 3 w' w.heap.size 90 v' xs ∧ Below w.heap.size w w' ∧ w.heap.size ≤ w'.heap.size := by
  obtain ⟨i0, hi, hz0, hz1, hz2⟩ := info_parts infoVal
  obtain ⟨hB, hr⟩ := hr
  have HL := Lib.hid hr.len
  have HI := Lib.hid hi; clear hi
  go_enter Try.func39, Try.ntmps39
  go_wp2_with (at_make; refine wpList_make_full w rfl (.tmp 6) (.tmp 6) _ rfl w.heap.size 90 i0 _ 3 Try.underlying36 HI.out hz0 hz1 .i64 .i64 n n n rfl rfl rfl rfl (by rw [hz2]; omega) (by simp only [maxLen]; omega) (Nat.le_refl _) ?_; intro w1 ho1 hg1)
  have hb1 : Below w.heap.size w w1 := (Below.refl _ _).grown hg1 (Nat.le_refl _) (by simp)
  have hs1 := hg1.size
  go_loopw [4] (fun i wr => ∃ (k : Nat) (ys : List Value), i = .int .i64 k ∧ k ≤ n ∧ wr.ownsRow w.heap.size 90 3 (.slice (some ⟨w.heap.size, 0, none⟩) n n) n ys ∧ Agree ys (fl vC xs) (k * 3) ∧ Below w.heap.size w wr ∧ w.heap.size ≤ wr.heap.size) (fun i _ => n - (intOf i).toNat)
  case atStart => exact ⟨0, _, rfl, by omega, ho1, Agree.zero _ _, hb1, hs1⟩
  case round =>
    obtain ⟨k, ys, rfl, hk, hown, hx, hbel, hsz⟩ := hrel
    have HX := Lib.hid hx; clear hx
    have HOW := Lib.hid hown; clear hown
    by_cases hlt : k < n
    · obtain ⟨b, o, rfl, hb, hc⟩ := (hr.below (hbel.mono hB)).val (by omega)
      obtain ⟨x, y, s, he, c0, c1, c2⟩ := hc k hlt
      clear hc
      have HE := Lib.hid he; clear he
      have hgl : w.heap.size < wr.heap.size := (HOW.out.lt w.heap.size rfl).2
      go_wp2_with (go_at_call 66; refine (toVal_any _ _ _ _).mono ?_; rintro e w2 ⟨rfl, hb2⟩; have HO2 := Lib.hid (own_kept HOW.out hb2); obtain ⟨⟨d0, e0⟩, f0⟩ := own_there HO2.out (k * 3) (by omega); obtain ⟨⟨d1, e1⟩, f1⟩ := own_there HO2.out (k * 3 + 1) (by omega); obtain ⟨⟨d2, e2⟩, f2⟩ := own_there HO2.out (k * 3 + 2) (by omega))
      go_roundw
      case rel =>
        have q1 := HO2.out.stored (k * 3) (.int .i64 x)
        have q2 := q1.1.stored (k * 3 + 1) (.int .i64 y)
        have q3 := q2.1.stored (k * 3 + 2) (.string s)
        refine ⟨k + 1, _, by go_num, by omega, q3.1, ?_, ((((bel_trans hbel hb2).setCell (by simp) _).setCell (by simp) _).setCell (by simp) _), by have := hb2.size; simp; omega⟩
        have hkl : k < xs.length := by rw [HL.out]; exact hlt
        have hyl : ys.length = xs.length * 3 := by rw [HO2.out.1, HL.out]
        have a1 := agree_fl vC_sz (d := 0) hkl (by omega) (u := .int .i64 x) (by rw [HE.out]; rfl) HX.out hyl
        have a2 := agree_fl vC_sz (d := 1) hkl (by omega) (u := .int .i64 y) (by rw [HE.out]; rfl) a1 (by simpa using hyl)
        have a3 := agree_fl vC_sz (d := 2) hkl (by omega) (u := .string s) (by rw [HE.out]; rfl) a2 (by simpa using hyl)
        have hk3 : (k + 1) * 3 = k * 3 + 2 + 1 := by omega
        rw [hk3]
        exact a3
      case measure => simp [intOf]; omega
    · go_wp2
      go_ret
      refine ⟨_, rfl, ?_, hbel, hsz⟩
      have hkn : k = n := by omega
      subst hkn
      have hys : ys = fl vC xs := HX.out.full HOW.out.1 (by rw [fl_len vC_sz, HL.out])
      unfold OwnT
      rw [← hys, HL.out]
      exact HOW.out
theorem eqValS_any (A1 A2 : Option Addr) (n1 c1 n2 c2 : Nat) (l1 l2 : List Vl) (w : World) (B B2 : Nat) (h1 : RdS vC 3 w B A1 n1 l1) (h2 : RdS vC 3 w B2 A2 n2 l2) (hn : n1 ≤ 4611686018427387904) :
    Calls Try.prog 44 #[.slice A1 n1 c1, .slice A2 n2 c2] w fun e w' => e = .returned (.bool (decide (l1 = l2))) ∧ Below w.heap.size w w' := by
  obtain ⟨hB, h1⟩ := h1
  obtain ⟨hB2, h2⟩ := h2
  have hl1 := h1.len
  have hl2 := h2.len
  by_cases hn : n1 = n2
  · subst hn
    have H1 := Lib.hid hl1; clear hl1
    have H2 := Lib.hid hl2; clear hl2
    go_enter Try.func44, Try.ntmps44
    go_wp2
    go_loopw [5] (fun i wr => ∃ k : Nat, k ≤ n1 ∧ i = .int .i64 k ∧ Same l1 l2 k ∧ Below w.heap.size w wr) (fun i _ => n1 - (intOf i).toNat)
    case atStart => exact ⟨0, Nat.zero_le _, rfl, Same.zero _ _, bel_refl _⟩
    case round =>
      obtain ⟨k, hk, rfl, ht, hbel⟩ := hrel
      have HT := Lib.hid ht; clear ht
      by_cases hlt : k < n1
      · obtain ⟨b1, o1, rfl, hb1, hc1⟩ := (h1.below (hbel.mono hB)).val (by omega)
        obtain ⟨b2, o2, rfl, hb2, hc2⟩ := (h2.below (hbel.mono hB2)).val (by omega)
        obtain ⟨x, y, s, he, p0, p1, p2⟩ := hc1 k hlt
        obtain ⟨x2, y2, s2, he2, q0, q1, q2⟩ := hc2 k hlt
        have HE := Lib.hid he; clear he hc1
        have HE2 := Lib.hid he2; clear he2 hc2
        have hk0 : (0:Int) ≤ (k : Int) := by omega
        have hk1 : (k:Int) < (n1 : Int) := by omega
        obtain ⟨r, hr⟩ : ∃ r, decide (Vl.mk x y s = Vl.mk x2 y2 s2) = r := ⟨_, rfl⟩
        have HR := Lib.hid hr; clear hr
        cases r
        all_goals
          go_wp2_with fail
          refine wp_still 8 (by kernel_rfl) (by kernel_rfl) ?_
          simp only [List.take_succ_cons, List.take_zero, List.drop_succ_cons, List.drop_zero]
          repeat still_step
          refine wpStill_nil ?_
          go_wp2_with (go_at_call 70; refine (eqVal_any _ _ _ _ _ _ _).mono ?_; rw [HR.out]; rintro e w' ⟨rfl, hb3⟩)
        · go_ret
          refine ⟨ret_bool ?_, bel_trans (bel_drew hbel) hb3⟩
          rw [eq_comm, decide_eq_false_iff_not]
          rintro rfl
          have := of_decide_eq_false HR.out
          exact this (HE.out.symm.trans HE2.out)
        · go_roundw
          case rel => exact ⟨k + 1, by omega, by go_num, HT.out.succ (by rw [H1.out]; exact hlt) (by rw [H2.out]; exact hlt) (by rw [HE.out, HE2.out]; exact of_decide_eq_true HR.out), bel_trans (bel_drew hbel) hb3⟩
          case measure => simp [intOf]; omega
      · go_wp2
        go_ret
        refine ⟨ret_bool ?_, hbel⟩
        rw [eq_comm, decide_eq_true_eq]
        exact HT.out.full (H1.out.trans H2.out.symm) (by rw [H1.out]; omega)
  · go_enter Try.func44, Try.ntmps44
    go_wp2
    go_ret
    refine ⟨ret_bool ?_, bel_refl _⟩
    rw [eq_comm, decide_eq_false_iff_not]
    rintro rfl
    omega
end Go.Proofs.Ytndhjijcicebkaa
