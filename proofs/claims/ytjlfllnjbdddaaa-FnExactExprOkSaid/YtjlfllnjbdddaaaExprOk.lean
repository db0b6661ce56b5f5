/- ExprOk of the program and of the reference. Each answers what the plain function says and makes at most new blocks. No condition but lengths. -/
import Derived.Test.YtjlfllnjbdddaaaCondOk
namespace Go.Proofs.Ytjlfllnjbdddaaa
open Go.RowKit
set_option maxRecDepth 100000
set_option maxHeartbeats 2000000

def zA : Ag := ⟨0, ByteArray.empty, zV⟩
theorem empty_iff (s : ByteArray) : s = ByteArray.empty ↔ s.size = 0 := by
  constructor
  · rintro rfl; rfl
  · intro h
    have := (str_eq s ByteArray.empty)
    rw [(toList_nil s).2 h] at this
    simpa [ByteArray.toList_eq] using this
theorem zA_iff (k : Int) (s : ByteArray) (vk vn : Int) (vs : ByteArray) : decide ((⟨k, s, ⟨vk, vn, vs⟩⟩ : Ag) = zA) = (decide (k = 0) && (decide (s.size = 0) && (decide (vk = 0) && (decide (vn = 0) && decide (vs.size = 0))))) := by
  unfold zA zV
  simp only [Ag.mk.injEq, Vl.mk.injEq, empty_iff]
  by_cases h1 : k = 0 <;> by_cases h2 : s.size = 0 <;> by_cases h3 : vk = 0 <;> by_cases h4 : vn = 0 <;> by_cases h5 : vs.size = 0 <;> simp [h1, h2, h3, h4, h5]
def plusS : ByteArray := ⟨#[43]⟩
def minusS : ByteArray := ⟨#[45]⟩
def exprOk (e : Ex) : Bool := if e.op.size = 0 then termOk e.l && decide (e.r = zA) else if e.op = plusS ∨ e.op = minusS then termOk e.l && termOk e.r else false
theorem lit_eq (s : ByteArray) (l : List UInt8) : (s.toList == l) = decide (s = ⟨l.toArray⟩) := by
  have := str_eq s ⟨l.toArray⟩
  rw [show (⟨l.toArray⟩ : ByteArray).toList = l by rw [ByteArray.toList_eq]] at this
  exact this

theorem implExprOk_any (op : ByteArray) (lk : Int) (ls : ByteArray) (lvk lvn : Int) (lvs : ByteArray) (rk : Int) (rs : ByteArray) (rvk rvn : Int) (rvs : ByteArray) (w : World) (hop : op.size ≤ 9223372036854775807) (hls : ls.size ≤ 9223372036854775807) (hlvs : lvs.size ≤ 9223372036854775807) (hrs : rs.size ≤ 9223372036854775807) (hrvs : rvs.size ≤ 9223372036854775807) :
    Calls Try.prog 53 #[.agg #[.string op, .int .i64 lk, .string ls, .int .i64 lvk, .int .i64 lvn, .string lvs, .int .i64 rk, .string rs, .int .i64 rvk, .int .i64 rvn, .string rvs]] w fun e w' => e = .returned (.bool (exprOk ⟨op, ⟨lk, ls, ⟨lvk, lvn, lvs⟩⟩, ⟨rk, rs, ⟨rvk, rvn, rvs⟩⟩⟩)) ∧ Below w.heap.size w w' := by
  obtain ⟨r1, h1⟩ : ∃ r, termOk ⟨lk, ls, ⟨lvk, lvn, lvs⟩⟩ = r := ⟨_, rfl⟩
  obtain ⟨r2, h2⟩ : ∃ r, termOk ⟨rk, rs, ⟨rvk, rvn, rvs⟩⟩ = r := ⟨_, rfl⟩
  have H1 := Lib.hid h1; clear h1
  have H2 := Lib.hid h2; clear h2
  by_cases h0 : op.size = 0
  · obtain rfl : op = ⟨#[]⟩ := (empty_iff op).2 h0
    have HT := Lib.hid (show exprOk ⟨⟨#[]⟩, ⟨lk, ls, ⟨lvk, lvn, lvs⟩⟩, ⟨rk, rs, ⟨rvk, rvn, rvs⟩⟩⟩ = (r1 && (decide (rk = 0) && (decide (rs.size = 0) && (decide (rvk = 0) && (decide (rvn = 0) && decide (rvs.size = 0)))))) by unfold exprOk; rw [if_pos (by rfl)]; simp only; rw [H1.out, zA_iff])
    clear h0 hop
    cases r1
    all_goals
      go_enter Try.func53, Try.ntmps53
      go_wp2_with (first | (go_at_call 90; (with_reducible refine (isTerm_any lk ls lvk lvn lvs _ hls hlvs).mono ?_); rw [H1.out]; rintro e w' ⟨rfl, hb⟩; obtain ⟨hc, hf⟩ := bcell hb) | (go_at_call 90; (with_reducible refine (isTerm_any rk rs rvk rvn rvs _ hrs hrvs).mono ?_); rw [H2.out]; rintro e w' ⟨rfl, hb2⟩))
    all_goals
      go_ret
      refine ⟨ret_bool ?_, (by repeat (first | with_reducible exact bel_refl _ | with_reducible assumption | with_reducible refine bel_set ?_ (by first | (simp; done) | (simp; omega) | omega) _ | with_reducible refine bel_alloc ?_ _ | with_reducible refine bel_drew ?_ | with_reducible refine bel_drewN ?_ _ | with_reducible refine bel_trans ?_ (by assumption)))⟩
      rw [HT.out]
      simp_all [toList_nil]
  · have t0 : op.toList.isEmpty = false := by rw [isEmpty_iff, decide_eq_false h0]
    have t0' : ¬ op.toList = [] := by rw [toList_nil]; exact h0
    by_cases hp : op = plusS ∨ op = minusS
    · have HT := Lib.hid (show exprOk ⟨op, ⟨lk, ls, ⟨lvk, lvn, lvs⟩⟩, ⟨rk, rs, ⟨rvk, rvn, rvs⟩⟩⟩ = (r1 && r2) by unfold exprOk; rw [if_neg h0, if_pos hp, H1.out, H2.out])
      clear h0 hop
      rcases hp with rfl | rfl
      all_goals
        clear t0 t0'
        cases r1 <;> cases r2
        all_goals
          first | unfold plusS at * | unfold minusS at *
          go_enter Try.func53, Try.ntmps53
          go_wp2_with (first | (go_at_call 90; (with_reducible refine (isTerm_any lk ls lvk lvn lvs _ hls hlvs).mono ?_); rw [H1.out]; rintro e w' ⟨rfl, hb⟩; obtain ⟨hc, hf⟩ := bcell hb) | (go_at_call 90; (with_reducible refine (isTerm_any rk rs rvk rvn rvs _ hrs hrvs).mono ?_); rw [H2.out]; rintro e w' ⟨rfl, hb2⟩))
          go_ret
          exact ⟨ret_bool (by rw [HT.out]; rfl), (by repeat (first | with_reducible exact bel_refl _ | with_reducible assumption | with_reducible refine bel_set ?_ (by first | (simp; done) | (simp; omega) | omega) _ | with_reducible refine bel_alloc ?_ _ | with_reducible refine bel_drew ?_ | with_reducible refine bel_drewN ?_ _ | with_reducible refine bel_trans ?_ (by assumption)))⟩
    · have HT := Lib.hid (show exprOk ⟨op, ⟨lk, ls, ⟨lvk, lvn, lvs⟩⟩, ⟨rk, rs, ⟨rvk, rvn, rvs⟩⟩⟩ = false by unfold exprOk; rw [if_neg h0, if_neg hp])
      have t1 : (op.toList == [43]) = false := by rw [lit_eq]; exact decide_eq_false (fun e => hp (.inl e))
      have t2 : (op.toList == [45]) = false := by rw [lit_eq]; exact decide_eq_false (fun e => hp (.inr e))
      have t1' : ¬ op.toList = [43] := by simpa using t1
      have t2' : ¬ op.toList = [45] := by simpa using t2
      clear h0 hop hp
      go_enter Try.func53, Try.ntmps53
      go_wp2
      go_ret
      exact ⟨ret_bool HT.out.symm, (by repeat (first | with_reducible exact bel_refl _ | with_reducible assumption | with_reducible refine bel_set ?_ (by first | (simp; done) | (simp; omega) | omega) _ | with_reducible refine bel_alloc ?_ _ | with_reducible refine bel_drew ?_ | with_reducible refine bel_drewN ?_ _ | with_reducible refine bel_trans ?_ (by assumption)))⟩
theorem specExprOk_any (op : ByteArray) (lk : Int) (ls : ByteArray) (lvk lvn : Int) (lvs : ByteArray) (rk : Int) (rs : ByteArray) (rvk rvn : Int) (rvs : ByteArray) (w : World) (hop : op.size ≤ 9223372036854775807) (hls : ls.size ≤ 9223372036854775807) (hlvs : lvs.size ≤ 9223372036854775807) (hrs : rs.size ≤ 9223372036854775807) (hrvs : rvs.size ≤ 9223372036854775807) :
    Calls Try.prog 51 #[.agg #[.string op, .int .i64 lk, .string ls, .int .i64 lvk, .int .i64 lvn, .string lvs, .int .i64 rk, .string rs, .int .i64 rvk, .int .i64 rvn, .string rvs]] w fun e w' => e = .returned (.bool (exprOk ⟨op, ⟨lk, ls, ⟨lvk, lvn, lvs⟩⟩, ⟨rk, rs, ⟨rvk, rvn, rvs⟩⟩⟩)) ∧ Below w.heap.size w w' := by
  obtain ⟨r1, h1⟩ : ∃ r, termOk ⟨lk, ls, ⟨lvk, lvn, lvs⟩⟩ = r := ⟨_, rfl⟩
  obtain ⟨r2, h2⟩ : ∃ r, termOk ⟨rk, rs, ⟨rvk, rvn, rvs⟩⟩ = r := ⟨_, rfl⟩
  have H1 := Lib.hid h1; clear h1
  have H2 := Lib.hid h2; clear h2
  by_cases h0 : op.size = 0
  · obtain rfl : op = ⟨#[]⟩ := (empty_iff op).2 h0
    have HT := Lib.hid (show exprOk ⟨⟨#[]⟩, ⟨lk, ls, ⟨lvk, lvn, lvs⟩⟩, ⟨rk, rs, ⟨rvk, rvn, rvs⟩⟩⟩ = (r1 && (decide (rk = 0) && (decide (rs.size = 0) && (decide (rvk = 0) && (decide (rvn = 0) && decide (rvs.size = 0)))))) by unfold exprOk; rw [if_pos (by rfl)]; simp only; rw [H1.out, zA_iff])
    clear h0 hop
    cases r1
    all_goals
      go_enter Try.func51, Try.ntmps51
      go_wp2_with (first | (go_at_call 91; (with_reducible refine (l8Given_any lk ls lvk lvn lvs _ hls hlvs).mono ?_); rw [H1.out]; rintro e w' ⟨rfl, hb⟩; obtain ⟨hc, hf⟩ := bcell hb) | (go_at_call 91; (with_reducible refine (l8Given_any rk rs rvk rvn rvs _ hrs hrvs).mono ?_); rw [H2.out]; rintro e w' ⟨rfl, hb2⟩))
    all_goals
      go_ret
      refine ⟨ret_bool ?_, (by repeat (first | with_reducible exact bel_refl _ | with_reducible assumption | with_reducible refine bel_set ?_ (by first | (simp; done) | (simp; omega) | omega) _ | with_reducible refine bel_alloc ?_ _ | with_reducible refine bel_drew ?_ | with_reducible refine bel_drewN ?_ _ | with_reducible refine bel_trans ?_ (by assumption)))⟩
      rw [HT.out]
      simp_all [toList_nil]
  · have t0 : op.toList.isEmpty = false := by rw [isEmpty_iff, decide_eq_false h0]
    have t0' : ¬ op.toList = [] := by rw [toList_nil]; exact h0
    by_cases hp : op = plusS ∨ op = minusS
    · have HT := Lib.hid (show exprOk ⟨op, ⟨lk, ls, ⟨lvk, lvn, lvs⟩⟩, ⟨rk, rs, ⟨rvk, rvn, rvs⟩⟩⟩ = (r1 && r2) by unfold exprOk; rw [if_neg h0, if_pos hp, H1.out, H2.out])
      clear h0 hop
      rcases hp with rfl | rfl
      all_goals
        clear t0 t0'
        cases r1 <;> cases r2
        all_goals
          first | unfold plusS at * | unfold minusS at *
          go_enter Try.func51, Try.ntmps51
          go_wp2_with (first | (go_at_call 91; (with_reducible refine (l8Given_any lk ls lvk lvn lvs _ hls hlvs).mono ?_); rw [H1.out]; rintro e w' ⟨rfl, hb⟩; obtain ⟨hc, hf⟩ := bcell hb) | (go_at_call 91; (with_reducible refine (l8Given_any rk rs rvk rvn rvs _ hrs hrvs).mono ?_); rw [H2.out]; rintro e w' ⟨rfl, hb2⟩))
          go_ret
          exact ⟨ret_bool (by rw [HT.out]; rfl), (by repeat (first | with_reducible exact bel_refl _ | with_reducible assumption | with_reducible refine bel_set ?_ (by first | (simp; done) | (simp; omega) | omega) _ | with_reducible refine bel_alloc ?_ _ | with_reducible refine bel_drew ?_ | with_reducible refine bel_drewN ?_ _ | with_reducible refine bel_trans ?_ (by assumption)))⟩
    · have HT := Lib.hid (show exprOk ⟨op, ⟨lk, ls, ⟨lvk, lvn, lvs⟩⟩, ⟨rk, rs, ⟨rvk, rvn, rvs⟩⟩⟩ = false by unfold exprOk; rw [if_neg h0, if_neg hp])
      have t1 : (op.toList == [43]) = false := by rw [lit_eq]; exact decide_eq_false (fun e => hp (.inl e))
      have t2 : (op.toList == [45]) = false := by rw [lit_eq]; exact decide_eq_false (fun e => hp (.inr e))
      have t1' : ¬ op.toList = [43] := by simpa using t1
      have t2' : ¬ op.toList = [45] := by simpa using t2
      clear h0 hop hp
      go_enter Try.func51, Try.ntmps51
      go_wp2
      go_ret
      exact ⟨ret_bool HT.out.symm, (by repeat (first | with_reducible exact bel_refl _ | with_reducible assumption | with_reducible refine bel_set ?_ (by first | (simp; done) | (simp; omega) | omega) _ | with_reducible refine bel_alloc ?_ _ | with_reducible refine bel_drew ?_ | with_reducible refine bel_drewN ?_ _ | with_reducible refine bel_trans ?_ (by assumption)))⟩
end Go.Proofs.Ytjlfllnjbdddaaa
