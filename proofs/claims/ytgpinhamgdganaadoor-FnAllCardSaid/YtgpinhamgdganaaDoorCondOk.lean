/- CondOk, ExprOk of the program and of the reference. Each answers what the plain function says and makes at most new blocks. No condition but lengths. -/
import Derived.Test.YtgpinhamgdganaaDoorArgOk
import Derived.Test.YtgpinhamgdganaaDoorCond
import Derived.Test.YtgpinhamgdganaaDoorExpr
namespace Go.Proofs.YtgpinhamgdganaaDoor
open Go.RowKit
set_option maxRecDepth 100000
set_option maxHeartbeats 2000000

def termOk (a : Ag) : Bool := decide (a.k ≠ 3) && argOk a
def condOk (c : Cd) : Bool := inB c.op 1 3 && (termOk c.l && termOk c.r)
theorem isTerm_any (k : Int) (s : ByteArray) (vk vn : Int) (vs : ByteArray) (w : World) (hs : s.size ≤ 9223372036854775807) (hvs : vs.size ≤ 9223372036854775807) :
    Calls Tryd.prog 69 #[.agg #[.int .i64 k, .string s, .int .i64 vk, .int .i64 vn, .string vs]] w fun e w' => e = .returned (.bool (termOk ⟨k, s, ⟨vk, vn, vs⟩⟩)) ∧ Below w.heap.size w w' := by
  by_cases h3 : k = 3
  · have ht : (k != 3) = false := by simpa using h3
    have HT := Lib.hid (show termOk ⟨k, s, ⟨vk, vn, vs⟩⟩ = false by unfold termOk; simp [h3])
    clear h3
    go_enter Tryd.func69, Tryd.ntmps69
    go_wp2
    go_ret
    exact ⟨ret_bool HT.out.symm, (by repeat (first | with_reducible exact bel_refl _ | with_reducible assumption | with_reducible refine bel_set ?_ (by first | (simp; done) | (simp; omega) | omega) _ | with_reducible refine bel_alloc ?_ _ | with_reducible refine bel_drew ?_ | with_reducible refine bel_drewN ?_ _ | with_reducible refine bel_trans ?_ (by assumption)))⟩
  · have ht : (k != 3) = true := by simpa using h3
    have HT := Lib.hid (show termOk ⟨k, s, ⟨vk, vn, vs⟩⟩ = argOk ⟨k, s, ⟨vk, vn, vs⟩⟩ by unfold termOk; simp [h3])
    clear h3
    go_enter Tryd.func69, Tryd.ntmps69
    go_wp2_with (go_at_call 21; refine (implArgOk_any _ _ _ _ _ _ hs hvs).mono ?_; rintro e w' ⟨rfl, hb⟩)
    go_ret
    exact ⟨ret_bool HT.out.symm, (by repeat (first | with_reducible exact bel_refl _ | with_reducible assumption | with_reducible refine bel_set ?_ (by first | (simp; done) | (simp; omega) | omega) _ | with_reducible refine bel_alloc ?_ _ | with_reducible refine bel_drew ?_ | with_reducible refine bel_drewN ?_ _ | with_reducible refine bel_trans ?_ (by assumption)))⟩
theorem implCondOk_any (op lk : Int) (ls : ByteArray) (lvk lvn : Int) (lvs : ByteArray) (rk : Int) (rs : ByteArray) (rvk rvn : Int) (rvs : ByteArray) (w : World) (hls : ls.size ≤ 9223372036854775807) (hlvs : lvs.size ≤ 9223372036854775807) (hrs : rs.size ≤ 9223372036854775807) (hrvs : rvs.size ≤ 9223372036854775807) :
    Calls Tryd.prog 39 #[.agg #[.int .i64 op, .int .i64 lk, .string ls, .int .i64 lvk, .int .i64 lvn, .string lvs, .int .i64 rk, .string rs, .int .i64 rvk, .int .i64 rvn, .string rvs]] w fun e w' => e = .returned (.bool (condOk ⟨op, ⟨lk, ls, ⟨lvk, lvn, lvs⟩⟩, ⟨rk, rs, ⟨rvk, rvn, rvs⟩⟩⟩)) ∧ Below w.heap.size w w' := by
  obtain ⟨r0, h0⟩ : ∃ r, inB op 1 3 = r := ⟨_, rfl⟩
  obtain ⟨r1, h1⟩ : ∃ r, termOk ⟨lk, ls, ⟨lvk, lvn, lvs⟩⟩ = r := ⟨_, rfl⟩
  obtain ⟨r2, h2⟩ : ∃ r, termOk ⟨rk, rs, ⟨rvk, rvn, rvs⟩⟩ = r := ⟨_, rfl⟩
  have HT := Lib.hid (show condOk ⟨op, ⟨lk, ls, ⟨lvk, lvn, lvs⟩⟩, ⟨rk, rs, ⟨rvk, rvn, rvs⟩⟩⟩ = (r0 && (r1 && r2)) by unfold condOk; rw [h0, h1, h2])
  have H0 := Lib.hid h0; clear h0
  have H1 := Lib.hid h1; clear h1
  have H2 := Lib.hid h2; clear h2
  cases r0 <;> cases r1 <;> cases r2
  all_goals
    go_enter Tryd.func39, Tryd.ntmps39
    go_wp2_with (first | (go_at_call 58; refine (inRange_any _ _ _ _).mono ?_; rw [H0.out]; rintro e w' ⟨rfl, rfl⟩) | (go_at_call 69; (with_reducible refine (isTerm_any lk ls lvk lvn lvs _ hls hlvs).mono ?_); rw [H1.out]; rintro e w' ⟨rfl, hb⟩; obtain ⟨hc, hf⟩ := bcell hb) | (go_at_call 69; (with_reducible refine (isTerm_any rk rs rvk rvn rvs _ hrs hrvs).mono ?_); rw [H2.out]; rintro e w' ⟨rfl, hb2⟩))
    go_ret
    exact ⟨ret_bool (by rw [HT.out]; rfl), (by repeat (first | with_reducible exact bel_refl _ | with_reducible assumption | with_reducible refine bel_set ?_ (by first | (simp; done) | (simp; omega) | omega) _ | with_reducible refine bel_alloc ?_ _ | with_reducible refine bel_drew ?_ | with_reducible refine bel_drewN ?_ _ | with_reducible refine bel_trans ?_ (by assumption)))⟩
theorem specCondOk_any (op lk : Int) (ls : ByteArray) (lvk lvn : Int) (lvs : ByteArray) (rk : Int) (rs : ByteArray) (rvk rvn : Int) (rvs : ByteArray) (w : World) (hls : ls.size ≤ 9223372036854775807) (hlvs : lvs.size ≤ 9223372036854775807) (hrs : rs.size ≤ 9223372036854775807) (hrvs : rvs.size ≤ 9223372036854775807) :
    Calls Tryd.prog 13 #[.agg #[.int .i64 op, .int .i64 lk, .string ls, .int .i64 lvk, .int .i64 lvn, .string lvs, .int .i64 rk, .string rs, .int .i64 rvk, .int .i64 rvn, .string rvs]] w fun e w' => e = .returned (.bool (condOk ⟨op, ⟨lk, ls, ⟨lvk, lvn, lvs⟩⟩, ⟨rk, rs, ⟨rvk, rvn, rvs⟩⟩⟩)) ∧ Below w.heap.size w w' := by
  obtain ⟨r0, h0⟩ : ∃ r, inB op 1 3 = r := ⟨_, rfl⟩
  obtain ⟨r1, h1⟩ : ∃ r, argOk ⟨lk, ls, ⟨lvk, lvn, lvs⟩⟩ = r := ⟨_, rfl⟩
  obtain ⟨r2, h2⟩ : ∃ r, argOk ⟨rk, rs, ⟨rvk, rvn, rvs⟩⟩ = r := ⟨_, rfl⟩
  obtain ⟨r3, h3⟩ : ∃ r, (lk != 3) = r := ⟨_, rfl⟩
  obtain ⟨r4, h4⟩ : ∃ r, (rk != 3) = r := ⟨_, rfl⟩
  have hd : ∀ x : Int, decide (x ≠ 3) = (x != 3) := fun x => by by_cases h : x = 3 <;> simp [h]
  have HT := Lib.hid (show condOk ⟨op, ⟨lk, ls, ⟨lvk, lvn, lvs⟩⟩, ⟨rk, rs, ⟨rvk, rvn, rvs⟩⟩⟩ = (r0 && ((r3 && r1) && (r4 && r2))) by unfold condOk termOk; rw [h0, h1, h2, hd, hd, h3, h4])
  clear hd
  have H0 := Lib.hid h0; clear h0
  have H1 := Lib.hid h1; clear h1
  have H2 := Lib.hid h2; clear h2
  cases r0 <;> cases r1 <;> cases r2 <;> cases r3 <;> cases r4
  all_goals
    go_enter Tryd.func13, Tryd.ntmps13
    go_wp2_with (first | (go_at_call 41; refine (l1In_any _ _ _ _).mono ?_; rw [H0.out]; rintro e w' ⟨rfl, rfl⟩) | (go_at_call 22; (with_reducible refine (specArgOk_any lk ls lvk lvn lvs _ hls hlvs).mono ?_); rw [H1.out]; rintro e w' ⟨rfl, hb⟩; obtain ⟨hc, hf⟩ := bcell hb) | (go_at_call 22; (with_reducible refine (specArgOk_any rk rs rvk rvn rvs _ hrs hrvs).mono ?_); rw [H2.out]; rintro e w2 ⟨rfl, hb2⟩; have q1 := old_cell hb2 (old_cell hb (b := w.heap.size) (o := 1) (v := .int .i64 lk) (by go_simp)); have q6 := old_cell hb2 (old_cell hb (b := w.heap.size) (o := 6) (v := .int .i64 rk) (by go_simp))))
    go_ret
    exact ⟨ret_bool (by rw [HT.out]; rfl), (by repeat (first | with_reducible exact bel_refl _ | with_reducible assumption | with_reducible refine bel_set ?_ (by first | (simp; done) | (simp; omega) | omega) _ | with_reducible refine bel_alloc ?_ _ | with_reducible refine bel_drew ?_ | with_reducible refine bel_drewN ?_ _ | with_reducible refine bel_trans ?_ (by assumption)))⟩
end Go.Proofs.YtgpinhamgdganaaDoor
