/- Marking and holding slices of Bind. No condition but lengths. -/
import Derived.Test.YtjlfllnjbdddaaaBindS
import Derived.Test.YtjlfllnjbdddaaaMark
namespace Go.Proofs.Ytjlfllnjbdddaaa
open Go.RowKit
set_option maxRecDepth 100000
set_option maxHeartbeats 2000000

def mkBind (k : Nat) : Bd := ⟨(mtxt (k + 0)), ⟨((k + 1 : Nat) : Int), ((k + 2 : Nat) : Int), (mtxt (k + 3))⟩⟩
def marksBind (k n : Nat) : List Bd := (List.range n).map fun i => mkBind (k + 4 * i)
theorem marksBind_len (k n : Nat) : (marksBind k n).length = n := by simp [marksBind]
theorem marksBind_get (k n i : Nat) (h : i < (marksBind k n).length) : (marksBind k n)[i] = mkBind (k + 4 * i) := by simp [marksBind]
theorem gr_belBind {a w w' : World} {row : Option Nat} (h : a.grownBy w row) (hb : Below w.heap.size w w') : a.grownBy w' row :=
  ⟨hb.os.trans h.os, hb.tape.trans h.tape, hb.output.trans h.output, Nat.le_trans h.size hb.size, fun k hk hne => (hb.block k (Nat.lt_of_lt_of_le hk h.size)).trans (h.block k hk hne)⟩
theorem markBindS_any (A : Option Addr) (n c : Nat) (xs : List Bd) (K : Int) (k0 : Nat) (w : World) (base : Nat) (ho : OwnT bC 4 w base 116 (.slice A n c) xs) (hl : xs.length = n) (hK : K = k0) (hn : n ≤ 1048576) (hk0 : k0 ≤ 70368744177) :
    Calls Try.prog 42 #[.slice A n c, .int .i64 K] w fun e w' => e = .returned (.int .i64 ((k0 + 4 * n : Nat) : Int)) ∧ OwnT bC 4 w' base 116 (.slice A n c) (marksBind k0 n) ∧ w.grownBy w' (Value.ownBlock (.slice A n c)) := by
  subst hK
  unfold OwnT at ho ⊢
  rw [hl] at ho
  rw [marksBind_len]
  clear hl
  have HO := Lib.hid ho; clear ho
  have hfl : (fl bC (marksBind k0 n)).length = n * 4 := by rw [fl_len bC_sz, marksBind_len]
  have HFL := Lib.hid hfl; clear hfl
  go_enter Try.func42, Try.ntmps42
  go_wp2
  go_loopw [1, 5] (fun kk i wr => ∃ (k : Nat) (ys : List Value), i = .int .i64 k ∧ kk = .int .i64 ((k0 + 4 * k : Nat) : Int) ∧ k ≤ n ∧ wr.ownsRow base 116 4 (.slice A n c) n ys ∧ Agree ys (fl bC (marksBind k0 n)) (k * 4) ∧ w.grownBy wr (Value.ownBlock (.slice A n c))) (fun _ i _ => n - (intOf i).toNat)
  case atStart => exact ⟨0, _, rfl, by go_num, by omega, HO.out, by rw [Nat.zero_mul]; exact Agree.zero _ _, World.grownBy.refl _ _⟩
  case round =>
    obtain ⟨k, ys, rfl, rfl, hk, hown, hx, hg⟩ := hrel
    have HX := Lib.hid hx; clear hx
    by_cases hlt : k < n
    · obtain ⟨g, cap, hv, hbg, hglt⟩ := hown.form (by omega)
      have hA : A = some ⟨g, 0, none⟩ := by injection hv
      subst hA
      have H0 := Lib.hid hown; clear hown
      clear hv
      have hmk : k < (marksBind k0 n).length := by rw [marksBind_len]; exact hlt
      obtain ⟨⟨d0, e0⟩, f0⟩ := own_there H0.out (k * 4) (by omega)
      obtain ⟨⟨d1, e1⟩, f1⟩ := own_there H0.out (k * 4 + 1) (by omega)
      obtain ⟨⟨d2, e2⟩, f2⟩ := own_there H0.out (k * 4 + 2) (by omega)
      obtain ⟨⟨d3, e3⟩, f3⟩ := own_there H0.out (k * 4 + 3) (by omega)
      go_wp2_with fail
      refine (markText_any _ (k0 + 4 * k + 0) (by simp <;> omega) _ (by omega)).mono ?_
      rintro e w0 ⟨rfl, hb⟩
      have H1 := Lib.hid (own_kept H0.out hb)
      have hg1 := gr_belBind hg hb
      have hsz1 := hb.size
      clear hb
      obtain ⟨⟨d0, e0⟩, f0⟩ := own_there H1.out (k * 4) (by omega)
      obtain ⟨⟨d1, e1⟩, f1⟩ := own_there H1.out (k * 4 + 1) (by omega)
      obtain ⟨⟨d2, e2⟩, f2⟩ := own_there H1.out (k * 4 + 2) (by omega)
      obtain ⟨⟨d3, e3⟩, f3⟩ := own_there H1.out (k * 4 + 3) (by omega)
      go_wp2_with fail
      refine (markText_any _ (k0 + 4 * k + 3) (by simp <;> omega) _ (by omega)).mono ?_
      rintro e w3 ⟨rfl, hb⟩
      have H2 := Lib.hid (own_kept (((H1.out.stored (k * 4) _).1.stored (k * 4 + 1) _).1.stored (k * 4 + 2) _).1 hb)
      have hg2 := gr_belBind (World.grownBy.trans (World.grownBy.trans (World.grownBy.trans hg1 (H1.out.stored (k * 4) _).2) ((H1.out.stored (k * 4) _).1.stored (k * 4 + 1) _).2) (((H1.out.stored (k * 4) _).1.stored (k * 4 + 1) _).1.stored (k * 4 + 2) _).2) hb
      have hsz2 := hb.size
      clear hb
      obtain ⟨⟨d3, e3⟩, f3⟩ := own_there H2.out (k * 4 + 3) (by omega)
      go_wp2
      go_roundw
      case rel =>
        refine ⟨k + 1, _, by go_num, by go_num, by omega, (H2.out.stored (k * 4 + 3) _).1, ?_, (World.grownBy.trans hg2 (H2.out.stored (k * 4 + 3) _).2)⟩
        have hyl : ys.length = (marksBind k0 n).length * 4 := by rw [H0.out.1, marksBind_len]
        have a0 := agree_fl bC_sz (k := k) (d := 0) hmk (by omega) (u := .string (mtxt (k0 + 4 * k + 0))) (by rw [marksBind_get]; rfl) HX.out (by simpa using hyl)
        have a1 := agree_fl bC_sz (k := k) (d := 1) hmk (by omega) (u := .int .i64 ((k0 : Int) + 4 * (k : Int) + 1)) (by rw [marksBind_get]; exact congrArg (fun x : Int => some (Value.int .i64 x)) (show ((k0 + 4 * k + 1 : Nat) : Int) = (k0 : Int) + 4 * (k : Int) + 1 by omega)) a0 (by simpa using hyl)
        have a2 := agree_fl bC_sz (k := k) (d := 2) hmk (by omega) (u := .int .i64 ((k0 : Int) + 4 * (k : Int) + 1 + 1)) (by rw [marksBind_get]; exact congrArg (fun x : Int => some (Value.int .i64 x)) (show ((k0 + 4 * k + 2 : Nat) : Int) = (k0 : Int) + 4 * (k : Int) + 1 + 1 by omega)) a1 (by simpa using hyl)
        have a3 := agree_fl bC_sz (k := k) (d := 3) hmk (by omega) (u := .string (mtxt (k0 + 4 * k + 3))) (by rw [marksBind_get]; rfl) a2 (by simpa using hyl)
        rw [show (k + 1) * 4 = k * 4 + 3 + 1 by omega]
        simpa using a3
      case measure => simp [intOf]; omega
    · have HOW := Lib.hid hown; clear hown
      go_wp2
      go_ret
      have hkn : k = n := by omega
      subst hkn
      refine ⟨rfl, ?_, hg⟩
      have hys := HX.out.full HOW.out.1 HFL.out
      rw [← hys]
      exact HOW.out
theorem heldBindS_any (A : Option Addr) (c n : Nat) (K : Int) (k0 : Nat) (w : World) (B : Nat) (hr : RdS bC 4 w B A n (marksBind k0 n)) (hK : K = k0) (hn : n ≤ 1048576) (hk0 : k0 ≤ 70368744177) :
    Calls Try.prog 43 #[.slice A n c, .int .i64 K] w fun e w' => e = .returned (.int .i64 ((k0 + 4 * n : Nat) : Int)) ∧ Below w.heap.size w w' := by
  subst hK
  go_enter Try.func43, Try.ntmps43
  go_wp2
  go_loopw [1, 5] (fun kk i wr => ∃ (k : Nat), i = .int .i64 k ∧ kk = .int .i64 ((k0 + 4 * k : Nat) : Int) ∧ k ≤ n ∧ Below w.heap.size w wr) (fun _ i _ => n - (intOf i).toNat)
  case atStart => exact ⟨0, rfl, by go_num, by omega, bel_refl _⟩
  case round =>
    obtain ⟨k, rfl, rfl, hk, hbel⟩ := hrel
    by_cases hlt : k < n
    · obtain ⟨b, o, rfl, hb0, hc⟩ := (hr.kept hbel).2.at_ bC_sz (by omega)
      have hmk : k < (marksBind k0 n).length := by rw [marksBind_len]; exact hlt
      have hk0' : (0:Int) ≤ (k : Int) := by omega
      have hk1' : (k:Int) < (n : Int) := by omega
      have c0 : wr.cell? ⟨b, o + k * 4, none⟩ = some (.string (mtxt (k0 + 4 * k + 0))) := by have h := hc k hlt 0 (.string (mtxt (k0 + 4 * k + 0))) (by omega) (by rw [marksBind_get]; rfl); simpa using h
      have c1 : wr.cell? ⟨b, o + k * 4 + 1, none⟩ = some (.int .i64 ((k0 : Int) + 4 * k + 1)) := by have h := hc k hlt 1 (.int .i64 ((k0 + 4 * k + 1 : Nat) : Int)) (by omega) (by rw [marksBind_get]; rfl); simpa using h
      have c2 : wr.cell? ⟨b, o + k * 4 + 2, none⟩ = some (.int .i64 ((k0 : Int) + 4 * k + 2)) := by have h := hc k hlt 2 (.int .i64 ((k0 + 4 * k + 2 : Nat) : Int)) (by omega) (by rw [marksBind_get]; rfl); simpa using h
      have c3 : wr.cell? ⟨b, o + k * 4 + 3, none⟩ = some (.string (mtxt (k0 + 4 * k + 3))) := by have h := hc k hlt 3 (.string (mtxt (k0 + 4 * k + 3))) (by omega) (by rw [marksBind_get]; rfl); simpa using h
      clear hc
      go_wp2_with fail
      go_region_held3 (fun w' => Below wr.heap.size wr w' ∧ w'.cell? ⟨b, o + k * 4, none⟩ = some (.string (mtxt (k0 + 4 * k + 0)))) (((refine (fun hB => ⟨hB, old_cell hB c0⟩ : Below wr.heap.size wr _ → _) ?_); (repeat (first | exact bel_refl _ | exact bel_drew (bel_refl _) | exact bel_trans (And.left (by assumption)) (by assumption) | assumption))))
        ((go_at_call 82; refine (markText_any _ (k0 + 4 * k + 0) (by simp <;> omega) _ (by omega)).mono ?_; rintro e v0 ⟨rfl, hb⟩))
      rename_i hHeld
      obtain ⟨hB, _⟩ := hHeld
      replace c1 := old_cell hB c1
      replace c2 := old_cell hB c2
      replace c3 := old_cell hB c3
      replace hbel := bel_trans hbel hB
      clear hB
      go_wp2_with fail
      go_region_held3 (fun w' => Below v0.heap.size v0 w' ∧ w'.cell? ⟨b, o + k * 4 + 3, none⟩ = some (.string (mtxt (k0 + 4 * k + 3)))) (((refine (fun hB => ⟨hB, old_cell hB c3⟩ : Below v0.heap.size v0 _ → _) ?_); (repeat (first | exact bel_refl _ | exact bel_drew (bel_refl _) | exact bel_trans (And.left (by assumption)) (by assumption) | assumption))))
        ((go_at_call 82; refine (markText_any _ (k0 + 4 * k + 3) (by simp <;> omega) _ (by omega)).mono ?_; rintro e v3 ⟨rfl, hb⟩))
      rename_i hHeld
      obtain ⟨hB, _⟩ := hHeld
      replace hbel := bel_trans hbel hB
      clear hB
      go_wp2
      go_roundw
      case rel => exact ⟨k + 1, by go_num, by go_num, by omega, hbel⟩
      case measure => simp [intOf]; omega
    · go_wp2
      go_ret
      exact ⟨ret_int (by omega), hbel⟩
end Go.Proofs.Ytjlfllnjbdddaaa
