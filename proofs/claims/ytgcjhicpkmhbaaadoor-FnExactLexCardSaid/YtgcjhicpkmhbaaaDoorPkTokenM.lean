import Derived.Test.YtgcjhicpkmhbaaaDoorPkTokenS
import Derived.Test.YtgcjhicpkmhbaaaDoorMark
/- Marking and holding slices of Token. No condition but lengths. -/
namespace Go.Proofs.YtgcjhicpkmhbaaaDoor
open Go.RowKit
set_option maxRecDepth 100000
set_option maxHeartbeats 2000000

def mkToken (k : Nat) : Vl := ⟨((k + 0 : Nat) : Int), ((k + 1 : Nat) : Int), (mtxt (k + 2))⟩
def marksToken (k n : Nat) : List Vl := (List.range n).map fun i => mkToken (k + 3 * i)
theorem marksToken_len (k n : Nat) : (marksToken k n).length = n := by simp [marksToken]
theorem marksToken_get (k n i : Nat) (h : i < (marksToken k n).length) : (marksToken k n)[i] = mkToken (k + 3 * i) := by simp [marksToken]
theorem gr_belToken {a w w' : World} {row : Option Nat} (h : a.grownBy w row) (hb : Below w.heap.size w w') : a.grownBy w' row :=
  ⟨hb.os.trans h.os, hb.tape.trans h.tape, hb.output.trans h.output, Nat.le_trans h.size hb.size, fun k hk hne => (hb.block k (Nat.lt_of_lt_of_le hk h.size)).trans (h.block k hk hne)⟩
theorem markTokenS_any (A : Option Addr) (n c : Nat) (xs : List Vl) (K : Int) (k0 : Nat) (w : World) (base : Nat) (ho : OwnT vC 3 w base 34 (.slice A n c) xs) (hl : xs.length = n) (hK : K = k0) (hn : n ≤ 1048576) (hk0 : k0 ≤ 70368744177) :
    Calls Tryd.prog 9 #[.slice A n c, .int .i64 K] w fun e w' => e = .returned (.int .i64 ((k0 + 3 * n : Nat) : Int)) ∧ OwnT vC 3 w' base 34 (.slice A n c) (marksToken k0 n) ∧ w.grownBy w' (Value.ownBlock (.slice A n c)) := by
  subst hK
  unfold OwnT at ho ⊢
  rw [hl] at ho
  rw [marksToken_len]
  clear hl
  have HO := Lib.hid ho; clear ho
  have hfl : (fl vC (marksToken k0 n)).length = n * 3 := by rw [fl_len vC_sz, marksToken_len]
  have HFL := Lib.hid hfl; clear hfl
  go_enter Tryd.func9, Tryd.ntmps9
  go_wp2
  go_loopw [1, 5] (fun kk i wr => ∃ (k : Nat) (ys : List Value), i = .int .i64 k ∧ kk = .int .i64 ((k0 + 3 * k : Nat) : Int) ∧ k ≤ n ∧ wr.ownsRow base 34 3 (.slice A n c) n ys ∧ Agree ys (fl vC (marksToken k0 n)) (k * 3) ∧ w.grownBy wr (Value.ownBlock (.slice A n c))) (fun _ i _ => n - (intOf i).toNat)
  case atStart => exact ⟨0, _, rfl, by go_num, by omega, HO.out, by rw [Nat.zero_mul]; exact Agree.zero _ _, World.grownBy.refl _ _⟩
  case round =>
    obtain ⟨k, ys, rfl, rfl, hk, hown, hx, hg⟩ := hrel
    have HX := Lib.hid hx; clear hx
    by_cases hlt : k < n
    · obtain ⟨g, cap, hv, hbg, hglt⟩ := hown.form (by omega)
      have hA : A = some ⟨g, 0, none⟩ := by injection hv
      subst hA
      have H0 := Lib.hid hown; clear hown
      clear hv
      have hmk : k < (marksToken k0 n).length := by rw [marksToken_len]; exact hlt
      obtain ⟨⟨d0, e0⟩, f0⟩ := own_there H0.out (k * 3) (by omega)
      obtain ⟨⟨d1, e1⟩, f1⟩ := own_there H0.out (k * 3 + 1) (by omega)
      obtain ⟨⟨d2, e2⟩, f2⟩ := own_there H0.out (k * 3 + 2) (by omega)
      go_wp2_with fail
      refine (markText_any _ (k0 + 3 * k + 2) (by simp <;> omega) _ (by omega)).mono ?_
      rintro e w2 ⟨rfl, hb⟩
      have H1 := Lib.hid (own_kept ((H0.out.stored (k * 3) _).1.stored (k * 3 + 1) _).1 hb)
      have hg1 := gr_belToken (World.grownBy.trans (World.grownBy.trans hg (H0.out.stored (k * 3) _).2) ((H0.out.stored (k * 3) _).1.stored (k * 3 + 1) _).2) hb
      have hsz1 := hb.size
      clear hb
      obtain ⟨⟨d2, e2⟩, f2⟩ := own_there H1.out (k * 3 + 2) (by omega)
      go_wp2
      go_roundw
      case rel =>
        refine ⟨k + 1, _, by go_num, by go_num, by omega, (H1.out.stored (k * 3 + 2) _).1, ?_, (World.grownBy.trans hg1 (H1.out.stored (k * 3 + 2) _).2)⟩
        have hyl : ys.length = (marksToken k0 n).length * 3 := by rw [H0.out.1, marksToken_len]
        have a0 := agree_fl vC_sz (k := k) (d := 0) hmk (by omega) (u := .int .i64 ((k0 : Int) + 3 * (k : Int))) (by rw [marksToken_get]; exact congrArg (fun x : Int => some (Value.int .i64 x)) (show ((k0 + 3 * k + 0 : Nat) : Int) = (k0 : Int) + 3 * (k : Int) by omega)) HX.out (by simpa using hyl)
        have a1 := agree_fl vC_sz (k := k) (d := 1) hmk (by omega) (u := .int .i64 ((k0 : Int) + 3 * (k : Int) + 1)) (by rw [marksToken_get]; exact congrArg (fun x : Int => some (Value.int .i64 x)) (show ((k0 + 3 * k + 1 : Nat) : Int) = (k0 : Int) + 3 * (k : Int) + 1 by omega)) a0 (by simpa using hyl)
        have a2 := agree_fl vC_sz (k := k) (d := 2) hmk (by omega) (u := .string (mtxt (k0 + 3 * k + 2))) (by rw [marksToken_get]; rfl) a1 (by simpa using hyl)
        rw [show (k + 1) * 3 = k * 3 + 2 + 1 by omega]
        simpa using a2
      case measure => simp [intOf]; omega
    · have HOW := Lib.hid hown; clear hown
      go_wp2
      go_ret
      have hkn : k = n := by omega
      subst hkn
      refine ⟨rfl, ?_, hg⟩
      have hys := HX.out.full HOW.out.1 HFL.out
      rw [← hys]
      exact HOW.out
theorem heldTokenS_any (A : Option Addr) (c n : Nat) (K : Int) (k0 : Nat) (w : World) (B : Nat) (hr : RdS vC 3 w B A n (marksToken k0 n)) (hK : K = k0) (hn : n ≤ 1048576) (hk0 : k0 ≤ 70368744177) :
    Calls Tryd.prog 10 #[.slice A n c, .int .i64 K] w fun e w' => e = .returned (.int .i64 ((k0 + 3 * n : Nat) : Int)) ∧ Below w.heap.size w w' := by
  subst hK
  go_enter Tryd.func10, Tryd.ntmps10
  go_wp2
  go_loopw [1, 5] (fun kk i wr => ∃ (k : Nat), i = .int .i64 k ∧ kk = .int .i64 ((k0 + 3 * k : Nat) : Int) ∧ k ≤ n ∧ Below w.heap.size w wr) (fun _ i _ => n - (intOf i).toNat)
  case atStart => exact ⟨0, rfl, by go_num, by omega, bel_refl _⟩
  case round =>
    obtain ⟨k, rfl, rfl, hk, hbel⟩ := hrel
    by_cases hlt : k < n
    · obtain ⟨b, o, rfl, hb0, hc⟩ := (hr.kept hbel).2.at_ vC_sz (by omega)
      have hmk : k < (marksToken k0 n).length := by rw [marksToken_len]; exact hlt
      have hk0' : (0:Int) ≤ (k : Int) := by omega
      have hk1' : (k:Int) < (n : Int) := by omega
      have c0 : wr.cell? ⟨b, o + k * 3, none⟩ = some (.int .i64 ((k0 : Int) + 3 * k)) := by have h := hc k hlt 0 (.int .i64 ((k0 + 3 * k + 0 : Nat) : Int)) (by omega) (by rw [marksToken_get]; rfl); simpa using h
      have c1 : wr.cell? ⟨b, o + k * 3 + 1, none⟩ = some (.int .i64 ((k0 : Int) + 3 * k + 1)) := by have h := hc k hlt 1 (.int .i64 ((k0 + 3 * k + 1 : Nat) : Int)) (by omega) (by rw [marksToken_get]; rfl); simpa using h
      have c2 : wr.cell? ⟨b, o + k * 3 + 2, none⟩ = some (.string (mtxt (k0 + 3 * k + 2))) := by have h := hc k hlt 2 (.string (mtxt (k0 + 3 * k + 2))) (by omega) (by rw [marksToken_get]; rfl); simpa using h
      clear hc
      go_wp2_with fail
      go_region_held3 (fun w' => Below wr.heap.size wr w' ∧ w'.cell? ⟨b, o + k * 3 + 2, none⟩ = some (.string (mtxt (k0 + 3 * k + 2)))) (((refine (fun hB => ⟨hB, old_cell hB c2⟩ : Below wr.heap.size wr _ → _) ?_); (repeat (first | exact bel_refl _ | exact bel_drew (bel_refl _) | exact bel_trans (And.left (by assumption)) (by assumption) | assumption))))
        ((go_at_call 25; refine (markText_any _ (k0 + 3 * k + 2) (by simp <;> omega) _ (by omega)).mono ?_; rintro e v2 ⟨rfl, hb⟩))
      rename_i hHeld
      obtain ⟨hB, _⟩ := hHeld
      replace hbel := bel_trans hbel hB
      clear hB
      go_wp2
      go_roundw
      case rel => exact ⟨k + 1, by go_num, by go_num, by omega, hbel⟩
      case measure => simp [intOf]; omega
    · go_wp2
      go_ret
      exact ⟨ret_int (by omega), hbel⟩
end Go.Proofs.YtgcjhicpkmhbaaaDoor
