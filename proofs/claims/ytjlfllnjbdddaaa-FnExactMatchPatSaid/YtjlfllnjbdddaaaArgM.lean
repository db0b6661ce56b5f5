/- Marking and holding slices of Arg. No condition but lengths. -/
import Derived.Test.YtjlfllnjbdddaaaArgS
import Derived.Test.YtjlfllnjbdddaaaMark
namespace Go.Proofs.Ytjlfllnjbdddaaa
open Go.RowKit
set_option maxRecDepth 100000
set_option maxHeartbeats 2000000

def mkArg (k : Nat) : Ag := ⟨((k + 0 : Nat) : Int), (mtxt (k + 1)), ⟨((k + 2 : Nat) : Int), ((k + 3 : Nat) : Int), (mtxt (k + 4))⟩⟩
def marksArg (k n : Nat) : List Ag := (List.range n).map fun i => mkArg (k + 5 * i)
theorem marksArg_len (k n : Nat) : (marksArg k n).length = n := by simp [marksArg]
theorem marksArg_get (k n i : Nat) (h : i < (marksArg k n).length) : (marksArg k n)[i] = mkArg (k + 5 * i) := by simp [marksArg]
theorem gr_belArg {a w w' : World} {row : Option Nat} (h : a.grownBy w row) (hb : Below w.heap.size w w') : a.grownBy w' row :=
  ⟨hb.os.trans h.os, hb.tape.trans h.tape, hb.output.trans h.output, Nat.le_trans h.size hb.size, fun k hk hne => (hb.block k (Nat.lt_of_lt_of_le hk h.size)).trans (h.block k hk hne)⟩
theorem markArgS_any (A : Option Addr) (n c : Nat) (xs : List Ag) (K : Int) (k0 : Nat) (w : World) (base : Nat) (ho : OwnT aC 5 w base 30 (.slice A n c) xs) (hl : xs.length = n) (hK : K = k0) (hn : n ≤ 1048576) (hk0 : k0 ≤ 70368744177) :
    Calls Try.prog 81 #[.slice A n c, .int .i64 K] w fun e w' => e = .returned (.int .i64 ((k0 + 5 * n : Nat) : Int)) ∧ OwnT aC 5 w' base 30 (.slice A n c) (marksArg k0 n) ∧ w.grownBy w' (Value.ownBlock (.slice A n c)) := by
  subst hK
  unfold OwnT at ho ⊢
  rw [hl] at ho
  rw [marksArg_len]
  clear hl
  have HO := Lib.hid ho; clear ho
  have hfl : (fl aC (marksArg k0 n)).length = n * 5 := by rw [fl_len aC_sz, marksArg_len]
  have HFL := Lib.hid hfl; clear hfl
  go_enter Try.func81, Try.ntmps81
  go_wp2
  go_loopw [1, 5] (fun kk i wr => ∃ (k : Nat) (ys : List Value), i = .int .i64 k ∧ kk = .int .i64 ((k0 + 5 * k : Nat) : Int) ∧ k ≤ n ∧ wr.ownsRow base 30 5 (.slice A n c) n ys ∧ Agree ys (fl aC (marksArg k0 n)) (k * 5) ∧ w.grownBy wr (Value.ownBlock (.slice A n c))) (fun _ i _ => n - (intOf i).toNat)
  case atStart => exact ⟨0, _, rfl, by go_num, by omega, HO.out, by rw [Nat.zero_mul]; exact Agree.zero _ _, World.grownBy.refl _ _⟩
  case round =>
    obtain ⟨k, ys, rfl, rfl, hk, hown, hx, hg⟩ := hrel
    have HX := Lib.hid hx; clear hx
    by_cases hlt : k < n
    · obtain ⟨g, cap, hv, hbg, hglt⟩ := hown.form (by omega)
      have hA : A = some ⟨g, 0, none⟩ := by injection hv
      subst hA
      have H0 := Lib.hid hown; clear hown
      clear hv
      have hmk : k < (marksArg k0 n).length := by rw [marksArg_len]; exact hlt
      obtain ⟨⟨d0, e0⟩, f0⟩ := own_there H0.out (k * 5) (by omega)
      obtain ⟨⟨d1, e1⟩, f1⟩ := own_there H0.out (k * 5 + 1) (by omega)
      obtain ⟨⟨d2, e2⟩, f2⟩ := own_there H0.out (k * 5 + 2) (by omega)
      obtain ⟨⟨d3, e3⟩, f3⟩ := own_there H0.out (k * 5 + 3) (by omega)
      obtain ⟨⟨d4, e4⟩, f4⟩ := own_there H0.out (k * 5 + 4) (by omega)
      go_wp2_with fail
      refine (markText_any _ (k0 + 5 * k + 1) (by simp <;> omega) _ (by omega)).mono ?_
      rintro e w1 ⟨rfl, hb⟩
      have H1 := Lib.hid (own_kept (H0.out.stored (k * 5) _).1 hb)
      have hg1 := gr_belArg (World.grownBy.trans hg (H0.out.stored (k * 5) _).2) hb
      have hsz1 := hb.size
      clear hb
      obtain ⟨⟨d1, e1⟩, f1⟩ := own_there H1.out (k * 5 + 1) (by omega)
      obtain ⟨⟨d2, e2⟩, f2⟩ := own_there H1.out (k * 5 + 2) (by omega)
      obtain ⟨⟨d3, e3⟩, f3⟩ := own_there H1.out (k * 5 + 3) (by omega)
      obtain ⟨⟨d4, e4⟩, f4⟩ := own_there H1.out (k * 5 + 4) (by omega)
      go_wp2_with fail
      refine (markText_any _ (k0 + 5 * k + 4) (by simp <;> omega) _ (by omega)).mono ?_
      rintro e w4 ⟨rfl, hb⟩
      have H2 := Lib.hid (own_kept (((H1.out.stored (k * 5 + 1) _).1.stored (k * 5 + 2) _).1.stored (k * 5 + 3) _).1 hb)
      have hg2 := gr_belArg (World.grownBy.trans (World.grownBy.trans (World.grownBy.trans hg1 (H1.out.stored (k * 5 + 1) _).2) ((H1.out.stored (k * 5 + 1) _).1.stored (k * 5 + 2) _).2) (((H1.out.stored (k * 5 + 1) _).1.stored (k * 5 + 2) _).1.stored (k * 5 + 3) _).2) hb
      have hsz2 := hb.size
      clear hb
      obtain ⟨⟨d4, e4⟩, f4⟩ := own_there H2.out (k * 5 + 4) (by omega)
      go_wp2
      go_roundw
      case rel =>
        refine ⟨k + 1, _, by go_num, by go_num, by omega, (H2.out.stored (k * 5 + 4) _).1, ?_, (World.grownBy.trans hg2 (H2.out.stored (k * 5 + 4) _).2)⟩
        have hyl : ys.length = (marksArg k0 n).length * 5 := by rw [H0.out.1, marksArg_len]
        have a0 := agree_fl aC_sz (k := k) (d := 0) hmk (by omega) (u := .int .i64 ((k0 : Int) + 5 * (k : Int))) (by rw [marksArg_get]; exact congrArg (fun x : Int => some (Value.int .i64 x)) (show ((k0 + 5 * k + 0 : Nat) : Int) = (k0 : Int) + 5 * (k : Int) by omega)) HX.out (by simpa using hyl)
        have a1 := agree_fl aC_sz (k := k) (d := 1) hmk (by omega) (u := .string (mtxt (k0 + 5 * k + 1))) (by rw [marksArg_get]; rfl) a0 (by simpa using hyl)
        have a2 := agree_fl aC_sz (k := k) (d := 2) hmk (by omega) (u := .int .i64 ((k0 : Int) + 5 * (k : Int) + 1 + 1)) (by rw [marksArg_get]; exact congrArg (fun x : Int => some (Value.int .i64 x)) (show ((k0 + 5 * k + 2 : Nat) : Int) = (k0 : Int) + 5 * (k : Int) + 1 + 1 by omega)) a1 (by simpa using hyl)
        have a3 := agree_fl aC_sz (k := k) (d := 3) hmk (by omega) (u := .int .i64 ((k0 : Int) + 5 * (k : Int) + 1 + 1 + 1)) (by rw [marksArg_get]; exact congrArg (fun x : Int => some (Value.int .i64 x)) (show ((k0 + 5 * k + 3 : Nat) : Int) = (k0 : Int) + 5 * (k : Int) + 1 + 1 + 1 by omega)) a2 (by simpa using hyl)
        have a4 := agree_fl aC_sz (k := k) (d := 4) hmk (by omega) (u := .string (mtxt (k0 + 5 * k + 4))) (by rw [marksArg_get]; rfl) a3 (by simpa using hyl)
        rw [show (k + 1) * 5 = k * 5 + 4 + 1 by omega]
        simpa using a4
      case measure => simp [intOf]; omega
    · have HOW := Lib.hid hown; clear hown
      go_wp2
      go_ret
      have hkn : k = n := by omega
      subst hkn
      refine ⟨rfl, ?_, hg⟩
      have hys := HX.out.full HOW.out.1 HFL.out
      rw [← hys]
      exact HOW.out
end Go.Proofs.Ytjlfllnjbdddaaa
