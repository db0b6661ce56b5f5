/- Marking and holding slices of String. No condition but lengths. -/
import Derived.Test.YtjlfllnjbdddaaaStringS
import Derived.Test.YtjlfllnjbdddaaaMark
namespace Go.Proofs.Ytjlfllnjbdddaaa
open Go.RowKit
set_option maxRecDepth 100000
set_option maxHeartbeats 2000000

def mkString (k : Nat) : ByteArray := (mtxt (k + 0))
def marksString (k n : Nat) : List ByteArray := (List.range n).map fun i => mkString (k + 1 * i)
theorem marksString_len (k n : Nat) : (marksString k n).length = n := by simp [marksString]
theorem marksString_get (k n i : Nat) (h : i < (marksString k n).length) : (marksString k n)[i] = mkString (k + 1 * i) := by simp [marksString]
theorem gr_belString {a w w' : World} {row : Option Nat} (h : a.grownBy w row) (hb : Below w.heap.size w w') : a.grownBy w' row :=
  ⟨hb.os.trans h.os, hb.tape.trans h.tape, hb.output.trans h.output, Nat.le_trans h.size hb.size, fun k hk hne => (hb.block k (Nat.lt_of_lt_of_le hk h.size)).trans (h.block k hk hne)⟩
theorem markStringS_any (A : Option Addr) (n c : Nat) (xs : List ByteArray) (K : Int) (k0 : Nat) (w : World) (base : Nat) (ho : OwnT sC 1 w base 9 (.slice A n c) xs) (hl : xs.length = n) (hK : K = k0) (hn : n ≤ 1048576) (hk0 : k0 ≤ 70368744177) :
    Calls Try.prog 34 #[.slice A n c, .int .i64 K] w fun e w' => e = .returned (.int .i64 ((k0 + 1 * n : Nat) : Int)) ∧ OwnT sC 1 w' base 9 (.slice A n c) (marksString k0 n) ∧ w.grownBy w' (Value.ownBlock (.slice A n c)) := by
  subst hK
  unfold OwnT at ho ⊢
  rw [hl] at ho
  rw [marksString_len]
  clear hl
  have HO := Lib.hid ho; clear ho
  have hfl : (fl sC (marksString k0 n)).length = n * 1 := by rw [fl_len sC_sz, marksString_len]
  have HFL := Lib.hid hfl; clear hfl
  go_enter Try.func34, Try.ntmps34
  go_wp2
  go_loopw [1, 5] (fun kk i wr => ∃ (k : Nat) (ys : List Value), i = .int .i64 k ∧ kk = .int .i64 ((k0 + 1 * k : Nat) : Int) ∧ k ≤ n ∧ wr.ownsRow base 9 1 (.slice A n c) n ys ∧ Agree ys (fl sC (marksString k0 n)) (k * 1) ∧ w.grownBy wr (Value.ownBlock (.slice A n c))) (fun _ i _ => n - (intOf i).toNat)
  case atStart => exact ⟨0, _, rfl, by go_num, by omega, HO.out, by rw [Nat.zero_mul]; exact Agree.zero _ _, World.grownBy.refl _ _⟩
  case round =>
    obtain ⟨k, ys, rfl, rfl, hk, hown, hx, hg⟩ := hrel
    have HX := Lib.hid hx; clear hx
    by_cases hlt : k < n
    · obtain ⟨g, cap, hv, hbg, hglt⟩ := hown.form (by omega)
      have hA : A = some ⟨g, 0, none⟩ := by injection hv
      subst hA
      have H0 := Lib.hid hown; clear hown
      clear hv
      have hmk : k < (marksString k0 n).length := by rw [marksString_len]; exact hlt
      obtain ⟨⟨d0, e0⟩, f0⟩ := own_there H0.out (k) (by omega)
      go_wp2_with fail
      refine (markText_any _ (k0 + 1 * k + 0) (by simp <;> omega) _ (by omega)).mono ?_
      rintro e w0 ⟨rfl, hb⟩
      have H1 := Lib.hid (own_kept H0.out hb)
      have hg1 := gr_belString hg hb
      have hsz1 := hb.size
      clear hb
      obtain ⟨⟨d0, e0⟩, f0⟩ := own_there H1.out (k) (by omega)
      go_wp2
      go_roundw
      case rel =>
        refine ⟨k + 1, _, by go_num, by go_num, by omega, (H1.out.stored (k) _).1, ?_, (World.grownBy.trans hg1 (H1.out.stored (k) _).2)⟩
        have hyl : ys.length = (marksString k0 n).length * 1 := by rw [H0.out.1, marksString_len]
        have a0 := agree_fl sC_sz (k := k) (d := 0) hmk (by omega) (u := .string (mtxt (k0 + 1 * k + 0))) (by rw [marksString_get]; rfl) (by simpa using HX.out) (by simpa using hyl)
        simpa using a0
      case measure => simp [intOf]; omega
    · have HOW := Lib.hid hown; clear hown
      go_wp2
      go_ret
      have hkn : k = n := by omega
      subst hkn
      refine ⟨rfl, ?_, hg⟩
      have hys := HX.out.full HOW.out.1 HFL.out
      rw [← hys]
      exact HOW.out
theorem heldStringS_any (A : Option Addr) (c n : Nat) (K : Int) (k0 : Nat) (w : World) (B : Nat) (hr : RdS sC 1 w B A n (marksString k0 n)) (hK : K = k0) (hn : n ≤ 1048576) (hk0 : k0 ≤ 70368744177) :
    Calls Try.prog 35 #[.slice A n c, .int .i64 K] w fun e w' => e = .returned (.int .i64 ((k0 + 1 * n : Nat) : Int)) ∧ Below w.heap.size w w' := by
  subst hK
  go_enter Try.func35, Try.ntmps35
  go_wp2
  go_loopw [1, 5] (fun kk i wr => ∃ (k : Nat), i = .int .i64 k ∧ kk = .int .i64 ((k0 + 1 * k : Nat) : Int) ∧ k ≤ n ∧ Below w.heap.size w wr) (fun _ i _ => n - (intOf i).toNat)
  case atStart => exact ⟨0, rfl, by go_num, by omega, bel_refl _⟩
  case round =>
    obtain ⟨k, rfl, rfl, hk, hbel⟩ := hrel
    by_cases hlt : k < n
    · obtain ⟨b, o, rfl, hb0, hc⟩ := (hr.kept hbel).2.at_ sC_sz (by omega)
      have hmk : k < (marksString k0 n).length := by rw [marksString_len]; exact hlt
      have hk0' : (0:Int) ≤ (k : Int) := by omega
      have hk1' : (k:Int) < (n : Int) := by omega
      have c0 : wr.cell? ⟨b, o + k, none⟩ = some (.string (mtxt (k0 + k))) := by have h := hc k hlt 0 (.string (mtxt (k0 + 1 * k + 0))) (by omega) (by rw [marksString_get]; rfl); simpa using h
      clear hc
      go_wp2_with fail
      go_region_held3 (fun w' => Below wr.heap.size wr w' ∧ w'.cell? ⟨b, o + k, none⟩ = some (.string (mtxt (k0 + k)))) (((refine (fun hB => ⟨hB, old_cell hB c0⟩ : Below wr.heap.size wr _ → _) ?_); (repeat (first | exact bel_refl _ | exact bel_drew (bel_refl _) | exact bel_trans (And.left (by assumption)) (by assumption) | assumption))))
        ((go_at_call 82; refine (markText_any _ (k0 + k) (by simp <;> omega) _ (by omega)).mono ?_; rintro e v0 ⟨rfl, hb⟩))
      rename_i hHeld
      obtain ⟨hB, _⟩ := hHeld
      replace hbel := bel_trans hbel hB
      clear hB
      go_wp2
      go_roundw
      case rel => exact ⟨k + 1, by go_num, by go_num, by omega, hbel⟩
      case measure => simp [intOf]; omega
    · go_wp2
      go_ret
      exact ⟨ret_int (by omega), hbel⟩
end Go.Proofs.Ytjlfllnjbdddaaa
