/- Clone, PutNum, PutText of the program: each answers a slice of its own that holds what the plain function says. No condition but lengths. -/
import Derived.Test.YtcbbefibebkfgaaGreatDoorPut
namespace Go.Proofs.YtcbbefibebkfgaaGreatDoor
open Go.RowKit
set_option maxRecDepth 100000
set_option maxHeartbeats 2000000

theorem putN_len (n : Int) : (putN n).length ≤ 5 := numB_len 5 _
theorem clone_any (A : Option Addr) (n c : Nat) (bs : List UInt8) (w : World) (B : Nat) (hr : RdB w B A n bs) (hB : B ≤ w.heap.size) (hn : n ≤ 70368744177664) :
    Calls Tryz.prog 29 #[.slice A n c] w fun e w' => ∃ v', e = .returned v' ∧ OwnB w' w.heap.size 5 v' bs ∧ Below w.heap.size w w' ∧ w.heap.size ≤ w'.heap.size := by
  obtain ⟨i0, hi, hz0, hz1, hz2⟩ := info_parts info8
  have hl := hr.len
  have HI := Lib.hid hi; clear hi
  have HL := Lib.hid hl; clear hl
  have hq := Lib.run_eql_slice_nil (P := Tryz.prog) w 22 5 A n c 0 0 Tryz.underlying22
  cases A with
  | none =>
    have hn0 : n = 0 := by
      rcases Nat.eq_zero_or_pos n with h0 | h0
      · exact h0
      · obtain ⟨_, _, h, _⟩ := hr.2 h0
        cases h
    have hbs : bs = [] := List.eq_nil_of_length_eq_zero (by rw [HL.out]; exact hn0)
    subst hn0
    have HBS := Lib.hid hbs; clear hbs
    simp only [Option.isNone_none] at hq
    go_enter Tryz.func29, Tryz.ntmps29
    go_wp2
    go_ret
    exact ⟨_, rfl, by rw [HBS.out]; exact OwnB.nil_ _ _ _, Below.refl _ _, Nat.le_refl _⟩
  | some ad =>
    simp only [Option.isNone_some] at hq
    go_enter Tryz.func29, Tryz.ntmps29
    go_wp2_with (at_builtin; refine app_byte rfl (.tmp 5) (.tmp 6) _ rfl w.heap.size 5 i0 Tryz.underlying22 HI.out hz0 hz1 hz2 _ [] rfl (World.ownsRow_lit w #[] 0 (Nat.le_refl _) (by simp [maxLen]) rfl) (some ad) n c bs B rfl (hr.below ((Below.refl _ _).alloc hB _)) (by simp; omega) (by simp) ?_; intro v' w' ho' hb' hs'; have hbel' : Below w.heap.size w w' := ((Below.refl w.heap.size w).alloc (Nat.le_refl _) _).trans hb'; have hsz' : w.heap.size ≤ w'.heap.size := by simp at hs'; omega)
    go_ret
    exact ⟨_, rfl, ho', hbel', hsz'⟩
theorem putText_any (v : Value) (bs : List UInt8) (s : ByteArray) (w : World) (base : Nat) (ho : OwnB w base 5 v bs) (hb : base ≤ w.heap.size) (hl : bs.length ≤ 70368744177600) (hs : s.size ≤ 70368744177664) :
    Calls Tryz.prog 63 #[v, .string s] w fun e w' => ∃ v', e = .returned v' ∧ OwnB w' base 5 v' (bs ++ putN s.size ++ s.data.toList) ∧ Below base w w' ∧ w.heap.size ≤ w'.heap.size := by
  obtain ⟨i0, hi, hz0, hz1, hz2⟩ := info_parts info8
  have hlp := putN_len s.size
  have HI := Lib.hid hi; clear hi
  go_enter Tryz.func63, Tryz.ntmps63
  go_wp2_with fail
  refine (putNum_any v bs s.size w base ho hb (by omega)).mono ?_
  rintro e w1 ⟨v1, rfl, ho1, hb1, hs1⟩
  go_wp2_with (at_builtin; refine app_str rfl (.tmp 8) (.tmp 9) _ _ rfl base 5 i0 Tryz.underlying22 Tryz.underlying9 HI.out hz0 hz1 hz2 _ _ rfl ho1 s rfl (by simp; omega) (by omega) ?_; intro v2 w2 ho2 hb2 hs2)
  go_ret
  exact ⟨_, rfl, ho2, hb1.trans hb2, by omega⟩
end Go.Proofs.YtcbbefibebkfgaaGreatDoor
