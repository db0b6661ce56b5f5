/- A copy of a fact, by the program and by the reference: its fields are a row of the call's own. No condition but lengths. -/
import Derived.Test.YtndhjijcicebkaaFact
import Derived.Test.YtndhjijcicebkaaApp
import Derived.Test.YtndhjijcicebkaaLit
namespace Go.Proofs.Ytndhjijcicebkaa
open Go.RowKit
set_option maxRecDepth 100000
set_option maxHeartbeats 2000000

theorem vC_one (xs : List Vl) : ∀ u ∈ fl vC xs, u.oneCell' = true := by
  intro u hu
  simp only [fl, List.mem_flatMap] at hu
  obtain ⟨x, _, hu⟩ := hu
  simp [vC] at hu
  rcases hu with rfl | rfl | rfl <;> rfl
theorem cloneV_any (A : Option Addr) (n c : Nat) (xs : List Vl) (w : World) (B : Nat) (hr : RdS vC 3 w B A n xs) (hn : n ≤ 1048576) :
    Calls Try.prog 80 #[.slice A n c] w fun e w' => ∃ v', e = .returned v' ∧ OwnT vC 3 w' w.heap.size 90 v' xs ∧ Below w.heap.size w w' := by
  obtain ⟨i0, hi, hz0, hz1, hz2⟩ := info_parts infoVal
  have hl := hr.len
  have HI := Lib.hid hi; clear hi
  have HL := Lib.hid hl; clear hl
  have hq := Lib.run_eql_slice_nil (P := Try.prog) w 36 90 A n c 0 0 Try.underlying36
  cases A with
  | none =>
    have hn0 : n = 0 := by
      rcases Nat.eq_zero_or_pos n with h0 | h0
      · exact h0
      · obtain ⟨_, _, h, _⟩ := hr.2.2.2 h0
        cases h
    have hbs : xs = [] := List.eq_nil_of_length_eq_zero (by rw [HL.out]; exact hn0)
    subst hn0
    have HBS := Lib.hid hbs; clear hbs
    simp only [Option.isNone_none] at hq
    go_enter Try.func80, Try.ntmps80
    go_wp2
    go_ret
    exact ⟨_, rfl, by rw [HBS.out]; exact OwnT.nil_ _ _ _, Below.refl _ _⟩
  | some ad =>
    simp only [Option.isNone_some] at hq
    go_enter Try.func80, Try.ntmps80
    go_wp2_with (at_builtin; refine appT rfl (.tmp 5) (.tmp 6) _ rfl vC_sz w.heap.size 90 i0 Try.underlying36 HI.out hz0 hz1 hz2 rfl (by omega) _ [] rfl (lit0 w 90) _ n c xs rfl (hr.alloc _).2 (vC_one xs) (by simp only [List.length_nil]; omega) (by simp) ?_ (by simp only [List.length_nil]; omega); intro v' w' ho' hb' hs'; have hbel' : Below w.heap.size w w' := ((Below.refl w.heap.size w).alloc (Nat.le_refl _) _).trans hb')
    go_ret
    exact ⟨_, rfl, ho', hbel'⟩
theorem copyFact_any (kd : ByteArray) (A : Option Addr) (n c : Nat) (xs : List Vl) (w : World) (B : Nat) (hr : RdS vC 3 w B A n xs) (hn : n ≤ 1048576) :
    Calls Try.prog 57 #[.agg #[.string kd, .slice A n c]] w fun e w' => ∃ A' c', e = .returned (.agg #[.string kd, .slice A' xs.length c']) ∧ OwnT vC 3 w' w.heap.size 90 (.slice A' xs.length c') xs ∧ Below w.heap.size w w' := by
  go_enter Try.func57, Try.ntmps57
  go_wp2_with fail
  go_region_with (go_at_call 80; refine (cloneV_any A n c xs _ B (((hr.alloc _).alloc _).drew) hn).mono ?_; rintro e w' ⟨v', rfl, ho, hb⟩; obtain ⟨A', c', rfl, hc', _⟩ := ho.form; have z0 := old_cell hb (b := w.heap.size) (o := 0) (v := .string kd) (by go_simp); have z2 := old_cell hb (b := w.heap.size + 1) (o := 0) (v := .string ⟨#[]⟩) (by go_simp); have z3 := old_cell hb (b := w.heap.size + 1) (o := 1) (v := .slice none 0 0) (by go_simp); obtain ⟨hcc, hff⟩ := bcell hb)
  all_goals
    go_wp2
    refine bodyPost_ret (v := .agg #[.string kd, .slice A' xs.length c']) (by simp [results, Try.results57, go_sem, z2, z3]) rfl ⟨A', c', rfl, ?_, (by repeat (first | with_reducible exact bel_refl _ | with_reducible assumption | with_reducible refine bel_set ?_ (by first | (simp; done) | (simp; omega) | omega) _ | with_reducible refine bel_alloc ?_ _ | with_reducible refine bel_drew ?_ | with_reducible refine bel_drewN ?_ _ | with_reducible refine bel_trans ?_ (by assumption)))⟩
    exact ((ho.low (by simp) _).low (by simp) _).lower (by simp; omega)
theorem l3Copy_any (kd : ByteArray) (A : Option Addr) (n c : Nat) (xs : List Vl) (w : World) (B : Nat) (hr : RdS vC 3 w B A n xs) (hn : n ≤ 1048576) :
    Calls Try.prog 62 #[.agg #[.string kd, .slice A n c]] w fun e w' => ∃ A' c', e = .returned (.agg #[.string kd, .slice A' xs.length c']) ∧ OwnT vC 3 w' w.heap.size 90 (.slice A' xs.length c') xs ∧ Below w.heap.size w w' := by
  obtain ⟨i0, hi, hz0, hz1, hz2⟩ := info_parts infoVal
  have HI := Lib.hid hi; clear hi
  have hlit : OwnT vC 3 (((w.alloc (.cells #[.string kd, .slice A n c] 38)).alloc (.cells #[.string ⟨#[]⟩, .slice none 0 0] 38)).alloc (.cells #[] 90)) (w.heap.size + 1 + 1) 90 (.slice (some ⟨w.heap.size + 1 + 1, 0, none⟩) 0 0) [] := by
    have h := lit0 (f := vC) (z := 3) ((w.alloc (.cells #[.string kd, .slice A n c] 38)).alloc (.cells #[.string ⟨#[]⟩, .slice none 0 0] 38)) 90
    simpa using h
  go_enter Try.func62, Try.ntmps62
  go_wp2_with (at_builtin; refine appT rfl (.tmp 3) (.tmp 5) _ rfl vC_sz (w.heap.size + 1 + 1) 90 i0 Try.underlying36 HI.out hz0 hz1 hz2 rfl (by omega) _ [] rfl hlit _ n c xs rfl (((hr.alloc _).alloc _).alloc _).2 (vC_one xs) (by simp only [List.length_nil]; omega) (by simp) ?_ (by simp only [List.length_nil]; omega); intro v' w' ho' hb' hs'; obtain ⟨A', c', rfl, hc', _⟩ := ho'.form; have z0 : w'.cell? ⟨w.heap.size, 0, none⟩ = some (.string kd) := (hb'.cell (p := ⟨w.heap.size, 0, none⟩) (by first | (simp; done) | (simp; omega))).trans (by go_simp); have z1 : w'.cell? ⟨w.heap.size, 1, none⟩ = some (.slice A n c) := (hb'.cell (p := ⟨w.heap.size, 1, none⟩) (by first | (simp; done) | (simp; omega))).trans (by go_simp); have z2 : w'.cell? ⟨w.heap.size + 1, 0, none⟩ = some (.string ⟨#[]⟩) := (hb'.cell (p := ⟨w.heap.size + 1, 0, none⟩) (by first | (simp; done) | (simp; omega))).trans (by go_simp); have z3 : w'.cell? ⟨w.heap.size + 1, 1, none⟩ = some (.slice none 0 0) := (hb'.cell (p := ⟨w.heap.size + 1, 1, none⟩) (by first | (simp; done) | (simp; omega))).trans (by go_simp); have y1 : w'.frozen? ⟨w.heap.size, 1, none⟩ = false := (hb'.frozen (p := ⟨w.heap.size, 1, none⟩) (by first | (simp; done) | (simp; omega))).trans (by go_simp); have y2 : w'.frozen? ⟨w.heap.size + 1, 0, none⟩ = false := (hb'.frozen (p := ⟨w.heap.size + 1, 0, none⟩) (by first | (simp; done) | (simp; omega))).trans (by go_simp); have y3 : w'.frozen? ⟨w.heap.size + 1, 1, none⟩ = false := (hb'.frozen (p := ⟨w.heap.size + 1, 1, none⟩) (by first | (simp; done) | (simp; omega))).trans (by go_simp))
  refine bodyPost_ret (v := .agg #[.string kd, .slice A' xs.length c']) (by simp [results, Try.results62, go_sem, z2, z3]) rfl ⟨A', c', rfl, ?_, ?_⟩
  · exact (((ho'.low (by first | (simp; done) | (simp; omega)) _).low (by first | (simp; done) | (simp; omega)) _).low (by first | (simp; done) | (simp; omega)) _).lower (by omega)
  · have hb0 : Below w.heap.size w w' := ((((Below.refl w.heap.size w).alloc (Nat.le_refl _) _).alloc (by simp) _).alloc (by simp; omega) _).trans (hb'.mono (by omega))
    exact bel_set (bel_set (bel_set hb0 (by simp) _) (by simp) _) (by simp) _
end Go.Proofs.Ytndhjijcicebkaa
