/- The law FnExactSubVals returns true at every input, and leaves what it was given as it was. No condition. -/
import Derived.Test.YtdcfkohgijahcaaAdd2
import Derived.Test.YtdcfkohgijahcaaRows
import Derived.Test.YtdcfkohgijahcaaRead
namespace Go.Proofs.Ytdcfkohgijahcaa.fnExactSubVals
open Go.ChangeShapes Go.WideShapes Go.ChangeAt Go.RowKit
open Go.ChangeMaps (open_string shut_string)
set_option linter.unusedVariables false
set_option maxRecDepth 100000
set_option maxHeartbeats 20000000

theorem walk (k n : Int) (s : ByteArray) (k2 n2 : Int) (s2 : ByteArray) (W : World) (hs : s.size ≤ 9223372036854775807) (hs2 : s2.size ≤ 9223372036854775807) :
    Calls Try.prog 3 #[.agg #[.int .i64 k, .int .i64 n, .string s], .agg #[.int .i64 k2, .int .i64 n2, .string s2]] W fun e w' => e = .returned (.bool true) ∧ Below W.heap.size W w' := by
  by_cases h1 : (1048576 : Int) < s.size
  · go_enter Try.func3, Try.ntmps3
    go_wp2_with fail
    refine (szVal_big _ _ _ _ _ hs (by omega) (by omega) h1).mono ?_
    rintro e w1 ⟨rfl, hb1⟩
    go_wp2
    go_ret
    exact ⟨rfl, bel_trans (bel_alloc (bel_alloc (bel_refl _) _) _) hb1⟩
  · by_cases h2 : (1048576 : Int) - s.size < s2.size
    · go_enter Try.func3, Try.ntmps3
      go_wp2_with fail
      refine (szVal_fit _ _ _ _ _ (by omega) (by omega)).mono ?_
      rintro e w1 ⟨rfl, hb1⟩
      obtain ⟨hc1, hf1⟩ := bcell hb1
      go_wp2_with fail
      refine (szVal_big _ _ _ _ _ hs2 (by omega) (by omega) h2).mono ?_
      rintro e w2 ⟨rfl, hb2⟩
      go_wp2
      go_ret
      exact ⟨rfl, bel_trans (bel_trans (bel_alloc (bel_alloc (bel_refl _) _) _) hb1) hb2⟩
    · obtain ⟨rv, ro, hi⟩ : ∃ rv ro, sumR ⟨k, n, s⟩ ⟨k2, n2, s2⟩ (n - n2) = (rv, ro) := ⟨_, _, rfl⟩
      have HI := Lib.hid hi; clear hi
      go_enter Try.func3, Try.ntmps3
      go_wp2_with fail
      refine (szVal_fit _ _ _ _ _ (by omega) (by omega)).mono ?_
      rintro e w1 ⟨rfl, hb1⟩
      have a0 := old_cell hb1 (b := W.heap.size) (o := 0) (v := .int .i64 k) (by go_simp)
      have a1 := old_cell hb1 (b := W.heap.size) (o := 1) (v := .int .i64 n) (by go_simp)
      have a2 := old_cell hb1 (b := W.heap.size) (o := 2) (v := .string s) (by go_simp)
      have b0 := old_cell hb1 (b := W.heap.size + 1) (o := 0) (v := .int .i64 k2) (by go_simp)
      have b1 := old_cell hb1 (b := W.heap.size + 1) (o := 1) (v := .int .i64 n2) (by go_simp)
      have b2 := old_cell hb1 (b := W.heap.size + 1) (o := 2) (v := .string s2) (by go_simp)
      have g1 := bel_trans (bel_alloc (bel_alloc (bel_refl W) _) _) hb1
      clear hb1
      go_wp2_with fail
      refine (szVal_fit _ _ _ _ _ (by omega) (by omega)).mono ?_
      rintro e w2 ⟨rfl, hb⟩
      replace a0 := old_cell hb a0; replace a1 := old_cell hb a1; replace a2 := old_cell hb a2; replace b0 := old_cell hb b0; replace b1 := old_cell hb b1; replace b2 := old_cell hb b2
      have g2 := bel_trans g1 hb
      clear g1 hb
      have hz2 := cell_lt b0
      dsimp only at hz2
      go_upto_region 8 with fail
      go_cut [6, 7] (fun s6 s7 wx => ∃ g : Nat, s6 = .pointer (some ⟨g, 0, none⟩) ∧ s7 = .bool ro ∧ (wx.cell? ⟨g, 0, none⟩ = some (.int .i64 rv.k) ∧ wx.cell? ⟨g, 1, none⟩ = some (.int .i64 rv.n) ∧ wx.cell? ⟨g, 2, none⟩ = some (.string rv.s)) ∧
        (wx.cell? ⟨W.heap.size, 0, none⟩ = some (.int .i64 k) ∧ wx.cell? ⟨W.heap.size, 1, none⟩ = some (.int .i64 n) ∧ wx.cell? ⟨W.heap.size, 2, none⟩ = some (.string s) ∧ wx.cell? ⟨W.heap.size + 1, 0, none⟩ = some (.int .i64 k2) ∧ wx.cell? ⟨W.heap.size + 1, 1, none⟩ = some (.int .i64 n2) ∧ wx.cell? ⟨W.heap.size + 1, 2, none⟩ = some (.string s2) ∧ Below W.heap.size W wx))
      case first =>
        go_region_held3 (fun w' => w'.cell? ⟨W.heap.size, 0, none⟩ = some (.int .i64 k) ∧ w'.cell? ⟨W.heap.size, 1, none⟩ = some (.int .i64 n) ∧ w'.cell? ⟨W.heap.size, 2, none⟩ = some (.string s) ∧ w'.cell? ⟨W.heap.size + 1, 0, none⟩ = some (.int .i64 k2) ∧ w'.cell? ⟨W.heap.size + 1, 1, none⟩ = some (.int .i64 n2) ∧ w'.cell? ⟨W.heap.size + 1, 2, none⟩ = some (.string s2) ∧ Below W.heap.size W w') (first | exact keep6 (by assumption) (by assumption) | exact keep6 (by assumption) (bel_alloc (bel_refl _) _) | exact keep6s (by assumption) (by omega) (by omega) (by omega) | exact keep6c (keep6c (keep6c (by assumption) (by dsimp only; omega) (by dsimp only; omega) (by dsimp only; omega)) (by dsimp only; omega) (by dsimp only; omega) (by dsimp only; omega)) (by dsimp only; omega) (by dsimp only; omega) (by dsimp only; omega) | exact ⟨a0, a1, a2, b0, b1, b2, bel_drew g2⟩)
          (first | (go_at_call 13; refine (toVal_any _ _ _ _).mono ?_; rintro e w' ⟨rfl, hb⟩; have hz := hb.size; obtain ⟨hc, hf, hq⟩ := bcell3 hb; (try simp at hz); (try have hz' := Nat.lt_of_succ_le hz); (try have hzz : w2.heap.size < w'.heap.size := by omega)) | (go_at_call 12; refine (specSubVals_any _ _ _ _ _ _ _ hs hs2).mono ?_; rw [HI.out]; dsimp only [tupV]; rintro e w' ⟨rfl, hb⟩; have hz := hb.size; obtain ⟨hc, hf, hq⟩ := bcell3 hb; (try simp at hz); (try have hz' := Nat.lt_of_succ_le hz); (try have hzz : w2.heap.size < w'.heap.size := by omega)))
        all_goals
          rename_i hHeld
          go_wp2_with fail
          go_meet
          case rel => exact ⟨_, rfl, rfl, ⟨by go_simp, by go_simp, by go_simp⟩, hHeld⟩
      case rest =>
        obtain ⟨g, rfl, rfl, ⟨r0, r1, r2⟩, a0, a1, a2, b0, b1, b2, g3⟩ := hcut
        have hzc := cell_lt b0
        have hzg := cell_lt r0
        dsimp only at hzc hzg
        go_upto_region 9 with fail
        go_cut [8, 9] (fun s8 s9 wx => ∃ g2 : Nat, s8 = .pointer (some ⟨g2, 0, none⟩) ∧ s9 = .bool ro ∧ (wx.cell? ⟨g2, 0, none⟩ = some (.int .i64 rv.k) ∧ wx.cell? ⟨g2, 1, none⟩ = some (.int .i64 rv.n) ∧ wx.cell? ⟨g2, 2, none⟩ = some (.string rv.s)) ∧ Below wc.heap.size wc wx)
        case first =>
          go_region_held3 (fun w' => w'.cell? ⟨W.heap.size, 0, none⟩ = some (.int .i64 k) ∧ w'.cell? ⟨W.heap.size, 1, none⟩ = some (.int .i64 n) ∧ w'.cell? ⟨W.heap.size, 2, none⟩ = some (.string s) ∧ w'.cell? ⟨W.heap.size + 1, 0, none⟩ = some (.int .i64 k2) ∧ w'.cell? ⟨W.heap.size + 1, 1, none⟩ = some (.int .i64 n2) ∧ w'.cell? ⟨W.heap.size + 1, 2, none⟩ = some (.string s2) ∧ Below wc.heap.size wc w') (first | exact keep6 (by assumption) (by assumption) | exact keep6 (by assumption) (bel_alloc (bel_refl _) _) | exact keep6s (by assumption) (by omega) (by omega) (by omega) | exact keep6c (keep6c (keep6c (by assumption) (by dsimp only; omega) (by dsimp only; omega) (by dsimp only; omega)) (by dsimp only; omega) (by dsimp only; omega) (by dsimp only; omega)) (by dsimp only; omega) (by dsimp only; omega) (by dsimp only; omega) | exact ⟨a0, a1, a2, b0, b1, b2, bel_drew (bel_refl _)⟩)
            (first | (go_at_call 13; refine (toVal_any _ _ _ _).mono ?_; rintro e w' ⟨rfl, hb⟩; have hz := hb.size; obtain ⟨hc, hf, hq⟩ := bcell3 hb; (try simp at hz); (try have hz' := Nat.lt_of_succ_le hz); (try have hzz : wc.heap.size < w'.heap.size := by omega)) | (go_at_call 14; refine (implSubVals_any _ _ _ _ _ _ _ hs hs2).mono ?_; rw [HI.out]; dsimp only [tupV]; rintro e w' ⟨rfl, hb⟩; have hz := hb.size; obtain ⟨hc, hf, hq⟩ := bcell3 hb; (try simp at hz); (try have hz' := Nat.lt_of_succ_le hz); (try have hzz : wc.heap.size < w'.heap.size := by omega)))
          all_goals
            rename_i hHeld
            go_wp2_with fail
            go_meet
            case rel => exact ⟨_, rfl, rfl, ⟨by go_simp, by go_simp, by go_simp⟩, hHeld.2.2.2.2.2.2⟩
        case rest =>
          obtain ⟨g2, rfl, rfl, ⟨q0, q1, q2⟩, gb⟩ := hcut
          replace r0 := old_cell gb r0; replace r1 := old_cell gb r1; replace r2 := old_cell gb r2
          have g4 := bel_trans g3 gb
          clear a0 a1 a2 b0 b1 b2 g3 gb
          go_wp2_with (go_at_call 15; refine (eqVal_any _ _ _ _ _ _ _).mono ?_; rw [decide_eq_true rfl]; rintro e w' ⟨rfl, hb5⟩)
          go_ret
          exact ⟨rfl, bel_trans g4 hb5⟩

theorem own : ownKnob Try.prog.godebug = none := by kernel_rfl
theorem laidOut : laidOutB Try.prog = true := by kernel_rfl
theorem lifted (os : Os) (started : os.Started) (H : Type) (enc : TypeId × Value → H) :
    ReturnsInHanded {} Try.checked os 3 .any (Rows.fnExactSubValsSpec.pre6 enc Try.prog Try.f3 Rows.fnExactSubValsRow.domain false) (Rows.fnExactSubValsSpec.post enc Try.prog Try.f3 false true false false) := by
  refine returnsInHanded_of_change (C := Try.checked) own started (by kernel_rfl) Try.func3
    (ChangeSpec.witness6 (enc := enc) (C := Try.checked) false ⟨#[], #[.agg #[.int .i64 0, .int .i64 0, .string ByteArray.empty], .agg #[.int .i64 0, .int .i64 0, .string ByteArray.empty]], []⟩ 8 (by kernel_rfl) (by kernel_rfl) (by kernel_rfl) (by kernel_rfl)) ?_
  intro W base args ds gs before hval0 hW hcnd _
  have hval : ∀ (j : Nat) t v, Try.f3.params[j]? = some t → args[j]? = some v → Value.okWide Try.prog W .any base t v := hval0
  have hW' := hW
  obtain ⟨p, q, hA0, hV, rfl, hfz, hnd⟩ := hW
  have hA : DataW.TrodAll enc Try.prog W 0 (fun _ => true) true Try.f3.params.toList args.toList ds p := hA0
  rw [Try.params3] at hA hval
  obtain ⟨v0, vs0, d0, ds0, p0, q0, hargs, rfl, rfl, h0, r0⟩ := trodAll_cons hA
  obtain ⟨v1, vs1, d1, ds1, p1, q1, rfl, rfl, rfl, h1, r1⟩ := trodAll_cons r0
  obtain ⟨rfl, rfl, rfl⟩ := trodAll_nil r1
  obtain rfl : args = #[v0, v1] := by cases args; simp_all
  obtain ⟨rfl, rfl⟩ := trodVars_none hV
  have lt0 : ∀ x ∈ p0, x.block < W.heap.size := by obtain ⟨m, hm⟩ := h0; exact DataW.trod_lt m _ _ _ hm
  obtain ⟨k0, m0, s0, hv0, hs0⟩ := open_val Try.underlying23 Try.underlying3 Try.underlying3 Try.underlying9 (by kernel_rfl) (by kernel_rfl) (hval 0 23 v0 rfl rfl) h0
  subst hv0
  have lt1 : ∀ x ∈ p1, x.block < W.heap.size := by obtain ⟨m, hm⟩ := h1; exact DataW.trod_lt m _ _ _ hm
  obtain ⟨k1, m1, s1, hv1, hs1⟩ := open_val Try.underlying23 Try.underlying3 Try.underlying3 Try.underlying9 (by kernel_rfl) (by kernel_rfl) (hval 1 23 v1 rfl rfl) h1
  subst hv1
  clear hA0 hval0
  refine (walk k0 m0 s0 k1 m1 s1 W hs0 hs1).mono fun e W' ⟨he, bel⟩ => ?_
  subst he
  exact ⟨_, rfl, _, _, _, [], _, [], hW', trodAll_mk1 (shut_bool Try.underlying4 _), (trodAll_cons_mk (Below.trod laidOut (by kernel_rfl) (of_decide_eq_true (by kernel_rfl)) h0 bel lt0) (trodAll_cons_mk (Below.trod laidOut (by kernel_rfl) (of_decide_eq_true (by kernel_rfl)) h1 bel lt1) trodAll_mk0)), rfl, bel.frame _, fun h => by cases h⟩
theorem over : Rows.fnExactSubValsRow.holds Try.pinned (OpenSpec.ofChange Rows.fnExactSubValsSpec) :=
  OpenClaim.holds_of_wide 3 Try.f3 rfl rfl rfl rfl rfl rfl rfl ⟨rfl, rfl, rfl, rfl, rfl⟩ rfl rfl rfl rfl rfl (by kernel_rfl) Try.func3 (by kernel_rfl)
    (of_decide_eq_true (by kernel_rfl)) (by unfold Func.isWrapper; first | (rw [if_pos (by decide +kernel)]; kernel_rfl) | (rw [if_neg (by decide +kernel)]; exact ⟨rfl, rfl⟩))
    (fun os started H enc _ => lifted os started H enc)
theorem proved : Rows.FnExactSubValsSaid := over
end Go.Proofs.Ytdcfkohgijahcaa.fnExactSubVals
