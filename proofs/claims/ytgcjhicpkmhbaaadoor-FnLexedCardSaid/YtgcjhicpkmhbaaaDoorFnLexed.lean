import Derived.Test.YtgcjhicpkmhbaaaDoorPkDraw18
import Derived.Test.YtgcjhicpkmhbaaaDoorPkSameT
import Derived.Test.YtgcjhicpkmhbaaaDoorPkImplLex
import Derived.Test.YtgcjhicpkmhbaaaDoorPkPlainJoin
import Derived.Test.YtgcjhicpkmhbaaaDoorAt
import Derived.Test.YtgcjhicpkmhbaaaDoorRows
import Derived.Test.YtgcjhicpkmhbaaaDoorRead
import Derived.Test.YtgcjhicpkmhbaaaDoorPkDoorE
import Derived.Test.YtgcjhicpkmhbaaaDoorCards
import Derived.Test.YtgcjhicpkmhbaaaDoorTie
import Derived.SevenTiedAt
/- The law FnLexed returns true at every input, and leaves what it was given as it was. No condition. -/
namespace Go.Proofs.YtgcjhicpkmhbaaaDoor.fnLexed
open Go.ChangeShapes Go.WideShapes Go.ChangeAt Go.RowKit
open Go.ChangeMaps (open_string shut_string)
set_option linter.unusedVariables false
set_option maxRecDepth 100000
set_option maxHeartbeats 20000000

theorem walk (A : Option Addr) (n c : Nat) (code : List UInt8) (W : World) (hs : n ≤ c ∧ c ≤ maxLen ∧ RdB W W.heap.size A n code) (ht : TabT W) (hv : VarE W) :
    Calls Tryd.prog 4 #[.slice A n c] W fun e w' => e = .returned (.bool true) ∧ Below W.heap.size W w' := by
  obtain ⟨hnc, _, hr⟩ := hs
  have HTT := Lib.hid ht; have HVV := Lib.hid hv; clear ht hv
  by_cases hbig : (1048576 : Int) < n
  · go_enter Tryd.func4, Tryd.ntmps4
    go_wp2_with fail
    refine (big_any _ _ _ _).mono ?_
    rw [decide_eq_true hbig]
    rintro e w' ⟨rfl, rfl⟩
    go_wp2
    go_ret
    exact ⟨rfl, Below.refl _ _⟩
  · go_enter Tryd.func4, Tryd.ntmps4
    go_wp2_with fail
    refine (big_any _ _ _ _).mono ?_
    rw [decide_eq_false (by omega)]
    rintro e w' ⟨rfl, rfl⟩
    go_wp2_with fail
    refine (DrawJoinTokens_any A n c code W _ hr (Nat.le_refl _) (by omega)).mono ?_
    rintro e w1 ⟨A2, c2, l, hl, hf, rfl, r2, gW⟩
    have HF := Lib.hid hf
    have hjm := joinTok_most hf
    have hlx := lexed_join hf (by omega)
    clear hf
    go_wp2_with fail
    refine (implJoinTokens_any A2 _ c2 l _ w1.heap.size (HTT.out.kept gW) r2 (by omega) (fun x hx => by have := tok_small (HF.out x hx); omega)).mono ?_
    obtain ⟨s0, hs0⟩ : ∃ s0, joinTok l = s0 := ⟨_, rfl⟩
    rw [hs0] at hjm hlx ⊢
    clear hs0
    have HLX := Lib.hid hlx
    clear hlx
    rintro e w2 ⟨rfl, hb⟩
    have g2 : Below W.heap.size W w2 := (by repeat (first | with_reducible exact bel_refl _ | with_reducible assumption | with_reducible refine bel_set ?_ (by first | (simp; done) | (simp; omega) | omega) _ | with_reducible refine bel_alloc ?_ _ | with_reducible refine bel_drew ?_ | with_reducible refine bel_drewN ?_ _ | with_reducible refine bel_trans ?_ (by assumption)))
    replace r2 := r2.kept hb
    clear hb gW
    go_wp2_with fail
    refine (implLex_any s0 (l, -1) _ (by omega) HLX.out (HTT.out.kept g2) (HVV.out.kept g2)).mono ?_
    dsimp only
    rintro e w3 ⟨v3, rfl, ho, hb, _⟩
    obtain ⟨A3, c3, rfl, hc3, _⟩ := ho.form
    have g3 : Below W.heap.size W w3 := (by repeat (first | with_reducible exact bel_refl _ | with_reducible assumption | with_reducible refine bel_set ?_ (by first | (simp; done) | (simp; omega) | omega) _ | with_reducible refine bel_alloc ?_ _ | with_reducible refine bel_drew ?_ | with_reducible refine bel_drewN ?_ _ | with_reducible refine bel_trans ?_ (by assumption)))
    replace r2 := r2.kept hb
    have r3 := ho.rdO
    clear hb g2 ho
    go_wp2
    go_loopw [6] (fun i wr => ∃ k : Nat, k ≤ l.length ∧ i = .int .i64 k ∧ Below w3.heap.size w3 wr) (fun i _ => l.length - (intOf i).toNat)
    case atStart => exact ⟨0, Nat.zero_le _, rfl, bel_refl _⟩
    case round =>
      obtain ⟨k, hk, rfl, hbr⟩ := hrel
      replace r2 := r2.kept hbr; replace r3 := r3.kept hbr
      have hsr := hbr.size
      by_cases hlt : k < l.length
      · obtain ⟨ba, oa, rfl, hba, hca⟩ := r2.2.val (by omega)
        obtain ⟨tk, tn, ts, he, a0, a1, a2⟩ := hca k hlt
        clear hca
        have hok : tokenOk ⟨tk, tn, ts⟩ = true := by
          rw [← he]
          exact HF.out _ (List.getElem_mem _)
        have hsm := tok_small hok
        dsimp only at hsm
        have htx := text_some hok
        have HOK := Lib.hid hok
        clear he hok
        obtain ⟨tx, htx2⟩ : ∃ tx, tokenText ⟨tk, tn, ts⟩ = tx := ⟨_, rfl⟩
        rw [htx2] at htx
        have HTX := Lib.hid htx2
        clear htx2
        have hne1 : (tx.toList == []) = false := by
          rw [beq_eq_false_iff_ne, ByteArray.toList_eq]
          intro e
          have : tx.data.toList.length = 0 := by rw [e]; rfl
          rw [size_data] at this
          omega
        have hk0 : (0:Int) ≤ (k:Int) := by omega
        have hk1 : (k:Int) < (l.length:Int) := by omega
        go_wp2_with fail
        refine (implTokenOk_any tk tn ts _ (by omega)).mono ?_
        rw [HOK.out]
        rintro e w4 ⟨rfl, hb⟩
        replace a0 := old_cell hb a0; replace a1 := old_cell hb a1; replace a2 := old_cell hb a2
        have g4 : Below w3.heap.size w3 w4 := bel_trans hbr hb
        clear hb
        go_wp2_with fail
        refine (implTokenText_any tk tn ts _ (HTT.out.kept (bel_trans g3 g4)) (by omega)).mono ?_
        rw [HTX.out]
        rintro e w5 ⟨rfl, hb⟩
        have g5 : Below w3.heap.size w3 w5 := bel_trans g4 hb
        clear hb g4
        go_wp2
        go_roundw
        case rel => exact ⟨k + 1, by omega, by go_num, g5⟩
        case measure => simp [intOf]; omega
      · go_wp2_with fail
        refine (sameTokens_any A3 A2 _ c3 c2 l _ _ _ r3 r2 (by omega)).mono ?_
        rintro e w4 ⟨rfl, hb⟩
        go_wp2
        go_ret
        exact ⟨rfl, (by repeat (first | with_reducible exact bel_refl _ | with_reducible assumption | with_reducible refine bel_set ?_ (by first | (simp; done) | (simp; omega) | omega) _ | with_reducible refine bel_alloc ?_ _ | with_reducible refine bel_drew ?_ | with_reducible refine bel_drewN ?_ _ | with_reducible refine bel_trans ?_ (by assumption)))⟩

theorem own : ownKnob Tryd.prog.godebug = none := by kernel_rfl
theorem laidOut : laidOutB Tryd.prog = true := by kernel_rfl
theorem lifted (os : Os) (started : os.Started) (H : Type) (enc : TypeId × Value → H) :
    ReturnsInHanded {} Tryd.checked os 4 .any (fun w args => (Rows.fnLexedSpec.pre enc Tryd.prog Tryd.f4 [] false w args ∧ laidMetH Tryd.prog laidLE w) ∧ sizedMet enc Tryd.prog Tryd.f4 (OpenSpec.ofChange Rows.fnLexedSpec) false w args) (Rows.fnLexedSpec.post enc Tryd.prog Tryd.f4 false true false false) := by
  refine returnsInHanded_of_change_and (C := Tryd.checked) (X := fun w _ => laidMetH Tryd.prog laidLE w) (fun _ _ _ hh h => h.of_heap hh) own started (by kernel_rfl) Tryd.func4
    (ChangeSpec.witness_shaped (enc := enc) (C := Tryd.checked) (os := os) (X := fun w _ => laidMetH Tryd.prog laidLE w) false (World.doorLaid Tryd.prog 400 os) #[.slice none 0 0] 8 rfl (World.shaped_of_RefB (by kernel_rfl) (by kernel_rfl)) (by kernel_rfl) (by kernel_rfl) (by kernel_rfl) (door_metE os _)) ?_
  intro W base args ds gs before hval0 hW _ _ hL _
  have hval : ∀ (j : Nat) t v, Tryd.f4.params[j]? = some t → args[j]? = some v → Value.okWide Tryd.prog W .any base t v := hval0
  have hW' := hW
  obtain ⟨p, q, hA0, hV, rfl, hfz, hnd⟩ := hW
  have hA : DataW.TrodAll enc Tryd.prog W 0 (fun _ => true) true Tryd.f4.params.toList args.toList ds p := hA0
  rw [Tryd.params4] at hA hval
  obtain ⟨v0, vs0, d0, ds0, p0, q0, hargs, rfl, rfl, h0, r0⟩ := trodAll_cons hA
  obtain ⟨rfl, rfl, rfl⟩ := trodAll_nil r0
  obtain rfl : args = #[v0] := by cases args; simp_all
  obtain ⟨rfl, rfl⟩ := trodVars_none hV
  have lt0 : ∀ x ∈ p0, x.block < W.heap.size := by obtain ⟨m, hm⟩ := h0; exact DataW.trod_lt m _ _ _ hm
  obtain ⟨A0, n0, c0, b0, hv0, hs0⟩ := open_bytes Tryd.underlying28 Tryd.underlying5 (by kernel_rfl) (hval 0 28 v0 rfl rfl) h0
  subst hv0
  clear hA0 hval0
  refine (walk A0 n0 c0 b0 W hs0 (tabT_of_laidE hL) (varE_of_laidE hL)).mono fun e W' ⟨he, bel⟩ => ?_
  subst he
  exact ⟨_, rfl, _, _, _, [], _, [], hW', trodAll_mk1 (shut_bool Tryd.underlying4 _), (trodAll_cons_mk (Below.trod laidOut (by kernel_rfl) (of_decide_eq_true (by kernel_rfl)) h0 bel lt0) trodAll_mk0), rfl, bel.frame _, fun h => by cases h⟩
theorem over : Rows.fnLexedRow.holds Tryd.pinned (OpenSpec.ofChange Rows.fnLexedSpec) :=
  OpenClaim.holds_of_wide 4 Tryd.f4 rfl rfl rfl rfl rfl rfl rfl ⟨rfl, rfl, rfl, rfl, rfl⟩ rfl rfl rfl rfl rfl (by kernel_rfl) Tryd.func4 (by kernel_rfl)
    (of_decide_eq_true (by kernel_rfl)) (by unfold Func.isWrapper; first | (rw [if_pos (by decide +kernel)]; kernel_rfl) | (rw [if_neg (by decide +kernel)]; exact ⟨rfl, rfl⟩))
    (fun os started H enc _ => lifted os started H enc)
theorem proved : Rows.FnLexedCardSaid :=
  Claim7.holds_tied_plain_at .later [] laidKE true _ _ over (fun _ h => by cases h) (by kernel_rfl) (fun _ h => by cases h) fnLexed_row_tie rfl ⟨rfl, rfl⟩ (by kernel_rfl) rfl
    (fun f fn hf hfn => by
      obtain rfl : f = 4 := Option.some.inj ((show Tryd.prog.funcNamed "loop.example/g00282/laws.FnLexed" = some 4 by kernel_rfl).symm.trans hf) |>.symm
      obtain rfl : fn = Tryd.f4 := (Option.some.inj (Tryd.func4.symm.trans hfn)).symm
      exact ⟨by kernel_rfl, fun j t ht => by
        rw [Tryd.params4] at ht
        have hm : t ∈ [28] := by simpa using Array.mem_of_getElem? ht
        have hall : ([28].all fun u => !Tryd.prog.wantsStandIn u) = true := by kernel_rfl
        exact (show Tryd.prog.wantsStandIn t = false by simpa using List.all_eq_true.1 hall t hm)⟩)
    (by kernel_rfl)
end Go.Proofs.YtgcjhicpkmhbaaaDoor.fnLexed
