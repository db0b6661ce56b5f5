import Derived.Test.YtcbbefibebkfgaaGreatDoorPkPFLen
import Derived.Test.YtcbbefibebkfgaaGreatDoorPkDrawF
import Derived.Test.YtcbbefibebkfgaaGreatDoorPkPlainFacts
import Derived.Test.YtcbbefibebkfgaaGreatDoorPkFact3
import Derived.Test.YtcbbefibebkfgaaGreatDoorRows
import Derived.Test.YtcbbefibebkfgaaGreatDoorRead
import Derived.Test.YtcbbefibebkfgaaGreatDoorPkDoorP
import Derived.Test.YtcbbefibebkfgaaGreatDoorCards
import Derived.Test.YtcbbefibebkfgaaGreatDoorTie
import Derived.SevenTiedAt
/- The law FnFacts returns true at every input, and leaves what it was given as it was. No condition. -/
namespace Go.Proofs.YtcbbefibebkfgaaGreatDoor.fnFacts
open Go.ChangeShapes Go.WideShapes Go.ChangeAt Go.RowKit
open Go.ChangeMaps (open_string shut_string)
set_option linter.unusedVariables false
set_option maxRecDepth 100000
set_option maxHeartbeats 20000000

theorem walk (A : Option Addr) (n c : Nat) (code : List UInt8) (W : World) (hs : n ≤ c ∧ c ≤ maxLen ∧ RdB W W.heap.size A n code) (ht : TabT W) (hv : VarE W) (hm : MaxT W) :
    Calls Tryz.prog 3 #[.slice A n c] W fun e w' => e = .returned (.bool true) ∧ Below W.heap.size W w' := by
  obtain ⟨hnc, _, hr⟩ := hs
  have HTT := Lib.hid ht; have HVV := Lib.hid hv; have HMM := Lib.hid hm; clear ht hv hm
  by_cases hbig : (1048576 : Int) < n
  · go_enter Tryz.func3, Tryz.ntmps3
    go_wp2_with fail
    refine (big_any _ _ _ _).mono ?_
    rw [decide_eq_true hbig]
    rintro e w' ⟨rfl, rfl⟩
    go_wp2
    go_ret
    exact ⟨rfl, Below.refl _ _⟩
  · go_enter Tryz.func3, Tryz.ntmps3
    go_wp2_with fail
    refine (big_any _ _ _ _).mono ?_
    rw [decide_eq_false (by omega)]
    rintro e w' ⟨rfl, rfl⟩
    go_wp2_with fail
    refine (DrawPutFact_any A n c code W _ hr (Nat.le_refl _) (by omega)).mono ?_
    rintro e w1 ⟨A2, c2, bs, kd, A3, c3, fs, ⟨hbl, hbc⟩, ⟨hkd, hfl, hfs⟩, rfl, hry, hrf, gW⟩
    have hkz : kd.size ≤ 9223372036854775807 := by omega
    have HFS := Lib.hid (show ∀ x ∈ fs, x.s.size ≤ 9223372036854775807 from fun x hx => by have := hfs x hx; omega)
    have HTF := Lib.hid (totF_small (f := ⟨kd, fs⟩) hkd hfl hfs)
    have HPL := Lib.hid (putF_small (f := ⟨kd, fs⟩) hkd hfl hfs)
    clear hfs
    obtain ⟨N, hN⟩ : ∃ N, bs.length = N := ⟨_, rfl⟩
    obtain ⟨M, hM⟩ : ∃ M, fs.length = M := ⟨_, rfl⟩
    rw [hN] at hbl hbc hry ⊢
    rw [hM] at hfl hrf ⊢
    have HLN := Lib.hid hN; have HLM := Lib.hid hM; clear hN hM
    obtain ⟨tx, htx⟩ : ∃ tx, factText ⟨kd, fs⟩ = tx := ⟨_, rfl⟩
    have htl := factText_len ⟨kd, fs⟩
    rw [htx] at htl
    cases hok : factOk ⟨kd, fs⟩
    · have hte : (tx.toList == ([] : List UInt8)) = true := by
        have h0 : tx = ⟨#[]⟩ := by
          rw [← htx]
          unfold factText
          rw [hok]
          rfl
        rw [h0, ByteArray.toList_eq]
        rfl
      have HX := Lib.hid htx; have HO := Lib.hid hok; clear htx hok
      go_wp2_with fail
      refine (implFactText_any kd A3 M c3 fs _ _ (HTT.out.kept (by repeat (first | with_reducible exact bel_refl _ | with_reducible assumption | with_reducible refine bel_set ?_ (by first | (simp; done) | (simp; omega) | omega) _ | with_reducible refine bel_alloc ?_ _ | with_reducible refine bel_drew ?_ | with_reducible refine bel_drewN ?_ _ | with_reducible refine bel_trans ?_ (by assumption)))) (hrf.alloc _) (by omega) hkz HFS.out).mono ?_
      rw [HX.out]
      rintro e w2 ⟨rfl, hb⟩
      have g2 : Below W.heap.size W w2 := (by repeat (first | with_reducible exact bel_refl _ | with_reducible assumption | with_reducible refine bel_set ?_ (by first | (simp; done) | (simp; omega) | omega) _ | with_reducible refine bel_alloc ?_ _ | with_reducible refine bel_drew ?_ | with_reducible refine bel_drewN ?_ _ | with_reducible refine bel_trans ?_ (by assumption)))
      have a0 := old_cell hb (b := w1.heap.size) (o := 0) (v := .string kd) (by go_simp)
      have a1 := old_cell hb (b := w1.heap.size) (o := 1) (v := .slice A3 M c3) (by go_simp)
      have hrf2 := (hrf.alloc (.cells #[.string kd, .slice A3 M c3] 26)).kept hb
      have za := cell_lt a0
      dsimp only at za
      clear hb hrf gW
      go_wp2_with fail
      refine (specFactOk_any kd A3 M c3 fs _ _ hrf2 (by omega) hkz HFS.out).mono ?_
      rw [HO.out]
      rintro e w3 ⟨rfl, hb⟩
      replace a0 := old_cell hb a0; replace a1 := old_cell hb a1
      replace hrf2 := hrf2.kept hb
      have g3 : Below W.heap.size W w3 := bel_trans g2 hb
      have za := cell_lt a0
      dsimp only at za
      clear hb
      go_wp2_with fail
      refine (implFactOk_any kd A3 M c3 fs _ _ hrf2 (by omega) hkz HFS.out).mono ?_
      rw [HO.out]
      rintro e w4 ⟨rfl, hb⟩
      go_wp2
      go_ret
      exact ⟨rfl, bel_trans g3 hb⟩
    · have hgf := getFact_put bs hok
      have hpf := parseF_text hok
      rw [htx] at hpf
      obtain ⟨ps, hps⟩ : ∃ ps, bs ++ putF ⟨kd, fs⟩ = ps := ⟨_, rfl⟩
      have hpl : ps.length ≤ 500 := by rw [← hps, List.length_append]; have := HPL.out; have := HLN.out; omega
      rw [hps, HLN.out] at hgf
      obtain ⟨P, hP⟩ : ∃ P, ps.length = P := ⟨_, rfl⟩
      rw [hP] at hgf hpl
      have HX := Lib.hid htx; have HO := Lib.hid hok; have HGF := Lib.hid hgf; have HPF := Lib.hid hpf; have HPS := Lib.hid hps; have HP := Lib.hid hP
      clear htx hok hgf hpf hps hP
      go_wp2_with fail
      refine (implFactText_any kd A3 M c3 fs _ _ (HTT.out.kept (by repeat (first | with_reducible exact bel_refl _ | with_reducible assumption | with_reducible refine bel_set ?_ (by first | (simp; done) | (simp; omega) | omega) _ | with_reducible refine bel_alloc ?_ _ | with_reducible refine bel_drew ?_ | with_reducible refine bel_drewN ?_ _ | with_reducible refine bel_trans ?_ (by assumption)))) (hrf.alloc _) (by omega) hkz HFS.out).mono ?_
      rw [HX.out]
      rintro e w2 ⟨rfl, hb⟩
      have g2 : Below W.heap.size W w2 := (by repeat (first | with_reducible exact bel_refl _ | with_reducible assumption | with_reducible refine bel_set ?_ (by first | (simp; done) | (simp; omega) | omega) _ | with_reducible refine bel_alloc ?_ _ | with_reducible refine bel_drew ?_ | with_reducible refine bel_drewN ?_ _ | with_reducible refine bel_trans ?_ (by assumption)))
      have a0 := old_cell hb (b := w1.heap.size) (o := 0) (v := .string kd) (by go_simp)
      have a1 := old_cell hb (b := w1.heap.size) (o := 1) (v := .slice A3 M c3) (by go_simp)
      have hrf2 := (hrf.alloc (.cells #[.string kd, .slice A3 M c3] 26)).kept hb
      have hry2 := (hry.alloc (.cells #[.string kd, .slice A3 M c3] 26)).kept hb
      have za := cell_lt a0
      dsimp only at za
      clear hb hrf hry gW
      go_wp2_with fail
      refine (specFactOk_any kd A3 M c3 fs _ _ hrf2 (by omega) hkz HFS.out).mono ?_
      rw [HO.out]
      rintro e w3 ⟨rfl, hb⟩
      replace a0 := old_cell hb a0; replace a1 := old_cell hb a1
      replace hrf2 := hrf2.kept hb; replace hry2 := hry2.kept hb
      have g3 : Below W.heap.size W w3 := bel_trans g2 hb
      have za := cell_lt a0
      dsimp only at za
      clear hb g2
      go_wp2_with fail
      refine (implPutFact_any A2 N c2 bs kd A3 M c3 fs _ _ _ hry2.b hry2.le hrf2 (by omega) (by have := HTF.out; omega)).mono ?_
      rw [HPS.out]
      rintro e w4 ⟨v4, rfl, ho4, hb, _⟩
      obtain ⟨A4, c4, rfl, hc4, _⟩ := ho4.form
      rw [HP.out] at ho4 hc4 ⊢
      replace a0 := old_cell hb a0; replace a1 := old_cell hb a1
      replace hrf2 := hrf2.kept hb
      have g4 : Below W.heap.size W w4 := bel_trans g3 hb
      have rr4 : RdY w4 w4.heap.size A4 P ps := ho4.rdM HP.out
      have za := cell_lt a0
      dsimp only at za
      clear hb hry2 ho4 g3
      go_wp2_with fail
      refine (implGetFact_any A4 P c4 (N : Int) ps kd fs (P : Int) true _ _ rr4 (by omega) hc4 HGF.out).mono ?_
      dsimp only [tupGF]
      rintro e w5 ⟨A5, c5, rfl, ho5, hb⟩
      rw [HLM.out] at ho5 ⊢
      replace a0 := old_cell hb a0; replace a1 := old_cell hb a1
      replace hrf2 := hrf2.kept hb
      have g5 : Below W.heap.size W w5 := bel_trans g4 hb
      have hr5 := ho5.rdM HLM.out
      have za := cell_lt a0
      dsimp only at za
      clear hb rr4 ho5 g4
      go_wp2_with fail
      refine (implParseFact_any tx kd fs true _ (by omega) (HTT.out.kept (by repeat (first | with_reducible exact bel_refl _ | with_reducible assumption | with_reducible refine bel_set ?_ (by first | (simp; done) | (simp; omega) | omega) _ | with_reducible refine bel_alloc ?_ _ | with_reducible refine bel_drew ?_ | with_reducible refine bel_drewN ?_ _ | with_reducible refine bel_trans ?_ (by assumption)))) (HVV.out.kept (by repeat (first | with_reducible exact bel_refl _ | with_reducible assumption | with_reducible refine bel_set ?_ (by first | (simp; done) | (simp; omega) | omega) _ | with_reducible refine bel_alloc ?_ _ | with_reducible refine bel_drew ?_ | with_reducible refine bel_drewN ?_ _ | with_reducible refine bel_trans ?_ (by assumption)))) (HMM.out.kept (by repeat (first | with_reducible exact bel_refl _ | with_reducible assumption | with_reducible refine bel_set ?_ (by first | (simp; done) | (simp; omega) | omega) _ | with_reducible refine bel_alloc ?_ _ | with_reducible refine bel_drew ?_ | with_reducible refine bel_drewN ?_ _ | with_reducible refine bel_trans ?_ (by assumption)))) HPF.out).mono ?_
      dsimp only [tupPF]
      rintro e w6 ⟨A6, c6, rfl, ho6, hb⟩
      rw [HLM.out] at ho6 ⊢
      have b0 := old_cell hb (b := w5.heap.size) (o := 0) (v := .string kd) (by go_simp)
      have b1 := old_cell hb (b := w5.heap.size) (o := 1) (v := .slice A5 M c5) (by go_simp)
      have gx : Below w5.heap.size w5 w6 := bel_trans (bel_alloc (bel_refl w5) _) hb
      replace a0 := old_cell gx a0; replace a1 := old_cell gx a1
      replace hrf2 := hrf2.kept gx; replace hr5 := hr5.kept gx
      have g6 : Below W.heap.size W w6 := bel_trans g5 gx
      have hr6 := ho6.rdM HLM.out
      have za := cell_lt a0
      have zb := cell_lt b0
      dsimp only at za zb
      clear hb gx ho6 g5
      have hPP : ((P : Int) == (P : Int)) = true := by simp
      go_wp2_with fail
      refine (implSameFact_any kd kd A5 A3 M c5 M c3 fs fs _ _ _ (hr5.alloc _) (hrf2.alloc _) (by omega)).mono ?_
      rw [decide_eq_true rfl]
      rintro e w7 ⟨rfl, hb⟩
      have d0 := old_cell hb (b := w6.heap.size) (o := 0) (v := .string kd) (by go_simp)
      have d1 := old_cell hb (b := w6.heap.size) (o := 1) (v := .slice A6 M c6) (by go_simp)
      have gx : Below w6.heap.size w6 w7 := bel_trans (bel_alloc (bel_refl w6) _) hb
      replace a0 := old_cell gx a0; replace a1 := old_cell gx a1
      replace hrf2 := hrf2.kept gx; replace hr6 := hr6.kept gx
      have g7 : Below W.heap.size W w7 := bel_trans g6 gx
      clear hb gx g6 b0 b1
      go_wp2_with fail
      refine (implSameFact_any kd kd A6 A3 M c6 M c3 fs fs _ _ _ hr6 hrf2 (by omega)).mono ?_
      rw [decide_eq_true rfl]
      rintro e w8 ⟨rfl, hb⟩
      go_wp2
      go_ret
      exact ⟨rfl, bel_trans g7 hb⟩

theorem own : ownKnob Tryz.prog.godebug = none := by kernel_rfl
theorem laidOut : laidOutB Tryz.prog = true := by kernel_rfl
theorem lifted (os : Os) (started : os.Started) (H : Type) (enc : TypeId × Value → H) :
    ReturnsInHanded {} Tryz.checked os 3 .any (fun w args => (Rows.fnFactsSpec.pre enc Tryz.prog Tryz.f3 [] false w args ∧ laidMetH Tryz.prog laidLP w) ∧ sizedMet enc Tryz.prog Tryz.f3 (OpenSpec.ofChange Rows.fnFactsSpec) false w args) (Rows.fnFactsSpec.post enc Tryz.prog Tryz.f3 false true false false) := by
  refine handed_shaped (C := Tryz.checked) (X := fun w _ => laidMetH Tryz.prog laidLP w) (fun _ _ _ hh h => h.of_heap hh) own started (by kernel_rfl) Tryz.func3
    (ChangeSpec.witness_shaped (enc := enc) (C := Tryz.checked) (os := os) (X := fun w _ => laidMetH Tryz.prog laidLP w) false (World.laidAll Tryz.prog os laidLP) #[.slice none 0 0] 8 (World.laidAll_os _ _ _) (World.shaped_of_ZipB (by kernel_rfl) (by kernel_rfl)) (by kernel_rfl) (by kernel_rfl) (by kernel_rfl) (by rw [MakeChecks.laidMetH_plain _ _ _ (by kernel_rfl)]; exact laidMet_laidAll _ (by kernel_rfl) (by kernel_rfl))) ?_
  intro W base args ds gs before hval0 hW hL hsh
  have hval : ∀ (j : Nat) t v, Tryz.f3.params[j]? = some t → args[j]? = some v → Value.okWide Tryz.prog W .any base t v := hval0
  have hW' := hW
  obtain ⟨p, q, hA0, hV, rfl, hfz, hnd⟩ := hW
  have hA : DataW.TrodAll enc Tryz.prog W 0 (fun _ => true) true Tryz.f3.params.toList args.toList ds p := hA0
  rw [Tryz.params3] at hA hval
  obtain ⟨v0, vs0, d0, ds0, p0, q0, hargs, rfl, rfl, h0, r0⟩ := trodAll_cons hA
  obtain ⟨rfl, rfl, rfl⟩ := trodAll_nil r0
  obtain rfl : args = #[v0] := by cases args; simp_all
  obtain ⟨rfl, rfl⟩ := trodVars_none hV
  have lt0 : ∀ x ∈ p0, x.block < W.heap.size := by obtain ⟨m, hm⟩ := h0; exact DataW.trod_lt m _ _ _ hm
  obtain ⟨A0, n0, c0, b0, hv0, hs0⟩ := open_bytes Tryz.underlying22 Tryz.underlying5 (by kernel_rfl) (hval 0 22 v0 rfl rfl) h0
  subst hv0
  clear hA0 hval0
  refine (walk A0 n0 c0 b0 W hs0 (tabT_of_laidP hL) (varE_of_laidP hL) (maxT_of_shape hsh)).mono fun e W' ⟨he, bel⟩ => ?_
  subst he
  exact ⟨_, rfl, _, _, _, [], _, [], hW', trodAll_mk1 (shut_bool Tryz.underlying4 _), (trodAll_cons_mk (Below.trod laidOut (by kernel_rfl) (of_decide_eq_true (by kernel_rfl)) h0 bel lt0) trodAll_mk0), rfl, bel.frame _, fun h => by cases h⟩
theorem over : Rows.fnFactsRow.holds Tryz.pinned (OpenSpec.ofChange Rows.fnFactsSpec) :=
  OpenClaim.holds_of_wide 3 Tryz.f3 rfl rfl rfl rfl rfl rfl rfl ⟨rfl, rfl, rfl, rfl, rfl⟩ rfl rfl rfl rfl rfl (by kernel_rfl) Tryz.func3 (by kernel_rfl)
    (of_decide_eq_true (by kernel_rfl)) (by unfold Func.isWrapper; first | (rw [if_pos (by decide +kernel)]; kernel_rfl) | (rw [if_neg (by decide +kernel)]; exact ⟨rfl, rfl⟩))
    (fun os started H enc _ => lifted os started H enc)
theorem proved : Rows.FnFactsCardSaid :=
  Claim7.holds_tied_plain_at .later [] laidKP true _ _ over (fun _ h => by cases h) (by kernel_rfl) (fun _ h => by cases h) fnFacts_row_tie rfl ⟨rfl, rfl⟩ (by kernel_rfl) rfl
    (fun f fn hf hfn => by
      obtain rfl : f = 3 := Option.some.inj ((show Tryz.prog.funcNamed "loop.example/g00282/laws.FnFacts" = some 3 by kernel_rfl).symm.trans hf) |>.symm
      obtain rfl : fn = Tryz.f3 := (Option.some.inj (Tryz.func3.symm.trans hfn)).symm
      exact ⟨by kernel_rfl, fun j t ht => by
        rw [Tryz.params3] at ht
        have hm : t ∈ [22] := by simpa using Array.mem_of_getElem? ht
        have hall : ([22].all fun u => !Tryz.prog.wantsStandIn u) = true := by kernel_rfl
        exact (show Tryz.prog.wantsStandIn t = false by simpa using List.all_eq_true.1 hall t hm)⟩)
    (by kernel_rfl)
end Go.Proofs.YtcbbefibebkfgaaGreatDoor.fnFacts
