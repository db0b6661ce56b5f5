/- The law FnVals returns true at every input, and leaves what it was given as it was. No condition. -/
import Derived.Test.YtgpinhamgdganaaDoorVals
import Derived.Test.YtgpinhamgdganaaDoorAt
import Derived.Test.YtgpinhamgdganaaDoorRows
import Derived.Test.YtgpinhamgdganaaDoorRead
import Derived.Test.YtgpinhamgdganaaDoorDoorE
import Derived.Test.YtgpinhamgdganaaDoorCards
import Derived.Test.YtgpinhamgdganaaDoorTie
import Derived.SevenTiedAt
namespace Go.Proofs.YtgpinhamgdganaaDoor.fnVals
open Go.ChangeShapes Go.WideShapes Go.ChangeAt Go.RowKit
open Go.ChangeMaps (open_string shut_string)
set_option linter.unusedVariables false
set_option maxRecDepth 100000
set_option maxHeartbeats 20000000

theorem walk (A : Option Addr) (n c : Nat) (code : List UInt8) (W : World) (hs : n ≤ c ∧ c ≤ maxLen ∧ RdB W W.heap.size A n code) (ht : TabT W) (hv : VarE W) :
    Calls Tryd.prog 6 #[.slice A n c] W fun e w' => e = .returned (.bool true) ∧ Below W.heap.size W w' := by
  obtain ⟨hnc, _, hr⟩ := hs
  have HTT := Lib.hid ht; have HVV := Lib.hid hv; clear ht hv
  by_cases hbig : (1048576 : Int) < n
  · go_enter Tryd.func6, Tryd.ntmps6
    go_wp2_with fail
    refine (big_any _ _ _ _).mono ?_
    rw [decide_eq_true hbig]
    rintro e w' ⟨rfl, rfl⟩
    go_wp2
    go_ret
    exact ⟨rfl, Below.refl _ _⟩
  · go_enter Tryd.func6, Tryd.ntmps6
    go_wp2_with fail
    refine (big_any _ _ _ _).mono ?_
    rw [decide_eq_false (by omega)]
    rintro e w' ⟨rfl, rfl⟩
    go_wp2_with fail
    refine (DrawPutVal_any A n c code W _ hr (Nat.le_refl _) (by omega)).mono ?_
    rintro e w1 ⟨A2, c2, bs, k, m, s, ⟨hbl, hss⟩, rfl, hry, gW⟩
    have hc2 := hry.len
    have hq : s.size ≤ 9223372036854775807 := by omega
    obtain ⟨tx, htx⟩ : ∃ tx, valText ⟨k, m, s⟩ = tx := ⟨_, rfl⟩
    have gS := gW.size
    cases hok : valOk ⟨k, m, s⟩
    · have hte : (tx.toList == ([] : List UInt8)) = true := by
        have h0 : tx = ⟨#[]⟩ := by
          rw [← htx]
          unfold valText
          rw [hok]
          rfl
        rw [h0, ByteArray.toList_eq]
        rfl
      have HX := Lib.hid htx; have HO := Lib.hid hok; clear htx hok
      go_wp2_with fail
      refine (implValText_any k m s _ (HTT.out.kept (by repeat (first | with_reducible exact bel_refl _ | with_reducible assumption | with_reducible refine bel_set ?_ (by first | (simp; done) | (simp; omega) | omega) _ | with_reducible refine bel_alloc ?_ _ | with_reducible refine bel_drew ?_ | with_reducible refine bel_drewN ?_ _ | with_reducible refine bel_trans ?_ (by assumption)))) hq).mono ?_
      rw [HX.out]
      rintro e w2 ⟨rfl, hb⟩
      have g2 : Below W.heap.size W w2 := (by repeat (first | with_reducible exact bel_refl _ | with_reducible assumption | with_reducible refine bel_set ?_ (by first | (simp; done) | (simp; omega) | omega) _ | with_reducible refine bel_alloc ?_ _ | with_reducible refine bel_drew ?_ | with_reducible refine bel_drewN ?_ _ | with_reducible refine bel_trans ?_ (by assumption)))
      have a0 := old_cell hb (b := w1.heap.size) (o := 0) (v := .int .i64 k) (by go_simp)
      have a1 := old_cell hb (b := w1.heap.size) (o := 1) (v := .int .i64 m) (by go_simp)
      have a2 := old_cell hb (b := w1.heap.size) (o := 2) (v := .string s) (by go_simp)
      have za := cell_lt a0
      dsimp only at za
      clear hb
      go_wp2_with fail
      refine (specValOk_any k m s _ hq).mono ?_
      rw [HO.out]
      rintro e w3 ⟨rfl, hb⟩
      replace a0 := old_cell hb a0; replace a1 := old_cell hb a1; replace a2 := old_cell hb a2
      have g3 : Below W.heap.size W w3 := bel_trans g2 hb
      have za := cell_lt a0
      dsimp only at za
      clear hb
      go_wp2_with fail
      refine (implValOk_any k m s _ hq).mono ?_
      rw [HO.out]
      rintro e w4 ⟨rfl, hb⟩
      go_wp2
      go_ret
      exact ⟨rfl, bel_trans g3 hb⟩
    · have hgv := getVal_put bs hok
      have hpt := parse_text hok
      have hpl := putV_len ⟨k, m, s⟩
      obtain ⟨rs, hrs⟩ : ∃ rs, bs ++ putV ⟨k, m, s⟩ = rs := ⟨_, rfl⟩
      have hrl : rs.length ≤ 100 := by rw [← hrs, List.length_append]; simp only at hpl; omega
      have hszt : tx.size ≤ 30 := by
        rw [← htx]
        unfold valText
        rw [if_pos hok]
        exact rawText_len2 hok
      rw [hrs] at hgv
      rw [htx] at hpt
      have HX := Lib.hid htx; have HO := Lib.hid hok; have HGV := Lib.hid hgv; have HPT := Lib.hid hpt; have HRS := Lib.hid hrs
      clear htx hok hgv hpt hrs hpl
      go_wp2_with fail
      refine (implValText_any k m s _ (HTT.out.kept (by repeat (first | with_reducible exact bel_refl _ | with_reducible assumption | with_reducible refine bel_set ?_ (by first | (simp; done) | (simp; omega) | omega) _ | with_reducible refine bel_alloc ?_ _ | with_reducible refine bel_drew ?_ | with_reducible refine bel_drewN ?_ _ | with_reducible refine bel_trans ?_ (by assumption)))) hq).mono ?_
      rw [HX.out]
      rintro e w2 ⟨rfl, hb⟩
      have g2 : Below W.heap.size W w2 := (by repeat (first | with_reducible exact bel_refl _ | with_reducible assumption | with_reducible refine bel_set ?_ (by first | (simp; done) | (simp; omega) | omega) _ | with_reducible refine bel_alloc ?_ _ | with_reducible refine bel_drew ?_ | with_reducible refine bel_drewN ?_ _ | with_reducible refine bel_trans ?_ (by assumption)))
      have ry2 : RdY w2 w1.heap.size A2 bs.length bs := (hry.alloc _).kept hb
      have a0 := old_cell hb (b := w1.heap.size) (o := 0) (v := .int .i64 k) (by go_simp)
      have a1 := old_cell hb (b := w1.heap.size) (o := 1) (v := .int .i64 m) (by go_simp)
      have a2 := old_cell hb (b := w1.heap.size) (o := 2) (v := .string s) (by go_simp)
      have za := cell_lt a0
      dsimp only at za
      clear hb hry gW
      go_wp2_with fail
      refine (specValOk_any k m s _ hq).mono ?_
      rw [HO.out]
      rintro e w3 ⟨rfl, hb⟩
      replace a0 := old_cell hb a0; replace a1 := old_cell hb a1; replace a2 := old_cell hb a2
      have ry3 := ry2.kept hb
      have g3 : Below W.heap.size W w3 := bel_trans g2 hb
      have za := cell_lt a0
      dsimp only at za
      clear hb ry2
      go_wp2_with fail
      refine (implPutVal_any A2 _ c2 bs k m s _ w1.heap.size ry3.b ry3.le (by omega) (by omega)).mono ?_
      rw [HRS.out]
      rintro e w4 ⟨v4, rfl, ho4, hb, hs4⟩
      obtain ⟨A4, c4, rfl, hc4, _⟩ := ho4.form
      replace a0 := old_cell hb a0; replace a1 := old_cell hb a1; replace a2 := old_cell hb a2
      have ry4 := ry3.kept hb
      have g4 : Below W.heap.size W w4 := bel_trans g3 hb
      have za := cell_lt a0
      dsimp only at za
      have rr4 : RdY w4 w4.heap.size A4 rs.length rs := ⟨Nat.le_refl _, Rd.of_own ho4⟩
      clear hb ry3 ho4
      go_wp2_with fail
      refine (implGetVal_any A4 _ c4 _ rs _ w4.heap.size rr4 (by omega) hc4).mono ?_
      rw [HGV.out]
      dsimp only [tupG]
      rintro e w5 ⟨rfl, hb⟩
      replace a0 := old_cell hb a0; replace a1 := old_cell hb a1; replace a2 := old_cell hb a2
      have ry5 := ry4.kept hb
      have g5 : Below W.heap.size W w5 := bel_trans g4 hb
      have za := cell_lt a0
      dsimp only at za
      clear hb ry4 rr4
      go_wp2_with fail
      refine (implParseVal_any tx _ (by omega) (HTT.out.kept (by repeat (first | with_reducible exact bel_refl _ | with_reducible assumption | with_reducible refine bel_set ?_ (by first | (simp; done) | (simp; omega) | omega) _ | with_reducible refine bel_alloc ?_ _ | with_reducible refine bel_drew ?_ | with_reducible refine bel_drewN ?_ _ | with_reducible refine bel_trans ?_ (by assumption)))) (HVV.out.kept (by repeat (first | with_reducible exact bel_refl _ | with_reducible assumption | with_reducible refine bel_set ?_ (by first | (simp; done) | (simp; omega) | omega) _ | with_reducible refine bel_alloc ?_ _ | with_reducible refine bel_drew ?_ | with_reducible refine bel_drewN ?_ _ | with_reducible refine bel_trans ?_ (by assumption))))).mono ?_
      rw [HPT.out]
      dsimp only [tupP]
      rintro e w6 ⟨rfl, hb⟩
      have g6 : Below W.heap.size W w6 := (by repeat (first | with_reducible exact bel_refl _ | with_reducible assumption | with_reducible refine bel_set ?_ (by first | (simp; done) | (simp; omega) | omega) _ | with_reducible refine bel_alloc ?_ _ | with_reducible refine bel_drew ?_ | with_reducible refine bel_drewN ?_ _ | with_reducible refine bel_trans ?_ (by assumption)))
      have b0 := old_cell hb (b := w5.heap.size) (o := 0) (v := .int .i64 k) (by go_simp)
      have b1 := old_cell hb (b := w5.heap.size) (o := 1) (v := .int .i64 m) (by go_simp)
      have b2 := old_cell hb (b := w5.heap.size) (o := 2) (v := .string s) (by go_simp)
      have gx : Below w5.heap.size w5 w6 := bel_trans (bel_alloc (bel_refl w5) _) hb
      replace a0 := old_cell gx a0; replace a1 := old_cell gx a1; replace a2 := old_cell gx a2
      have ry6 := ry5.kept gx
      have za := cell_lt a0
      have zb := cell_lt b0
      dsimp only at za zb
      clear hb ry5 gx
      go_wp2_with fail
      refine (implPutVal_any A2 _ c2 bs k m s _ w1.heap.size (ry6.alloc _).b (ry6.alloc _).le (by omega) (by omega)).mono ?_
      rw [HRS.out]
      rintro e w7 ⟨v7, rfl, ho7, hb, hs7⟩
      obtain ⟨A7, c7, rfl, hc7, _⟩ := ho7.form
      have d0 := old_cell hb (b := w6.heap.size) (o := 0) (v := .int .i64 k) (by go_simp)
      have d1 := old_cell hb (b := w6.heap.size) (o := 1) (v := .int .i64 m) (by go_simp)
      have d2 := old_cell hb (b := w6.heap.size) (o := 2) (v := .string s) (by go_simp)
      have gx : Below w6.heap.size w6 w7 := bel_trans (bel_alloc (bel_refl w6) _) hb
      replace a0 := old_cell gx a0; replace a1 := old_cell gx a1; replace a2 := old_cell gx a2
      replace b0 := old_cell gx b0; replace b1 := old_cell gx b1; replace b2 := old_cell gx b2
      have g7 : Below W.heap.size W w7 := bel_trans g6 gx
      have za := cell_lt a0
      have zd := cell_lt d0
      dsimp only at za zd
      clear hb gx ho7
      go_wp2_with fail
      refine (implValOk_any k m s _ hq).mono ?_
      rw [HO.out]
      rintro e w8 ⟨rfl, hb⟩
      go_wp2
      go_ret
      exact ⟨rfl, bel_trans g7 hb⟩

theorem own : ownKnob Tryd.prog.godebug = none := by kernel_rfl
theorem laidOut : laidOutB Tryd.prog = true := by kernel_rfl
theorem lifted (os : Os) (started : os.Started) (H : Type) (enc : TypeId × Value → H) :
    ReturnsInHanded {} Tryd.checked os 6 .any (fun w args => (Rows.fnValsSpec.pre enc Tryd.prog Tryd.f6 [] false w args ∧ laidMetH Tryd.prog laidLE w) ∧ sizedMet enc Tryd.prog Tryd.f6 (OpenSpec.ofChange Rows.fnValsSpec) false w args) (Rows.fnValsSpec.post enc Tryd.prog Tryd.f6 false true false false) := by
  refine returnsInHanded_of_change_and (C := Tryd.checked) (X := fun w _ => laidMetH Tryd.prog laidLE w) (fun _ _ _ hh h => h.of_heap hh) own started (by kernel_rfl) Tryd.func6
    (ChangeSpec.witness_shaped (enc := enc) (C := Tryd.checked) (os := os) (X := fun w _ => laidMetH Tryd.prog laidLE w) false (World.doorLaid Tryd.prog 400 os) #[.slice none 0 0] 8 rfl (World.shaped_of_RefB (by kernel_rfl) (by kernel_rfl)) (by kernel_rfl) (by kernel_rfl) (by kernel_rfl) (door_metE os _)) ?_
  intro W base args ds gs before hval0 hW _ _ hL _
  have hval : ∀ (j : Nat) t v, Tryd.f6.params[j]? = some t → args[j]? = some v → Value.okWide Tryd.prog W .any base t v := hval0
  have hW' := hW
  obtain ⟨p, q, hA0, hV, rfl, hfz, hnd⟩ := hW
  have hA : DataW.TrodAll enc Tryd.prog W 0 (fun _ => true) true Tryd.f6.params.toList args.toList ds p := hA0
  rw [Tryd.params6] at hA hval
  obtain ⟨v0, vs0, d0, ds0, p0, q0, hargs, rfl, rfl, h0, r0⟩ := trodAll_cons hA
  obtain ⟨rfl, rfl, rfl⟩ := trodAll_nil r0
  obtain rfl : args = #[v0] := by cases args; simp_all
  obtain ⟨rfl, rfl⟩ := trodVars_none hV
  have lt0 : ∀ x ∈ p0, x.block < W.heap.size := by obtain ⟨m, hm⟩ := h0; exact DataW.trod_lt m _ _ _ hm
  obtain ⟨A0, n0, c0, b0, hv0, hs0⟩ := open_bytes Tryd.underlying22 Tryd.underlying5 (by kernel_rfl) (hval 0 22 v0 rfl rfl) h0
  subst hv0
  clear hA0 hval0
  refine (walk A0 n0 c0 b0 W hs0 (tabT_of_laidE hL) (varE_of_laidE hL)).mono fun e W' ⟨he, bel⟩ => ?_
  subst he
  exact ⟨_, rfl, _, _, _, [], _, [], hW', trodAll_mk1 (shut_bool Tryd.underlying4 _), (trodAll_cons_mk (Below.trod laidOut (by kernel_rfl) (of_decide_eq_true (by kernel_rfl)) h0 bel lt0) trodAll_mk0), rfl, bel.frame _, fun h => by cases h⟩
theorem over : Rows.fnValsRow.holds Tryd.pinned (OpenSpec.ofChange Rows.fnValsSpec) :=
  OpenClaim.holds_of_wide 6 Tryd.f6 rfl rfl rfl rfl rfl rfl rfl ⟨rfl, rfl, rfl, rfl, rfl⟩ rfl rfl rfl rfl rfl (by kernel_rfl) Tryd.func6 (by kernel_rfl)
    (of_decide_eq_true (by kernel_rfl)) (by unfold Func.isWrapper; first | (rw [if_pos (by decide +kernel)]; kernel_rfl) | (rw [if_neg (by decide +kernel)]; exact ⟨rfl, rfl⟩))
    (fun os started H enc _ => lifted os started H enc)
theorem proved : Rows.FnValsCardSaid :=
  Claim7.holds_tied_plain_at .later [] laidKE true _ _ over (fun _ h => by cases h) (by kernel_rfl) (fun _ h => by cases h) fnVals_row_tie rfl ⟨rfl, rfl⟩ (by kernel_rfl) rfl
    (fun f fn hf hfn => by
      obtain rfl : f = 6 := Option.some.inj ((show Tryd.prog.funcNamed "loop.example/g00282/laws.FnVals" = some 6 by kernel_rfl).symm.trans hf) |>.symm
      obtain rfl : fn = Tryd.f6 := (Option.some.inj (Tryd.func6.symm.trans hfn)).symm
      exact ⟨by kernel_rfl, fun j t ht => by
        rw [Tryd.params6] at ht
        have hm : t ∈ [22] := by simpa using Array.mem_of_getElem? ht
        have hall : ([22].all fun u => !Tryd.prog.wantsStandIn u) = true := by kernel_rfl
        exact (show Tryd.prog.wantsStandIn t = false by simpa using List.all_eq_true.1 hall t hm)⟩)
    (by kernel_rfl)
end Go.Proofs.YtgpinhamgdganaaDoor.fnVals
