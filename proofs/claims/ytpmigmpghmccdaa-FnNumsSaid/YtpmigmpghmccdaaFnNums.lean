/- The law FnNums returns true at every input, and leaves what it was given as it was. No condition. -/
import Derived.Test.YtpmigmpghmccdaaPlainNum
import Derived.Test.YtpmigmpghmccdaaDraw2
import Derived.Test.YtpmigmpghmccdaaAt
import Derived.Test.YtpmigmpghmccdaaRows
import Derived.Test.YtpmigmpghmccdaaRead
namespace Go.Proofs.Ytpmigmpghmccdaa.fnNums
open Go.ChangeShapes Go.WideShapes Go.ChangeAt Go.RowKit
open Go.ChangeMaps (open_string shut_string)
set_option linter.unusedVariables false
set_option maxRecDepth 100000
set_option maxHeartbeats 20000000

theorem walk (A : Option Addr) (n c : Nat) (code : List UInt8) (W : World) (hs : n ≤ c ∧ c ≤ maxLen ∧ RdB W W.heap.size A n code) :
    Calls Try.prog 11 #[.slice A n c] W fun e w' => e = .returned (.bool true) ∧ Below W.heap.size W w' := by
  obtain ⟨hnc, _, hr⟩ := hs
  by_cases hbig : (1048576 : Int) < n
  · go_enter Try.func11, Try.ntmps11
    go_wp2_with fail
    refine (big_any _ _ _ _).mono ?_
    rw [decide_eq_true hbig]
    rintro e w' ⟨rfl, rfl⟩
    go_wp2
    go_ret
    exact ⟨rfl, Below.refl _ _⟩
  · go_enter Try.func11, Try.ntmps11
    go_wp2_with fail
    refine (big_any _ _ _ _).mono ?_
    rw [decide_eq_false (by omega)]
    rintro e w' ⟨rfl, rfl⟩
    go_wp2_with fail
    refine (DrawPutNum_any A n c code W _ hr (Nat.le_refl _) (by omega)).mono ?_
    rintro e w1 ⟨v1, bs, x, rfl, hbl, hx, ho1, hb1⟩
    obtain ⟨A1, c1, rfl, hc1, hr1⟩ := ho1.form
    have hs1 := hb1.size
    go_wp2_with fail
    refine (implPutNum_any A1 bs.length c1 bs x w1 _ hr1 (Nat.le_refl _) (by omega)).mono ?_
    rintro e w2 ⟨v2, rfl, ho2, hb2, hs2⟩
    obtain ⟨rs, hrs, hlen⟩ : ∃ rs, bs ++ putN x = rs ∧ rs.length ≤ 20 := ⟨_, rfl, by have := putN_len x; simp; omega⟩
    have hg := getNum_put bs [] x
    have hgc := getNum_cut bs x
    have hpn := numB_ne 5 (encN x) (by omega)
    have hl1 : (bs.length + (putN x).length : Nat) = rs.length := by rw [← hrs, List.length_append]
    have hl0 : 0 < rs.length := by unfold putN at hl1; omega
    rw [List.append_nil, hl1] at hg
    rw [hrs] at ho2 hg hgc
    have HG := Lib.hid hg
    have HGC := Lib.hid hgc
    clear hg hgc hrs hl1 hpn
    obtain ⟨A2, c2, rfl, hc2, hr2⟩ := ho2.form
    go_wp2_with fail
    refine (implGetNum_any A2 rs.length c2 _ rs w2 _ hr2 (by omega)).mono ?_
    rw [HG.out]; dsimp only [tup3]
    rintro e w' ⟨rfl, rfl⟩
    have hcc : (x < -1000000000 ∧ clampN x = -1000000000) ∨ (-1000000000 ≤ x ∧ x ≤ 1000000000 ∧ clampN x = x) ∨ (1000000000 < x ∧ clampN x = 1000000000) := by
      unfold clampN; omega
    have hfr := RdB.front hr2 (rs.length - 1) (by omega)
    rcases hcc with ⟨hx1, hcl⟩ | ⟨hx1, hx2, hcl⟩ | ⟨hx1, hcl⟩
    all_goals
      rw [hcl]
      clear hcl
      go_wp2_with fail
      refine (implGetNum_any A2 (rs.length - 1) c2 _ _ w2 _ hfr (by omega)).mono ?_
      rw [HGC.out]; dsimp only [tup3]
      rintro e w' ⟨rfl, rfl⟩
      go_wp2_with fail
      refine (DrawPutText_any A n c code w2 _ (hr.below (hb1.trans (hb2.mono hs1))) (by omega) (by omega)).mono ?_
      rintro e w3 ⟨v3, cs, s, rfl, hbl3, hsl, ho3, hb3⟩
      obtain ⟨A3, c3, rfl, hc3, hr3⟩ := ho3.form
      have hs3 := hb3.size
      go_wp2_with fail
      refine (implPutText_any A3 cs.length c3 cs s w3 _ hr3 (Nat.le_refl _) (by omega) (by omega)).mono ?_
      rintro e w4 ⟨v4, rfl, ho4, hb4, hs4⟩
      have hgt := getText_put cs s [] (by omega)
      obtain ⟨ts, hts, htl, hte⟩ : ∃ ts, cs ++ putN s.size ++ s.data.toList = ts ∧ ts.length ≤ 40 ∧ cs.length + (putN s.size).length + s.size = ts.length := ⟨_, rfl, by have := putN_len s.size; have := size_data s; simp only [List.length_append]; omega, by have := size_data s; simp only [List.length_append]; omega⟩
      rw [List.append_nil, hts, hte] at hgt
      rw [hts] at ho4
      have HGT := Lib.hid hgt
      clear hgt hts hte
      obtain ⟨A4, c4, rfl, hc4, hr4⟩ := ho4.form
      go_wp2_with fail
      refine (implGetText_any A4 ts.length c4 _ ts w4 _ hr4 (by omega) hc4).mono ?_
      rw [HGT.out]; dsimp only [tupS]
      rintro e w' ⟨rfl, rfl⟩
      have hss : (s.toList == s.toList) = true := by simp
      go_wp2
      go_ret
      exact ⟨rfl, hb1.trans ((hb2.mono hs1).trans ((hb3.mono (by omega)).trans (hb4.mono (by omega))))⟩

theorem own : ownKnob Try.prog.godebug = none := by kernel_rfl
theorem laidOut : laidOutB Try.prog = true := by kernel_rfl
theorem lifted (os : Os) (started : os.Started) (H : Type) (enc : TypeId × Value → H) :
    ReturnsInHanded {} Try.checked os 11 .any (Rows.fnNumsSpec.pre6 enc Try.prog Try.f11 Rows.fnNumsRow.domain false) (Rows.fnNumsSpec.post enc Try.prog Try.f11 false true false false) := by
  refine returnsInHanded_of_change (C := Try.checked) own started (by kernel_rfl) Try.func11
    (ChangeSpec.witness6 (enc := enc) (C := Try.checked) false ⟨#[], #[.slice none 0 0], []⟩ 8 (by kernel_rfl) (by kernel_rfl) (by kernel_rfl) (by kernel_rfl)) ?_
  intro W base args ds gs before hval0 hW hcnd _
  have hval : ∀ (j : Nat) t v, Try.f11.params[j]? = some t → args[j]? = some v → Value.okWide Try.prog W .any base t v := hval0
  have hW' := hW
  obtain ⟨p, q, hA0, hV, rfl, hfz, hnd⟩ := hW
  have hA : DataW.TrodAll enc Try.prog W 0 (fun _ => true) true Try.f11.params.toList args.toList ds p := hA0
  rw [Try.params11] at hA hval
  obtain ⟨v0, vs0, d0, ds0, p0, q0, hargs, rfl, rfl, h0, r0⟩ := trodAll_cons hA
  obtain ⟨rfl, rfl, rfl⟩ := trodAll_nil r0
  obtain rfl : args = #[v0] := by cases args; simp_all
  obtain ⟨rfl, rfl⟩ := trodVars_none hV
  have lt0 : ∀ x ∈ p0, x.block < W.heap.size := by obtain ⟨m, hm⟩ := h0; exact DataW.trod_lt m _ _ _ hm
  obtain ⟨A0, n0, c0, b0, hv0, hs0⟩ := open_bytes Try.underlying24 Try.underlying5 (by kernel_rfl) (hval 0 24 v0 rfl rfl) h0
  subst hv0
  clear hA0 hval0
  refine (walk A0 n0 c0 b0 W hs0).mono fun e W' ⟨he, bel⟩ => ?_
  subst he
  exact ⟨_, rfl, _, _, _, [], _, [], hW', trodAll_mk1 (shut_bool Try.underlying4 _), (trodAll_cons_mk (Below.trod laidOut (by kernel_rfl) (of_decide_eq_true (by kernel_rfl)) h0 bel lt0) trodAll_mk0), rfl, bel.frame _, fun h => by cases h⟩
theorem over : Rows.fnNumsRow.holds Try.pinned (OpenSpec.ofChange Rows.fnNumsSpec) :=
  OpenClaim.holds_of_wide 11 Try.f11 rfl rfl rfl rfl rfl rfl rfl ⟨rfl, rfl, rfl, rfl, rfl⟩ rfl rfl rfl rfl rfl (by kernel_rfl) Try.func11 (by kernel_rfl)
    (of_decide_eq_true (by kernel_rfl)) (by unfold Func.isWrapper; first | (rw [if_pos (by decide +kernel)]; kernel_rfl) | (rw [if_neg (by decide +kernel)]; exact ⟨rfl, rfl⟩))
    (fun os started H enc _ => lifted os started H enc)
theorem proved : Rows.FnNumsSaid := over
end Go.Proofs.Ytpmigmpghmccdaa.fnNums
