/- The law FnPats returns true at every input, and leaves what it was given as it was. No condition. -/
import Derived.Test.YtdlcbmhnagajdaaDraw17
import Derived.Test.YtdlcbmhnagajdaaPlainMatch
import Derived.Test.YtdlcbmhnagajdaaBindOf
import Derived.Test.YtdlcbmhnagajdaaMatch2
import Derived.Test.YtdlcbmhnagajdaaMatchL
import Derived.Test.YtdlcbmhnagajdaaAt
import Derived.Test.YtdlcbmhnagajdaaRows
import Derived.Test.YtdlcbmhnagajdaaRead
namespace Go.Proofs.Ytdlcbmhnagajdaa.fnPats
open Go.ChangeShapes Go.WideShapes Go.ChangeAt Go.RowKit
open Go.ChangeMaps (open_string shut_string)
set_option linter.unusedVariables false
set_option maxRecDepth 100000
set_option maxHeartbeats 20000000

theorem sameBinds_any (A1 A2 : Option Addr) (n c1 c2 : Nat) (l : List Bd) (w : World) (B1 B2 : Nat) (h1 : RdS bC 4 w B1 A1 n l) (h2 : RdS bC 4 w B2 A2 n l) (hn : n ≤ 1048576) :
    Calls Try.prog 8 #[.slice A1 n c1, .slice A2 n c2] w fun e w' => e = .returned (.bool true) ∧ Below w.heap.size w w' := by
  have HL := Lib.hid h1.len
  go_enter Try.func8, Try.ntmps8
  go_wp2
  go_loopw [5] (fun i wr => ∃ k m : Nat, k ≤ n ∧ i = .int .i64 k ∧ wr = w.drewN m) (fun i _ => n - (intOf i).toNat)
  case atStart => exact ⟨0, 0, Nat.zero_le _, rfl, rfl⟩
  case round =>
    obtain ⟨k, m, hk, rfl, rfl⟩ := hrel
    by_cases hlt : k < n
    · obtain ⟨b1, o1, rfl, hb1, hc1⟩ := h1.2.bind_ (by omega)
      obtain ⟨b2, o2, rfl, hb2, hc2⟩ := h2.2.bind_ (by omega)
      obtain ⟨es, evk, evn, evs, he, c0, c1, c2, c3⟩ := hc1 k hlt
      obtain ⟨es2, evk2, evn2, evs2, he2, c02, c12, c22, c32⟩ := hc2 k hlt
      rw [he] at he2
      injection he2 with e1 e2
      injection e2 with e3 e4 e5
      subst e1 e3 e4 e5
      clear he hc1 hc2
      have hk0 : (0:Int) ≤ (k : Int) := by omega
      have hk1 : (k:Int) < (n : Int) := by omega
      go_wp2_with (go_quiet (fail))
      go_roundw
      case rel => exact ⟨k + 1, _, by omega, by go_num, rfl⟩
      case measure => simp [intOf]; omega
    · go_wp2
      go_ret
      exact ⟨rfl, bel_drewN (bel_refl _) _⟩
theorem walk (A : Option Addr) (n c : Nat) (code : List UInt8) (W : World) (hs : n ≤ c ∧ c ≤ maxLen ∧ RdB W W.heap.size A n code) :
    Calls Try.prog 3 #[.slice A n c] W fun e w' => e = .returned (.bool true) ∧ Below W.heap.size W w' := by
  obtain ⟨hnc, _, hr⟩ := hs
  by_cases hbig : (1048576 : Int) < n
  · go_enter Try.func3, Try.ntmps3
    go_wp2_with fail
    refine (big_any _ _ _ _).mono ?_
    rw [decide_eq_true hbig]
    rintro e w' ⟨rfl, rfl⟩
    go_wp2
    go_ret
    exact ⟨rfl, Below.refl _ _⟩
  · go_enter Try.func3, Try.ntmps3
    go_wp2_with fail
    refine (big_any _ _ _ _).mono ?_
    rw [decide_eq_false (by omega)]
    rintro e w' ⟨rfl, rfl⟩
    go_wp2_with fail
    refine (DrawFitting_any A n c code W _ hr (Nat.le_refl _) (by omega)).mono ?_
    rintro e w1 ⟨kd, A2, c2, ags, nt, A3, c3, fs, A4, c4, bs, hal, hfl, hbl, hbc, rfl, r2, r3, r4, gW⟩
    obtain ⟨⟨x, ok⟩, hx⟩ : ∃ r, matchPat kd ags ⟨kd, fs⟩ bs = r := ⟨_, rfl⟩
    have hxl := matchPat_len hx
    have HX := Lib.hid hx
    have hfl2 : fs.length ≤ 2 := by omega
    have HFL := Lib.hid hfl
    clear hfl
    go_wp2_with fail
    refine (implMatchPat_any kd A2 _ c2 ags nt kd A3 _ c3 fs A4 _ c4 bs x ok _ w1.heap.size w1.heap.size w1.heap.size ((r2.alloc _).alloc _) ((r3.alloc _).alloc _) ((r4.alloc _).alloc _) (by omega) (by omega) HX.out).mono ?_
    dsimp only [tupM]
    rintro e w2 ⟨A5, c5, rfl, ho5, hb⟩
    have g2 : Below W.heap.size W w2 := (by repeat (first | with_reducible exact bel_refl _ | with_reducible assumption | with_reducible refine bel_set ?_ (by first | (simp; done) | (simp; omega) | omega) _ | with_reducible refine bel_alloc ?_ _ | with_reducible refine bel_drew ?_ | with_reducible refine bel_drewN ?_ _ | with_reducible refine bel_trans ?_ (by assumption)))
    have x0 := old_cell hb (b := w1.heap.size) (o := 0) (v := .string kd) (by go_simp)
    have x1 := old_cell hb (b := w1.heap.size) (o := 1) (v := .slice A2 ags.length c2) (by go_simp)
    have x2 := old_cell hb (b := w1.heap.size) (o := 2) (v := .bool nt) (by go_simp)
    have y0 := old_cell hb (b := w1.heap.size + 1) (o := 0) (v := .string kd) (by go_simp)
    have y1 := old_cell hb (b := w1.heap.size + 1) (o := 1) (v := .slice A3 fs.length c3) (by go_simp)
    replace r2 := ((r2.alloc _).alloc _).kept hb
    replace r3 := ((r3.alloc _).alloc _).kept hb
    replace r4 := ((r4.alloc _).alloc _).kept hb
    clear hb gW
    obtain ⟨A5', c5', he5, hc5, _⟩ := ho5.form
    injection he5 with he5a he5b he5c
    subst he5a he5c
    have r5 := ho5.rdO
    clear ho5
    go_wp2_with fail
    refine (specMatchPat_any kd A2 _ c2 ags nt kd A3 _ c3 fs A4 _ c4 bs x ok _ w1.heap.size w1.heap.size w1.heap.size r2 r3 r4 (by omega) (by omega) HX.out).mono ?_
    dsimp only [tupM]
    rintro e w3 ⟨A6, c6, rfl, ho6, hb⟩
    clear ho6
    have g3 : Below W.heap.size W w3 := (by repeat (first | with_reducible exact bel_refl _ | with_reducible assumption | with_reducible refine bel_set ?_ (by first | (simp; done) | (simp; omega) | omega) _ | with_reducible refine bel_alloc ?_ _ | with_reducible refine bel_drew ?_ | with_reducible refine bel_drewN ?_ _ | with_reducible refine bel_trans ?_ (by assumption)))
    replace x0 := old_cell hb x0; replace x1 := old_cell hb x1; replace x2 := old_cell hb x2; replace y0 := old_cell hb y0; replace y1 := old_cell hb y1
    replace r2 := r2.kept hb; replace r3 := r3.kept hb; replace r4 := r4.kept hb; replace r5 := r5.kept hb
    clear hb g2
    cases ok
    · obtain rfl := match_not hx
      clear hx
      go_wp2_with fail
      refine (sameBinds_any A5 A4 _ c5 c4 x _ _ _ r5 r4 (by omega)).mono ?_
      rintro e w4 ⟨rfl, hb⟩
      go_wp2
      go_ret
      exact ⟨rfl, (by repeat (first | with_reducible exact bel_refl _ | with_reducible assumption | with_reducible refine bel_set ?_ (by first | (simp; done) | (simp; omega) | omega) _ | with_reducible refine bel_alloc ?_ _ | with_reducible refine bel_drew ?_ | with_reducible refine bel_drewN ?_ _ | with_reducible refine bel_trans ?_ (by assumption)))⟩
    · obtain ⟨hgl, ⟨mm, hmm⟩, hfit, hagain⟩ := match_fits hx
      clear hx HX
      have HFIT := Lib.hid hfit; have HAG := Lib.hid hagain
      clear hfit hagain
      have hxb : bs.length ≤ x.length := by rw [hmm, List.length_append]; omega
      have HTK := Lib.hid (show x.take bs.length = bs by rw [hmm, List.take_left])
      clear hmm
      clear hgl
      go_wp2
      go_loopw [10] (fun i wr => ∃ k : Nat, k ≤ ags.length ∧ i = .int .i64 k ∧ Below w3.heap.size w3 wr) (fun i _ => ags.length - (intOf i).toNat)
      case atStart => exact ⟨0, Nat.zero_le _, rfl, bel_refl _⟩
      case round =>
        obtain ⟨k, hk, rfl, hbr⟩ := hrel
        replace x0 := old_cell hbr x0; replace x1 := old_cell hbr x1; replace x2 := old_cell hbr x2; replace y0 := old_cell hbr y0; replace y1 := old_cell hbr y1
        replace r2 := r2.kept hbr; replace r3 := r3.kept hbr; replace r4 := r4.kept hbr; replace r5 := r5.kept hbr
        have hsr := hbr.size
        by_cases hlt : k < ags.length
        · obtain ⟨ba, oa, rfl, hba, hca⟩ := r2.2.arg_ (by omega)
          obtain ⟨ek, es, evk, evn, evs, he, a0, a1, a2, a3, a4⟩ := hca k hlt
          obtain ⟨bf, of, rfl, hbf, hcf⟩ := r3.2.val (by rw [HFL.out]; omega)
          obtain ⟨fk, fn, fs', hf, f0, f1, f2⟩ := hcf k (by rw [HFL.out]; exact hlt)
          clear hca hcf
          have hft := HFIT.out k hlt (by rw [HFL.out]; exact hlt)
          rw [he, hf] at hft
          obtain ⟨hf1, hf2⟩ := hft
          try dsimp only at hf1 hf2
          obtain ⟨⟨⟨vk, vn, vs⟩, vb⟩, hv⟩ : ∃ r, bindOf x es = r := ⟨_, rfl⟩
          have HV := Lib.hid hv
          rw [hv] at hf1
          clear he hf hv
          have hk0 : (0:Int) ≤ (k:Int) := by omega
          have hk1 : (k:Int) < (ags.length:Int) := by omega
          have hk2 : (k:Int) < (fs.length:Int) := by rw [HFL.out]; exact hk1
          go_wp2_with fail
          refine (implBindOf_any A5 _ c5 x es _ _ r5 (by omega)).mono ?_
          rw [HV.out]
          dsimp only [tupB]
          rintro e w4 ⟨rfl, hb⟩
          replace x0 := old_cell hb x0; replace x1 := old_cell hb x1; replace x2 := old_cell hb x2; replace y0 := old_cell hb y0; replace y1 := old_cell hb y1
          replace a0 := old_cell hb a0; replace a1 := old_cell hb a1; replace a2 := old_cell hb a2; replace a3 := old_cell hb a3; replace a4 := old_cell hb a4
          replace f0 := old_cell hb f0; replace f1 := old_cell hb f1; replace f2 := old_cell hb f2
          have hs4 := hb.size
          replace hbr : Below w3.heap.size w3 w4 := bel_trans hbr hb
          clear hb
          have la := cell_lt a0
          have lx := cell_lt x0
          have ly := cell_lt y0
          have lf := cell_lt f0
          dsimp only at la lx ly lf
          by_cases h1 : ek = 1
          · subst h1
            have hh := hf1 rfl
            injection hh with hh1 hh2
            injection hh1 with e1 e2 e3
            subst e1 e2 e3 hh2
            clear hf1 hf2
            go_wp2_with (go_quiet (fail))
            go_roundw
            case rel => exact ⟨k + 1, by omega, by go_num, (by repeat (first | with_reducible exact bel_refl _ | with_reducible assumption | with_reducible refine bel_set ?_ (by first | (simp; done) | (simp; omega) | omega) _ | with_reducible refine bel_alloc ?_ _ | with_reducible refine bel_drew ?_ | with_reducible refine bel_drewN ?_ _ | with_reducible refine bel_trans ?_ (by assumption)))⟩
            case measure => simp [intOf]; omega
          · have h1b : (ek == 1) = false := by simp; exact h1
            by_cases h2 : ek = 2
            · subst h2
              have hh := hf2 rfl
              injection hh with e1 e2 e3
              subst e1 e2 e3
              clear hf1 hf2
              go_wp2_with (go_quiet (fail))
              go_roundw
              case rel => exact ⟨k + 1, by omega, by go_num, (by repeat (first | with_reducible exact bel_refl _ | with_reducible assumption | with_reducible refine bel_set ?_ (by first | (simp; done) | (simp; omega) | omega) _ | with_reducible refine bel_alloc ?_ _ | with_reducible refine bel_drew ?_ | with_reducible refine bel_drewN ?_ _ | with_reducible refine bel_trans ?_ (by assumption)))⟩
              case measure => simp [intOf]; omega
            · have h2b : (ek == 2) = false := by simp; exact h2
              clear hf1 hf2
              go_wp2_with (go_quiet (fail))
              go_roundw
              case rel => exact ⟨k + 1, by omega, by go_num, (by repeat (first | with_reducible exact bel_refl _ | with_reducible assumption | with_reducible refine bel_set ?_ (by first | (simp; done) | (simp; omega) | omega) _ | with_reducible refine bel_alloc ?_ _ | with_reducible refine bel_drew ?_ | with_reducible refine bel_drewN ?_ _ | with_reducible refine bel_trans ?_ (by assumption)))⟩
              case measure => simp [intOf]; omega
        · go_wp2_with fail
          refine (implMatchPat_any kd A2 _ c2 ags nt kd A3 _ c3 fs A5 _ c5 x x true _ w1.heap.size w1.heap.size _ r2 r3 r5 (by omega) (by omega) HAG.out).mono ?_
          dsimp only [tupM]
          rintro e w4 ⟨A7, c7, rfl, ho7, hb⟩
          have r7 := ho7.rdO
          replace r4 := r4.kept hb; replace r5 := r5.kept hb
          go_wp2_with fail
          refine (sameBinds_any A5 A7 _ c5 c7 x _ _ _ r5 r7 (by omega)).mono ?_
          rintro e w5 ⟨rfl, hb5⟩
          replace r4 := r4.kept hb5; replace r5 := r5.kept hb5
          have rf : RdS bC 4 w5 _ A5 bs.length bs := ⟨r5.1, by have := r5.2.front bC_sz bs.length hxb; rwa [HTK.out] at this⟩
          have hxi : (bs.length : Int) ≤ (x.length : Int) := by omega
          have hxc : bs.length ≤ c5 := by omega
          go_wp2_with fail
          refine (sameBinds_any A5 A4 _ _ c4 bs _ _ _ rf r4 (by omega)).mono ?_
          rintro e w6 ⟨rfl, hb6⟩
          go_wp2
          go_ret
          exact ⟨rfl, (by repeat (first | with_reducible exact bel_refl _ | with_reducible assumption | with_reducible refine bel_set ?_ (by first | (simp; done) | (simp; omega) | omega) _ | with_reducible refine bel_alloc ?_ _ | with_reducible refine bel_drew ?_ | with_reducible refine bel_drewN ?_ _ | with_reducible refine bel_trans ?_ (by assumption)))⟩

theorem own : ownKnob Try.prog.godebug = none := by kernel_rfl
theorem laidOut : laidOutB Try.prog = true := by kernel_rfl
theorem lifted (os : Os) (started : os.Started) (H : Type) (enc : TypeId × Value → H) :
    ReturnsInHanded {} Try.checked os 3 .any (Rows.fnPatsSpec.pre6 enc Try.prog Try.f3 Rows.fnPatsRow.domain false) (Rows.fnPatsSpec.post enc Try.prog Try.f3 false true false false) := by
  refine returnsInHanded_of_change (C := Try.checked) own started (by kernel_rfl) Try.func3
    (ChangeSpec.witness6 (enc := enc) (C := Try.checked) false ⟨#[], #[.slice none 0 0], []⟩ 8 (by kernel_rfl) (by kernel_rfl) (by kernel_rfl) (by kernel_rfl)) ?_
  intro W base args ds gs before hval0 hW hcnd _
  have hval : ∀ (j : Nat) t v, Try.f3.params[j]? = some t → args[j]? = some v → Value.okWide Try.prog W .any base t v := hval0
  have hW' := hW
  obtain ⟨p, q, hA0, hV, rfl, hfz, hnd⟩ := hW
  have hA : DataW.TrodAll enc Try.prog W 0 (fun _ => true) true Try.f3.params.toList args.toList ds p := hA0
  rw [Try.params3] at hA hval
  obtain ⟨v0, vs0, d0, ds0, p0, q0, hargs, rfl, rfl, h0, r0⟩ := trodAll_cons hA
  obtain ⟨rfl, rfl, rfl⟩ := trodAll_nil r0
  obtain rfl : args = #[v0] := by cases args; simp_all
  obtain ⟨rfl, rfl⟩ := trodVars_none hV
  have lt0 : ∀ x ∈ p0, x.block < W.heap.size := by obtain ⟨m, hm⟩ := h0; exact DataW.trod_lt m _ _ _ hm
  obtain ⟨A0, n0, c0, b0, hv0, hs0⟩ := open_bytes Try.underlying22 Try.underlying5 (by kernel_rfl) (hval 0 22 v0 rfl rfl) h0
  subst hv0
  clear hA0 hval0
  refine (walk A0 n0 c0 b0 W hs0).mono fun e W' ⟨he, bel⟩ => ?_
  subst he
  exact ⟨_, rfl, _, _, _, [], _, [], hW', trodAll_mk1 (shut_bool Try.underlying4 _), (trodAll_cons_mk (Below.trod laidOut (by kernel_rfl) (of_decide_eq_true (by kernel_rfl)) h0 bel lt0) trodAll_mk0), rfl, bel.frame _, fun h => by cases h⟩
theorem over : Rows.fnPatsRow.holds Try.pinned (OpenSpec.ofChange Rows.fnPatsSpec) :=
  OpenClaim.holds_of_wide 3 Try.f3 rfl rfl rfl rfl rfl rfl rfl ⟨rfl, rfl, rfl, rfl, rfl⟩ rfl rfl rfl rfl rfl (by kernel_rfl) Try.func3 (by kernel_rfl)
    (of_decide_eq_true (by kernel_rfl)) (by unfold Func.isWrapper; first | (rw [if_pos (by decide +kernel)]; kernel_rfl) | (rw [if_neg (by decide +kernel)]; exact ⟨rfl, rfl⟩))
    (fun os started H enc _ => lifted os started H enc)
theorem proved : Rows.FnPatsSaid := over
end Go.Proofs.Ytdlcbmhnagajdaa.fnPats
