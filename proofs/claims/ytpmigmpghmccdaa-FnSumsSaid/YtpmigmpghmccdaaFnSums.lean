/- The law FnSums returns true at every input, and leaves what it was given as it was. No condition. -/
import Derived.Test.YtpmigmpghmccdaaPlainCrc
import Derived.Test.YtpmigmpghmccdaaDraw2
import Derived.Test.YtpmigmpghmccdaaAt
import Derived.Test.YtpmigmpghmccdaaRows
import Derived.Test.YtpmigmpghmccdaaRead
namespace Go.Proofs.Ytpmigmpghmccdaa.fnSums
open Go.ChangeShapes Go.WideShapes Go.ChangeAt Go.RowKit
open Go.ChangeMaps (open_string shut_string)
set_option linter.unusedVariables false
set_option maxRecDepth 100000
set_option maxHeartbeats 20000000

theorem walk (A : Option Addr) (n c : Nat) (code : List UInt8) (W : World) (hs : n ≤ c ∧ c ≤ maxLen ∧ RdB W W.heap.size A n code) :
    Calls Try.prog 10 #[.slice A n c] W fun e w' => e = .returned (.bool true) ∧ Below W.heap.size W w' := by
  obtain ⟨hnc, _, hr⟩ := hs
  by_cases hbig : (1048576 : Int) < n
  · go_enter Try.func10, Try.ntmps10
    go_wp2_with fail
    refine (big_any _ _ _ _).mono ?_
    rw [decide_eq_true hbig]
    rintro e w' ⟨rfl, rfl⟩
    go_wp2
    go_ret
    exact ⟨rfl, Below.refl _ _⟩
  · obtain ⟨i0, hi, hz0, hz1, hz2⟩ := info_parts infoD
    have HI := Lib.hid hi; clear hi
    go_enter Try.func10, Try.ntmps10
    go_wp2_with fail
    refine (big_any _ _ _ _).mono ?_
    rw [decide_eq_false (by omega)]
    rintro e w' ⟨rfl, rfl⟩
    go_wp2_with fail
    refine (DrawCrc_any A n c code W _ hr (Nat.le_refl _) (by omega)).mono ?_
    rintro e w1 ⟨v1, bs, rfl, hbl, ho1, hb1⟩
    have hs1 := hb1.size
    go_wp2_with (at_builtin; refine app_byte rfl (.tmp 8) (.tmp 9) _ rfl W.heap.size 5 i0 Try.underlying24 HI.out hz0 hz1 hz2 _ _ rfl (ho1.kept ((Below.refl _ _).alloc (Nat.le_refl _) _)) _ 1 1 _ _ rfl (RdB.one w1 5 5 (by omega) (by omega)) (by omega) (by simp; omega) ?_; intro v2 w2 ho2 hb2 hs2)
    have hb12 : Below W.heap.size W w2 := (hb1.alloc hs1 _).trans hb2
    obtain ⟨rs, hrs, hrl, hrl0⟩ : ∃ rs, bs ++ [UInt8.ofNat (Int.toNat 5)] = rs ∧ rs.length ≤ 10 ∧ 0 < rs.length := ⟨_, rfl, by simp; omega, by simp⟩
    rw [hrs] at ho2
    clear hrs
    obtain ⟨L, hL⟩ : ∃ L, rs.length = L := ⟨_, rfl⟩
    have hform := ho2.form
    unfold OwnB at ho2
    rw [hL] at hform ho2 hrl hrl0
    obtain ⟨A2, c2, rfl, hc2, hr2⟩ := hform
    have HL := Lib.hid hL; clear hL
    refine (implCrc_any A2 L c2 rs w2 _ hr2 (by omega)).mono ?_
    rintro e w' ⟨rfl, rfl⟩
    obtain ⟨g, cap, hv, hbg, hglt⟩ := World.ownsRow.form ho2 hrl0
    have hA : A2 = some ⟨g, 0, none⟩ := by injection hv
    subst hA
    clear hv
    obtain ⟨q, hq, hql, hqe⟩ : ∃ q : Nat, ((atN code 2 : Nat) : Int).tmod (L : Int) = (q : Int) ∧ q < L ∧ q = atN code 2 % L := ⟨_, rfl, Nat.mod_lt _ hrl0, rfl⟩
    obtain ⟨j, hj, hjl, hje⟩ : ∃ j : Nat, ((atN code 3 : Nat) : Int).tmod 8 = (j : Int) ∧ j < 8 ∧ j = atN code 3 % 8 := ⟨atN code 3 % 8, rfl, Nat.mod_lt _ (by decide), rfl⟩
    clear hqe hje
    have hl2 : q < rs.length := by rw [HL.out]; exact hql
    obtain ⟨y, hy, hyb, hye⟩ : ∃ y : Nat, w2.cell? ⟨g, q, none⟩ = some (.int .u8 (y : Int)) ∧ y ≤ 255 ∧ y = rs[q].toNat := ⟨rs[q].toNat, by rw [World.ownsRow.cellAt ho2 q (by omega), bv_get rs q hl2], byte_le _, rfl⟩
    have hfr := World.ownsRow.frozenAt ho2 q
    have HYE := Lib.hid hye
    clear hye
    have q0 : (0 : Int) ≤ (q : Int) := by omega
    have q1 : (q : Int) < (L : Int) := by omega
    have hrd := hr.below hb12
    obtain ⟨z, hz, hzb, hzy⟩ := flip_bit y j hyb hjl
    obtain ⟨r0, r1⟩ := crc_range rs
    have hne : ¬ UInt8.ofNat z = rs[q] := by
      intro e
      have := congrArg UInt8.toNat e
      rw [← HYE.out, UInt8.toNat_ofNat'] at this
      omega
    have hcs := crc_set rs q (UInt8.ofNat z) hl2 hne
    have hst := (ho2.stored q (.int .u8 (z : Int))).1
    rw [set_bv rs q z hzb] at hst
    have HST := Lib.hid hst; clear hst
    have hbeq : (crc (rs.set q (UInt8.ofNat z)) != crc rs) = true := by simpa using hcs
    clear hcs hne
    have hL0 : ((L : Int) == 0) = false := by simp; omega
    have hL1 : ¬ (L = 0) := by omega
    go_wp2_with fail
    refine wp_still 15 (by kernel_rfl) (by kernel_rfl) ?_
    simp only [List.take_succ_cons, List.take_zero, List.drop_succ_cons, List.drop_zero]
    repeat still_step
    still_call ((at_any _ _ _ code 2 2 rfl _ _ (hrd.drewN 1) (by omega) (by omega)).mono fun e w' h => ⟨h.1, h.2.symm⟩)
    repeat still_step
    still_call ((at_any _ _ _ code 3 3 rfl _ _ (hrd.drewN 1) (by omega) (by omega)).mono fun e w' h => ⟨h.1, h.2.symm⟩)
    repeat still_step
    refine wpStill_nil ?_
    go_wp2_with fail
    refine (implCrc_any _ L c2 (rs.set q (UInt8.ofNat z)) (w2.setCell ⟨g, q, none⟩ (.int .u8 (z : Int))).drew _ ((Rd.of_own HST.out : RdB _ _ _ _ _).drewN 1) (by omega)).mono ?_
    rintro e w' ⟨rfl, rfl⟩
    go_wp2
    go_ret
    exact ⟨rfl, (hb12.setCell hbg _).drew⟩

theorem own : ownKnob Try.prog.godebug = none := by kernel_rfl
theorem laidOut : laidOutB Try.prog = true := by kernel_rfl
theorem lifted (os : Os) (started : os.Started) (H : Type) (enc : TypeId × Value → H) :
    ReturnsInHanded {} Try.checked os 10 .any (Rows.fnSumsSpec.pre6 enc Try.prog Try.f10 Rows.fnSumsRow.domain false) (Rows.fnSumsSpec.post enc Try.prog Try.f10 false true false false) := by
  refine returnsInHanded_of_change (C := Try.checked) own started (by kernel_rfl) Try.func10
    (ChangeSpec.witness6 (enc := enc) (C := Try.checked) false ⟨#[], #[.slice none 0 0], []⟩ 8 (by kernel_rfl) (by kernel_rfl) (by kernel_rfl) (by kernel_rfl)) ?_
  intro W base args ds gs before hval0 hW hcnd _
  have hval : ∀ (j : Nat) t v, Try.f10.params[j]? = some t → args[j]? = some v → Value.okWide Try.prog W .any base t v := hval0
  have hW' := hW
  obtain ⟨p, q, hA0, hV, rfl, hfz, hnd⟩ := hW
  have hA : DataW.TrodAll enc Try.prog W 0 (fun _ => true) true Try.f10.params.toList args.toList ds p := hA0
  rw [Try.params10] at hA hval
  obtain ⟨v0, vs0, d0, ds0, p0, q0, hargs, rfl, rfl, h0, r0⟩ := trodAll_cons hA
  obtain ⟨rfl, rfl, rfl⟩ := trodAll_nil r0
  obtain rfl : args = #[v0] := by cases args; simp_all
  obtain ⟨rfl, rfl⟩ := trodVars_none hV
  have lt0 : ∀ x ∈ p0, x.block < W.heap.size := by obtain ⟨m, hm⟩ := h0; exact DataW.trod_lt m _ _ _ hm
  obtain ⟨A0, n0, c0, b0, hv0, hs0⟩ := open_bytes Try.underlying24 Try.underlying5 (by kernel_rfl) (hval 0 24 v0 rfl rfl) h0
  subst hv0
  clear hA0 hval0
  refine (walk A0 n0 c0 b0 W hs0).mono fun e W' ⟨he, bel⟩ => ?_
  subst he
  exact ⟨_, rfl, _, _, _, [], _, [], hW', trodAll_mk1 (shut_bool Try.underlying4 _), (trodAll_cons_mk (Below.trod laidOut (by kernel_rfl) (of_decide_eq_true (by kernel_rfl)) h0 bel lt0) trodAll_mk0), rfl, bel.frame _, fun h => by cases h⟩
theorem over : Rows.fnSumsRow.holds Try.pinned (OpenSpec.ofChange Rows.fnSumsSpec) :=
  OpenClaim.holds_of_wide 10 Try.f10 rfl rfl rfl rfl rfl rfl rfl ⟨rfl, rfl, rfl, rfl, rfl⟩ rfl rfl rfl rfl rfl (by kernel_rfl) Try.func10 (by kernel_rfl)
    (of_decide_eq_true (by kernel_rfl)) (by unfold Func.isWrapper; first | (rw [if_pos (by decide +kernel)]; kernel_rfl) | (rw [if_neg (by decide +kernel)]; exact ⟨rfl, rfl⟩))
    (fun os started H enc _ => lifted os started H enc)
theorem proved : Rows.FnSumsSaid := over
end Go.Proofs.Ytpmigmpghmccdaa.fnSums
