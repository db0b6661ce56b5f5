/- The reference's cut of a text at a byte. Condition: the text's length. -/
import Derived.Test.YtcbbefibebkfgaaDoorPlainSplit
import Derived.Test.YtcbbefibebkfgaaDoorApp4
namespace Go.Proofs.YtcbbefibebkfgaaDoor
open Go.RowKit
set_option maxRecDepth 100000
set_option maxHeartbeats 4000000
theorem l3Split_any (s : ByteArray) (b : Int) (q : UInt8) (w : World) (hb : b = q.toNat) (hs : s.size ≤ 1048576) :
    Calls Tryd.prog 9 #[.string s, .int .u8 b] w fun e w' => ∃ v', e = .returned v' ∧ OwnT sC 1 w' w.heap.size 9 v' ((splitL q s.data.toList).map mkB) ∧ Below w.heap.size w w' ∧ w.heap.size ≤ w'.heap.size := by
  subst hb
  obtain ⟨i0, hi, hz0, hz1, hz2⟩ := info_parts infoString
  have HI := Lib.hid hi; clear hi
  have hstart := spRem_start q s
  obtain ⟨R, hR⟩ : ∃ R, (splitL q s.data.toList).map mkB = R := ⟨_, rfl⟩
  rw [hR] at hstart ⊢
  have HSTART := Lib.hid hstart
  clear hR hstart
  go_enter Tryd.func9, Tryd.ntmps9
  go_wp2
  go_loopw [5, 6, 7] (fun v f i wr => ∃ (k fr : Nat) (acc : List ByteArray), i = .int .i64 k ∧ f = .int .i64 fr ∧ acc.length ≤ k ∧ fr ≤ k ∧ ((k ≤ s.size ∧ acc ++ spRem q s fr k = R) ∨ (k = s.size + 1 ∧ acc = R)) ∧ OwnT sC 1 wr w.heap.size 9 v acc ∧ Below w.heap.size w wr) (fun _ _ i _ => s.size + 1 - (intOf i).toNat)
  case atStart => exact ⟨0, 0, [], rfl, rfl, Nat.zero_le _, Nat.le_refl _, Or.inl ⟨Nat.zero_le _, by rw [List.nil_append]; exact HSTART.out⟩, by have hh := lit0 (f := sC) (z := 1) w 9; simpa using hh, (by repeat (first | with_reducible exact bel_refl _ | with_reducible assumption | with_reducible refine bel_set ?_ (by first | (simp; done) | (simp; omega) | omega) _ | with_reducible refine bel_alloc ?_ _ | with_reducible refine bel_drew ?_ | with_reducible refine bel_drewN ?_ _ | with_reducible refine bel_trans ?_ (by assumption)))⟩
  case round =>
    obtain ⟨k, fr, acc, rfl, rfl, hal, hfk, hst, ho, hbel⟩ := hrel
    have hsz := hbel.size
    rcases hst with ⟨hk, hst⟩ | ⟨hk, hst⟩
    · have HST := Lib.hid hst; clear hst
      have HO := Lib.hid ho; clear ho
      have hk1 : (k : Int) ≤ (s.size : Int) := by omega
      by_cases hlt : k < s.size
      · have hne : ¬ (k : Int) = (s.size : Int) := by omega
        by_cases hq : s[k] = q
        · have hN := spRem_hit (f := fr) hlt hq
          have hqq : ((s[k].toNat : Int) == (q.toNat : Int)) = true := by rw [hq]; simp
          have HN := Lib.hid (show (acc ++ [s.extract fr k]) ++ spRem q s (k + 1) (k + 1) = R by rw [← HST.out, hN, List.append_assoc, List.singleton_append])
          clear hN hq
          go_wp2_with (at_builtin; refine appT rfl (.tmp 26) (.tmp 31) _ rfl sC_sz w.heap.size 9 i0 Tryd.underlying30 HI.out hz0 hz1 hz2 rfl (by omega) _ acc rfl (HO.out.alloc _) _ 1 1 [s.extract fr k] rfl (RdT.new1 sC_sz wr 9 (s.extract fr k)) (by intro u hu; simp [fl, sC] at hu; subst hu; rfl) (by omega) (by simp; omega) ?_; intro v' w' ho' hb' hs')
          go_roundw
          case rel => exact ⟨k + 1, k + 1, acc ++ [s.extract fr k], by go_num, by go_num, by rw [List.length_append, List.length_singleton]; omega, Nat.le_refl _, Or.inl ⟨by omega, HN.out⟩, ho', (hbel.alloc hsz _).trans hb'⟩
          case measure => simp [intOf]; omega
        · have hN := spRem_miss hfk hlt hq
          have hqq : ((s[k].toNat : Int) == (q.toNat : Int)) = false := by
            rw [beq_eq_false_iff_ne]
            intro e
            exact hq (UInt8.toNat_inj.1 (by omega))
          have HN := Lib.hid (show acc ++ spRem q s fr (k + 1) = R by rw [← HST.out, hN])
          clear hN hq
          go_wp2
          go_roundw
          case rel => exact ⟨k + 1, fr, acc, by go_num, rfl, by omega, by omega, Or.inl ⟨by omega, HN.out⟩, HO.out, hbel⟩
          case measure => simp [intOf]; omega
      · obtain rfl : k = s.size := by omega
        have HN := Lib.hid (show acc ++ [s.extract fr s.size] = R by rw [← HST.out, spRem_end])
        go_wp2_with (at_builtin; refine appT rfl (.tmp 26) (.tmp 31) _ rfl sC_sz w.heap.size 9 i0 Tryd.underlying30 HI.out hz0 hz1 hz2 rfl (by omega) _ acc rfl (HO.out.alloc _) _ 1 1 [s.extract fr s.size] rfl (RdT.new1 sC_sz wr 9 (s.extract fr s.size)) (by intro u hu; simp [fl, sC] at hu; subst hu; rfl) (by omega) (by simp; omega) ?_; intro v' w' ho' hb' hs')
        go_roundw
        case rel => exact ⟨s.size + 1, s.size + 1, acc ++ [s.extract fr s.size], by go_num, by go_num, by rw [List.length_append, List.length_singleton]; omega, Nat.le_refl _, Or.inr ⟨rfl, HN.out⟩, ho', (hbel.alloc hsz _).trans hb'⟩
        case measure => simp [intOf]
    · have HST := Lib.hid hst; clear hst
      have hk1 : ¬ (k : Int) ≤ (s.size : Int) := by omega
      go_wp2
      go_ret
      exact ⟨_, rfl, by rw [← HST.out]; exact ho, hbel, hsz⟩
end Go.Proofs.YtcbbefibebkfgaaDoor
