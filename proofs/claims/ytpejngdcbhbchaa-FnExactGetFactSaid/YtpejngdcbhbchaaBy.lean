/- The laws' own helpers on slices of bytes: copying, comparing, marking, holding. No condition but lengths. -/
import Derived.Test.YtpejngdcbhbchaaOwn
import Derived.Test.YtpejngdcbhbchaaChecked
namespace Go.Proofs.Ytpejngdcbhbchaa
open Go.RowKit
set_option maxRecDepth 100000
set_option maxHeartbeats 2000000

theorem infoB : (Try.prog.info? 5).map (fun i => (i.zero, i.size, i.bytes)) = some (some (.int .u8 0), 1, 1) := by kernel_rfl

theorem toByteS_any (A : Option Addr) (n c : Nat) (bs : List UInt8) (w : World) (B : Nat) (hr : RdB w B A n bs) (hB : B ≤ w.heap.size) (hn : n ≤ 70368744177664) :
    Calls Try.prog 9 #[.slice A n c] w fun e w' => ∃ v', e = .returned v' ∧ OwnB w' w.heap.size 5 v' bs ∧ Below w.heap.size w w' ∧ w.heap.size ≤ w'.heap.size := by
  obtain ⟨i0, hi, hz0, hz1, hz2⟩ := info_parts infoB
  have hl := hr.len
  have HI := Lib.hid hi; clear hi
  have HL := Lib.hid hl; clear hl
  go_enter Try.func9, Try.ntmps9
  go_wp2_with (at_make; refine wpList_make_full w rfl (.tmp 6) (.tmp 6) _ rfl w.heap.size 5 i0 _ 1 Try.underlying22 HI.out hz0 hz1 .i64 .i64 n n n rfl rfl rfl rfl (by rw [hz2]; omega) (by simp only [maxLen]; omega) (Nat.le_refl _) ?_; intro w1 ho1 hg1)
  have hb1 : Below w.heap.size w w1 := (Below.refl _ _).grown hg1 (Nat.le_refl _) (by simp)
  have hs1 := hg1.size
  go_loopw [4] (fun i wr => ∃ (k : Nat) (xs : List Value), i = .int .i64 k ∧ k ≤ n ∧ wr.ownsRow w.heap.size 5 1 (.slice (some ⟨w.heap.size, 0, none⟩) n n) n xs ∧ (∀ j (h : j < bs.length), j < k → xs[j]? = some (bv bs[j])) ∧ Below w.heap.size w wr ∧ w.heap.size ≤ wr.heap.size) (fun i _ => n - (intOf i).toNat)
  case atStart => exact ⟨0, _, rfl, by omega, ho1, fun _ _ h => absurd h (by omega), hb1, hs1⟩
  case round =>
    obtain ⟨k, xs, rfl, hk, hown, hx, hbel, hsz⟩ := hrel
    have HX := Lib.hid hx; clear hx
    have HOW := Lib.hid hown; clear hown
    by_cases hlt : k < n
    · obtain ⟨b, o, rfl, hb, hc⟩ := (hr.below (hbel.mono hB)).at_ (by omega)
      obtain ⟨x, hx, hxe⟩ : ∃ x : Nat, wr.cell? ⟨b, o + k, none⟩ = some (.int .u8 (x : Int)) ∧ (bs[k]'(by rw [HL.out]; exact hlt)).toNat = x := ⟨_, hc k (by rw [HL.out]; exact hlt), rfl⟩
      have HXE := Lib.hid hxe; clear hxe hc
      obtain ⟨old, hold⟩ : ∃ old, wr.cell? ⟨w.heap.size, k, none⟩ = some old := by
        rw [HOW.out.cellAt k (by omega)]
        exact ⟨_, List.getElem?_eq_getElem (by rw [HOW.out.1]; omega)⟩
      have hfr := HOW.out.frozenAt k
      go_wp2
      go_round
      case rel => exact ⟨k + 1, _, by go_num, by omega, (HOW.out.stored k (.int .u8 (x : Int))).1, fun j hj hjk => set_at HX.out (by rw [HOW.out.1]; omega) (by rw [HL.out]; exact hlt) (by unfold bv; rw [← HXE.out]) j hj hjk, hbel.setCell (by simp) _, by simpa using hsz⟩
      case measure => simp [intOf]; omega
    · go_wp2
      go_ret
      refine ⟨_, rfl, ?_, hbel, hsz⟩
      have hkn : k = bs.length := by rw [HL.out]; omega
      have hxs : xs = bs.map bv := by
        apply List.ext_getElem?
        intro j
        by_cases hj : j < bs.length
        · rw [HX.out j hj (by omega), bv_get bs j hj]; rfl
        · rw [List.getElem?_eq_none (by rw [HOW.out.1]; omega), List.getElem?_eq_none (by simp; omega)]
      unfold OwnB
      rw [← hxs, HL.out]
      exact HOW.out
theorem eqByteS_any (A1 A2 : Option Addr) (n1 c1 n2 c2 : Nat) (l1 l2 : List UInt8) (w : World) (B : Nat) (h1 : RdB w B A1 n1 l1) (h2 : RdB w B A2 n2 l2) (hn : n1 ≤ 4611686018427387904) :
    Calls Try.prog 12 #[.slice A1 n1 c1, .slice A2 n2 c2] w fun e w' => e = .returned (.bool (decide (l1 = l2))) ∧ ∃ m, w' = w.drewN m := by
  have hl1 := h1.len
  have hl2 := h2.len
  by_cases hn : n1 = n2
  · subst hn
    have H1 := Lib.hid hl1; clear hl1
    have H2 := Lib.hid hl2; clear hl2
    go_enter Try.func12, Try.ntmps12
    go_wp2
    go_loopw [5] (fun i wr => ∃ k : Nat, k ≤ n1 ∧ i = .int .i64 k ∧ (∀ j (hj : j < l1.length) (hj2 : j < l2.length), j < k → l1[j] = l2[j]) ∧ ∃ m, wr = w.drewN m) (fun i _ => n1 - (intOf i).toNat)
    case atStart => exact ⟨0, Nat.zero_le _, rfl, fun _ _ _ h => absurd h (by omega), 0, rfl⟩
    case round =>
      obtain ⟨k, hk, rfl, ht, m, rfl⟩ := hrel
      have HT := Lib.hid ht; clear ht
      by_cases hlt : k < n1
      · obtain ⟨b1, o1, rfl, hb1, hc1⟩ := h1.at_ (by omega)
        obtain ⟨b2, o2, rfl, hb2, hc2⟩ := h2.at_ (by omega)
        obtain ⟨x, hx, hxe⟩ : ∃ x : Nat, w.cell? ⟨b1, o1 + k, none⟩ = some (.int .u8 (x : Int)) ∧ (l1[k]'(by rw [H1.out]; exact hlt)).toNat = x := ⟨_, hc1 k (by rw [H1.out]; exact hlt), rfl⟩
        obtain ⟨y, hy, hye⟩ : ∃ x : Nat, w.cell? ⟨b2, o2 + k, none⟩ = some (.int .u8 (x : Int)) ∧ (l2[k]'(by rw [H2.out]; exact hlt)).toNat = x := ⟨_, hc2 k (by rw [H2.out]; exact hlt), rfl⟩
        have HXE := Lib.hid hxe; clear hxe hc1
        have HYE := Lib.hid hye; clear hye hc2
        have hk0 : (0:Int) ≤ (k : Int) := by omega
        have hk1 : (k:Int) < (n1 : Int) := by omega
        by_cases hxy : x = y
        · subst hxy
          have hne : ((x : Int) != (x : Int)) = false := by simp
          go_wp2_with (go_quiet (fail))
          go_round
          case rel => exact ⟨k + 1, by omega, by go_num, fun j hj hj2 hjk => eq_at HT.out (by rw [H1.out]; exact hlt) (by rw [H2.out]; exact hlt) (f := UInt8.toNat) (HXE.out.trans HYE.out.symm) (fun _ _ h => UInt8.toNat_inj.1 h) j hj hj2 hjk, _, rfl⟩
          case measure => simp [intOf]; omega
        · have hne : ((x : Int) != (y : Int)) = true := by simp; omega
          go_wp2_with (go_quiet (fail))
          go_ret
          refine ⟨ret_bool ?_, _, World.drewN_drewN _ _ _⟩
          rw [eq_comm, decide_eq_false_iff_not]
          rintro rfl
          exact hxy (HXE.out.symm.trans HYE.out)
      · go_wp2
        go_ret
        refine ⟨ret_bool ?_, _, rfl⟩
        rw [eq_comm, decide_eq_true_eq]
        exact List.ext_getElem (H1.out.trans H2.out.symm) fun j hj hj2 => HT.out j hj hj2 (by have := H1.out; omega)
  · go_enter Try.func12, Try.ntmps12
    go_wp2
    go_ret
    refine ⟨ret_bool ?_, 0, rfl⟩
    rw [eq_comm, decide_eq_false_iff_not]
    rintro rfl
    omega
def marksB (k n : Nat) : List UInt8 := (List.range n).map fun i => UInt8.ofNat (k + i)
theorem marksB_len (k n : Nat) : (marksB k n).length = n := by simp [marksB]
theorem marksB_get (k n i : Nat) (h : i < (marksB k n).length) : (marksB k n)[i] = UInt8.ofNat (k + i) := by simp [marksB]
theorem ofNat_mod (k : Nat) : ((UInt8.ofNat k).toNat : Int) = (k : Int) % 256 := by rw [UInt8.toNat_ofNat']; omega
theorem markByteS_any (v : Value) (bs : List UInt8) (K : Int) (k0 : Nat) (hK : K = k0) (w : World) (base : Nat) (ho : OwnB w base 5 v bs) (hn : bs.length ≤ 70368744177664) (hk0 : k0 ≤ 70368744177664) :
    Calls Try.prog 14 #[v, .int .i64 K] w fun e w' => e = .returned (.int .i64 ((k0 + bs.length : Nat) : Int)) ∧ OwnB w' base 5 v (marksB k0 bs.length) ∧ w.grownBy w' v.ownBlock := by
  subst hK
  obtain ⟨n, hl⟩ : ∃ n, bs.length = n := ⟨_, rfl⟩
  unfold OwnB at ho ⊢
  rw [hl] at ho hn ⊢
  rw [marksB_len]
  clear hl
  obtain ⟨A, c, rfl, hc1, hc2⟩ := own_slice ho
  have HO := Lib.hid ho; clear ho
  go_enter Try.func14, Try.ntmps14
  go_wp2
  go_loopw [1, 5] (fun kk i wr => ∃ (k : Nat) (xs : List Value), i = .int .i64 k ∧ kk = .int .i64 ((k0 + k : Nat) : Int) ∧ k ≤ n ∧ wr.ownsRow base 5 1 (.slice A n c) n xs ∧ (∀ j (h : j < (List.range n).length), j < k → xs[j]? = some ((fun i => bv (UInt8.ofNat (k0 + i))) (List.range n)[j])) ∧ w.grownBy wr (Value.ownBlock (.slice A n c))) (fun _ i _ => n - (intOf i).toNat)
  case atStart => exact ⟨0, _, rfl, by go_num, by omega, HO.out, fun _ _ h => absurd h (by omega), World.grownBy.refl _ _⟩
  case round =>
    obtain ⟨k, xs, rfl, rfl, hk, hown, hx, hg⟩ := hrel
    have HX := Lib.hid hx; clear hx
    by_cases hlt : k < n
    · obtain ⟨g, cap, hv, hbg, hglt⟩ := hown.form (by omega)
      have hA : A = some ⟨g, 0, none⟩ := by injection hv
      subst hA
      have HOW := Lib.hid hown; clear hown
      clear hv
      obtain ⟨old, hold⟩ : ∃ old, wr.cell? ⟨g, k, none⟩ = some old := by
        rw [HOW.out.cellAt k (by omega)]
        exact ⟨_, List.getElem?_eq_getElem (by rw [HOW.out.1]; omega)⟩
      have hfr := HOW.out.frozenAt k
      have hst := HOW.out.stored k (.int .u8 (((k0 : Int) + (k : Int)) % 256))
      have HST := Lib.hid hst; clear hst
      go_wp2
      go_round
      case rel => exact ⟨k + 1, _, by go_num, by go_num, by omega, HST.out.1, fun j hj hjk => set_at (f := fun i => bv (UInt8.ofNat (k0 + i))) HX.out (by rw [HOW.out.1]; omega) (by simpa using hlt) (by simp only [List.getElem_range]; unfold bv; rw [ofNat_mod]; simp) j hj hjk, hg.trans HST.out.2⟩
      case measure => simp [intOf]; omega
    · have HOW := Lib.hid hown; clear hown
      go_wp2
      go_ret
      have hkn : k = n := by omega
      subst hkn
      refine ⟨rfl, ?_, hg⟩
      have hxs : xs = (marksB k0 k).map bv := by
        apply List.ext_getElem?
        intro j
        by_cases hj : j < k
        · rw [HX.out j (by simpa using hj) hj]
          simp [marksB, hj]
        · rw [List.getElem?_eq_none (by rw [HOW.out.1]; omega), List.getElem?_eq_none (by simp [marksB]; omega)]
      rw [← hxs]
      exact HOW.out
theorem heldByteS_any (A : Option Addr) (n c : Nat) (K : Int) (k0 : Nat) (hK : K = k0) (w : World) (B : Nat) (hr : RdB w B A n (marksB k0 n)) (hn : n ≤ 70368744177664) (hk0 : k0 ≤ 70368744177664) :
    Calls Try.prog 16 #[.slice A n c, .int .i64 K] w fun e w' => e = .returned (.int .i64 ((k0 + n : Nat) : Int)) ∧ w = w' := by
  subst hK
  go_enter Try.func16, Try.ntmps16
  go_wp2
  go_loop [1, 5] (fun kk i => ∃ (k : Nat), i = .int .i64 k ∧ kk = .int .i64 ((k0 + k : Nat) : Int) ∧ k ≤ n) (fun _ i => n - (intOf i).toNat)
  case atStart => exact ⟨0, rfl, by go_num, by omega⟩
  case round =>
    obtain ⟨k, rfl, rfl, hk⟩ := hrel
    by_cases hlt : k < n
    · obtain ⟨b, o, rfl, hb, hc⟩ := hr.at_ (by omega)
      have hx := hc k (by rw [marksB_len]; exact hlt)
      rw [marksB_get, ofNat_mod] at hx
      simp only [Int.natCast_add] at hx
      clear hc
      go_wp2
      go_round
      case rel => exact ⟨k + 1, by go_num, by go_num, by omega⟩
      case measure => simp [intOf]; omega
    · go_wp2
      go_ret
      exact ⟨ret_int (by omega), rfl⟩
end Go.Proofs.Ytpejngdcbhbchaa
