/- Slices of Arg: the laws' helpers on them. Each answers what the plain function says. No condition but lengths. -/
import Derived.Test.YtnncdibojclhnaaDoorArg
import Derived.Test.YtnncdibojclhnaaDoorStep
namespace Go.Proofs.YtnncdibojclhnaaDoor
open Go.RowKit
set_option maxRecDepth 100000
set_option maxHeartbeats 2000000

theorem RdT.arg_ {w : World} {B n : Nat} {A : Option Addr} {xs : List Ag} (h : RdT aC 5 w B A n xs) (hn : 0 < n) :
    ∃ b o, A = some ⟨b, o, none⟩ ∧ b < B ∧ ∀ k (hk : k < n), ∃ (ek : Int) (es : ByteArray) (evk : Int) (evn : Int) (evs : ByteArray), xs[k]'(by rw [h.1]; exact hk) = ⟨ek, es, ⟨evk, evn, evs⟩⟩ ∧ w.cell? ⟨b, o + k * 5, none⟩ = some (.int .i64 ek) ∧ w.cell? ⟨b, o + k * 5 + 1, none⟩ = some (.string es) ∧ w.cell? ⟨b, o + k * 5 + 2, none⟩ = some (.int .i64 evk) ∧ w.cell? ⟨b, o + k * 5 + 3, none⟩ = some (.int .i64 evn) ∧ w.cell? ⟨b, o + k * 5 + 4, none⟩ = some (.string evs) := by
  obtain ⟨b, o, e, hb, hc⟩ := h.at_ aC_sz hn
  exact ⟨b, o, e, hb, fun k hk => ⟨_, _, _, _, _, rfl, hc k hk 0 _ (by omega) rfl, hc k hk 1 _ (by omega) rfl, hc k hk 2 _ (by omega) rfl, hc k hk 3 _ (by omega) rfl, hc k hk 4 _ (by omega) rfl⟩⟩
def totA (xs : List Ag) : Nat := xs.length + sumF szA xs
theorem totA_mem {xs : List Ag} {x : Ag} (h : x ∈ xs) : szA x ≤ totA xs := by
  have := sumF_mem szA xs x h
  unfold totA; omega
theorem szArgS_any (A : Option Addr) (n c : Nat) (left : Int) (xs : List Ag) (w : World) (B : Nat) (hr : RdS aC 5 w B A n xs) (hn : n ≤ 9223372036854775807) (hs : ∀ x ∈ xs, goodA x) (h0 : 0 ≤ left) (h1 : left ≤ 1048576) :
    Calls Tryd.prog 49 #[.slice A n c, .int .i64 left] w fun e w' => e = .returned (.int .i64 (szR left (totA xs))) ∧ Below w.heap.size w w' := by
  obtain ⟨hB, hr⟩ := hr
  have HL := Lib.hid hr.len
  have HS := Lib.hid hs; clear hs
  by_cases hbig : left < (n : Int)
  · have HR := Lib.hid (szR_big (left := left) (t := totA xs) (by unfold totA; rw [HL.out]; omega))
    go_enter Tryd.func49, Tryd.ntmps49
    go_wp2
    go_ret
    exact ⟨ret_int HR.out.symm, bel_refl _⟩
  · go_enter Tryd.func49, Tryd.ntmps49
    go_wp2
    go_loopw [1, 5] (fun l i wr => ∃ k t : Nat, i = .int .i64 k ∧ k ≤ n ∧ l = .int .i64 (left - n - t) ∧ (t : Int) ≤ left - n ∧ sumF szA (xs.take k) = t ∧ Below w.heap.size w wr) (fun _ i _ => n - (intOf i).toNat)
    case atStart => exact ⟨0, 0, rfl, by omega, by go_num, by omega, rfl, bel_refl _⟩
    case round =>
      obtain ⟨k, t, rfl, hk, rfl, ht, hsum, hbel⟩ := hrel
      have HT := Lib.hid hsum; clear hsum
      by_cases hlt : k < n
      · obtain ⟨b, o, rfl, hb, hc⟩ := (hr.below (hbel.mono hB)).arg_ (by omega)
        obtain ⟨ek, es, evk, evn, evs, he, c0, c1, c2, c3, c4⟩ := hc k hlt
        clear hc
        have hgd := HS.out (xs[k]'(by rw [HL.out]; exact hlt)) (List.getElem_mem _)
        rw [he] at hgd
        obtain ⟨hq_es, hq_evs⟩ := hgd
        dsimp only at hq_es hq_evs
        have hsn : sumF szA (xs.take (k + 1)) = t + (szA ⟨ek, es, ⟨evk, evn, evs⟩⟩) := by rw [sumF_snoc _ _ _ (by rw [HL.out]; exact hlt), HT.out, he]
        have HN := Lib.hid hsn; clear hsn he
        by_cases hfit : (((szA ⟨ek, es, ⟨evk, evn, evs⟩⟩) : Nat) : Int) ≤ left - n - t
        · have HF := Lib.hid (szR_fit hfit)
          go_wp2_with (go_at_call 43; refine (szArg_any ek es evk evn evs _ _ hq_es hq_evs (by omega) (by omega)).mono ?_; rw [HF.out]; rintro e w' ⟨rfl, hb1⟩)
          go_roundw
          case rel => exact ⟨k + 1, t + (szA ⟨ek, es, ⟨evk, evn, evs⟩⟩), by go_num, by omega, by go_num, by omega, HN.out, bel_trans hbel hb1⟩
          case measure => simp [intOf]; omega
        · have HF := Lib.hid (szR_big (left := left - n - t) (t := (szA ⟨ek, es, ⟨evk, evn, evs⟩⟩)) (by omega))
          have HR := Lib.hid (szR_big (left := left) (t := totA xs) (by have := sumF_take_le szA xs (k + 1); rw [HN.out] at this; unfold totA; rw [HL.out]; omega))
          go_wp2_with (go_at_call 43; refine (szArg_any ek es evk evn evs _ _ hq_es hq_evs (by omega) (by omega)).mono ?_; rw [HF.out]; rintro e w' ⟨rfl, hb1⟩)
          go_ret
          exact ⟨ret_int HR.out.symm, bel_trans hbel hb1⟩
      · have hk' : sumF szA xs = t := by rw [← HT.out, sumF_full _ _ _ (by rw [HL.out]; omega)]
        have HR := Lib.hid (szR_fit (left := left) (t := totA xs) (by unfold totA; rw [HL.out, hk']; omega))
        have HK := Lib.hid hk'; clear hk'
        go_wp2
        go_ret
        exact ⟨ret_int (by rw [HR.out]; unfold totA; rw [HL.out, HK.out]; omega), hbel⟩
theorem infoArg : (Tryd.prog.info? 42).map (fun i => (i.zero, i.size, i.bytes)) = some (some (.agg #[.int .i64 0, .string ⟨#[]⟩, .int .i64 0, .int .i64 0, .string ⟨#[]⟩]), 5, 56) := by kernel_rfl
theorem toArgS_any (A : Option Addr) (n c : Nat) (xs : List Ag) (w : World) (B : Nat) (hr : RdS aC 5 w B A n xs) (hn : n ≤ 1048576) :
    Calls Tryd.prog 51 #[.slice A n c] w fun e w' => ∃ v', e = .returned v' ∧ OwnT aC 5 w' w.heap.size 42 v' xs ∧ Below w.heap.size w w' := by
  obtain ⟨hB, hr⟩ := hr
  obtain ⟨i0, hi, hz0, hz1, hz2⟩ := info_parts infoArg
  have HL := Lib.hid hr.len
  have HI := Lib.hid hi; clear hi
  go_enter Tryd.func51, Tryd.ntmps51
  go_wp2_with (at_make; refine wpList_make_full w rfl (.tmp 6) (.tmp 6) _ rfl w.heap.size 42 i0 _ 5 Tryd.underlying52 HI.out hz0 hz1 .i64 .i64 n n n rfl rfl rfl rfl (by rw [hz2]; omega) (by simp only [maxLen]; omega) (Nat.le_refl _) ?_; intro w1 ho1 hg1)
  have hb1 : Below w.heap.size w w1 := (Below.refl _ _).grown hg1 (Nat.le_refl _) (by simp)
  have hs1 := hg1.size
  go_loopw [4] (fun i wr => ∃ (k : Nat) (ys : List Value), i = .int .i64 k ∧ k ≤ n ∧ wr.ownsRow w.heap.size 42 5 (.slice (some ⟨w.heap.size, 0, none⟩) n n) n ys ∧ Agree ys (fl aC xs) (k * 5) ∧ Below w.heap.size w wr ∧ w.heap.size ≤ wr.heap.size) (fun i _ => n - (intOf i).toNat)
  case atStart => exact ⟨0, _, rfl, by omega, ho1, Agree.zero _ _, hb1, hs1⟩
  case round =>
    obtain ⟨k, ys, rfl, hk, hown, hx, hbel, hsz⟩ := hrel
    have HX := Lib.hid hx; clear hx
    have HOW := Lib.hid hown; clear hown
    by_cases hlt : k < n
    · obtain ⟨b, o, rfl, hb, hc⟩ := (hr.below (hbel.mono hB)).arg_ (by omega)
      obtain ⟨ek, es, evk, evn, evs, he, c0, c1, c2, c3, c4⟩ := hc k hlt
      clear hc
      have HE := Lib.hid he; clear he
      have hgl : w.heap.size < wr.heap.size := (HOW.out.lt w.heap.size rfl).2
      go_wp2_with (go_at_call 46; refine (toArg_any _ _ _ _ _ _).mono ?_; rintro e w2 ⟨rfl, hb2⟩; have HO2 := Lib.hid (own_kept HOW.out hb2); obtain ⟨⟨d0, e0⟩, f0⟩ := own_there HO2.out (k * 5) (by omega); obtain ⟨⟨d1, e1⟩, f1⟩ := own_there HO2.out (k * 5 + 1) (by omega); obtain ⟨⟨d2, e2⟩, f2⟩ := own_there HO2.out (k * 5 + 2) (by omega); obtain ⟨⟨d3, e3⟩, f3⟩ := own_there HO2.out (k * 5 + 3) (by omega); obtain ⟨⟨d4, e4⟩, f4⟩ := own_there HO2.out (k * 5 + 4) (by omega))
      go_roundw
      case rel =>
        have q0 := HO2.out.stored (k * 5) (.int .i64 ek)
        have q1 := q0.1.stored (k * 5 + 1) (.string es)
        have q2 := q1.1.stored (k * 5 + 2) (.int .i64 evk)
        have q3 := q2.1.stored (k * 5 + 3) (.int .i64 evn)
        have q4 := q3.1.stored (k * 5 + 4) (.string evs)
        refine ⟨k + 1, _, by go_num, by omega, q4.1, ?_, ((((((bel_trans hbel hb2).setCell (by simp) _).setCell (by simp) _).setCell (by simp) _).setCell (by simp) _).setCell (by simp) _), by have := hb2.size; simp; omega⟩
        have hkl : k < xs.length := by rw [HL.out]; exact hlt
        have hyl : ys.length = xs.length * 5 := by rw [HO2.out.1, HL.out]
        have a0 := agree_fl aC_sz (d := 0) hkl (by omega) (u := .int .i64 ek) (by rw [HE.out]; rfl) HX.out (by simpa using hyl)
        have a1 := agree_fl aC_sz (d := 1) hkl (by omega) (u := .string es) (by rw [HE.out]; rfl) a0 (by simpa using hyl)
        have a2 := agree_fl aC_sz (d := 2) hkl (by omega) (u := .int .i64 evk) (by rw [HE.out]; rfl) a1 (by simpa using hyl)
        have a3 := agree_fl aC_sz (d := 3) hkl (by omega) (u := .int .i64 evn) (by rw [HE.out]; rfl) a2 (by simpa using hyl)
        have a4 := agree_fl aC_sz (d := 4) hkl (by omega) (u := .string evs) (by rw [HE.out]; rfl) a3 (by simpa using hyl)
        rw [show (k + 1) * 5 = k * 5 + 4 + 1 by omega]
        exact a4
      case measure => simp [intOf]; omega
    · go_wp2
      go_ret
      refine ⟨_, rfl, ?_, hbel⟩
      have hkn : k = n := by omega
      subst hkn
      have hys : ys = fl aC xs := HX.out.full HOW.out.1 (by rw [fl_len aC_sz, HL.out])
      unfold OwnT
      rw [← hys, HL.out]
      exact HOW.out
theorem eqArgS_any (A1 A2 : Option Addr) (n1 c1 n2 c2 : Nat) (l1 l2 : List Ag) (w : World) (B B2 : Nat) (h1 : RdS aC 5 w B A1 n1 l1) (h2 : RdS aC 5 w B2 A2 n2 l2) (hn : n1 ≤ 4611686018427387904) :
    Calls Tryd.prog 54 #[.slice A1 n1 c1, .slice A2 n2 c2] w fun e w' => e = .returned (.bool (decide (l1 = l2))) ∧ Below w.heap.size w w' := by
  obtain ⟨hB, h1⟩ := h1
  obtain ⟨hB2, h2⟩ := h2
  have hl1 := h1.len
  have hl2 := h2.len
  by_cases hn : n1 = n2
  · subst hn
    have H1 := Lib.hid hl1; clear hl1
    have H2 := Lib.hid hl2; clear hl2
    go_enter Tryd.func54, Tryd.ntmps54
    go_wp2
    go_loopw [5] (fun i wr => ∃ k : Nat, k ≤ n1 ∧ i = .int .i64 k ∧ Same l1 l2 k ∧ Below w.heap.size w wr) (fun i _ => n1 - (intOf i).toNat)
    case atStart => exact ⟨0, Nat.zero_le _, rfl, Same.zero _ _, bel_refl _⟩
    case round =>
      obtain ⟨k, hk, rfl, ht, hbel⟩ := hrel
      have HT := Lib.hid ht; clear ht
      by_cases hlt : k < n1
      · obtain ⟨b1, o1, rfl, hb1, hc1⟩ := (h1.below (hbel.mono hB)).arg_ (by omega)
        obtain ⟨b2, o2, rfl, hb2, hc2⟩ := (h2.below (hbel.mono hB2)).arg_ (by omega)
        obtain ⟨ek, es, evk, evn, evs, he, c0, c1, c2, c3, c4⟩ := hc1 k hlt
        obtain ⟨ek2, es2, evk2, evn2, evs2, he2, c02, c12, c22, c32, c42⟩ := hc2 k hlt
        have HE := Lib.hid he; clear he hc1
        have HE2 := Lib.hid he2; clear he2 hc2
        have hk0 : (0:Int) ≤ (k : Int) := by omega
        have hk1 : (k:Int) < (n1 : Int) := by omega
        obtain ⟨r, hr⟩ : ∃ r, decide ((⟨ek, es, ⟨evk, evn, evs⟩⟩ : Ag) = ⟨ek2, es2, ⟨evk2, evn2, evs2⟩⟩) = r := ⟨_, rfl⟩
        have HR := Lib.hid hr; clear hr
        cases r
        all_goals
          go_wp2_with fail
          refine wp_still 8 (by kernel_rfl) (by kernel_rfl) ?_
          simp only [List.take_succ_cons, List.take_zero, List.drop_succ_cons, List.drop_zero]
          repeat still_step
          refine wpStill_nil ?_
          go_wp2_with (go_at_call 79; refine (eqArg_any _ _ _ _ _ _ _ _ _ _ _).mono ?_; rw [HR.out]; rintro e w' ⟨rfl, hb3⟩)
        · go_ret
          refine ⟨ret_bool ?_, bel_trans (bel_drew hbel) hb3⟩
          rw [eq_comm, decide_eq_false_iff_not]
          rintro rfl
          have := of_decide_eq_false HR.out
          exact this (HE.out.symm.trans HE2.out)
        · go_roundw
          case rel => exact ⟨k + 1, by omega, by go_num, HT.out.succ (by rw [H1.out]; exact hlt) (by rw [H2.out]; exact hlt) (by rw [HE.out, HE2.out]; exact of_decide_eq_true HR.out), bel_trans (bel_drew hbel) hb3⟩
          case measure => simp [intOf]; omega
      · go_wp2
        go_ret
        refine ⟨ret_bool ?_, hbel⟩
        rw [eq_comm, decide_eq_true_eq]
        exact HT.out.full (H1.out.trans H2.out.symm) (by rw [H1.out]; omega)
  · go_enter Tryd.func54, Tryd.ntmps54
    go_wp2
    go_ret
    refine ⟨ret_bool ?_, bel_refl _⟩
    rw [eq_comm, decide_eq_false_iff_not]
    rintro rfl
    omega
end Go.Proofs.YtnncdibojclhnaaDoor
