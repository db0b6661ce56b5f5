/- Slices of Cond: the laws' helpers on them. Each answers what the plain function says. No condition but lengths. -/
import Derived.Test.YtjlfllnjbdddaaaCond
import Derived.Test.YtjlfllnjbdddaaaStep
namespace Go.Proofs.Ytjlfllnjbdddaaa
open Go.RowKit
set_option maxRecDepth 100000
set_option maxHeartbeats 2000000

theorem RdT.cond_ {w : World} {B n : Nat} {A : Option Addr} {xs : List Cd} (h : RdT cC 11 w B A n xs) (hn : 0 < n) :
    ∃ b o, A = some ⟨b, o, none⟩ ∧ b < B ∧ ∀ k (hk : k < n), ∃ (eop : Int) (elk : Int) (els : ByteArray) (elvk : Int) (elvn : Int) (elvs : ByteArray) (erk : Int) (ers : ByteArray) (ervk : Int) (ervn : Int) (ervs : ByteArray), xs[k]'(by rw [h.1]; exact hk) = ⟨eop, ⟨elk, els, ⟨elvk, elvn, elvs⟩⟩, ⟨erk, ers, ⟨ervk, ervn, ervs⟩⟩⟩ ∧ w.cell? ⟨b, o + k * 11, none⟩ = some (.int .i64 eop) ∧ w.cell? ⟨b, o + k * 11 + 1, none⟩ = some (.int .i64 elk) ∧ w.cell? ⟨b, o + k * 11 + 2, none⟩ = some (.string els) ∧ w.cell? ⟨b, o + k * 11 + 3, none⟩ = some (.int .i64 elvk) ∧ w.cell? ⟨b, o + k * 11 + 4, none⟩ = some (.int .i64 elvn) ∧ w.cell? ⟨b, o + k * 11 + 5, none⟩ = some (.string elvs) ∧ w.cell? ⟨b, o + k * 11 + 6, none⟩ = some (.int .i64 erk) ∧ w.cell? ⟨b, o + k * 11 + 7, none⟩ = some (.string ers) ∧ w.cell? ⟨b, o + k * 11 + 8, none⟩ = some (.int .i64 ervk) ∧ w.cell? ⟨b, o + k * 11 + 9, none⟩ = some (.int .i64 ervn) ∧ w.cell? ⟨b, o + k * 11 + 10, none⟩ = some (.string ervs) := by
  obtain ⟨b, o, e, hb, hc⟩ := h.at_ cC_sz hn
  exact ⟨b, o, e, hb, fun k hk => ⟨_, _, _, _, _, _, _, _, _, _, _, rfl, hc k hk 0 _ (by omega) rfl, hc k hk 1 _ (by omega) rfl, hc k hk 2 _ (by omega) rfl, hc k hk 3 _ (by omega) rfl, hc k hk 4 _ (by omega) rfl, hc k hk 5 _ (by omega) rfl, hc k hk 6 _ (by omega) rfl, hc k hk 7 _ (by omega) rfl, hc k hk 8 _ (by omega) rfl, hc k hk 9 _ (by omega) rfl, hc k hk 10 _ (by omega) rfl⟩⟩
def totC (xs : List Cd) : Nat := xs.length + sumF szC xs
theorem totC_mem {xs : List Cd} {x : Cd} (h : x ∈ xs) : szC x ≤ totC xs := by
  have := sumF_mem szC xs x h
  unfold totC; omega
theorem szCondS_any (A : Option Addr) (n c : Nat) (left : Int) (xs : List Cd) (w : World) (B : Nat) (hr : RdS cC 11 w B A n xs) (hn : n ≤ 9223372036854775807) (hs : ∀ x ∈ xs, goodC x) (h0 : 0 ≤ left) (h1 : left ≤ 1048576) :
    Calls Try.prog 56 #[.slice A n c, .int .i64 left] w fun e w' => e = .returned (.int .i64 (szR left (totC xs))) ∧ Below w.heap.size w w' := by
  obtain ⟨hB, hr⟩ := hr
  have HL := Lib.hid hr.len
  have HS := Lib.hid hs; clear hs
  by_cases hbig : left < (n : Int)
  · have HR := Lib.hid (szR_big (left := left) (t := totC xs) (by unfold totC; rw [HL.out]; omega))
    go_enter Try.func56, Try.ntmps56
    go_wp2
    go_ret
    exact ⟨ret_int HR.out.symm, bel_refl _⟩
  · go_enter Try.func56, Try.ntmps56
    go_wp2
    go_loopw [1, 5] (fun l i wr => ∃ k t : Nat, i = .int .i64 k ∧ k ≤ n ∧ l = .int .i64 (left - n - t) ∧ (t : Int) ≤ left - n ∧ sumF szC (xs.take k) = t ∧ Below w.heap.size w wr) (fun _ i _ => n - (intOf i).toNat)
    case atStart => exact ⟨0, 0, rfl, by omega, by go_num, by omega, rfl, bel_refl _⟩
    case round =>
      obtain ⟨k, t, rfl, hk, rfl, ht, hsum, hbel⟩ := hrel
      have HT := Lib.hid hsum; clear hsum
      by_cases hlt : k < n
      · obtain ⟨b, o, rfl, hb, hc⟩ := (hr.below (hbel.mono hB)).cond_ (by omega)
        obtain ⟨eop, elk, els, elvk, elvn, elvs, erk, ers, ervk, ervn, ervs, he, c0, c1, c2, c3, c4, c5, c6, c7, c8, c9, c10⟩ := hc k hlt
        clear hc
        have hgd := HS.out (xs[k]'(by rw [HL.out]; exact hlt)) (List.getElem_mem _)
        rw [he] at hgd
        obtain ⟨hq_els, hq_elvs, hq_ers, hq_ervs⟩ := hgd
        dsimp only at hq_els hq_elvs hq_ers hq_ervs
        have hsn : sumF szC (xs.take (k + 1)) = t + (szC ⟨eop, ⟨elk, els, ⟨elvk, elvn, elvs⟩⟩, ⟨erk, ers, ⟨ervk, ervn, ervs⟩⟩⟩) := by rw [sumF_snoc _ _ _ (by rw [HL.out]; exact hlt), HT.out, he]
        have HN := Lib.hid hsn; clear hsn he
        by_cases hfit : (((szC ⟨eop, ⟨elk, els, ⟨elvk, elvn, elvs⟩⟩, ⟨erk, ers, ⟨ervk, ervn, ervs⟩⟩⟩) : Nat) : Int) ≤ left - n - t
        · have HF := Lib.hid (szR_fit hfit)
          go_wp2_with (go_at_call 46; refine (szCond_any eop elk els elvk elvn elvs erk ers ervk ervn ervs _ _ hq_els hq_elvs hq_ers hq_ervs (by omega) (by omega)).mono ?_; rw [HF.out]; rintro e w' ⟨rfl, hb1⟩)
          go_roundw
          case rel => exact ⟨k + 1, t + (szC ⟨eop, ⟨elk, els, ⟨elvk, elvn, elvs⟩⟩, ⟨erk, ers, ⟨ervk, ervn, ervs⟩⟩⟩), by go_num, by omega, by go_num, by omega, HN.out, bel_trans hbel hb1⟩
          case measure => simp [intOf]; omega
        · have HF := Lib.hid (szR_big (left := left - n - t) (t := (szC ⟨eop, ⟨elk, els, ⟨elvk, elvn, elvs⟩⟩, ⟨erk, ers, ⟨ervk, ervn, ervs⟩⟩⟩)) (by omega))
          have HR := Lib.hid (szR_big (left := left) (t := totC xs) (by have := sumF_take_le szC xs (k + 1); rw [HN.out] at this; unfold totC; rw [HL.out]; omega))
          go_wp2_with (go_at_call 46; refine (szCond_any eop elk els elvk elvn elvs erk ers ervk ervn ervs _ _ hq_els hq_elvs hq_ers hq_ervs (by omega) (by omega)).mono ?_; rw [HF.out]; rintro e w' ⟨rfl, hb1⟩)
          go_ret
          exact ⟨ret_int HR.out.symm, bel_trans hbel hb1⟩
      · have hk' : sumF szC xs = t := by rw [← HT.out, sumF_full _ _ _ (by rw [HL.out]; omega)]
        have HR := Lib.hid (szR_fit (left := left) (t := totC xs) (by unfold totC; rw [HL.out, hk']; omega))
        have HK := Lib.hid hk'; clear hk'
        go_wp2
        go_ret
        exact ⟨ret_int (by rw [HR.out]; unfold totC; rw [HL.out, HK.out]; omega), hbel⟩
theorem infoCond : (Try.prog.info? 79).map (fun i => (i.zero, i.size, i.bytes)) = some (some (.agg #[.int .i64 0, .int .i64 0, .string ⟨#[]⟩, .int .i64 0, .int .i64 0, .string ⟨#[]⟩, .int .i64 0, .string ⟨#[]⟩, .int .i64 0, .int .i64 0, .string ⟨#[]⟩]), 11, 120) := by kernel_rfl
theorem toCondS_any (A : Option Addr) (n c : Nat) (xs : List Cd) (w : World) (B : Nat) (hr : RdS cC 11 w B A n xs) (hn : n ≤ 1048576) :
    Calls Try.prog 58 #[.slice A n c] w fun e w' => ∃ v', e = .returned v' ∧ OwnT cC 11 w' w.heap.size 79 v' xs ∧ Below w.heap.size w w' := by
  obtain ⟨hB, hr⟩ := hr
  obtain ⟨i0, hi, hz0, hz1, hz2⟩ := info_parts infoCond
  have HL := Lib.hid hr.len
  have HI := Lib.hid hi; clear hi
  go_enter Try.func58, Try.ntmps58
  go_wp2_with (at_make; refine wpList_make_full w rfl (.tmp 6) (.tmp 6) _ rfl w.heap.size 79 i0 _ 11 Try.underlying95 HI.out hz0 hz1 .i64 .i64 n n n rfl rfl rfl rfl (by rw [hz2]; omega) (by simp only [maxLen]; omega) (Nat.le_refl _) ?_; intro w1 ho1 hg1)
  have hb1 : Below w.heap.size w w1 := (Below.refl _ _).grown hg1 (Nat.le_refl _) (by simp)
  have hs1 := hg1.size
  go_loopw [4] (fun i wr => ∃ (k : Nat) (ys : List Value), i = .int .i64 k ∧ k ≤ n ∧ wr.ownsRow w.heap.size 79 11 (.slice (some ⟨w.heap.size, 0, none⟩) n n) n ys ∧ Agree ys (fl cC xs) (k * 11) ∧ Below w.heap.size w wr ∧ w.heap.size ≤ wr.heap.size) (fun i _ => n - (intOf i).toNat)
  case atStart => exact ⟨0, _, rfl, by omega, ho1, Agree.zero _ _, hb1, hs1⟩
  case round =>
    obtain ⟨k, ys, rfl, hk, hown, hx, hbel, hsz⟩ := hrel
    have HX := Lib.hid hx; clear hx
    have HOW := Lib.hid hown; clear hown
    by_cases hlt : k < n
    · obtain ⟨b, o, rfl, hb, hc⟩ := (hr.below (hbel.mono hB)).cond_ (by omega)
      obtain ⟨eop, elk, els, elvk, elvn, elvs, erk, ers, ervk, ervn, ervs, he, c0, c1, c2, c3, c4, c5, c6, c7, c8, c9, c10⟩ := hc k hlt
      clear hc
      have HE := Lib.hid he; clear he
      have hgl : w.heap.size < wr.heap.size := (HOW.out.lt w.heap.size rfl).2
      go_wp2_with (go_at_call 48; refine (toCond_any _ _ _ _ _ _ _ _ _ _ _ _).mono ?_; rintro e w2 ⟨rfl, hb2⟩; have HO2 := Lib.hid (own_kept HOW.out hb2); obtain ⟨⟨d0, e0⟩, f0⟩ := own_there HO2.out (k * 11) (by omega); obtain ⟨⟨d1, e1⟩, f1⟩ := own_there HO2.out (k * 11 + 1) (by omega); obtain ⟨⟨d2, e2⟩, f2⟩ := own_there HO2.out (k * 11 + 2) (by omega); obtain ⟨⟨d3, e3⟩, f3⟩ := own_there HO2.out (k * 11 + 3) (by omega); obtain ⟨⟨d4, e4⟩, f4⟩ := own_there HO2.out (k * 11 + 4) (by omega); obtain ⟨⟨d5, e5⟩, f5⟩ := own_there HO2.out (k * 11 + 5) (by omega); obtain ⟨⟨d6, e6⟩, f6⟩ := own_there HO2.out (k * 11 + 6) (by omega); obtain ⟨⟨d7, e7⟩, f7⟩ := own_there HO2.out (k * 11 + 7) (by omega); obtain ⟨⟨d8, e8⟩, f8⟩ := own_there HO2.out (k * 11 + 8) (by omega); obtain ⟨⟨d9, e9⟩, f9⟩ := own_there HO2.out (k * 11 + 9) (by omega); obtain ⟨⟨d10, e10⟩, f10⟩ := own_there HO2.out (k * 11 + 10) (by omega))
      go_roundw
      case rel =>
        have q0 := HO2.out.stored (k * 11) (.int .i64 eop)
        have q1 := q0.1.stored (k * 11 + 1) (.int .i64 elk)
        have q2 := q1.1.stored (k * 11 + 2) (.string els)
        have q3 := q2.1.stored (k * 11 + 3) (.int .i64 elvk)
        have q4 := q3.1.stored (k * 11 + 4) (.int .i64 elvn)
        have q5 := q4.1.stored (k * 11 + 5) (.string elvs)
        have q6 := q5.1.stored (k * 11 + 6) (.int .i64 erk)
        have q7 := q6.1.stored (k * 11 + 7) (.string ers)
        have q8 := q7.1.stored (k * 11 + 8) (.int .i64 ervk)
        have q9 := q8.1.stored (k * 11 + 9) (.int .i64 ervn)
        have q10 := q9.1.stored (k * 11 + 10) (.string ervs)
        refine ⟨k + 1, _, by go_num, by omega, q10.1, ?_, ((((((((((((bel_trans hbel hb2).setCell (by simp) _).setCell (by simp) _).setCell (by simp) _).setCell (by simp) _).setCell (by simp) _).setCell (by simp) _).setCell (by simp) _).setCell (by simp) _).setCell (by simp) _).setCell (by simp) _).setCell (by simp) _), by have := hb2.size; simp; omega⟩
        have hkl : k < xs.length := by rw [HL.out]; exact hlt
        have hyl : ys.length = xs.length * 11 := by rw [HO2.out.1, HL.out]
        have a0 := agree_fl cC_sz (d := 0) hkl (by omega) (u := .int .i64 eop) (by rw [HE.out]; rfl) HX.out (by simpa using hyl)
        have a1 := agree_fl cC_sz (d := 1) hkl (by omega) (u := .int .i64 elk) (by rw [HE.out]; rfl) a0 (by simpa using hyl)
        have a2 := agree_fl cC_sz (d := 2) hkl (by omega) (u := .string els) (by rw [HE.out]; rfl) a1 (by simpa using hyl)
        have a3 := agree_fl cC_sz (d := 3) hkl (by omega) (u := .int .i64 elvk) (by rw [HE.out]; rfl) a2 (by simpa using hyl)
        have a4 := agree_fl cC_sz (d := 4) hkl (by omega) (u := .int .i64 elvn) (by rw [HE.out]; rfl) a3 (by simpa using hyl)
        have a5 := agree_fl cC_sz (d := 5) hkl (by omega) (u := .string elvs) (by rw [HE.out]; rfl) a4 (by simpa using hyl)
        have a6 := agree_fl cC_sz (d := 6) hkl (by omega) (u := .int .i64 erk) (by rw [HE.out]; rfl) a5 (by simpa using hyl)
        have a7 := agree_fl cC_sz (d := 7) hkl (by omega) (u := .string ers) (by rw [HE.out]; rfl) a6 (by simpa using hyl)
        have a8 := agree_fl cC_sz (d := 8) hkl (by omega) (u := .int .i64 ervk) (by rw [HE.out]; rfl) a7 (by simpa using hyl)
        have a9 := agree_fl cC_sz (d := 9) hkl (by omega) (u := .int .i64 ervn) (by rw [HE.out]; rfl) a8 (by simpa using hyl)
        have a10 := agree_fl cC_sz (d := 10) hkl (by omega) (u := .string ervs) (by rw [HE.out]; rfl) a9 (by simpa using hyl)
        rw [show (k + 1) * 11 = k * 11 + 10 + 1 by omega]
        exact a10
      case measure => simp [intOf]; omega
    · go_wp2
      go_ret
      refine ⟨_, rfl, ?_, hbel⟩
      have hkn : k = n := by omega
      subst hkn
      have hys : ys = fl cC xs := HX.out.full HOW.out.1 (by rw [fl_len cC_sz, HL.out])
      unfold OwnT
      rw [← hys, HL.out]
      exact HOW.out
theorem eqCondS_any (A1 A2 : Option Addr) (n1 c1 n2 c2 : Nat) (l1 l2 : List Cd) (w : World) (B B2 : Nat) (h1 : RdS cC 11 w B A1 n1 l1) (h2 : RdS cC 11 w B2 A2 n2 l2) (hn : n1 ≤ 4611686018427387904) :
    Calls Try.prog 60 #[.slice A1 n1 c1, .slice A2 n2 c2] w fun e w' => e = .returned (.bool (decide (l1 = l2))) ∧ Below w.heap.size w w' := by
  obtain ⟨hB, h1⟩ := h1
  obtain ⟨hB2, h2⟩ := h2
  have hl1 := h1.len
  have hl2 := h2.len
  by_cases hn : n1 = n2
  · subst hn
    have H1 := Lib.hid hl1; clear hl1
    have H2 := Lib.hid hl2; clear hl2
    go_enter Try.func60, Try.ntmps60
    go_wp2
    go_loopw [5] (fun i wr => ∃ k : Nat, k ≤ n1 ∧ i = .int .i64 k ∧ Same l1 l2 k ∧ Below w.heap.size w wr) (fun i _ => n1 - (intOf i).toNat)
    case atStart => exact ⟨0, Nat.zero_le _, rfl, Same.zero _ _, bel_refl _⟩
    case round =>
      obtain ⟨k, hk, rfl, ht, hbel⟩ := hrel
      have HT := Lib.hid ht; clear ht
      by_cases hlt : k < n1
      · obtain ⟨b1, o1, rfl, hb1, hc1⟩ := (h1.below (hbel.mono hB)).cond_ (by omega)
        obtain ⟨b2, o2, rfl, hb2, hc2⟩ := (h2.below (hbel.mono hB2)).cond_ (by omega)
        obtain ⟨eop, elk, els, elvk, elvn, elvs, erk, ers, ervk, ervn, ervs, he, c0, c1, c2, c3, c4, c5, c6, c7, c8, c9, c10⟩ := hc1 k hlt
        obtain ⟨eop2, elk2, els2, elvk2, elvn2, elvs2, erk2, ers2, ervk2, ervn2, ervs2, he2, c02, c12, c22, c32, c42, c52, c62, c72, c82, c92, c102⟩ := hc2 k hlt
        have HE := Lib.hid he; clear he hc1
        have HE2 := Lib.hid he2; clear he2 hc2
        have hk0 : (0:Int) ≤ (k : Int) := by omega
        have hk1 : (k:Int) < (n1 : Int) := by omega
        obtain ⟨r, hr⟩ : ∃ r, decide ((⟨eop, ⟨elk, els, ⟨elvk, elvn, elvs⟩⟩, ⟨erk, ers, ⟨ervk, ervn, ervs⟩⟩⟩ : Cd) = ⟨eop2, ⟨elk2, els2, ⟨elvk2, elvn2, elvs2⟩⟩, ⟨erk2, ers2, ⟨ervk2, ervn2, ervs2⟩⟩⟩) = r := ⟨_, rfl⟩
        have HR := Lib.hid hr; clear hr
        cases r
        all_goals
          go_wp2_with fail
          refine wp_still 8 (by kernel_rfl) (by kernel_rfl) ?_
          simp only [List.take_succ_cons, List.take_zero, List.drop_succ_cons, List.drop_zero]
          repeat still_step
          refine wpStill_nil ?_
          go_wp2_with (go_at_call 94; refine (eqCond_any _ _ _ _ _ _ _ _ _ _ _ _ _ _ _ _ _ _ _ _ _ _ _).mono ?_; rw [HR.out]; rintro e w' ⟨rfl, hb3⟩)
        · go_ret
          refine ⟨ret_bool ?_, bel_trans (bel_drew hbel) hb3⟩
          rw [eq_comm, decide_eq_false_iff_not]
          rintro rfl
          have := of_decide_eq_false HR.out
          exact this (HE.out.symm.trans HE2.out)
        · go_roundw
          case rel => exact ⟨k + 1, by omega, by go_num, HT.out.succ (by rw [H1.out]; exact hlt) (by rw [H2.out]; exact hlt) (by rw [HE.out, HE2.out]; exact of_decide_eq_true HR.out), bel_trans (bel_drew hbel) hb3⟩
          case measure => simp [intOf]; omega
      · go_wp2
        go_ret
        refine ⟨ret_bool ?_, hbel⟩
        rw [eq_comm, decide_eq_true_eq]
        exact HT.out.full (H1.out.trans H2.out.symm) (by rw [H1.out]; omega)
  · go_enter Try.func60, Try.ntmps60
    go_wp2
    go_ret
    refine ⟨ret_bool ?_, bel_refl _⟩
    rw [eq_comm, decide_eq_false_iff_not]
    rintro rfl
    omega
end Go.Proofs.Ytjlfllnjbdddaaa
