/- A text that is drawn to be read as a value; bytes that are drawn to be read. No condition but lengths. -/
import Derived.Test.YtemaofcbgmdifaaDoorDrawV
import Derived.Test.YtemaofcbgmdifaaDoorVals
import Derived.Test.YtemaofcbgmdifaaDoorLit
import Derived.Test.YtemaofcbgmdifaaDoorAt
import Derived.Test.YtemaofcbgmdifaaDoorBy
namespace Go.Proofs.YtemaofcbgmdifaaDoor
open Go.RowKit
set_option maxRecDepth 100000
set_option maxHeartbeats 4000000
theorem valText_len (v : Vl) : (valText v).size ≤ 30 := by
  unfold valText
  cases h : valOk v
  · exact Nat.zero_le _
  · exact rawText_len2 h
theorem DrawParseVal_any (A : Option Addr) (n c : Nat) (code : List UInt8) (w : World) (B : Nat) (hr : RdB w B A n code) (hB : B ≤ w.heap.size) (hn : n ≤ 70368744177664) :
    Calls Tryd.prog 5 #[.slice A n c] w fun e w' => ∃ s : ByteArray, s.size ≤ 30 ∧ e = .returned (.string s) ∧ Below w.heap.size w w' := by
  go_enter Tryd.func5, Tryd.ntmps5
  go_wp2_with fail
  refine (l1New_any A n c code w B hr hB hn).mono ?_
  rintro e w1 ⟨rfl, hc1, hb1⟩
  have hl1 := hc1.lt
  have hs1 := hb1.size
  go_wp2_with fail
  refine (l1Once_any w.heap.size code _ _ hc1 (by omega)).mono ?_
  rintro e w2 ⟨b, rfl, hc2, hg2⟩
  have hl2 := hc2.lt
  have hs2 := hg2.size
  cases b
  · go_wp2_with fail
    refine (l2Draw_any w.heap.size code _ hc2).mono ?_
    rintro e w3 ⟨k, m, s, hss, rfl, hc3, hg3⟩
    have hs3 := hg3.size
    go_wp2_with fail
    refine (specValText_any k m s _ (by omega)).mono ?_
    rintro e w4 ⟨rfl, hb4⟩
    go_wp2
    go_ret
    exact ⟨_, valText_len _, rfl, bel_trans (hb1.trans ((below_grown' hg2 (Nat.le_refl _) hs1).trans (below_grown' hg3 (Nat.le_refl _) (by omega)))) hb4⟩
  · go_wp2_with fail
    refine (l1Str_any w.heap.size code _ 13 13 [⟨#[]⟩, ⟨#[48, 49]⟩, ⟨#[45, 48]⟩, ⟨#[45]⟩, ⟨#[39]⟩, ⟨#[39, 39]⟩, ⟨#[39, 65, 39]⟩, ⟨#[39, 97]⟩, ⟨#[97]⟩, ⟨#[49, 48, 48, 48, 48, 48, 48, 48, 48, 49]⟩, ⟨#[57, 57, 57, 57, 57, 57, 57, 57, 57, 57, 57]⟩, ⟨#[45, 45, 49]⟩, ⟨#[39, 116, 119, 101, 110, 116, 121, 111, 110, 101, 98, 121, 116, 101, 115, 116, 119, 101, 110, 116, 121, 111, 39]⟩] _ _ (hc2.alloc _) (Rd.lit w2 9 _ 13 rfl) (by omega) (by omega) (ne_lit hl2)).mono ?_
    rintro e w3 ⟨s, hs, rfl, hc3, hg3⟩
    have hss : s.size ≤ 30 := by
      simp only [List.mem_cons, List.not_mem_nil, or_false] at hs
      rcases hs with rfl | rfl | rfl | rfl | rfl | rfl | rfl | rfl | rfl | rfl | rfl | rfl | rfl <;> decide
    clear hs
    have hg23 := (World.grownBy_alloc w2 (.cells (([⟨#[]⟩, ⟨#[48, 49]⟩, ⟨#[45, 48]⟩, ⟨#[45]⟩, ⟨#[39]⟩, ⟨#[39, 39]⟩, ⟨#[39, 65, 39]⟩, ⟨#[39, 97]⟩, ⟨#[97]⟩, ⟨#[49, 48, 48, 48, 48, 48, 48, 48, 48, 49]⟩, ⟨#[57, 57, 57, 57, 57, 57, 57, 57, 57, 57, 57]⟩, ⟨#[45, 45, 49]⟩, ⟨#[39, 116, 119, 101, 110, 116, 121, 111, 110, 101, 98, 121, 116, 101, 115, 116, 119, 101, 110, 116, 121, 111, 39]⟩] : List ByteArray).map Value.string).toArray 9) (some w.heap.size)).trans hg3
    go_wp2
    go_ret
    exact ⟨_, hss, rfl, hb1.trans ((below_grown' hg2 (Nat.le_refl _) hs1).trans (below_grown' hg23 (Nat.le_refl _) (by omega)))⟩
theorem l1At_any (g : Nat) (code : List UInt8) (A : Option Addr) (n c : Nat) (w : World) (hc : Cur w g code) (hn : n ≤ 1000000) :
    Calls Tryd.prog 26 #[.pointer (some ⟨g, 0, none⟩), .slice A n c] w fun e w' => ∃ x : Int, (-9223372036854775808 ≤ x ∧ x ≤ 9223372036854775807) ∧ e = .returned (.int .i64 x) ∧ Cur w' g code ∧ w.grownBy w' (some g) := by
  have hlt0 := hc.lt
  go_enter Tryd.func26, Tryd.ntmps26
  go_wp2_with fail
  refine (l1Below_any _ code _ _ hc (by omega)).mono ?_
  rintro e w3 ⟨y, hy, rfl, hc3, hg3⟩
  have hy2 : y ≤ 1000001 := by omega
  have hs3 := hg3.size
  have hlt := hc3.lt
  go_wp2_with fail
  refine (l1Int_any _ code _ 7 7 [0, 0, 0, (n : Int), (y : Int), -1, 9223372036854775807] _ _ (hc3.below ((Below.refl _ _).alloc (Nat.le_refl _) _)) (Rd.lit w3 3 _ 7 rfl) (by omega) (by omega) (fun b o e => by injection e with e; injection e with e1; omega)).mono ?_
  rintro e w4 ⟨x, hx, rfl, hc4, hg4⟩
  have hxb : -9223372036854775808 ≤ x ∧ x ≤ 9223372036854775807 := by
    simp only [List.mem_cons, List.not_mem_nil, or_false] at hx
    omega
  clear hx
  go_wp2
  go_ret
  exact ⟨x, hxb, rfl, hc4, (hg3.trans (World.grownBy_alloc w3 _ _)).trans hg4⟩
theorem putN_ne (x : Int) : 0 < (putN x).length := by
  unfold putN numB
  split <;> simp
theorem putV_ne (v : Vl) : 0 < (putV v).length := by
  unfold putV
  have := putN_ne v.k
  rw [List.length_append]
  omega
theorem DrawGetVal_any (A : Option Addr) (n c : Nat) (code : List UInt8) (w : World) (B : Nat) (hr : RdB w B A n code) (hB : B ≤ w.heap.size) (hn : n ≤ 70368744177664) :
    Calls Tryd.prog 8 #[.slice A n c] w fun e w' => ∃ (A2 : Option Addr) (n2 c2 : Nat) (bs : List UInt8) (i : Int), (n2 ≤ 100 ∧ n2 ≤ c2 ∧ c2 ≤ maxLen) ∧ (-9223372036854775808 ≤ i ∧ i ≤ 9223372036854775807) ∧ e = .returned (.tuple #[.slice A2 n2 c2, .int .i64 i]) ∧ RdY w' w'.heap.size A2 n2 bs ∧ Below w.heap.size w w' := by
  go_enter Tryd.func8, Tryd.ntmps8
  go_wp2_with fail
  refine (l1New_any A n c code w B hr hB hn).mono ?_
  rintro e w1 ⟨rfl, hc1, hb1⟩
  have hl1 := hc1.lt
  have hs1 := hb1.size
  go_wp2_with fail
  refine (l2Draw_any w.heap.size code _ (hc1.below (bel_alloc (bel_refl _) _))).mono ?_
  rintro e w2 ⟨k, m, s, hss, rfl, hc2, hg2⟩
  have hs2 := hg2.size
  simp at hs2
  have g2 : Below w.heap.size w w2 := (bel_alloc hb1 _).trans (below_grown' hg2 (Nat.le_refl _) (by simp; omega))
  have hpl := putV_len ⟨k, m, s⟩
  have hpn := putV_ne ⟨k, m, s⟩
  have hl2 := hc2.lt
  clear hb1 hg2 hc1
  go_wp2_with fail
  refine (specPutVal_any _ 0 _ [] k m s _ w2.heap.size (RdB.nil_ _ _ _) (Nat.le_refl _) (by omega) (by omega)).mono ?_
  rw [List.nil_append]
  obtain ⟨bs, hbs⟩ : ∃ bs, putV ⟨k, m, s⟩ = bs := ⟨_, rfl⟩
  rw [hbs] at hpl hpn ⊢
  have hbl : bs.length ≤ 100 := by omega
  clear hbs hpl
  rintro e w3 ⟨v3, rfl, ho, hb3, hs3⟩
  obtain ⟨A3, c3, rfl, hc3, hcm⟩ := own_slice ho
  have g3 : Below w.heap.size w w3 := g2.trans (hb3.mono (by omega))
  have hcc3 := hc2.below hb3
  clear hb3 hc2 g2
  go_wp2_with fail
  refine (l1Below_any w.heap.size code _ _ hcc3 (by omega)).mono ?_
  rintro e w4 ⟨y, hy, rfl, hcc4, hg4⟩
  have ho4 : OwnB w4 w2.heap.size 5 (.slice A3 bs.length c3) bs := ho.kept_ hg4 fun j hj => by have := own_lt ho j hj; omega
  have g4 : Below w.heap.size w w4 := g3.trans (below_grown' hg4 (Nat.le_refl _) (by omega))
  have hs4 := hg4.size
  clear hg4 ho g3 hcc3
  by_cases hy0 : y = 0
  · subst hy0
    go_wp2_with fail
    refine (l1Below_any w.heap.size code _ _ hcc4 (by omega)).mono ?_
    rintro e w5 ⟨z, hz, rfl, hcc5, hg5⟩
    have hzl : z < bs.length := by omega
    have ho5 : OwnB w5 w2.heap.size 5 (.slice A3 bs.length c3) bs := ho4.kept_ hg5 fun j hj => by have := own_lt ho4 j hj; omega
    have g5 : Below w.heap.size w w5 := g4.trans (below_grown' hg5 (Nat.le_refl _) (by omega))
    have hs5 := hg5.size
    have hl5 := hcc5.lt
    clear hg5 ho4 g4 hcc4
    go_wp2_with fail
    refine (l1Int_any w.heap.size code _ 6 6 [0, 1, 2, 4, 97, 128] _ _ (hcc5.below ((Below.refl _ _).alloc (Nat.le_refl _) _)) (Rd.lit w5 3 _ 6 rfl) (by omega) (by omega) (fun b o e => by injection e with e; injection e with e1; omega)).mono ?_
    rintro e w6 ⟨x, hx, rfl, hcc6, hg6⟩
    obtain ⟨q, rfl, hq⟩ : ∃ q : Nat, x = (q : Int) ∧ q ≤ 128 := by
      simp only [List.mem_cons, List.not_mem_nil, or_false] at hx
      exact ⟨x.toNat, by omega, by omega⟩
    clear hx
    have ho6 : OwnB w6 w2.heap.size 5 (.slice A3 bs.length c3) bs := (ho5.alloc _).kept_ hg6 fun j hj => by have := own_lt ho5 j hj; omega
    have g6 : Below w.heap.size w w6 := (bel_alloc g5 _).trans (below_grown' hg6 (Nat.le_refl _) (by simp; omega))
    have hs6 := hg6.size
    simp at hs6
    clear hg6 ho5 g5 hcc5
    obtain ⟨g, cap, hv, hbg, hglt⟩ := World.ownsRow.form ho6 (by omega)
    have hA : A3 = some ⟨g, 0, none⟩ := by injection hv
    subst hA
    clear hv
    have HOW := Lib.hid ho6; clear ho6
    obtain ⟨old, hold⟩ : ∃ old, w6.cell? ⟨g, z, none⟩ = some old := by
      rw [HOW.out.cellAt z (by omega)]
      exact ⟨_, List.getElem?_eq_getElem (by rw [HOW.out.1]; omega)⟩
    have hfr := HOW.out.frozenAt z
    have hst := HOW.out.stored z (.int .u8 (q : Int))
    have hcst : Cur (w6.setCell ⟨g, z, none⟩ (.int .u8 (q : Int))) w.heap.size code := hcc6.set (by simp; omega) _
    have hgst : Below w.heap.size w (w6.setCell ⟨g, z, none⟩ (.int .u8 (q : Int))) := bel_set g6 (by simp; omega) _
    have hrd : OwnB (w6.setCell ⟨g, z, none⟩ (.int .u8 (q : Int))) w2.heap.size 5 (.slice (some ⟨g, 0, none⟩) bs.length c3) (bs.set z (UInt8.ofNat q)) := by
      have h1 := hst.1
      have h2 : ((bs.map bv).set z (.int .u8 (q : Int))) = (bs.set z (UInt8.ofNat q)).map bv := by
        rw [List.map_set]
        unfold bv
        rw [ofNat_mod, Int.emod_eq_of_lt (by omega) (by omega)]
      rw [h2] at h1
      unfold OwnB
      rw [List.length_set]
      exact h1
    have HST := Lib.hid hst; clear hst
    have HRD := Lib.hid hrd; clear hrd
    have hsz : w2.heap.size ≤ w6.heap.size := by omega
    go_wp2_with fail
    refine (l1At_any w.heap.size code _ bs.length c3 _ hcst (by omega)).mono ?_
    rintro e w7 ⟨i, hi, rfl, hcc7, hg7⟩
    go_wp2
    go_ret2
    have ho7 := HRD.out.kept_ hg7 fun j hj => by have := own_lt HRD.out j hj; omega
    exact ⟨_, bs.length, c3, bs.set z (UInt8.ofNat q), i, ⟨hbl, hc3, hcm⟩, hi, rfl, ho7.rdM (by simp), hgst.trans (below_grown' hg7 (Nat.le_refl _) (by simp; omega))⟩
  · by_cases hy1 : y = 1
    · subst hy1
      go_wp2_with fail
      refine (l1Below_any w.heap.size code _ _ hcc4 (by omega)).mono ?_
      rintro e w5 ⟨z, hz, rfl, hcc5, hg5⟩
      have hzl : z < bs.length := by omega
      have ho5 : OwnB w5 w2.heap.size 5 (.slice A3 bs.length c3) bs := ho4.kept_ hg5 fun j hj => by have := own_lt ho4 j hj; omega
      have g5 : Below w.heap.size w w5 := g4.trans (below_grown' hg5 (Nat.le_refl _) (by omega))
      have hs5 := hg5.size
      clear hg5 ho4 g4 hcc4
      go_wp2_with fail
      refine (l1At_any w.heap.size code _ z c3 _ hcc5 (by omega)).mono ?_
      rintro e w7 ⟨i, hi, rfl, hcc7, hg7⟩
      go_wp2
      go_ret2
      have ho7 : OwnB w7 w2.heap.size 5 (.slice A3 bs.length c3) bs := ho5.kept_ hg7 fun j hj => by have := own_lt ho5 j hj; omega
      exact ⟨_, z, c3, bs.take z, i, ⟨by omega, by omega, hcm⟩, hi, rfl, ⟨Nat.le_refl _, RdB.front (Rd.of_own ho7 : RdB w7 _ _ bs.length bs) z (by omega)⟩, g5.trans (below_grown' hg7 (Nat.le_refl _) (by omega))⟩
    · go_wp2_with fail
      refine (l1At_any w.heap.size code _ bs.length c3 _ hcc4 (by omega)).mono ?_
      rintro e w7 ⟨i, hi, rfl, hcc7, hg7⟩
      go_wp2
      go_ret2
      have ho7 : OwnB w7 w2.heap.size 5 (.slice A3 bs.length c3) bs := ho4.kept_ hg7 fun j hj => by have := own_lt ho4 j hj; omega
      exact ⟨_, bs.length, c3, bs, i, ⟨hbl, hc3, hcm⟩, hi, rfl, ⟨Nat.le_refl _, (Rd.of_own ho7 : RdB _ _ _ _ _)⟩, g4.trans (below_grown' hg7 (Nat.le_refl _) (by omega))⟩
end Go.Proofs.YtemaofcbgmdifaaDoor
