import Derived.Test.YtcbbefibebkfgaaGreatDoorOwn
import Derived.Test.YtcbbefibebkfgaaGreatDoorChecked
import Derived.Test.YtcbbefibebkfgaaGreatDoorPkVals
import Derived.Test.YtcbbefibebkfgaaGreatDoorLit
import Derived.Test.YtcbbefibebkfgaaGreatDoorBy
import Derived.Test.YtcbbefibebkfgaaGreatDoorPkDraw13
import Derived.Test.YtcbbefibebkfgaaGreatDoorPkPutFact
import Derived.Test.YtcbbefibebkfgaaGreatDoorPkPlainSplit
/- The laws' own helpers: is the input too big; a byte of the input or a number in its place. No condition but lengths. -/
namespace Go.Proofs.YtcbbefibebkfgaaGreatDoor
open Go.RowKit
set_option maxRecDepth 100000
set_option maxHeartbeats 2000000

theorem big_any (A : Option Addr) (n c : Nat) (w : World) :
    Calls Tryz.prog 5 #[.slice A n c] w fun e w' => e = .returned (.bool (decide ((1048576 : Int) < n))) ∧ w = w' := by
  go_enter Tryz.func5, Tryz.ntmps5
  go_wp2
  go_ret
  exact ⟨rfl, rfl⟩
def atN (code : List UInt8) (i : Nat) : Nat := match code[i]? with | some b => b.toNat | none => (i * 31 + code.length * 7) % 256
theorem atN_le (code : List UInt8) (i : Nat) : atN code i ≤ 255 := by
  unfold atN
  split
  · exact byte_le _
  · omega
theorem RdB.front {w : World} {B n : Nat} {A : Option Addr} {bs : List UInt8} (h : RdB w B A n bs) (k : Nat) (hk : k ≤ n) : RdB w B A k (bs.take k) := by
  have hl := h.len
  refine ⟨by simp; omega, fun h0 => ?_⟩
  obtain ⟨b, o, rfl, hb, hc⟩ := h.2 (by omega)
  refine ⟨b, o, rfl, hb, fun j u hu => hc j u ?_⟩
  rw [List.map_take, List.getElem?_take] at hu
  split at hu
  · exact hu
  · cases hu
end Go.Proofs.YtcbbefibebkfgaaGreatDoor

/- A text that is drawn to be read as a value; bytes that are drawn to be read. No condition but lengths. -/
namespace Go.Proofs.YtcbbefibebkfgaaGreatDoor
open Go.RowKit
set_option maxRecDepth 100000
set_option maxHeartbeats 4000000
theorem valText_len (v : Vl) : (valText v).size ≤ 30 := by
  unfold valText
  cases h : valOk v
  · exact Nat.zero_le _
  · exact rawText_len2 h
theorem l1At_any (g : Nat) (code : List UInt8) (A : Option Addr) (n c : Nat) (w : World) (hc : Cur w g code) (hn : n ≤ 1000000) :
    Calls Tryz.prog 47 #[.pointer (some ⟨g, 0, none⟩), .slice A n c] w fun e w' => ∃ x : Int, (-9223372036854775808 ≤ x ∧ x ≤ 9223372036854775807) ∧ e = .returned (.int .i64 x) ∧ Cur w' g code ∧ w.grownBy w' (some g) := by
  have hlt0 := hc.lt
  go_enter Tryz.func47, Tryz.ntmps47
  go_wp2_with fail
  refine (l1Below_any _ code _ _ hc (by omega)).mono ?_
  rintro e w3 ⟨y, hy, rfl, hc3, hg3⟩
  have hy2 : y ≤ 1000001 := by omega
  have hs3 := hg3.size
  have hlt := hc3.lt
  go_wp2_with fail
  refine (l1Int_any _ code _ 7 7 [0, 0, 0, (n : Int), (y : Int), -1, 9223372036854775807] _ _ (hc3.below ((Below.refl _ _).alloc (Nat.le_refl _) _)) (Rd.lit w3 3 _ 7 rfl) (by omega) (by omega) (fun b o e => by injection e with e; injection e with e1; omega)).mono ?_
  rintro e w4 ⟨x, hx, rfl, hc4, hg4⟩
  have hxb : -9223372036854775808 ≤ x ∧ x ≤ 9223372036854775807 := by
    simp only [List.mem_cons, List.not_mem_nil, or_false] at hx
    omega
  clear hx
  go_wp2
  go_ret
  exact ⟨x, hxb, rfl, hc4, (hg3.trans (World.grownBy_alloc w3 _ _)).trans hg4⟩
theorem putN_ne (x : Int) : 0 < (putN x).length := by
  unfold putN numB
  split <;> simp
theorem putV_ne (v : Vl) : 0 < (putV v).length := by
  unfold putV
  have := putN_ne v.k
  rw [List.length_append]
  omega
end Go.Proofs.YtcbbefibebkfgaaGreatDoor

/- A fact that is drawn with bytes; a text that is drawn to be read as a fact; bytes that are drawn to be read as one. No condition but lengths. -/
namespace Go.Proofs.YtcbbefibebkfgaaGreatDoor
open Go.RowKit
set_option maxRecDepth 100000
set_option maxHeartbeats 4000000
theorem sumF_bound {α : Type} (f : α → Nat) (M : Nat) : ∀ l : List α, (∀ x ∈ l, f x ≤ M) → sumF f l ≤ l.length * M
  | [], _ => by simp [sumF]
  | a :: l, h => by
    have e : sumF f (a :: l) = f a + sumF f l := by simp [sumF]
    have := sumF_bound f M l fun x hx => h x (List.mem_cons_of_mem _ hx)
    have := h a (List.mem_cons_self ..)
    rw [e, List.length_cons, Nat.succ_mul]
    omega
theorem totF_small {f : Ft} (h1 : f.kd.size ≤ 30) (h2 : f.fs.length ≤ 7) (h3 : ∀ x ∈ f.fs, x.s.size ≤ 30) : totF f ≤ 400 := by
  have := sumF_bound szOf 30 f.fs (fun x hx => by unfold szOf; exact h3 x hx)
  unfold totF totV
  omega
theorem putF_small {f : Ft} (h1 : f.kd.size ≤ 30) (h2 : f.fs.length ≤ 7) (h3 : ∀ x ∈ f.fs, x.s.size ≤ 30) : (putF f).length ≤ 400 := by
  have h4 := putVs_len f.fs
  have h5 := putN_len f.kd.size
  have h6 := putN_len f.fs.length
  have h7 : f.kd.data.toList.length = f.kd.size := by rw [size_data]
  have := sumF_bound szOf 30 f.fs (fun x hx => by unfold szOf; exact h3 x hx)
  unfold putF
  simp only [List.length_append]
  omega
theorem putF_ne (f : Ft) : 0 < (putF f).length := by
  unfold putF
  have := putN_ne (f.kd.size : Int)
  simp only [List.length_append]
  omega
theorem factText_len (f : Ft) : (factText f).size ≤ 200 := by
  cases h : factOk f
  · unfold factText
    rw [h]
    exact Nat.zero_le _
  · exact factText_size h
theorem DrawPutFact_any (A : Option Addr) (n c : Nat) (code : List UInt8) (w : World) (B : Nat) (hr : RdB w B A n code) (hB : B ≤ w.heap.size) (hn : n ≤ 70368744177664) :
    Calls Tryz.prog 6 #[.slice A n c] w fun e w' => ∃ (A2 : Option Addr) (c2 : Nat) (bs : List UInt8) (kd : ByteArray) (A3 : Option Addr) (c3 : Nat) (fs : List Vl), (bs.length ≤ 9 ∧ bs.length ≤ c2) ∧ (kd.size ≤ 30 ∧ fs.length ≤ 7 ∧ ∀ x ∈ fs, x.s.size ≤ 30) ∧ e = .returned (.tuple #[.slice A2 bs.length c2, .agg #[.string kd, .slice A3 fs.length c3]]) ∧ RdY w' w'.heap.size A2 bs.length bs ∧ RdS vC 3 w' w'.heap.size A3 fs.length fs ∧ Below w.heap.size w w' := by
  have HZ := Blk.new w 26 #[.string ⟨#[]⟩, .slice none 0 0]
  have hr3 : RdY (w.alloc (.cells #[.string ⟨#[]⟩, .slice none 0 0] 26)) B A n code := RdY.alloc ⟨hB, hr⟩ _
  have g0 : Below w.heap.size w (w.alloc (.cells #[.string ⟨#[]⟩, .slice none 0 0] 26)) := bel_alloc (bel_refl w) _
  go_enter Tryz.func6, Tryz.ntmps6
  go_wp2_with fail
  refine (l1New_any A n c code _ B hr3.b hr3.le hn).mono ?_
  rintro e w1 ⟨rfl, hc1, hb1⟩
  replace HZ := HZ.kept hb1
  simp at hc1
  have hl1 := hc1.lt
  have g1 : Below w.heap.size w w1 := bel_trans g0 hb1
  clear hb1 g0 hr3
  go_wp2_with fail
  refine (l1Some_any (w.heap.size + 1) code _ hc1).mono ?_
  rintro e w2 ⟨v2, bs, rfl, hbl, ho, hc2, hg2⟩
  replace HZ := HZ.grown hg2 (by omega)
  replace g1 := g1.trans (below_grown' hg2 (by omega) (by omega))
  have hs2 := hg2.size
  obtain ⟨A2, c2, rfl, hcc2, _⟩ := ho.form
  go_wp2_with fail
  refine (l3Any_any (w.heap.size + 1) code _ hc2).mono ?_
  rintro e w3 ⟨kd, A3, c3, fs, hkd, hfl, hfs, rfl, hof, hc3, hg3⟩
  have HFS := Lib.hid hfs; clear hfs
  replace HZ := HZ.grown hg3 (by omega)
  replace g1 := g1.trans (below_grown' hg3 (by omega) (by omega))
  have ho3 : OwnB w3 w1.heap.size 5 (.slice A2 bs.length c2) bs := ho.kept_ hg3 fun j hj => by have := own_lt ho j hj; omega
  have hs3 := hg3.size
  obtain ⟨y0, y1, f0, f1⟩ := HZ.two
  have hzl := HZ.lt
  clear hg2 hg3 hc2 hc3 ho
  go_wp2
  refine bodyPost_ret (v := .tuple #[.slice A2 bs.length c2, .agg #[.string kd, .slice A3 fs.length c3]]) (by simp [results, Tryz.results6, go_sem, y0, y1]; try rfl) rfl ⟨A2, c2, bs, kd, A3, c3, fs, ⟨hbl, hcc2⟩, ⟨hkd, hfl, HFS.out⟩, rfl, ?_, ?_, ?_⟩
  · have h4 := (ho3.low_ (p := ⟨w.heap.size, 0, none⟩) (by simp; omega) (.string kd)).low_ (p := ⟨w.heap.size, 1, none⟩) (by simp; omega) (.slice A3 fs.length c3)
    exact ⟨Nat.le_refl _, (Rd.of_own h4 : RdB _ _ _ _ _)⟩
  · exact OwnT.rdO ((hof.low (by simp; omega) _).low (by simp; omega) _)
  · exact bel_set (bel_set g1 (by simp) _) (by simp) _
theorem DrawParseFact_any (A : Option Addr) (n c : Nat) (code : List UInt8) (w : World) (B : Nat) (hr : RdB w B A n code) (hB : B ≤ w.heap.size) (hn : n ≤ 70368744177664) :
    Calls Tryz.prog 14 #[.slice A n c] w fun e w' => ∃ s : ByteArray, s.size ≤ 200 ∧ e = .returned (.string s) ∧ Below w.heap.size w w' := by
  go_enter Tryz.func14, Tryz.ntmps14
  go_wp2_with fail
  refine (l1New_any A n c code w B hr hB hn).mono ?_
  rintro e w1 ⟨rfl, hc1, hb1⟩
  have hl1 := hc1.lt
  have hs1 := hb1.size
  go_wp2_with fail
  refine (l3Draw_any w.heap.size code _ hc1).mono ?_
  rintro e w2 ⟨kd, A3, c3, fs, hkd, hfl, hfs, rfl, ho3, hc2, hg2⟩
  have HFS := Lib.hid (show ∀ x ∈ fs, x.s.size ≤ 9223372036854775807 from fun x hx => by have := hfs x hx; omega); clear hfs
  have hs2 := hg2.size
  have g2 : Below w.heap.size w w2 := hb1.trans (below_grown' hg2 (Nat.le_refl _) hs1)
  clear hg2 hc1
  go_wp2_with fail
  refine (specFactText_any kd A3 _ c3 fs _ _ ho3.rdO (by omega) (by omega) HFS.out).mono ?_
  have htl := factText_len ⟨kd, fs⟩
  obtain ⟨tx, htx⟩ : ∃ tx, factText ⟨kd, fs⟩ = tx := ⟨_, rfl⟩
  rw [htx] at htl ⊢
  rintro e w3 ⟨rfl, hb3⟩
  have hcc3 := hc2.below hb3
  have g3 := bel_trans g2 hb3
  have hs3 := hb3.size
  clear htx hb3 hc2 ho3 g2
  go_wp2_with fail
  refine (l1Below_any w.heap.size code 5 _ hcc3 (by omega)).mono ?_
  rintro e w4 ⟨x, hx, rfl, hc4, hg4⟩
  have hs4 := hg4.size
  have hl4 := hc4.lt
  have g4 := g3.trans (below_grown' hg4 (Nat.le_refl _) (by omega))
  clear hg4 g3 hcc3
  by_cases b0 : x = 0
  · subst b0
    go_wp2_with fail
    refine (l1Str_any w.heap.size code _ 12 12 [⟨#[]⟩, ⟨#[97]⟩, ⟨#[97, 40]⟩, ⟨#[97, 41]⟩, ⟨#[97, 40, 41]⟩, ⟨#[97, 40, 49, 44, 41]⟩, ⟨#[97, 40, 49, 41, 40]⟩, ⟨#[65, 40, 49, 41]⟩, ⟨#[97, 40, 49, 32, 41]⟩, ⟨#[97, 40, 39, 120, 39, 44, 39, 121, 39, 41]⟩, ⟨#[97, 40, 48, 49, 41]⟩, ⟨#[40, 41]⟩] _ _ (hc4.alloc _) (Rd.lit w4 9 _ 12 rfl) (by omega) (by omega) (ne_lit hl4)).mono ?_
    rintro e w5 ⟨s, hs, rfl, hc5, hg5⟩
    have hss : s.size ≤ 200 := by
      simp only [List.mem_cons, List.not_mem_nil, or_false] at hs
      rcases hs with rfl | rfl | rfl | rfl | rfl | rfl | rfl | rfl | rfl | rfl | rfl | rfl <;> decide
    clear hs
    have hg45 := (World.grownBy_alloc w4 (.cells (([⟨#[]⟩, ⟨#[97]⟩, ⟨#[97, 40]⟩, ⟨#[97, 41]⟩, ⟨#[97, 40, 41]⟩, ⟨#[97, 40, 49, 44, 41]⟩, ⟨#[97, 40, 49, 41, 40]⟩, ⟨#[65, 40, 49, 41]⟩, ⟨#[97, 40, 49, 32, 41]⟩, ⟨#[97, 40, 39, 120, 39, 44, 39, 121, 39, 41]⟩, ⟨#[97, 40, 48, 49, 41]⟩, ⟨#[40, 41]⟩] : List ByteArray).map Value.string).toArray 9) (some w.heap.size)).trans hg5
    go_wp2
    go_ret
    exact ⟨_, hss, rfl, g4.trans (below_grown' hg45 (Nat.le_refl _) (by omega))⟩
  have q0 : ((x : Int) == 0) = false := by simp; omega
  by_cases b1 : x = 1
  · subst b1
    go_wp2_with fail
    refine (l1Below_any w.heap.size code ((tx.size : Int) + 1) _ hc4 (by omega)).mono ?_
    rintro e w5 ⟨y, hy, rfl, hc5, hg5⟩
    have hyt : y ≤ tx.size := by omega
    have hyi : (y : Int) ≤ (tx.size : Int) := by omega
    go_wp2
    go_ret
    exact ⟨_, by rw [ByteArray.size_extract]; omega, rfl, g4.trans (below_grown' hg5 (Nat.le_refl _) (by omega))⟩
  have q1 : ((x : Int) == 1) = false := by simp; omega
  go_wp2
  go_ret
  exact ⟨_, htl, rfl, g4⟩
theorem DrawGetFact_any (A : Option Addr) (n c : Nat) (code : List UInt8) (w : World) (B : Nat) (hr : RdB w B A n code) (hB : B ≤ w.heap.size) (hn : n ≤ 70368744177664) :
    Calls Tryz.prog 16 #[.slice A n c] w fun e w' => ∃ (A2 : Option Addr) (n2 c2 : Nat) (bs : List UInt8) (i : Int), (n2 ≤ 1000 ∧ n2 ≤ c2 ∧ c2 ≤ maxLen) ∧ (-9223372036854775808 ≤ i ∧ i ≤ 9223372036854775807) ∧ e = .returned (.tuple #[.slice A2 n2 c2, .int .i64 i]) ∧ RdY w' w'.heap.size A2 n2 bs ∧ Below w.heap.size w w' := by
  go_enter Tryz.func16, Tryz.ntmps16
  go_wp2_with fail
  refine (l1New_any A n c code w B hr hB hn).mono ?_
  rintro e w1 ⟨rfl, hc1, hb1⟩
  have hl1 := hc1.lt
  have hs1 := hb1.size
  go_wp2_with fail
  refine (l3Draw_any w.heap.size code _ (hc1.below (bel_alloc (bel_refl _) _))).mono ?_
  rintro e w2 ⟨kd, A3, c3f, fs, hkd, hfl, hfs, rfl, ho3, hc2, hg2⟩
  have hs2 := hg2.size
  simp at hs2
  have g2 : Below w.heap.size w w2 := (bel_alloc hb1 _).trans (below_grown' hg2 (Nat.le_refl _) (by simp; omega))
  have hpl := putF_small (f := ⟨kd, fs⟩) hkd (by show fs.length ≤ 7; omega) hfs
  have hpn := putF_ne ⟨kd, fs⟩
  have HTF := Lib.hid (totF_small (f := ⟨kd, fs⟩) hkd (by show fs.length ≤ 7; omega) hfs)
  have hl2 := hc2.lt
  clear hb1 hg2 hc1
  go_wp2_with fail
  refine (specPutFact_any _ 0 _ [] kd A3 _ c3f fs _ w2.heap.size _ (RdB.nil_ _ _ _) (Nat.le_refl _) ho3.rdO (by omega) (by have := HTF.out; omega)).mono ?_
  rw [List.nil_append]
  obtain ⟨bs, hbs⟩ : ∃ bs, putF ⟨kd, fs⟩ = bs := ⟨_, rfl⟩
  rw [hbs] at hpl hpn ⊢
  have hbl : bs.length ≤ 1000 := by omega
  clear hbs hpl ho3
  rintro e w3 ⟨v3, rfl, ho, hb3, hs3⟩
  obtain ⟨A3, c3, rfl, hc3, hcm⟩ := own_slice ho
  have g3 : Below w.heap.size w w3 := g2.trans (hb3.mono (by omega))
  have hcc3 := hc2.below hb3
  clear hb3 hc2 g2
  go_wp2_with fail
  refine (l1Below_any w.heap.size code _ _ hcc3 (by omega)).mono ?_
  rintro e w4 ⟨y, hy, rfl, hcc4, hg4⟩
  have ho4 : OwnB w4 w2.heap.size 5 (.slice A3 bs.length c3) bs := ho.kept_ hg4 fun j hj => by have := own_lt ho j hj; omega
  have g4 : Below w.heap.size w w4 := g3.trans (below_grown' hg4 (Nat.le_refl _) (by omega))
  have hs4 := hg4.size
  clear hg4 ho g3 hcc3
  by_cases hy0 : y = 0
  · subst hy0
    go_wp2_with fail
    refine (l1Below_any w.heap.size code _ _ hcc4 (by omega)).mono ?_
    rintro e w5 ⟨z, hz, rfl, hcc5, hg5⟩
    have hzl : z < bs.length := by omega
    have ho5 : OwnB w5 w2.heap.size 5 (.slice A3 bs.length c3) bs := ho4.kept_ hg5 fun j hj => by have := own_lt ho4 j hj; omega
    have g5 : Below w.heap.size w w5 := g4.trans (below_grown' hg5 (Nat.le_refl _) (by omega))
    have hs5 := hg5.size
    have hl5 := hcc5.lt
    clear hg5 ho4 g4 hcc4
    go_wp2_with fail
    refine (l1Int_any w.heap.size code _ 6 6 [0, 1, 2, 4, 97, 128] _ _ (hcc5.below ((Below.refl _ _).alloc (Nat.le_refl _) _)) (Rd.lit w5 3 _ 6 rfl) (by omega) (by omega) (fun b o e => by injection e with e; injection e with e1; omega)).mono ?_
    rintro e w6 ⟨x, hx, rfl, hcc6, hg6⟩
    obtain ⟨q, rfl, hq⟩ : ∃ q : Nat, x = (q : Int) ∧ q ≤ 128 := by
      simp only [List.mem_cons, List.not_mem_nil, or_false] at hx
      exact ⟨x.toNat, by omega, by omega⟩
    clear hx
    have ho6 : OwnB w6 w2.heap.size 5 (.slice A3 bs.length c3) bs := (ho5.alloc _).kept_ hg6 fun j hj => by have := own_lt ho5 j hj; omega
    have g6 : Below w.heap.size w w6 := (bel_alloc g5 _).trans (below_grown' hg6 (Nat.le_refl _) (by simp; omega))
    have hs6 := hg6.size
    simp at hs6
    clear hg6 ho5 g5 hcc5
    obtain ⟨g, cap, hv, hbg, hglt⟩ := World.ownsRow.form ho6 (by omega)
    have hA : A3 = some ⟨g, 0, none⟩ := by injection hv
    subst hA
    clear hv
    have HOW := Lib.hid ho6; clear ho6
    obtain ⟨old, hold⟩ : ∃ old, w6.cell? ⟨g, z, none⟩ = some old := by
      rw [HOW.out.cellAt z (by omega)]
      exact ⟨_, List.getElem?_eq_getElem (by rw [HOW.out.1]; omega)⟩
    have hfr := HOW.out.frozenAt z
    have hst := HOW.out.stored z (.int .u8 (q : Int))
    have hcst : Cur (w6.setCell ⟨g, z, none⟩ (.int .u8 (q : Int))) w.heap.size code := hcc6.set (by simp; omega) _
    have hgst : Below w.heap.size w (w6.setCell ⟨g, z, none⟩ (.int .u8 (q : Int))) := bel_set g6 (by simp; omega) _
    have hrd : OwnB (w6.setCell ⟨g, z, none⟩ (.int .u8 (q : Int))) w2.heap.size 5 (.slice (some ⟨g, 0, none⟩) bs.length c3) (bs.set z (UInt8.ofNat q)) := by
      have h1 := hst.1
      have h2 : ((bs.map bv).set z (.int .u8 (q : Int))) = (bs.set z (UInt8.ofNat q)).map bv := by
        rw [List.map_set]
        unfold bv
        rw [ofNat_mod, Int.emod_eq_of_lt (by omega) (by omega)]
      rw [h2] at h1
      unfold OwnB
      rw [List.length_set]
      exact h1
    have HST := Lib.hid hst; clear hst
    have HRD := Lib.hid hrd; clear hrd
    have hsz : w2.heap.size ≤ w6.heap.size := by omega
    go_wp2_with fail
    refine (l1At_any w.heap.size code _ bs.length c3 _ hcst (by omega)).mono ?_
    rintro e w7 ⟨i, hi, rfl, hcc7, hg7⟩
    go_wp2
    go_ret2
    have ho7 := HRD.out.kept_ hg7 fun j hj => by have := own_lt HRD.out j hj; omega
    exact ⟨_, bs.length, c3, bs.set z (UInt8.ofNat q), i, ⟨hbl, hc3, hcm⟩, hi, rfl, ho7.rdM (by simp), hgst.trans (below_grown' hg7 (Nat.le_refl _) (by simp; omega))⟩
  · by_cases hy1 : y = 1
    · subst hy1
      go_wp2_with fail
      refine (l1Below_any w.heap.size code _ _ hcc4 (by omega)).mono ?_
      rintro e w5 ⟨z, hz, rfl, hcc5, hg5⟩
      have hzl : z < bs.length := by omega
      have ho5 : OwnB w5 w2.heap.size 5 (.slice A3 bs.length c3) bs := ho4.kept_ hg5 fun j hj => by have := own_lt ho4 j hj; omega
      have g5 : Below w.heap.size w w5 := g4.trans (below_grown' hg5 (Nat.le_refl _) (by omega))
      have hs5 := hg5.size
      clear hg5 ho4 g4 hcc4
      go_wp2_with fail
      refine (l1At_any w.heap.size code _ z c3 _ hcc5 (by omega)).mono ?_
      rintro e w7 ⟨i, hi, rfl, hcc7, hg7⟩
      go_wp2
      go_ret2
      have ho7 : OwnB w7 w2.heap.size 5 (.slice A3 bs.length c3) bs := ho5.kept_ hg7 fun j hj => by have := own_lt ho5 j hj; omega
      exact ⟨_, z, c3, bs.take z, i, ⟨by omega, by omega, hcm⟩, hi, rfl, ⟨Nat.le_refl _, RdB.front (Rd.of_own ho7 : RdB w7 _ _ bs.length bs) z (by omega)⟩, g5.trans (below_grown' hg7 (Nat.le_refl _) (by omega))⟩
    · go_wp2_with fail
      refine (l1At_any w.heap.size code _ bs.length c3 _ hcc4 (by omega)).mono ?_
      rintro e w7 ⟨i, hi, rfl, hcc7, hg7⟩
      go_wp2
      go_ret2
      have ho7 : OwnB w7 w2.heap.size 5 (.slice A3 bs.length c3) bs := ho4.kept_ hg7 fun j hj => by have := own_lt ho4 j hj; omega
      exact ⟨_, bs.length, c3, bs, i, ⟨hbl, hc3, hcm⟩, hi, rfl, ⟨Nat.le_refl _, (Rd.of_own ho7 : RdB _ _ _ _ _)⟩, g4.trans (below_grown' hg7 (Nat.le_refl _) (by omega))⟩
end Go.Proofs.YtcbbefibebkfgaaGreatDoor
