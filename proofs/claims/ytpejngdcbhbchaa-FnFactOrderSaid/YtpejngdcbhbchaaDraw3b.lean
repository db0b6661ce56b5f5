/- Three drawn facts. No condition but lengths. -/
import Derived.Test.YtpejngdcbhbchaaDraw3
namespace Go.Proofs.Ytpejngdcbhbchaa
open Go.RowKit
set_option maxRecDepth 100000
set_option maxHeartbeats 4000000
theorem World.alloc_size' (w : World) (o : Obj) : (w.alloc o).heap.size = w.heap.size + 1 := by simp
theorem DrawThree_any (A : Option Addr) (n c : Nat) (code : List UInt8) (w : World) (B : Nat) (hr : RdB w B A n code) (hB : B ≤ w.heap.size) (hn : n ≤ 70368744177664) :
    Calls Try.prog 21 #[.slice A n c] w fun e w' => ∃ (k1 : ByteArray) (A1 : Option Addr) (c1 : Nat) (l1 : List Vl) (k2 : ByteArray) (A2 : Option Addr) (c2 : Nat) (l2 : List Vl) (k3 : ByteArray) (A3 : Option Addr) (c3 : Nat) (l3 : List Vl),
      (l1.length ≤ 6 ∧ l2.length ≤ 6 ∧ l3.length ≤ 6) ∧ e = .returned (.tuple #[.agg #[.string k1, .slice A1 l1.length c1], .agg #[.string k2, .slice A2 l2.length c2], .agg #[.string k3, .slice A3 l3.length c3]]) ∧ (RdS vC 3 w' w'.heap.size A1 l1.length l1 ∧ RdS vC 3 w' w'.heap.size A2 l2.length l2 ∧ RdS vC 3 w' w'.heap.size A3 l3.length l3) ∧ Below w.heap.size w w' := by
  have HZ1 := Blk.new w 31 #[.string ⟨#[]⟩, .slice none 0 0]
  have HZ2 := Blk.new (w.alloc (.cells #[.string ⟨#[]⟩, .slice none 0 0] 31)) 31 #[.string ⟨#[]⟩, .slice none 0 0]
  have HZ3 := Blk.new ((w.alloc (.cells #[.string ⟨#[]⟩, .slice none 0 0] 31)).alloc (.cells #[.string ⟨#[]⟩, .slice none 0 0] 31)) 31 #[.string ⟨#[]⟩, .slice none 0 0]
  replace HZ1 := (HZ1.alloc (.cells #[.string ⟨#[]⟩, .slice none 0 0] 31)).alloc (.cells #[.string ⟨#[]⟩, .slice none 0 0] 31)
  replace HZ2 := HZ2.alloc (.cells #[.string ⟨#[]⟩, .slice none 0 0] 31)
  have hr3 : RdY (((w.alloc (.cells #[.string ⟨#[]⟩, .slice none 0 0] 31)).alloc (.cells #[.string ⟨#[]⟩, .slice none 0 0] 31)).alloc (.cells #[.string ⟨#[]⟩, .slice none 0 0] 31)) B A n code := RdY.alloc (RdY.alloc (RdY.alloc ⟨hB, hr⟩ _) _) _
  have g0 : Below w.heap.size w (((w.alloc (.cells #[.string ⟨#[]⟩, .slice none 0 0] 31)).alloc (.cells #[.string ⟨#[]⟩, .slice none 0 0] 31)).alloc (.cells #[.string ⟨#[]⟩, .slice none 0 0] 31)) := bel_alloc (bel_alloc (bel_alloc (bel_refl w) _) _) _
  simp only [World.alloc_size'] at HZ2 HZ3
  go_enter Try.func21, Try.ntmps21
  go_wp2_with fail
  refine (l1New_any A n c code _ B hr3.b hr3.le hn).mono ?_
  rintro e w1 ⟨rfl, hc1, hb1⟩
  replace HZ1 := HZ1.kept hb1
  replace HZ2 := HZ2.kept hb1
  replace HZ3 := HZ3.kept hb1
  simp only [World.alloc_size'] at hc1
  have hl1 := hc1.lt
  have g1 : Below w.heap.size w w1 := bel_trans g0 hb1
  clear hb1 g0 hr3
  go_wp2_with fail
  refine (l3Draw_any (w.heap.size + 1 + 1 + 1) code _ hc1).mono ?_
  rintro e w2 ⟨k1, A1, c1, l1, hk1, hll1, hss1, rfl, ho1, hc2, hg2⟩
  replace HZ1 := HZ1.grown hg2 (by omega)
  replace HZ2 := HZ2.grown hg2 (by omega)
  replace HZ3 := HZ3.grown hg2 (by omega)
  have hs2 := hg2.size
  replace g1 := g1.trans (below_grown' hg2 (by omega) (by omega))
  clear hk1 hss1
  go_wp2_with fail
  refine (l3Draw_any (w.heap.size + 1 + 1 + 1) code _ hc2).mono ?_
  rintro e w3 ⟨k2, A2, c2, l2, hk2, hll2, hss2, rfl, ho2, hc3, hg3⟩
  replace HZ1 := HZ1.grown hg3 (by omega)
  replace HZ2 := HZ2.grown hg3 (by omega)
  replace HZ3 := HZ3.grown hg3 (by omega)
  replace ho1 := ho1.grownG hg3 (by omega)
  have hs3 := hg3.size
  replace g1 := g1.trans (below_grown' hg3 (by omega) (by omega))
  clear hk2 hss2
  go_wp2_with fail
  refine (l3Draw_any (w.heap.size + 1 + 1 + 1) code _ hc3).mono ?_
  rintro e w4 ⟨k3, A3, c3, l3, hk3, hll3, hss3, rfl, ho3, hc4, hg4⟩
  replace HZ1 := HZ1.grown hg4 (by omega)
  replace HZ2 := HZ2.grown hg4 (by omega)
  replace HZ3 := HZ3.grown hg4 (by omega)
  replace ho1 := ho1.grownG hg4 (by omega)
  replace ho2 := ho2.grownG hg4 (by omega)
  have hs4 := hg4.size
  replace g1 := g1.trans (below_grown' hg4 (by omega) (by omega))
  clear hk3 hss3
  obtain ⟨p0, p1, p2, p3⟩ := HZ1.two
  obtain ⟨q0, q1, q2, q3⟩ := HZ2.two
  obtain ⟨r0, r1, r2, r3⟩ := HZ3.two
  go_wp2
  refine bodyPost_ret (v := .tuple #[.agg #[.string k1, .slice A1 l1.length c1], .agg #[.string k2, .slice A2 l2.length c2], .agg #[.string k3, .slice A3 l3.length c3]]) (by simp [results, Try.results21, go_sem, p0, p1, q0, q1, r0, r1]) rfl ⟨k1, A1, c1, l1, k2, A2, c2, l2, k3, A3, c3, l3, ⟨hll1, hll2, hll3⟩, rfl, ⟨?_, ?_, ?_⟩, ?_⟩
  · exact OwnT.rdO (OwnT.low (OwnT.low (OwnT.low (OwnT.low (OwnT.low (OwnT.low ho1 (by first | (simp; done) | (simp; omega) | omega) _) (by first | (simp; done) | (simp; omega) | omega) _) (by first | (simp; done) | (simp; omega) | omega) _) (by first | (simp; done) | (simp; omega) | omega) _) (by first | (simp; done) | (simp; omega) | omega) _) (by first | (simp; done) | (simp; omega) | omega) _)
  · exact OwnT.rdO (OwnT.low (OwnT.low (OwnT.low (OwnT.low (OwnT.low (OwnT.low ho2 (by first | (simp; done) | (simp; omega) | omega) _) (by first | (simp; done) | (simp; omega) | omega) _) (by first | (simp; done) | (simp; omega) | omega) _) (by first | (simp; done) | (simp; omega) | omega) _) (by first | (simp; done) | (simp; omega) | omega) _) (by first | (simp; done) | (simp; omega) | omega) _)
  · exact OwnT.rdO (OwnT.low (OwnT.low (OwnT.low (OwnT.low (OwnT.low (OwnT.low ho3 (by first | (simp; done) | (simp; omega) | omega) _) (by first | (simp; done) | (simp; omega) | omega) _) (by first | (simp; done) | (simp; omega) | omega) _) (by first | (simp; done) | (simp; omega) | omega) _) (by first | (simp; done) | (simp; omega) | omega) _) (by first | (simp; done) | (simp; omega) | omega) _)
  · exact (bel_set (bel_set (bel_set (bel_set (bel_set (bel_set g1 (by first | (simp; done) | (simp; omega) | omega) _) (by first | (simp; done) | (simp; omega) | omega) _) (by first | (simp; done) | (simp; omega) | omega) _) (by first | (simp; done) | (simp; omega) | omega) _) (by first | (simp; done) | (simp; omega) | omega) _) (by first | (simp; done) | (simp; omega) | omega) _)
end Go.Proofs.Ytpejngdcbhbchaa
