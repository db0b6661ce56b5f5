/- Conditions and binds that are drawn; a condition that is drawn. No condition but lengths. -/
import Derived.Test.YtgpinhamgdganaaDoorDraw8
import Derived.Test.YtgpinhamgdganaaDoorCondS
namespace Go.Proofs.YtgpinhamgdganaaDoor
open Go.RowKit
set_option maxRecDepth 100000
set_option maxHeartbeats 4000000
def smallC (c : Cd) : Prop := c.l.s.size ≤ 30 ∧ c.l.v.s.size ≤ 30 ∧ c.r.s.size ≤ 30 ∧ c.r.v.s.size ≤ 30
theorem DrawHoldAll_any (A : Option Addr) (n c : Nat) (code : List UInt8) (w : World) (B : Nat) (hr : RdB w B A n code) (hB : B ≤ w.heap.size) (hn : n ≤ 70368744177664) :
    Calls Tryd.prog 8 #[.slice A n c] w fun e w' => ∃ (A0 : Option Addr) (c0 : Nat) (cs : List Cd) (A1 : Option Addr) (c1 : Nat) (l : List Bd),
      (cs.length ≤ 2 ∧ ∀ b ∈ cs, smallC b) ∧ (l.length ≤ 2 ∧ ∀ b ∈ l, b.s.size ≤ 30 ∧ b.v.s.size ≤ 30) ∧ e = .returned (.tuple #[.slice A0 cs.length c0, .slice A1 l.length c1]) ∧ (RdS cC 11 w' w'.heap.size A0 cs.length cs ∧ RdS bC 4 w' w'.heap.size A1 l.length l) ∧ Below w.heap.size w w' := by
  obtain ⟨i0, hi, hz0, hz1, hz2⟩ := info_parts infoCond
  have HI := Lib.hid hi; clear hi
  go_enter Tryd.func8, Tryd.ntmps8
  go_wp2_with fail
  refine (l1New_any A n c code _ B hr hB hn).mono ?_
  rintro e w1 ⟨rfl, hc1, hb1⟩
  have hl1 := hc1.lt
  have hlit : OwnT cC 11 (w1.alloc (.cells #[] 34)) w1.heap.size 34 (.slice (some ⟨w1.heap.size, 0, none⟩) 0 0) [] := lit0 w1 34
  go_wp2_with fail
  refine (l1Below_any w.heap.size code 3 _ (hc1.alloc _) (by omega)).mono ?_
  rintro e w2 ⟨x, hx, rfl, hc2, hg2⟩
  have ho2 := hlit.grownG hg2 hl1
  have hg2' := (World.grownBy_alloc w1 (.cells #[] 34) (some w.heap.size)).trans hg2
  clear hg2 hlit
  go_wp2
  go_loopw [5, 6] (fun u i wr => ∃ (j : Nat) (acc : List Cd), i = .int .i64 j ∧ acc.length + j ≤ 2 ∧ (∀ b ∈ acc, smallC b) ∧ OwnT cC 11 wr w1.heap.size 34 u acc ∧ Cur wr w.heap.size code ∧ w1.grownBy wr (some w.heap.size)) (fun _ i _ => (intOf i).toNat)
  case atStart => exact ⟨x, [], rfl, by simp; omega, fun b h => absurd h List.not_mem_nil, ho2, hc2, hg2'⟩
  case round =>
    obtain ⟨j, acc, rfl, hj, hz, ho, hck, hgk⟩ := hrel
    have HZ := Lib.hid hz; clear hz
    obtain ⟨Au, cu, rfl, hcu, _⟩ := ho.form
    have hlk := hck.lt
    have hsk := hgk.size
    by_cases h0 : 0 < j
    · have hj0 : (0:Int) < (j:Int) := by omega
      go_wp2_with fail
      refine (l7Any_any w.heap.size code _ hck).mono ?_
      rintro e w3 ⟨op, lk, ls, lvk, lvn, lvs, rk, rs, rvk, rvn, rvs, hzs, rfl, hc3, hg3⟩
      have ho3 := ho.grownG hg3 hl1
      have hg3' := World.grownBy.trans hgk hg3
      have hs3 := hg3'.size
      clear hg3
      go_wp2_with (at_builtin; refine appT rfl (.tmp 16) (.tmp 19) _ rfl cC_sz w1.heap.size 34 i0 Tryd.underlying24 HI.out hz0 hz1 hz2 rfl (by omega) _ acc rfl (ho3.alloc _) _ 1 1 [⟨op, ⟨lk, ls, ⟨lvk, lvn, lvs⟩⟩, ⟨rk, rs, ⟨rvk, rvn, rvs⟩⟩⟩] rfl (RdT.new1 cC_sz w3 34 ⟨op, ⟨lk, ls, ⟨lvk, lvn, lvs⟩⟩, ⟨rk, rs, ⟨rvk, rvn, rvs⟩⟩⟩) (by intro u hu; simp [fl, cC] at hu; rcases hu with rfl | rfl | rfl | rfl | rfl | rfl | rfl | rfl | rfl | rfl | rfl <;> rfl) (by omega) (by simp; omega) ?_; intro v' w4 ho4 hb4 hs4)
      have hc4 := Cur.below' (hc3.alloc (.cells #[.int .i64 op, .int .i64 lk, .string ls, .int .i64 lvk, .int .i64 lvn, .string lvs, .int .i64 rk, .string rs, .int .i64 rvk, .int .i64 rvn, .string rvs] 34)) hb4 hl1
      have hg4 := gr_bel (gr_alloc hg3' (.cells #[.int .i64 op, .int .i64 lk, .string ls, .int .i64 lvk, .int .i64 lvn, .string lvs, .int .i64 rk, .string rs, .int .i64 rvk, .int .i64 rvn, .string rvs] 34)) hb4 (Nat.le_refl _)
      go_roundw
      case rel => exact ⟨j - 1, acc ++ [⟨op, ⟨lk, ls, ⟨lvk, lvn, lvs⟩⟩, ⟨rk, rs, ⟨rvk, rvn, rvs⟩⟩⟩], by go_num, by rw [List.length_append]; simp; omega, fun b hb => (by rcases List.mem_append.1 hb with h | h; exact HZ.out b h; rw [List.mem_singleton] at h; rw [h]; exact hzs), ho4, hc4, hg4⟩
      case measure => simp [intOf]; omega
    · go_wp2_with fail
      refine (l6Binds_any w.heap.size code _ hck).mono ?_
      rintro e w5 ⟨A1, c1, l, hll, hlz, rfl, ho5, hc5, hg5⟩
      have ho6 := ho.grownG hg5 hl1
      have hb6 : Below w.heap.size w w5 := (hb1.trans (below_grown' hgk (by omega) (by omega))).trans (below_grown' hg5 (by omega) (by omega))
      go_wp2
      refine bodyPost_ret (v := .tuple #[.slice Au acc.length cu, .slice A1 l.length c1]) (by simp [results, Tryd.results8, go_sem]; try rfl) rfl ⟨Au, cu, acc, A1, c1, l, ⟨by omega, HZ.out⟩, ⟨hll, hlz⟩, rfl, ⟨ho6.rdO, ho5.rdO⟩, hb6⟩
theorem DrawCondText_any (A : Option Addr) (n c : Nat) (code : List UInt8) (w : World) (B : Nat) (hr : RdB w B A n code) (hB : B ≤ w.heap.size) (hn : n ≤ 70368744177664) :
    Calls Tryd.prog 10 #[.slice A n c] w fun e w' => ∃ (op lk : Int) (ls : ByteArray) (lvk lvn : Int) (lvs : ByteArray) (rk : Int) (rs : ByteArray) (rvk rvn : Int) (rvs : ByteArray), (ls.size ≤ 30 ∧ lvs.size ≤ 30 ∧ rs.size ≤ 30 ∧ rvs.size ≤ 30) ∧ e = .returned (.agg #[.int .i64 op, .int .i64 lk, .string ls, .int .i64 lvk, .int .i64 lvn, .string lvs, .int .i64 rk, .string rs, .int .i64 rvk, .int .i64 rvn, .string rvs]) ∧ Below w.heap.size w w' := by
  have HZ := Blk.new w 34 #[.int .i64 0, .int .i64 0, .string ⟨#[]⟩, .int .i64 0, .int .i64 0, .string ⟨#[]⟩, .int .i64 0, .string ⟨#[]⟩, .int .i64 0, .int .i64 0, .string ⟨#[]⟩]
  have hr3 : RdY (w.alloc (.cells #[.int .i64 0, .int .i64 0, .string ⟨#[]⟩, .int .i64 0, .int .i64 0, .string ⟨#[]⟩, .int .i64 0, .string ⟨#[]⟩, .int .i64 0, .int .i64 0, .string ⟨#[]⟩] 34)) B A n code := RdY.alloc ⟨hB, hr⟩ _
  have g0 : Below w.heap.size w (w.alloc (.cells #[.int .i64 0, .int .i64 0, .string ⟨#[]⟩, .int .i64 0, .int .i64 0, .string ⟨#[]⟩, .int .i64 0, .string ⟨#[]⟩, .int .i64 0, .int .i64 0, .string ⟨#[]⟩] 34)) := bel_alloc (bel_refl w) _
  go_enter Tryd.func10, Tryd.ntmps10
  go_wp2_with fail
  refine (l1New_any A n c code _ B hr3.b hr3.le hn).mono ?_
  rintro e w1 ⟨rfl, hc1, hb1⟩
  replace HZ := HZ.kept hb1
  simp at hc1
  have hl1 := hc1.lt
  have g1 : Below w.heap.size w w1 := bel_trans g0 hb1
  clear hb1 g0 hr3
  go_wp2_with fail
  refine (l7Any_any (w.heap.size + 1) code _ hc1).mono ?_
  rintro e w2 ⟨op, lk, ls, lvk, lvn, lvs, rk, rs, rvk, rvn, rvs, hz, rfl, hc2, hg2⟩
  replace HZ := HZ.grown hg2 (by omega)
  replace g1 := g1.trans (below_grown' hg2 (by omega) (by omega))
  clear hg2 hc2 hc1
  go_wp2_with ((with_reducible show wpList _ _ _ (Oper.mk none (Op.store _ _ _) _ _ _ _ :: _) _ _); refine wpList_store_at (by rfl) 34 (.tmp 2) (.tmp 7) (by rfl) _ [] [.int .i64 0, .int .i64 0, .string ⟨#[]⟩, .int .i64 0, .int .i64 0, .string ⟨#[]⟩, .int .i64 0, .string ⟨#[]⟩, .int .i64 0, .int .i64 0, .string ⟨#[]⟩] [] [.int .i64 op, .int .i64 lk, .string ls, .int .i64 lvk, .int .i64 lvn, .string lvs, .int .i64 rk, .string rs, .int .i64 rvk, .int .i64 rvn, .string rvs] (by rfl) (by rfl) HZ (by rfl) (by kernel_rfl) (by simp [Value.oneCell']) (fun W => Below w.heap.size w W) (fun W o v h => bel_set h (by simp) v) g1 ?_; intro W' hres hpr)
  exact ret_row (cs := [.int .i64 op, .int .i64 lk, .string ls, .int .i64 lvk, .int .i64 lvn, .string lvs, .int .i64 rk, .string rs, .int .i64 rvk, .int .i64 rvn, .string rvs]) (by rfl) (by rfl) (Blk.range_at 0 hres (fun j v h => by simpa using h)) Tryd.underlying34 (by rfl) (by kernel_rfl) (by rfl) ⟨op, lk, ls, lvk, lvn, lvs, rk, rs, rvk, rvn, rvs, hz, rfl, hpr⟩
end Go.Proofs.YtgpinhamgdganaaDoor
