/- More of what the drawing functions answer: a new cursor, bytes, a text's bytes. No condition but lengths. -/
import Derived.Test.YtcbbefibebkfgaaGreatDoorDraw
namespace Go.Proofs.YtcbbefibebkfgaaGreatDoor
open Go.RowKit
set_option maxRecDepth 100000
set_option maxHeartbeats 2000000

theorem infoD : (Tryz.prog.info? 5).map (fun i => (i.zero, i.size, i.bytes)) = some (some (.int .u8 0), 1, 1) := by kernel_rfl
theorem Cur.below' {w w' : World} {g B : Nat} {code : List UInt8} (h : Cur w g code) (hb : Below B w w') (hB : g < B) : Cur w' g code := by
  obtain ⟨A, n, c, i, x, h1, h2, h3, h4⟩ := h
  exact ⟨A, n, c, i, x, (hb.block g hB).trans h1, h2.below (hb.mono (by omega)), h3, h4⟩
theorem grown_below {a w w' : World} {g : Nat} (h : a.grownBy w (some g)) (hb : Below a.heap.size w w') : a.grownBy w' (some g) :=
  ⟨hb.os.trans h.os, hb.tape.trans h.tape, hb.output.trans h.output, Nat.le_trans h.size hb.size, fun k hk hne => (hb.block k hk).trans (h.block k hk hne)⟩
theorem below_grown {a w : World} {g : Nat} (h : a.grownBy w (some g)) (hg : a.heap.size ≤ g) : Below a.heap.size a w := (Below.refl _ _).grown h (Nat.le_refl _) fun k hk => by injection hk with hk; omega
theorem below_grown' {a w : World} {g B : Nat} (h : a.grownBy w (some g)) (hg : B ≤ g) (hB : B ≤ a.heap.size) : Below B a w := (Below.refl _ _).grown h hB fun k hk => by injection hk with hk; omega

theorem l1New_any (A : Option Addr) (n c : Nat) (code : List UInt8) (w : World) (B : Nat) (hr : RdB w B A n code) (hB : B ≤ w.heap.size) (hn : n ≤ 70368744177664) :
    Calls Tryz.prog 19 #[.slice A n c] w fun e w' => e = .returned (.pointer (some ⟨w.heap.size, 0, none⟩)) ∧ Cur w' w.heap.size code ∧ Below w.heap.size w w' := by
  have hl := hr.len
  have HL := Lib.hid hl; clear hl
  go_enter Tryz.func19, Tryz.ntmps19
  go_wp2
  go_loop [3, 4] (fun h i => ∃ (k : Nat) (x : Int), k ≤ n ∧ i = .int .i64 k ∧ h = .int .i64 x) (fun _ i => n - (intOf i).toNat)
  case atStart => exact ⟨0, _, by omega, rfl, rfl⟩
  case round =>
    obtain ⟨k, x, hk, rfl, rfl⟩ := hrel
    by_cases hlt : k < n
    · by_cases h4 : (k : Int) < 4000
      · obtain ⟨b, o, rfl, hb, hc⟩ := hr.at_ (by omega)
        obtain ⟨y, hy, hyb⟩ : ∃ y : Nat, w.cell? ⟨b, o + k, none⟩ = some (.int .u8 (y : Int)) ∧ y ≤ 255 := ⟨_, hc k (by rw [HL.out]; exact hlt), byte_le _⟩
        clear hc
        go_wp2
        go_round
        case rel => exact ⟨k + 1, _, by omega, by go_num, rfl⟩
        case measure => simp [intOf]; omega
      · go_wp2
        go_ret
        exact ⟨rfl, ⟨A, n, c, 0, x, heap_alloc_new _ _, (hr.more hB).below ((Below.refl _ _).alloc (Nat.le_refl _) _), hn, by omega⟩, bel_alloc (bel_refl _) _⟩
    · go_wp2
      go_ret
      exact ⟨rfl, ⟨A, n, c, 0, x, heap_alloc_new _ _, (hr.more hB).below ((Below.refl _ _).alloc (Nat.le_refl _) _), hn, by omega⟩, bel_alloc (bel_refl _) _⟩
theorem l1Bytes_any (g : Nat) (code : List UInt8) (n : Nat) (w : World) (hc : Cur w g code) (hn : n ≤ 70368744177664) :
    Calls Tryz.prog 50 #[.pointer (some ⟨g, 0, none⟩), .int .i64 n] w fun e w' => ∃ v bs, e = .returned v ∧ bs.length = n ∧ OwnB w' w.heap.size 5 v bs ∧ Cur w' g code ∧ w.grownBy w' (some g) := by
  obtain ⟨i0, hi, hz0, hz1, hz2⟩ := info_parts infoD
  have hg := hc.lt
  have HI := Lib.hid hi; clear hi
  go_enter Tryz.func50, Tryz.ntmps50
  go_wp2
  go_loopw [5, 6] (fun v i wr => ∃ (k : Nat) (bs : List UInt8), k ≤ n ∧ i = .int .i64 k ∧ bs.length = k ∧ OwnB wr w.heap.size 5 v bs ∧ Cur wr g code ∧ w.grownBy wr (some g)) (fun _ i _ => n - (intOf i).toNat)
  case atStart => exact ⟨0, [], by omega, rfl, rfl, World.ownsRow_lit w #[] 0 (Nat.le_refl _) (by simp [maxLen]) rfl, hc.below ((Below.refl _ _).alloc (Nat.le_refl _) _), World.grownBy_alloc _ _ _⟩
  case round =>
    obtain ⟨k, bs, hk, rfl, hbl, hown, hcur, hgr⟩ := hrel
    have HBL := Lib.hid hbl; clear hbl
    have HOW := Lib.hid hown; clear hown
    by_cases hlt : k < n
    · go_wp2_with fail
      refine (l1Byte_any g code _ hcur).mono ?_
      rintro e w1 ⟨x, hx, rfl, hc1, hg1⟩
      have ho1 : OwnB w1 w.heap.size 5 u5 bs := by
        refine HOW.out.kept_ hg1 ?_
        intro j hj
        have := own_lt HOW.out j hj
        omega
      have HO1 := Lib.hid ho1; clear ho1
      have hs1 := hg1.size
      have hsr := hgr.size
      have hgr1 := hgr.trans hg1
      go_wp2_with (at_builtin; refine app_byte rfl (.tmp 13) (.tmp 17) _ rfl w.heap.size 5 i0 Tryz.underlying22 HI.out hz0 hz1 hz2 _ _ rfl (HO1.out.kept ((Below.refl _ _).alloc (Nat.le_refl _) _)) _ 1 1 _ _ rfl (RdB.one w1 5 (x : Int) (by omega) (by omega)) (by rw [HBL.out]; omega) (by simp; omega) ?_; intro v' w' ho' hb' hs')
      go_round
      case rel =>
        have hbel : Below w.heap.size w1 w' := ((Below.refl w.heap.size w1).alloc (by omega) _).trans hb'
        exact ⟨k + 1, _, by omega, by go_num, by simp [HBL.out], ho', hc1.below' hbel hg, grown_below hgr1 hbel⟩
      case measure => simp [intOf]; omega
    · go_wp2
      go_ret
      exact ⟨_, bs, rfl, by rw [HBL.out]; omega, HOW.out, hcur, hgr⟩
theorem Rd.lit (w : World) (e : TypeId) (cs : Array Value) (n : Nat) (hn : cs.size = n) : Rd (w.alloc (.cells cs e)) (w.heap.size + 1) 1 (some ⟨w.heap.size, 0, none⟩) n cs.toList := by
  refine ⟨by simpa using hn, fun _ => ⟨w.heap.size, 0, rfl, by omega, fun j u hu => ?_⟩⟩
  rw [cell_of_row (w.alloc (.cells cs e)) w.heap.size (0 + j) cs e (0, 0) (heap_alloc_new w _)]
  simpa using hu
theorem l1Some_any (g : Nat) (code : List UInt8) (w : World) (hc : Cur w g code) :
    Calls Tryz.prog 20 #[.pointer (some ⟨g, 0, none⟩)] w fun e w' => ∃ v bs, e = .returned v ∧ bs.length ≤ 9 ∧ OwnB w' w.heap.size 5 v bs ∧ Cur w' g code ∧ w.grownBy w' (some g) := by
  have hg := hc.lt
  go_enter Tryz.func20, Tryz.ntmps20
  go_wp2_with fail
  refine (l1Int_any g code _ 5 5 [0, 1, 2, 5, 9] _ _ (hc.below ((Below.refl _ _).alloc (Nat.le_refl _) _)) (Rd.lit w 3 #[.int .i64 0, .int .i64 1, .int .i64 2, .int .i64 5, .int .i64 9] 5 rfl) (by omega) (by omega) (fun b o e => by injection e with e; injection e with e1; omega)).mono ?_
  rintro e w1 ⟨x, hx, rfl, hc1, hg1⟩
  obtain ⟨m, rfl, hm⟩ : ∃ m : Nat, x = (m : Int) ∧ m ≤ 9 := by
    simp only [List.mem_cons, List.not_mem_nil, or_false] at hx
    exact ⟨x.toNat, by omega, by omega⟩
  have hs1 := hg1.size
  simp at hs1
  go_wp2_with fail
  refine (l1Bytes_any g code m w1 hc1 (by omega)).mono ?_
  rintro e w2 ⟨v, bs, rfl, hbl, ho, hc2, hg2⟩
  go_wp2
  go_ret
  refine ⟨v, bs, rfl, by omega, ?_, hc2, ((World.grownBy_alloc w _ _).trans hg1).trans hg2⟩
  exact own_base ho (by omega)
end Go.Proofs.YtcbbefibebkfgaaGreatDoor
