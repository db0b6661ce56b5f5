/- More of what the drawing functions answer: a new cursor, bytes, a text's bytes. No condition but lengths. -/
import Derived.Test.YtpmigmpghmccdaaDraw
namespace Go.Proofs.Ytpmigmpghmccdaa
open Go.RowKit
set_option maxRecDepth 100000
set_option maxHeartbeats 2000000

theorem infoD : (Try.prog.info? 5).map (fun i => (i.zero, i.size, i.bytes)) = some (some (.int .u8 0), 1, 1) := by kernel_rfl
theorem Cur.below' {w w' : World} {g B : Nat} {code : List UInt8} (h : Cur w g code) (hb : Below B w w') (hB : g < B) : Cur w' g code := by
  obtain ⟨A, n, c, i, x, h1, h2, h3, h4⟩ := h
  exact ⟨A, n, c, i, x, (hb.block g hB).trans h1, h2.below (hb.mono (by omega)), h3, h4⟩
theorem grown_below {a w w' : World} {g : Nat} (h : a.grownBy w (some g)) (hb : Below a.heap.size w w') : a.grownBy w' (some g) :=
  ⟨hb.os.trans h.os, hb.tape.trans h.tape, hb.output.trans h.output, Nat.le_trans h.size hb.size, fun k hk hne => (hb.block k hk).trans (h.block k hk hne)⟩
theorem below_grown {a w : World} {g : Nat} (h : a.grownBy w (some g)) (hg : a.heap.size ≤ g) : Below a.heap.size a w := (Below.refl _ _).grown h (Nat.le_refl _) fun k hk => by injection hk with hk; omega
theorem below_grown' {a w : World} {g B : Nat} (h : a.grownBy w (some g)) (hg : B ≤ g) (hB : B ≤ a.heap.size) : Below B a w := (Below.refl _ _).grown h hB fun k hk => by injection hk with hk; omega

theorem l1New_any (A : Option Addr) (n c : Nat) (code : List UInt8) (w : World) (B : Nat) (hr : RdB w B A n code) (hB : B ≤ w.heap.size) (hn : n ≤ 70368744177664) :
    Calls Try.prog 52 #[.slice A n c] w fun e w' => e = .returned (.pointer (some ⟨w.heap.size, 0, none⟩)) ∧ Cur w' w.heap.size code ∧ Below w.heap.size w w' := by
  have hl := hr.len
  have HL := Lib.hid hl; clear hl
  go_enter Try.func52, Try.ntmps52
  go_wp2
  go_loop [3, 4] (fun h i => ∃ (k : Nat) (x : Int), k ≤ n ∧ i = .int .i64 k ∧ h = .int .i64 x) (fun _ i => n - (intOf i).toNat)
  case atStart => exact ⟨0, _, by omega, rfl, rfl⟩
  case round =>
    obtain ⟨k, x, hk, rfl, rfl⟩ := hrel
    by_cases hlt : k < n
    · by_cases h4 : (k : Int) < 4000
      · obtain ⟨b, o, rfl, hb, hc⟩ := hr.at_ (by omega)
        obtain ⟨y, hy, hyb⟩ : ∃ y : Nat, w.cell? ⟨b, o + k, none⟩ = some (.int .u8 (y : Int)) ∧ y ≤ 255 := ⟨_, hc k (by rw [HL.out]; exact hlt), byte_le _⟩
        clear hc
        go_wp2
        go_round
        case rel => exact ⟨k + 1, _, by omega, by go_num, rfl⟩
        case measure => simp [intOf]; omega
      · go_wp2
        go_ret
        exact ⟨rfl, ⟨A, n, c, 0, x, heap_alloc_new _ _, (hr.more hB).below ((Below.refl _ _).alloc (Nat.le_refl _) _), hn, by omega⟩, bel_alloc (bel_refl _) _⟩
    · go_wp2
      go_ret
      exact ⟨rfl, ⟨A, n, c, 0, x, heap_alloc_new _ _, (hr.more hB).below ((Below.refl _ _).alloc (Nat.le_refl _) _), hn, by omega⟩, bel_alloc (bel_refl _) _⟩
theorem l1Bytes_any (g : Nat) (code : List UInt8) (n : Nat) (w : World) (hc : Cur w g code) (hn : n ≤ 70368744177664) :
    Calls Try.prog 63 #[.pointer (some ⟨g, 0, none⟩), .int .i64 n] w fun e w' => ∃ v bs, e = .returned v ∧ bs.length = n ∧ OwnB w' w.heap.size 5 v bs ∧ Cur w' g code ∧ w.grownBy w' (some g) := by
  obtain ⟨i0, hi, hz0, hz1, hz2⟩ := info_parts infoD
  have hg := hc.lt
  have HI := Lib.hid hi; clear hi
  go_enter Try.func63, Try.ntmps63
  go_wp2
  go_loopw [5, 6] (fun v i wr => ∃ (k : Nat) (bs : List UInt8), k ≤ n ∧ i = .int .i64 k ∧ bs.length = k ∧ OwnB wr w.heap.size 5 v bs ∧ Cur wr g code ∧ w.grownBy wr (some g)) (fun _ i _ => n - (intOf i).toNat)
  case atStart => exact ⟨0, [], by omega, rfl, rfl, World.ownsRow_lit w #[] 0 (Nat.le_refl _) (by simp [maxLen]) rfl, hc.below ((Below.refl _ _).alloc (Nat.le_refl _) _), World.grownBy_alloc _ _ _⟩
  case round =>
    obtain ⟨k, bs, hk, rfl, hbl, hown, hcur, hgr⟩ := hrel
    have HBL := Lib.hid hbl; clear hbl
    have HOW := Lib.hid hown; clear hown
    by_cases hlt : k < n
    · go_wp2_with fail
      refine (l1Byte_any g code _ hcur).mono ?_
      rintro e w1 ⟨x, hx, rfl, hc1, hg1⟩
      have ho1 : OwnB w1 w.heap.size 5 u5 bs := by
        refine HOW.out.kept_ hg1 ?_
        intro j hj
        have := own_lt HOW.out j hj
        omega
      have HO1 := Lib.hid ho1; clear ho1
      have hs1 := hg1.size
      have hsr := hgr.size
      have hgr1 := hgr.trans hg1
      go_wp2_with (at_builtin; refine app_byte rfl (.tmp 13) (.tmp 17) _ rfl w.heap.size 5 i0 Try.underlying24 HI.out hz0 hz1 hz2 _ _ rfl (HO1.out.kept ((Below.refl _ _).alloc (Nat.le_refl _) _)) _ 1 1 _ _ rfl (RdB.one w1 5 (x : Int) (by omega) (by omega)) (by rw [HBL.out]; omega) (by simp; omega) ?_; intro v' w' ho' hb' hs')
      go_round
      case rel =>
        have hbel : Below w.heap.size w1 w' := ((Below.refl w.heap.size w1).alloc (by omega) _).trans hb'
        exact ⟨k + 1, _, by omega, by go_num, by simp [HBL.out], ho', hc1.below' hbel hg, grown_below hgr1 hbel⟩
      case measure => simp [intOf]; omega
    · go_wp2
      go_ret
      exact ⟨_, bs, rfl, by rw [HBL.out]; omega, HOW.out, hcur, hgr⟩
theorem Rd.lit (w : World) (e : TypeId) (cs : Array Value) (n : Nat) (hn : cs.size = n) : Rd (w.alloc (.cells cs e)) (w.heap.size + 1) 1 (some ⟨w.heap.size, 0, none⟩) n cs.toList := by
  refine ⟨by simpa using hn, fun _ => ⟨w.heap.size, 0, rfl, by omega, fun j u hu => ?_⟩⟩
  rw [cell_of_row (w.alloc (.cells cs e)) w.heap.size (0 + j) cs e (0, 0) (heap_alloc_new w _)]
  simpa using hu
theorem l1Some_any (g : Nat) (code : List UInt8) (w : World) (hc : Cur w g code) :
    Calls Try.prog 53 #[.pointer (some ⟨g, 0, none⟩)] w fun e w' => ∃ v bs, e = .returned v ∧ bs.length ≤ 9 ∧ OwnB w' w.heap.size 5 v bs ∧ Cur w' g code ∧ w.grownBy w' (some g) := by
  have hg := hc.lt
  go_enter Try.func53, Try.ntmps53
  go_wp2_with fail
  refine (l1Int_any g code _ 5 5 [0, 1, 2, 5, 9] _ _ (hc.below ((Below.refl _ _).alloc (Nat.le_refl _) _)) (Rd.lit w 3 #[.int .i64 0, .int .i64 1, .int .i64 2, .int .i64 5, .int .i64 9] 5 rfl) (by omega) (by omega) (fun b o e => by injection e with e; injection e with e1; omega)).mono ?_
  rintro e w1 ⟨x, hx, rfl, hc1, hg1⟩
  obtain ⟨m, rfl, hm⟩ : ∃ m : Nat, x = (m : Int) ∧ m ≤ 9 := by
    simp only [List.mem_cons, List.not_mem_nil, or_false] at hx
    exact ⟨x.toNat, by omega, by omega⟩
  have hs1 := hg1.size
  simp at hs1
  go_wp2_with fail
  refine (l1Bytes_any g code m w1 hc1 (by omega)).mono ?_
  rintro e w2 ⟨v, bs, rfl, hbl, ho, hc2, hg2⟩
  go_wp2
  go_ret
  refine ⟨v, bs, rfl, by omega, ?_, hc2, ((World.grownBy_alloc w _ _).trans hg1).trans hg2⟩
  exact own_base ho (by omega)
theorem DrawCrc_any (A : Option Addr) (n c : Nat) (code : List UInt8) (w : World) (B : Nat) (hr : RdB w B A n code) (hB : B ≤ w.heap.size) (hn : n ≤ 70368744177664) :
    Calls Try.prog 32 #[.slice A n c] w fun e w' => ∃ v bs, e = .returned v ∧ bs.length ≤ 9 ∧ OwnB w' w.heap.size 5 v bs ∧ Below w.heap.size w w' := by
  go_enter Try.func32, Try.ntmps32
  go_wp2_with fail
  refine (l1New_any A n c code w B hr hB hn).mono ?_
  rintro e w1 ⟨rfl, hc1, hb1⟩
  have hs1 := hb1.size
  go_wp2_with fail
  refine (l1Some_any _ code w1 hc1).mono ?_
  rintro e w2 ⟨v, bs, rfl, hbl, ho, hc2, hg2⟩
  go_wp2
  go_ret
  exact ⟨v, bs, rfl, hbl, own_base ho hs1, hb1.trans (below_grown' hg2 (Nat.le_refl _) hs1)⟩
theorem DrawPutText_any (A : Option Addr) (n c : Nat) (code : List UInt8) (w : World) (B : Nat) (hr : RdB w B A n code) (hB : B ≤ w.heap.size) (hn : n ≤ 70368744177664) :
    Calls Try.prog 35 #[.slice A n c] w fun e w' => ∃ v bs s, e = .returned (.tuple #[v, .string s]) ∧ bs.length ≤ 9 ∧ s.size ≤ 9 ∧ OwnB w' w.heap.size 5 v bs ∧ Below w.heap.size w w' := by
  go_enter Try.func35, Try.ntmps35
  go_wp2_with fail
  refine (l1New_any A n c code w B hr hB hn).mono ?_
  rintro e w1 ⟨rfl, hc1, hb1⟩
  have hs1 := hb1.size
  go_wp2_with fail
  go_region_with (first | (go_at_call 53; refine (l1Some_any _ code _ (by assumption)).mono ?_; rintro e w3 ⟨v2, bs2, rfl, hbl2, ho2, hc3, hg3⟩; obtain ⟨A3, c3, rfl, hcc3, hr3⟩ := ho2.form; have hcv := conv_bytes (P := Try.prog) hr3 24 5 Try.underlying24 Try.underlying5 9 Try.underlying9 c3))
  rename_i w2 bs hbl hc2 hg2 A2 c2 ho hcc2 hr2 hcv2
  go_wp2
  go_ret2
  have hs2 := hg2.size
  have hz1 : w.heap.size ≤ w1.drew.heap.size := hs1
  have hlt := hc1.lt
  have ho' : OwnB w3 w.heap.size 5 (.slice A2 bs.length c2) bs := own_base (ho.kept_ hg3 fun j hj => by have := own_lt ho j hj; have : w.heap.size < w1.drew.heap.size := hlt; omega) hz1
  exact ⟨_, bs, _, rfl, hbl, by simpa [ByteArray.size] using hbl2, ho', (bel_drew hb1).trans ((below_grown' hg2 (Nat.le_refl _) hz1).trans (below_grown' hg3 (Nat.le_refl _) (by omega)))⟩
theorem DrawPutNum_any (A : Option Addr) (n c : Nat) (code : List UInt8) (w : World) (B : Nat) (hr : RdB w B A n code) (hB : B ≤ w.heap.size) (hn : n ≤ 70368744177664) :
    Calls Try.prog 34 #[.slice A n c] w fun e w' => ∃ v bs x, e = .returned (.tuple #[v, .int .i64 x]) ∧ bs.length ≤ 9 ∧ (-9223372036854775808 ≤ x ∧ x ≤ 9223372036854775807) ∧ OwnB w' w.heap.size 5 v bs ∧ Below w.heap.size w w' := by
  go_enter Try.func34, Try.ntmps34
  go_wp2_with fail
  refine (l1New_any A n c code w B hr hB hn).mono ?_
  rintro e w1 ⟨rfl, hc1, hb1⟩
  have hs1 := hb1.size
  go_wp2_with fail
  refine (l1Some_any _ code _ hc1).mono ?_
  rintro e w2 ⟨v, bs, rfl, hbl, ho, hc2, hg2⟩
  have hs2 := hg2.size
  go_wp2_with fail
  refine (l1Below_any _ code _ _ hc2 (by omega)).mono ?_
  rintro e w3 ⟨y, hy, rfl, hc3, hg3⟩
  have hy2 : y ≤ 100000 := by omega
  have hs3 := hg3.size
  have hlt := hc3.lt
  go_wp2_with fail
  refine (l1Int_any _ code _ 13 13 [0, 1, -1, 63, 64, -65, 8192, 1000000000, -1000000000, 1000000001, -9223372036854775808, 9223372036854775807, (y : Int)] _ _ (hc3.below ((Below.refl _ _).alloc (Nat.le_refl _) _)) (Rd.lit w3 3 _ 13 rfl) (by omega) (by omega) (fun b o e => by injection e with e; injection e with e1; omega)).mono ?_
  rintro e w4 ⟨x, hx, rfl, hc4, hg4⟩
  have hxb : -9223372036854775808 ≤ x ∧ x ≤ 9223372036854775807 := by
    simp only [List.mem_cons, List.not_mem_nil, or_false] at hx
    omega
  clear hx
  go_wp2
  go_ret2
  have hg24 := (hg3.trans (World.grownBy_alloc w3 _ _)).trans hg4
  have ho' := own_base (ho.kept_ hg24 fun j hj => by have := own_lt ho j hj; have := hc1.lt; omega) hs1
  exact ⟨v, bs, x, rfl, hbl, hxb, ho', hb1.trans ((below_grown' hg2 (Nat.le_refl _) hs1).trans (below_grown' hg24 (Nat.le_refl _) (by omega)))⟩
end Go.Proofs.Ytpmigmpghmccdaa
