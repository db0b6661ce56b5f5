/- More of what the drawing functions answer: a new cursor, bytes, a text's bytes. No condition but lengths. -/
import Derived.Test.YtgcjhicpkmhbaaaDoorDraw
namespace Go.Proofs.YtgcjhicpkmhbaaaDoor
open Go.RowKit
set_option maxRecDepth 100000
set_option maxHeartbeats 2000000

theorem infoD : (Tryd.prog.info? 5).map (fun i => (i.zero, i.size, i.bytes)) = some (some (.int .u8 0), 1, 1) := by kernel_rfl
theorem Cur.below' {w w' : World} {g B : Nat} {code : List UInt8} (h : Cur w g code) (hb : Below B w w') (hB : g < B) : Cur w' g code := by
  obtain ⟨A, n, c, i, x, h1, h2, h3, h4⟩ := h
  exact ⟨A, n, c, i, x, (hb.block g hB).trans h1, h2.below (hb.mono (by omega)), h3, h4⟩
theorem grown_below {a w w' : World} {g : Nat} (h : a.grownBy w (some g)) (hb : Below a.heap.size w w') : a.grownBy w' (some g) :=
  ⟨hb.os.trans h.os, hb.tape.trans h.tape, hb.output.trans h.output, Nat.le_trans h.size hb.size, fun k hk hne => (hb.block k hk).trans (h.block k hk hne)⟩
theorem below_grown {a w : World} {g : Nat} (h : a.grownBy w (some g)) (hg : a.heap.size ≤ g) : Below a.heap.size a w := (Below.refl _ _).grown h (Nat.le_refl _) fun k hk => by injection hk with hk; omega
theorem below_grown' {a w : World} {g B : Nat} (h : a.grownBy w (some g)) (hg : B ≤ g) (hB : B ≤ a.heap.size) : Below B a w := (Below.refl _ _).grown h hB fun k hk => by injection hk with hk; omega

theorem l1New_any (A : Option Addr) (n c : Nat) (code : List UInt8) (w : World) (B : Nat) (hr : RdB w B A n code) (hB : B ≤ w.heap.size) (hn : n ≤ 70368744177664) :
    Calls Tryd.prog 26 #[.slice A n c] w fun e w' => e = .returned (.pointer (some ⟨w.heap.size, 0, none⟩)) ∧ Cur w' w.heap.size code ∧ Below w.heap.size w w' := by
  have hl := hr.len
  have HL := Lib.hid hl; clear hl
  go_enter Tryd.func26, Tryd.ntmps26
  go_wp2
  go_loop [3, 4] (fun h i => ∃ (k : Nat) (x : Int), k ≤ n ∧ i = .int .i64 k ∧ h = .int .i64 x) (fun _ i => n - (intOf i).toNat)
  case atStart => exact ⟨0, _, by omega, rfl, rfl⟩
  case round =>
    obtain ⟨k, x, hk, rfl, rfl⟩ := hrel
    by_cases hlt : k < n
    · by_cases h4 : (k : Int) < 4000
      · obtain ⟨b, o, rfl, hb, hc⟩ := hr.at_ (by omega)
        obtain ⟨y, hy, hyb⟩ : ∃ y : Nat, w.cell? ⟨b, o + k, none⟩ = some (.int .u8 (y : Int)) ∧ y ≤ 255 := ⟨_, hc k (by rw [HL.out]; exact hlt), byte_le _⟩
        clear hc
        go_wp2
        go_round
        case rel => exact ⟨k + 1, _, by omega, by go_num, rfl⟩
        case measure => simp [intOf]; omega
      · go_wp2
        go_ret
        exact ⟨rfl, ⟨A, n, c, 0, x, heap_alloc_new _ _, (hr.more hB).below ((Below.refl _ _).alloc (Nat.le_refl _) _), hn, by omega⟩, bel_alloc (bel_refl _) _⟩
    · go_wp2
      go_ret
      exact ⟨rfl, ⟨A, n, c, 0, x, heap_alloc_new _ _, (hr.more hB).below ((Below.refl _ _).alloc (Nat.le_refl _) _), hn, by omega⟩, bel_alloc (bel_refl _) _⟩
theorem Rd.lit (w : World) (e : TypeId) (cs : Array Value) (n : Nat) (hn : cs.size = n) : Rd (w.alloc (.cells cs e)) (w.heap.size + 1) 1 (some ⟨w.heap.size, 0, none⟩) n cs.toList := by
  refine ⟨by simpa using hn, fun _ => ⟨w.heap.size, 0, rfl, by omega, fun j u hu => ?_⟩⟩
  rw [cell_of_row (w.alloc (.cells cs e)) w.heap.size (0 + j) cs e (0, 0) (heap_alloc_new w _)]
  simpa using hu
end Go.Proofs.YtgcjhicpkmhbaaaDoor
