/- The cursor of the drawing functions, and what they draw: a number below a bound, one of a list, bytes. No condition but lengths. -/
import Derived.Test.YtgcjhicpkmhbaaaDoorOwn
import Derived.Test.YtgcjhicpkmhbaaaDoorChecked
namespace Go.Proofs.YtgcjhicpkmhbaaaDoor
open Go.RowKit
set_option maxRecDepth 100000
set_option maxHeartbeats 2000000

def Cur (w : World) (g : Nat) (code : List UInt8) : Prop :=
  ∃ (A : Option Addr) (n c i : Nat) (h : Int), w.heap[g]? = some (.cells #[.slice A n c, .int .i64 i, .int .i64 h] 63 (0, 0)) ∧ RdB w g A n code ∧ n ≤ 70368744177664 ∧ i ≤ n
theorem Cur.lt {w : World} {g : Nat} {code : List UInt8} (h : Cur w g code) : g < w.heap.size := by
  obtain ⟨_, _, _, _, _, h, _⟩ := h
  exact (Array.getElem?_eq_some_iff.1 h).1
theorem Cur.below {w w' : World} {g : Nat} {code : List UInt8} (h : Cur w g code) (hb : Below w.heap.size w w') : Cur w' g code := by
  have hl := h.lt
  obtain ⟨A, n, c, i, x, h1, h2, h3, h4⟩ := h
  exact ⟨A, n, c, i, x, (hb.block g hl).trans h1, h2.below (hb.mono (by omega)), h3, h4⟩
theorem block_cells {w : World} {g : Nat} {x y z : Value} {t : TypeId} (h : w.heap[g]? = some (.cells #[x, y, z] t (0, 0))) :
    w.cell? ⟨g, 0, none⟩ = some x ∧ w.cell? ⟨g, 1, none⟩ = some y ∧ w.cell? ⟨g, 2, none⟩ = some z ∧ w.frozen? ⟨g, 0, none⟩ = false ∧ w.frozen? ⟨g, 1, none⟩ = false ∧ w.frozen? ⟨g, 2, none⟩ = false := by
  refine ⟨?_, ?_, ?_, ?_, ?_, ?_⟩ <;> simp [World.cell?, World.frozen?, h]
theorem block_set1 {w : World} {g : Nat} {x y z u : Value} {t : TypeId} (h : w.heap[g]? = some (.cells #[x, y, z] t (0, 0))) : (w.setCell ⟨g, 1, none⟩ u).heap[g]? = some (.cells #[x, u, z] t (0, 0)) := by
  simp [World.setCell, Array.getElem?_modify, h]
theorem block_set2 {w : World} {g : Nat} {x y z u : Value} {t : TypeId} (h : w.heap[g]? = some (.cells #[x, y, z] t (0, 0))) : (w.setCell ⟨g, 2, none⟩ u).heap[g]? = some (.cells #[x, y, u] t (0, 0)) := by
  simp [World.setCell, Array.getElem?_modify, h]
theorem grown_set (w : World) (g j : Nat) (u : Value) : w.grownBy (w.setCell ⟨g, j, none⟩ u) (some g) :=
  ⟨rfl, rfl, rfl, by simp, fun k _ hk => heap_setCell_other w ⟨g, j, none⟩ k u (fun e => hk (by simp [e]))⟩
theorem grown_drewN {a w : World} {row : Option Nat} (h : a.grownBy w row) (n : Nat) : a.grownBy (w.drewN n) row := ⟨h.os, h.tape, h.output, h.size, h.block⟩
theorem RdB.grown {w w' : World} {B n : Nat} {A : Option Addr} {bs : List UInt8} (h : RdB w B A n bs) {g : Nat} (hg : w.grownBy w' (some g)) (hB : B ≤ g) (hs : B ≤ w.heap.size) : RdB w' B A n bs :=
  h.below ((Below.refl B w).grown hg hs fun k hk => by injection hk with hk; omega)
theorem and255 (x : Int) : ∃ y : Nat, bits BinOp.and IntKind.i64 x 255 = (y : Int) ∧ y ≤ 255 := by
  refine ⟨(BitVec.ofInt 64 x &&& BitVec.ofInt 64 255).toNat, ?_, ?_⟩
  · have hx : (BitVec.ofInt 64 x &&& BitVec.ofInt 64 255).toNat ≤ 255 := by
      rw [BitVec.toNat_and]
      exact Nat.le_trans Nat.and_le_right (by decide)
    show IntKind.i64.wrap ((BitVec.ofInt 64 x &&& BitVec.ofInt 64 255).toNat : Int) = _
    rw [IntKind.wrap_i64]
    omega
  · rw [BitVec.toNat_and]
    exact Nat.le_trans Nat.and_le_right (by decide)
/-- what a draw leaves: a number of which Q holds; the cursor has gone on; nothing else has turned -/
def Drawn (g : Nat) (code : List UInt8) (Q : Nat → Prop) (w : World) (e : Ending) (w' : World) : Prop := ∃ x : Nat, Q x ∧ e = .returned (.int .i64 x) ∧ Cur w' g code ∧ w.grownBy w' (some g)

theorem l1Byte_any (g : Nat) (code : List UInt8) (w : World) (hc : Cur w g code) :
    Calls Tryd.prog 63 #[.pointer (some ⟨g, 0, none⟩)] w (Drawn g code (· ≤ 255) w) := by
  have hlt := hc.lt
  obtain ⟨A, n, c, i, h, hblk, hr, hn, hi⟩ := hc
  obtain ⟨c0, c1, c2, f0, f1, f2⟩ := block_cells hblk
  have HB := Lib.hid hblk; clear hblk
  have HL := Lib.hid hr.len
  obtain ⟨h', hh'⟩ : ∃ h' : Int, wrap64 (wrap64 (h * 6364136223846793005) + 1442695040888963407) = h' := ⟨_, rfl⟩
  obtain ⟨y, hy, hy2⟩ := and255 (bits BinOp.xor IntKind.i64 (h' / 8589934592) (h' / 140737488355328))
  have hi0 : (0 : Int) ≤ (i : Int) := by omega
  by_cases hin : i < n
  · have hin' : (i : Int) < (n : Int) := by omega
    obtain ⟨b, o, rfl, hb, hcell⟩ := hr.at_ (by omega)
    obtain ⟨x, hx, hxb⟩ : ∃ x : Nat, (w.setCell ⟨g, 2, none⟩ (.int .i64 h')).cell? ⟨b, o + i, none⟩ = some (.int .u8 (x : Int)) ∧ x ≤ 255 :=
      ⟨_, (World.cell?_setCell_other w ⟨g, 2, none⟩ ⟨b, o + i, none⟩ _ (fun e => by injection e with e1; omega)).trans (hcell i (by rw [HL.out]; exact hin)), byte_le _⟩
    obtain ⟨z, hz, hz2⟩ := and255 ((y : Int) + (x : Int))
    have HR := Lib.hid hr; clear hr hcell
    go_enter Tryd.func63, Tryd.ntmps63
    go_wp2_with fail
    go_quiet (fail)
    go_wp2_with fail
    go_quiet (fail)
    go_wp2_with fail
    go_quiet (fail)
    go_wp2_with fail
    go_ret
    refine ⟨z, hz2, rfl, ⟨some ⟨b, o, none⟩, n, c, i + 1, h', ?_, ?_, hn, by omega⟩, ?_⟩
    · have := block_set1 (u := .int .i64 ((i : Int) + 1)) (block_set2 (u := .int .i64 h') HB.out)
      exact this
    · exact RdB.grown HR.out ((grown_drewN (grown_set w g 2 (.int .i64 h')) _).trans (grown_set _ g 1 (.int .i64 ((i : Int) + 1)))) (Nat.le_refl _) (by omega)
    · exact (grown_drewN (grown_set w g 2 (.int .i64 h')) _).trans (grown_set _ g 1 (.int .i64 ((i : Int) + 1)))
  · have hin' : ¬ (i : Int) < (n : Int) := by omega
    have HR := Lib.hid hr; clear hr
    go_enter Tryd.func63, Tryd.ntmps63
    go_wp2_with fail
    go_quiet (fail)
    go_wp2_with fail
    go_quiet (fail)
    go_wp2_with fail
    go_ret
    refine ⟨y, hy2, rfl, ⟨A, n, c, i, h', ?_, ?_, hn, by omega⟩, ?_⟩
    · have := block_set2 (u := .int .i64 h') HB.out
      simpa using this
    · exact RdB.grown HR.out (grown_drewN (grown_drewN (grown_set w g 2 (.int .i64 h')) _) _) (Nat.le_refl _) (by omega)
    · exact grown_drewN (grown_drewN (grown_set w g 2 (.int .i64 h')) _) _
theorem l1Below_any (g : Nat) (code : List UInt8) (n : Int) (w : World) (hc : Cur w g code) (hn : n ≤ 4611686018427387904) :
    Calls Tryd.prog 36 #[.pointer (some ⟨g, 0, none⟩), .int .i64 n] w (Drawn g code (fun x => (x : Int) < n ∨ x = 0) w) := by
  by_cases h0 : n ≤ 0
  · go_enter Tryd.func36, Tryd.ntmps36
    go_wp2
    go_ret
    exact ⟨0, .inr rfl, rfl, hc, World.grownBy.refl _ _⟩
  · obtain ⟨m, rfl⟩ := Int.eq_ofNat_of_zero_le (by omega : 0 ≤ n)
    have hm0 : 0 < m := by omega
    by_cases h256 : (m : Int) ≤ 256
    · go_enter Tryd.func36, Tryd.ntmps36
      go_wp2_with fail
      refine (l1Byte_any g code _ hc).mono ?_
      rintro e w1 ⟨x, hx, rfl, hc1, hg1⟩
      go_wp2
      go_ret
      exact ⟨x % m, .inl (by have := Nat.mod_lt x hm0; omega), by simp, hc1, hg1⟩
    · go_enter Tryd.func36, Tryd.ntmps36
      go_wp2_with fail
      refine (l1Byte_any g code _ hc).mono ?_
      rintro e w1 ⟨x, hx, rfl, hc1, hg1⟩
      go_wp2_with fail
      refine (l1Byte_any g code _ hc1).mono ?_
      rintro e w2 ⟨y, hy, rfl, hc2, hg2⟩
      go_wp2_with fail
      refine (l1Byte_any g code _ hc2).mono ?_
      rintro e w3 ⟨z, hz, rfl, hc3, hg3⟩
      go_wp2
      go_ret
      exact ⟨(x * 65536 + y * 256 + z) % m, .inl (by have := Nat.mod_lt (x * 65536 + y * 256 + z) hm0; omega), by simp, hc3, (hg1.trans hg2).trans hg3⟩
def Told (g : Nat) (code : List UInt8) (Q : Int → Prop) (w : World) (e : Ending) (w' : World) : Prop := ∃ x : Int, Q x ∧ e = .returned (.int .i64 x) ∧ Cur w' g code ∧ w.grownBy w' (some g)
theorem l1Int_any (g : Nat) (code : List UInt8) (A : Option Addr) (n c : Nat) (xs : List Int) (w : World) (B : Nat) (hc : Cur w g code) (hr : Rd w B 1 A n (xs.map (Value.int .i64))) (h0 : 0 < n) (hn : n ≤ 4611686018427387904) (hgr : ∀ b o, A = some ⟨b, o, none⟩ → b ≠ g) :
    Calls Tryd.prog 69 #[.pointer (some ⟨g, 0, none⟩), .slice A n c] w (Told g code (· ∈ xs) w) := by
  have hl : xs.length = n := by simpa using hr.1
  obtain ⟨b, o, rfl, hb, hcell⟩ := hr.2 h0
  have hne := hgr b o rfl
  have HC := Lib.hid hcell; clear hcell
  have HL := Lib.hid hl; clear hl
  go_enter Tryd.func69, Tryd.ntmps69
  go_wp2_with fail
  refine (l1Below_any g code _ _ hc (by omega)).mono ?_
  rintro e w1 ⟨x, hx, rfl, hc1, hg1⟩
  have hxn : x < n := by omega
  have hxl : x < xs.length := by rw [HL.out]; exact hxn
  have hget : w1.cell? ⟨b, o + x, none⟩ = some (.int .i64 xs[x]) :=
    hg1.cell (a := ⟨b, o + x, none⟩) (HC.out x _ (by rw [List.getElem?_map, List.getElem?_eq_getElem hxl]; rfl)) (fun e => hne (by injection e))
  go_wp2
  go_ret
  exact ⟨xs[x], List.getElem_mem _, rfl, hc1, hg1⟩
end Go.Proofs.YtgcjhicpkmhbaaaDoor
