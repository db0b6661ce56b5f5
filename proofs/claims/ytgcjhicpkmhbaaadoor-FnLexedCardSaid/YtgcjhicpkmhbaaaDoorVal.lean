/- Values: the laws' helpers on them, and ValOk of the program and of the reference. Each answers what the plain function says and makes at most new blocks. No condition but the text's length. -/
import Derived.Test.YtgcjhicpkmhbaaaDoorName
import Derived.Test.YtgcjhicpkmhbaaaDoorOwn
namespace Go.Proofs.YtgcjhicpkmhbaaaDoor
open Go.RowKit
set_option maxRecDepth 100000
set_option maxHeartbeats 2000000

structure Vl where
  k : Int
  n : Int
  s : ByteArray
deriving DecidableEq
def valOk (v : Vl) : Bool := if v.k = 1 then inB v.n (-1000000000) 1000000000 && decide (v.s.size = 0) else if v.k = 2 then decide (v.n = 0) && word v.s 20 else false
def vV (v : Vl) : Value := .agg #[.int .i64 v.k, .int .i64 v.n, .string v.s]

theorem str_eq (s t : ByteArray) : (s.toList == t.toList) = decide (s = t) := by
  rw [ByteArray.toList_eq, ByteArray.toList_eq, Bool.eq_iff_iff, beq_iff_eq, decide_eq_true_eq]
  constructor
  · intro h
    rcases s with ⟨⟨a⟩⟩
    rcases t with ⟨⟨b⟩⟩
    simp only at h
    rw [h]
  · rintro rfl; rfl
theorem isEmpty_iff (s : ByteArray) : s.toList.isEmpty = decide (s.size = 0) := by
  rw [ByteArray.toList_eq, Bool.eq_iff_iff, List.isEmpty_iff, decide_eq_true_eq, ← size_data]
  exact List.length_eq_zero_iff.symm

theorem bless_irrefl : ∀ x : List UInt8, Op.bytesLess x x = false
  | [] => rfl
  | a :: x => by simp [Op.bytesLess, bless_irrefl x]
theorem bless_asymm : ∀ x y : List UInt8, Op.bytesLess x y = true → Op.bytesLess y x = false
  | [], [], h => by simp [Op.bytesLess] at h
  | [], _ :: _, _ => rfl
  | _ :: _, [], h => by simp [Op.bytesLess] at h
  | a :: x, b :: y, h => by
    simp only [Op.bytesLess, Bool.or_eq_true, Bool.and_eq_true, decide_eq_true_eq, beq_iff_eq] at h
    simp only [Op.bytesLess, Bool.or_eq_false_iff, Bool.and_eq_false_iff, decide_eq_false_iff_not, beq_eq_false_iff_ne]
    rcases h with h | ⟨rfl, h⟩
    · rw [UInt8.lt_iff_toNat_lt] at h
      refine ⟨by rw [UInt8.lt_iff_toNat_lt]; omega, .inl ?_⟩
      rintro rfl
      omega
    · exact ⟨by rw [UInt8.lt_iff_toNat_lt]; omega, .inr (bless_asymm x y h)⟩
theorem bless_total : ∀ x y : List UInt8, Op.bytesLess x y = false → ¬x = y → Op.bytesLess y x = true
  | [], [], _, h => absurd rfl h
  | [], _ :: _, h, _ => by simp [Op.bytesLess] at h
  | _ :: _, [], _, _ => rfl
  | a :: x, b :: y, h, hne => by
    simp only [Op.bytesLess, Bool.or_eq_false_iff, Bool.and_eq_false_iff, decide_eq_false_iff_not, beq_eq_false_iff_ne] at h
    simp only [Op.bytesLess, Bool.or_eq_true, Bool.and_eq_true, decide_eq_true_eq, beq_iff_eq]
    by_cases hab : a = b
    · subst hab
      refine .inr ⟨rfl, bless_total x y ?_ (fun e => hne (by rw [e]))⟩
      rcases h.2 with h2 | h2
      · exact absurd rfl h2
      · exact h2
    · refine .inl ?_
      have h1 := h.1
      rw [UInt8.lt_iff_toNat_lt] at h1 ⊢
      have : a.toNat ≠ b.toNat := fun e => hab (UInt8.toNat_inj.1 e)
      omega
def lessS (a b : ByteArray) : Bool := Op.bytesLess a.toList b.toList
def lessV (a b : Vl) : Bool := if a.k ≠ b.k then decide (a.k < b.k) else if a.n ≠ b.n then decide (a.n < b.n) else lessS a.s b.s
def cmpI (x y : Int) : Int := if x < y then -1 else if y < x then 1 else 0
def cmpS (x y : ByteArray) : Int := if lessS x y = true then -1 else if lessS y x = true then 1 else 0
def or3 (a b c : Int) : Int := if a ≠ 0 then a else if b ≠ 0 then b else c
def cmpV (a b : Vl) : Int := or3 (cmpI a.k b.k) (cmpI a.n b.n) (cmpS a.s b.s)
theorem l2Plain_any (s : ByteArray) (w : World) (hs : s.size ≤ 9223372036854775807) :
    Calls Tryd.prog 48 #[.string s] w fun e w' => e = .returned (.bool (word s 20)) ∧ w = w' := by
  go_enter Tryd.func48, Tryd.ntmps48
  go_wp2
  go_loop [3] (fun i => ∃ k : Nat, k ≤ s.size ∧ i = .int .i64 k ∧ (s.data.toList.take k).all lett = true) (fun i => s.size - (intOf i).toNat)
  case atStart => exact ⟨0, Nat.zero_le _, rfl, rfl⟩
  case round =>
    obtain ⟨k, hk, rfl, ha⟩ := hrel
    have HA := Lib.hid ha; clear ha
    by_cases hlt : k < s.size
    · have hb := byte_le s[k]
      by_cases hl : letter s[k].toNat = true
      · go_wp2_with (go_at_call 64; refine (l1Letter_any _ (by omega) (by omega) _).mono ?_; rintro e w' ⟨rfl, rfl⟩)
        go_round
        case rel => exact ⟨k + 1, by omega, by go_num, by rw [all_snoc lett s k hlt, HA.out]; simpa [lett] using hl⟩
        case measure => simp [intOf]; omega
      · have hl' : letter s[k].toNat = false := by simpa using hl
        clear hl
        go_wp2_with (go_at_call 64; refine (l1Letter_any _ (by omega) (by omega) _).mono ?_; rintro e w' ⟨rfl, rfl⟩)
        go_ret
        exact ⟨ret_bool (by unfold word; rw [all_not lett s k hlt hl']; simp), rfl⟩
    · go_wp2
      go_ret
      exact ⟨ret_bool (by unfold word; rw [← all_full lett s k (by omega), HA.out]; simp), rfl⟩
theorem keep6 {W w w' : World} {b1 b2 : Nat} {x0 x1 x2 y0 y1 y2 : Value} (h : w.cell? ⟨b1, 0, none⟩ = some x0 ∧ w.cell? ⟨b1, 1, none⟩ = some x1 ∧ w.cell? ⟨b1, 2, none⟩ = some x2 ∧ w.cell? ⟨b2, 0, none⟩ = some y0 ∧ w.cell? ⟨b2, 1, none⟩ = some y1 ∧ w.cell? ⟨b2, 2, none⟩ = some y2 ∧ Below W.heap.size W w)
    (hb : Below w.heap.size w w') : w'.cell? ⟨b1, 0, none⟩ = some x0 ∧ w'.cell? ⟨b1, 1, none⟩ = some x1 ∧ w'.cell? ⟨b1, 2, none⟩ = some x2 ∧ w'.cell? ⟨b2, 0, none⟩ = some y0 ∧ w'.cell? ⟨b2, 1, none⟩ = some y1 ∧ w'.cell? ⟨b2, 2, none⟩ = some y2 ∧ Below W.heap.size W w' := by
  obtain ⟨h0, h1, h2, h3, h4, h5, h6⟩ := h
  exact ⟨old_cell hb h0, old_cell hb h1, old_cell hb h2, old_cell hb h3, old_cell hb h4, old_cell hb h5, bel_trans h6 hb⟩
theorem drew_size (w : World) : w.drew.heap.size = w.heap.size := rfl
theorem bel_swap {W w : World} {o1 o2 : Obj} (h : Below W.heap.size W (w.alloc o1)) (h3 : W.heap.size ≤ w.heap.size) : Below W.heap.size W (w.alloc o2) :=
  ⟨h.os, h.tape, h.output, by simp; omega, fun k hk => by
    have := h.block k hk
    rw [Below.heap_alloc w o1 k (by omega)] at this
    rw [Below.heap_alloc w o2 k (by omega)]
    exact this⟩
theorem cell_swap {w : World} {o1 o2 : Obj} {b j : Nat} {v : Value} (h : (w.alloc o1).cell? ⟨b, j, none⟩ = some v) (hb : b < w.heap.size) : (w.alloc o2).cell? ⟨b, j, none⟩ = some v := by
  rw [World.cell?_alloc_lt w o1 _ hb] at h
  rw [World.cell?_alloc_lt w o2 _ hb]
  exact h
theorem keep6s {W w : World} {o1 o2 : Obj} {b1 b2 : Nat} {x0 x1 x2 y0 y1 y2 : Value} (h : (w.alloc o1).cell? ⟨b1, 0, none⟩ = some x0 ∧ (w.alloc o1).cell? ⟨b1, 1, none⟩ = some x1 ∧ (w.alloc o1).cell? ⟨b1, 2, none⟩ = some x2 ∧ (w.alloc o1).cell? ⟨b2, 0, none⟩ = some y0 ∧ (w.alloc o1).cell? ⟨b2, 1, none⟩ = some y1 ∧ (w.alloc o1).cell? ⟨b2, 2, none⟩ = some y2 ∧ Below W.heap.size W (w.alloc o1))
    (h1 : b1 < w.heap.size) (h2 : b2 < w.heap.size) (h3 : W.heap.size ≤ w.heap.size) : (w.alloc o2).cell? ⟨b1, 0, none⟩ = some x0 ∧ (w.alloc o2).cell? ⟨b1, 1, none⟩ = some x1 ∧ (w.alloc o2).cell? ⟨b1, 2, none⟩ = some x2 ∧ (w.alloc o2).cell? ⟨b2, 0, none⟩ = some y0 ∧ (w.alloc o2).cell? ⟨b2, 1, none⟩ = some y1 ∧ (w.alloc o2).cell? ⟨b2, 2, none⟩ = some y2 ∧ Below W.heap.size W (w.alloc o2) := by
  obtain ⟨g0, g1, g2, g3, g4, g5, g6⟩ := h
  exact ⟨cell_swap g0 h1, cell_swap g1 h1, cell_swap g2 h1, cell_swap g3 h2, cell_swap g4 h2, cell_swap g5 h2, bel_swap g6 h3⟩
theorem keep6c {W w : World} {p : Addr} {u : Value} {b1 b2 : Nat} {x0 x1 x2 y0 y1 y2 : Value} (h : w.cell? ⟨b1, 0, none⟩ = some x0 ∧ w.cell? ⟨b1, 1, none⟩ = some x1 ∧ w.cell? ⟨b1, 2, none⟩ = some x2 ∧ w.cell? ⟨b2, 0, none⟩ = some y0 ∧ w.cell? ⟨b2, 1, none⟩ = some y1 ∧ w.cell? ⟨b2, 2, none⟩ = some y2 ∧ Below W.heap.size W w)
    (h1 : b1 < p.block) (h2 : b2 < p.block) (h3 : W.heap.size ≤ p.block) : (w.setCell p u).cell? ⟨b1, 0, none⟩ = some x0 ∧ (w.setCell p u).cell? ⟨b1, 1, none⟩ = some x1 ∧ (w.setCell p u).cell? ⟨b1, 2, none⟩ = some x2 ∧ (w.setCell p u).cell? ⟨b2, 0, none⟩ = some y0 ∧ (w.setCell p u).cell? ⟨b2, 1, none⟩ = some y1 ∧ (w.setCell p u).cell? ⟨b2, 2, none⟩ = some y2 ∧ Below W.heap.size W (w.setCell p u) := by
  obtain ⟨g0, g1, g2, g3, g4, g5, g6⟩ := h
  have far : ∀ b j v, b < p.block → w.cell? ⟨b, j, none⟩ = some v → (w.setCell p u).cell? ⟨b, j, none⟩ = some v := fun b j v hb hv =>
    (World.cell?_setCell_other w p ⟨b, j, none⟩ u (fun e => by rw [e] at hb; exact Nat.lt_irrefl _ hb)).trans hv
  exact ⟨far _ _ _ h1 g0, far _ _ _ h1 g1, far _ _ _ h1 g2, far _ _ _ h2 g3, far _ _ _ h2 g4, far _ _ _ h2 g5, bel_set g6 h3 u⟩
end Go.Proofs.YtgcjhicpkmhbaaaDoor
