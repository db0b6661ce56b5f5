/- What the drawing functions of facts answer. No condition but lengths. -/
import Derived.Test.YtdlcbmhnagajdaaBlk
import Derived.Test.YtdlcbmhnagajdaaApp2
import Derived.Test.YtdlcbmhnagajdaaFact
import Derived.Test.YtdlcbmhnagajdaaHeld
namespace Go.Proofs.Ytdlcbmhnagajdaa
open Go.RowKit
set_option maxRecDepth 100000
set_option maxHeartbeats 4000000
theorem l3Small_any (g : Nat) (code : List UInt8) (w : World) (hc : Cur w g code) : Calls Try.prog 12 #[.pointer (some ⟨g, 0, none⟩)] w (DrawnV g code w) := by
  have hg := hc.lt
  have HZ := Blk.new w 37 #[.int .i64 0, .int .i64 0, .string ⟨#[]⟩]
  go_enter Try.func12, Try.ntmps12
  go_wp2_with fail
  refine (l1Once_any g code _ _ (hc.alloc _) (by omega)).mono ?_
  rintro e w1 ⟨b, rfl, hc1, hg1⟩
  replace HZ := HZ.grown hg1 (by omega)
  have hs1 := hg1.size
  simp at hs1
  have hl1 := hc1.lt
  replace hg1 := (World.grownBy_alloc w _ (some g)).trans hg1
  cases b
  · go_wp2_with fail
    refine (l1Str_any g code _ 2 2 [⟨#[97]⟩, ⟨#[98]⟩] _ _ (hc1.alloc _) (Rd.lit w1 9 _ 2 rfl) (by omega) (by omega) (ne_lit hl1)).mono ?_
    rintro e w2 ⟨s, hs, rfl, hc2, hg2⟩
    have hss : s.size ≤ 30 := by
      simp only [List.mem_cons, List.not_mem_nil, or_false] at hs
      rcases hs with rfl | rfl <;> decide
    clear hs
    replace HZ := (HZ.alloc _).grown hg2 (by omega)
    obtain ⟨c0, c1, c2, f0, f1, f2⟩ := HZ.three
    replace hg2 := (World.grownBy_alloc w1 _ (some g)).trans hg2
    go_wp2
    refine bodyPost_ret (v := .agg #[.int .i64 2, .int .i64 0, .string s]) (by simp [results, Try.results12, go_sem, c0, c1, c2]) rfl ⟨2, 0, s, hss, rfl, (by repeat (first | with_reducible assumption | with_reducible refine Cur.set ?_ (by first | (simp; done) | (simp; omega) | omega) _ | with_reducible refine Cur.alloc ?_ _ | with_reducible refine Cur.drew ?_ | with_reducible refine Cur.below ?_ (by assumption))), (by repeat (first | with_reducible exact World.grownBy.refl _ _ | with_reducible assumption | with_reducible refine gr_alloc ?_ _ | with_reducible refine gr_drew ?_ | with_reducible refine gr_drewN ?_ _ | with_reducible refine gr_set ?_ (by first | (simp; done) | (simp; omega) | omega) _ | with_reducible refine World.grownBy.trans ?_ (by assumption) | with_reducible refine grown_below ?_ (by assumption)))⟩
  · go_wp2_with fail
    refine (l1Below_any g code 3 _ hc1 (by omega)).mono ?_
    rintro e w2 ⟨x, hx, rfl, hc2, hg2⟩
    replace HZ := HZ.grown hg2 (by omega)
    obtain ⟨c0, c1, c2, f0, f1, f2⟩ := HZ.three
    go_wp2
    refine bodyPost_ret (v := .agg #[.int .i64 1, .int .i64 (1 + x), .string ⟨#[]⟩]) (by simp [results, Try.results12, go_sem, c0, c1, c2]) rfl ⟨1, 1 + x, ⟨#[]⟩, by decide, rfl, (by repeat (first | with_reducible assumption | with_reducible refine Cur.set ?_ (by first | (simp; done) | (simp; omega) | omega) _ | with_reducible refine Cur.alloc ?_ _ | with_reducible refine Cur.drew ?_ | with_reducible refine Cur.below ?_ (by assumption))), (by repeat (first | with_reducible exact World.grownBy.refl _ _ | with_reducible assumption | with_reducible refine gr_alloc ?_ _ | with_reducible refine gr_drew ?_ | with_reducible refine gr_drewN ?_ _ | with_reducible refine gr_set ?_ (by first | (simp; done) | (simp; omega) | omega) _ | with_reducible refine World.grownBy.trans ?_ (by assumption) | with_reducible refine grown_below ?_ (by assumption)))⟩
def DrawnF (g : Nat) (code : List UInt8) (w : World) (e : Ending) (w' : World) : Prop :=
  ∃ (kd : ByteArray) (A : Option Addr) (c : Nat) (fs : List Vl), kd.size ≤ 30 ∧ fs.length ≤ 6 ∧ (∀ x ∈ fs, x.s.size ≤ 30) ∧ e = .returned (.agg #[.string kd, .slice A fs.length c]) ∧ OwnT vC 3 w' w.heap.size 37 (.slice A fs.length c) fs ∧ Cur w' g code ∧ w.grownBy w' (some g)
theorem OwnT.grownG {α : Type} {f : α → List Value} {z : Nat} {w w' : World} {base g : Nat} {e : TypeId} {v : Value} {xs : List α} (h : OwnT f z w base e v xs) (hg : w.grownBy w' (some g)) (hb : g < base) : OwnT f z w' base e v xs :=
  World.ownsRow.kept h hg (by cases hv : v.ownBlock with | none => exact .inl rfl | some b => exact .inr fun e => by have := (World.ownsRow.lt h b hv).1; injection e with e; omega)
theorem Blk.bel {w w' : World} {b B : Nat} {t : TypeId} {cs : Array Value} (h : Blk w b t cs) (hb : Below B w w') (hB : b < B) : Blk w' b t cs := (hb.block b hB).trans h
theorem drew_size' (w : World) : w.drew.heap.size = w.heap.size := rfl
theorem gr_bel {a w w' : World} {g B : Nat} (h : a.grownBy w (some g)) (hb : Below B w w') (hB : a.heap.size ≤ B) : a.grownBy w' (some g) :=
  ⟨hb.os.trans h.os, hb.tape.trans h.tape, hb.output.trans h.output, Nat.le_trans h.size hb.size, fun i hi hne => (hb.block i (by omega)).trans (h.block i hi hne)⟩
/-- the same, and its kind is another than one word -/
def fullB : ByteArray := ⟨#[102, 117, 108, 108]⟩
def DrawnK (g : Nat) (code : List UInt8) (w : World) (e : Ending) (w' : World) : Prop :=
  ∃ (kd : ByteArray) (A : Option Addr) (c : Nat) (fs : List Vl), (kd.size ≤ 30 ∧ kd ≠ fullB) ∧ fs.length ≤ 6 ∧ (∀ x ∈ fs, x.s.size ≤ 30) ∧ e = .returned (.agg #[.string kd, .slice A fs.length c]) ∧ OwnT vC 3 w' w.heap.size 37 (.slice A fs.length c) fs ∧ Cur w' g code ∧ w.grownBy w' (some g)
end Go.Proofs.Ytdlcbmhnagajdaa
