/- BindOf, ArgVal, Holds, HoldAll of the program and of the reference. Each answers what the plain function says and makes at most new blocks. No condition but lengths. -/
import Derived.Test.YtdlcbmhnagajdaaBindS
import Derived.Test.YtdlcbmhnagajdaaCondS
import Derived.Test.YtdlcbmhnagajdaaLess
import Derived.Test.YtdlcbmhnagajdaaBox
namespace Go.Proofs.Ytdlcbmhnagajdaa
open Go.RowKit
set_option maxRecDepth 100000
set_option maxHeartbeats 2000000

theorem tl_inj (s t : ByteArray) : s.toList = t.toList ↔ s = t := by
  have := str_eq s t
  constructor
  · intro h; rw [h] at this; simpa using this
  · rintro rfl; rfl
def nV : Vl := ⟨0, 0, ByteArray.empty⟩
def tupB (r : Vl × Bool) : Value := .tuple #[.agg #[.int .i64 r.1.k, .int .i64 r.1.n, .string r.1.s], .bool r.2]
def bindOf : List Bd → ByteArray → Vl × Bool
  | [], _ => (nV, false)
  | b :: l, x => if b.s = x then (b.v, true) else bindOf l x
theorem bindOf_step {l : List Bd} {k : Nat} {x : ByteArray} (h1 : k < l.length) (he : l[k].s ≠ x) : bindOf (l.drop k) x = bindOf (l.drop (k + 1)) x := by
  rw [List.drop_eq_getElem_cons h1, bindOf, if_neg he]
theorem bindOf_stop {l : List Bd} {k : Nat} {x : ByteArray} (h1 : k < l.length) (he : l[k].s = x) : bindOf (l.drop k) x = (l[k].v, true) := by
  rw [List.drop_eq_getElem_cons h1, bindOf, if_pos he]
theorem bindOf_end {l : List Bd} {k : Nat} {x : ByteArray} (h1 : l.length ≤ k) : bindOf (l.drop k) x = (nV, false) := by
  rw [List.drop_eq_nil_of_le h1]; rfl
def argVal (a : Ag) (l : List Bd) : Vl × Bool := if a.k = 2 then (a.v, true) else if a.k = 1 then bindOf l a.s else (nV, false)
def holds (c : Cd) (l : List Bd) : Bool :=
  if (argVal c.l l).2 && (argVal c.r l).2 then (if c.op = 1 then decide ((argVal c.l l).1 = (argVal c.r l).1) else if c.op = 2 then !decide ((argVal c.l l).1 = (argVal c.r l).1) else if c.op = 3 then lessV (argVal c.l l).1 (argVal c.r l).1 else false) else false
def holdAll (cs : List Cd) (l : List Bd) : Bool := cs.all fun c => holds c l

theorem implBindOf_any (A : Option Addr) (n c : Nat) (xs : List Bd) (nm : ByteArray) (w : World) (B : Nat) (hr : RdS bC 4 w B A n xs) (hn : n ≤ 4611686018427387904) :
    Calls Try.prog 9 #[.slice A n c, .string nm] w fun e w' => e = .returned (tupB (bindOf xs nm)) ∧ Below w.heap.size w w' := by
  have HL := Lib.hid hr.len
  have HZ := Blk.new w 37 #[.int .i64 0, .int .i64 0, .string ⟨#[]⟩]
  have HT := Lib.hid (show bindOf xs nm = bindOf (xs.drop 0) nm from rfl)
  go_enter Try.func9, Try.ntmps9
  go_wp2
  go_loopw [10] (fun i wr => ∃ k : Nat, k ≤ n ∧ i = .int .i64 k ∧ bindOf (xs.drop 0) nm = bindOf (xs.drop k) nm ∧ Below w.heap.size w wr ∧ Blk wr w.heap.size 37 #[.int .i64 0, .int .i64 0, .string ⟨#[]⟩]) (fun i _ => n - (intOf i).toNat)
  case atStart => exact ⟨0, Nat.zero_le _, rfl, rfl, (by repeat (first | with_reducible exact bel_refl _ | with_reducible assumption | with_reducible refine bel_set ?_ (by first | (simp; done) | (simp; omega) | omega) _ | with_reducible refine bel_alloc ?_ _ | with_reducible refine bel_drew ?_ | with_reducible refine bel_drewN ?_ _ | with_reducible refine bel_trans ?_ (by assumption))), HZ⟩
  case round =>
    obtain ⟨k, hk, rfl, ht, hbel, hz⟩ := hrel
    have HTT := Lib.hid ht; clear ht
    obtain ⟨c0, c1, c2, f0, f1, f2⟩ := hz.three
    have hzl := hz.lt
    by_cases hlt : k < n
    · obtain ⟨b, o, rfl, hb, hc⟩ := (hr.kept hbel).2.bind_ (by omega)
      obtain ⟨s, vk, vn, vs, he, p0, p1, p2, p3⟩ := hc k hlt
      clear hc
      have hkl : k < xs.length := by rw [HL.out]; exact hlt
      by_cases hs : s = nm
      · subst hs
        have hst := bindOf_stop (x := s) hkl (by rw [he])
        rw [he] at hst
        have HST := Lib.hid hst; clear hst he
        have hss : (s.toList == s.toList) = true := by simp
        go_wp2
        refine bodyPost_ret (v := tupB (⟨vk, vn, vs⟩, true)) (by simp [results, Try.results9, go_sem, tupB, c0, c1, c2, hzl]) rfl ⟨by rw [HT.out, HTT.out, HST.out], (by repeat (first | with_reducible exact bel_refl _ | with_reducible assumption | with_reducible refine bel_set ?_ (by first | (simp; done) | (simp; omega) | omega) _ | with_reducible refine bel_alloc ?_ _ | with_reducible refine bel_drew ?_ | with_reducible refine bel_drewN ?_ _ | with_reducible refine bel_trans ?_ (by assumption)))⟩
      · have hss : (s.toList == nm.toList) = false := by rw [str_eq, decide_eq_false hs]
        have hst := bindOf_step (x := nm) hkl (by rw [he]; exact hs)
        have HST := Lib.hid hst; clear hst he hs
        go_wp2
        go_roundw
        case rel => exact ⟨k + 1, by omega, by go_num, HTT.out.trans HST.out, (by repeat (first | with_reducible exact bel_refl _ | with_reducible assumption | with_reducible refine bel_set ?_ (by first | (simp; done) | (simp; omega) | omega) _ | with_reducible refine bel_alloc ?_ _ | with_reducible refine bel_drew ?_ | with_reducible refine bel_drewN ?_ _ | with_reducible refine bel_trans ?_ (by assumption))), hz.alloc _⟩
        case measure => simp [intOf]; omega
    · have HEN := Lib.hid (bindOf_end (l := xs) (k := k) (x := nm) (by rw [HL.out]; omega))
      go_wp2
      refine bodyPost_ret (v := tupB (nV, false)) (by simp [results, Try.results9, go_sem, tupB, nV, c0, c1, c2]; try rfl) rfl ⟨by rw [HT.out, HTT.out, HEN.out], (by repeat (first | with_reducible exact bel_refl _ | with_reducible assumption | with_reducible refine bel_set ?_ (by first | (simp; done) | (simp; omega) | omega) _ | with_reducible refine bel_alloc ?_ _ | with_reducible refine bel_drew ?_ | with_reducible refine bel_drewN ?_ _ | with_reducible refine bel_trans ?_ (by assumption)))⟩
theorem specBindOf_any (A : Option Addr) (n c : Nat) (xs : List Bd) (nm : ByteArray) (w : World) (B : Nat) (hr : RdS bC 4 w B A n xs) (hn : n ≤ 4611686018427387904) :
    Calls Try.prog 15 #[.slice A n c, .string nm] w fun e w' => e = .returned (tupB (bindOf xs nm)) ∧ Below w.heap.size w w' := by
  have HL := Lib.hid hr.len
  have HZ := Blk.new w 37 #[.int .i64 0, .int .i64 0, .string ⟨#[]⟩]
  have HT := Lib.hid (show bindOf xs nm = bindOf (xs.drop 0) nm from rfl)
  go_enter Try.func15, Try.ntmps15
  go_wp2
  go_loopw [6] (fun i wr => ∃ k : Nat, k ≤ n ∧ i = .int .i64 k ∧ bindOf (xs.drop 0) nm = bindOf (xs.drop k) nm ∧ Below w.heap.size w wr ∧ Blk wr w.heap.size 37 #[.int .i64 0, .int .i64 0, .string ⟨#[]⟩]) (fun i _ => n - (intOf i).toNat)
  case atStart => exact ⟨0, Nat.zero_le _, rfl, rfl, (by repeat (first | with_reducible exact bel_refl _ | with_reducible assumption | with_reducible refine bel_set ?_ (by first | (simp; done) | (simp; omega) | omega) _ | with_reducible refine bel_alloc ?_ _ | with_reducible refine bel_drew ?_ | with_reducible refine bel_drewN ?_ _ | with_reducible refine bel_trans ?_ (by assumption))), HZ⟩
  case round =>
    obtain ⟨k, hk, rfl, ht, hbel, hz⟩ := hrel
    have HTT := Lib.hid ht; clear ht
    obtain ⟨c0, c1, c2, f0, f1, f2⟩ := hz.three
    have hzl := hz.lt
    by_cases hlt : k < n
    · obtain ⟨b, o, rfl, hb, hc⟩ := (hr.kept hbel).2.bind_ (by omega)
      obtain ⟨s, vk, vn, vs, he, p0, p1, p2, p3⟩ := hc k hlt
      clear hc
      have hkl : k < xs.length := by rw [HL.out]; exact hlt
      by_cases hs : s = nm
      · subst hs
        have hst := bindOf_stop (x := s) hkl (by rw [he])
        rw [he] at hst
        have HST := Lib.hid hst; clear hst he
        have hss : (s.toList == s.toList) = true := by simp
        go_wp2
        refine bodyPost_ret (v := tupB (⟨vk, vn, vs⟩, true)) (by simp [results, Try.results15, go_sem, tupB, c0, c1, c2]) rfl ⟨by rw [HT.out, HTT.out, HST.out], (by repeat (first | with_reducible exact bel_refl _ | with_reducible assumption | with_reducible refine bel_set ?_ (by first | (simp; done) | (simp; omega) | omega) _ | with_reducible refine bel_alloc ?_ _ | with_reducible refine bel_drew ?_ | with_reducible refine bel_drewN ?_ _ | with_reducible refine bel_trans ?_ (by assumption)))⟩
      · have hss : (s.toList == nm.toList) = false := by rw [str_eq, decide_eq_false hs]
        have hst := bindOf_step (x := nm) hkl (by rw [he]; exact hs)
        have HST := Lib.hid hst; clear hst he hs
        go_wp2
        go_roundw
        case rel => exact ⟨k + 1, by omega, by go_num, HTT.out.trans HST.out, (by repeat (first | with_reducible exact bel_refl _ | with_reducible assumption | with_reducible refine bel_set ?_ (by first | (simp; done) | (simp; omega) | omega) _ | with_reducible refine bel_alloc ?_ _ | with_reducible refine bel_drew ?_ | with_reducible refine bel_drewN ?_ _ | with_reducible refine bel_trans ?_ (by assumption))), hz⟩
        case measure => simp [intOf]; omega
    · have HEN := Lib.hid (bindOf_end (l := xs) (k := k) (x := nm) (by rw [HL.out]; omega))
      go_wp2
      refine bodyPost_ret (v := tupB (nV, false)) (by simp [results, Try.results15, go_sem, tupB, nV, c0, c1, c2]; try rfl) rfl ⟨by rw [HT.out, HTT.out, HEN.out], (by repeat (first | with_reducible exact bel_refl _ | with_reducible assumption | with_reducible refine bel_set ?_ (by first | (simp; done) | (simp; omega) | omega) _ | with_reducible refine bel_alloc ?_ _ | with_reducible refine bel_drew ?_ | with_reducible refine bel_drewN ?_ _ | with_reducible refine bel_trans ?_ (by assumption)))⟩
end Go.Proofs.Ytdlcbmhnagajdaa
