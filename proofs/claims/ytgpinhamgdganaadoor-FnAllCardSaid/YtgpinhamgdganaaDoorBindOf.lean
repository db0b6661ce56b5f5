/- BindOf, ArgVal, Holds, HoldAll of the program and of the reference. Each answers what the plain function says and makes at most new blocks. No condition but lengths. -/
import Derived.Test.YtgpinhamgdganaaDoorBindS
import Derived.Test.YtgpinhamgdganaaDoorCondS
import Derived.Test.YtgpinhamgdganaaDoorLess
import Derived.Test.YtgpinhamgdganaaDoorBox
namespace Go.Proofs.YtgpinhamgdganaaDoor
open Go.RowKit
set_option maxRecDepth 100000
set_option maxHeartbeats 2000000

theorem tl_inj (s t : ByteArray) : s.toList = t.toList ↔ s = t := by
  have := str_eq s t
  constructor
  · intro h; rw [h] at this; simpa using this
  · rintro rfl; rfl
def nV : Vl := ⟨0, 0, ByteArray.empty⟩
def tupB (r : Vl × Bool) : Value := .tuple #[.agg #[.int .i64 r.1.k, .int .i64 r.1.n, .string r.1.s], .bool r.2]
def bindOf : List Bd → ByteArray → Vl × Bool
  | [], _ => (nV, false)
  | b :: l, x => if b.s = x then (b.v, true) else bindOf l x
theorem bindOf_step {l : List Bd} {k : Nat} {x : ByteArray} (h1 : k < l.length) (he : l[k].s ≠ x) : bindOf (l.drop k) x = bindOf (l.drop (k + 1)) x := by
  rw [List.drop_eq_getElem_cons h1, bindOf, if_neg he]
theorem bindOf_stop {l : List Bd} {k : Nat} {x : ByteArray} (h1 : k < l.length) (he : l[k].s = x) : bindOf (l.drop k) x = (l[k].v, true) := by
  rw [List.drop_eq_getElem_cons h1, bindOf, if_pos he]
theorem bindOf_end {l : List Bd} {k : Nat} {x : ByteArray} (h1 : l.length ≤ k) : bindOf (l.drop k) x = (nV, false) := by
  rw [List.drop_eq_nil_of_le h1]; rfl
def argVal (a : Ag) (l : List Bd) : Vl × Bool := if a.k = 2 then (a.v, true) else if a.k = 1 then bindOf l a.s else (nV, false)
def holds (c : Cd) (l : List Bd) : Bool :=
  if (argVal c.l l).2 && (argVal c.r l).2 then (if c.op = 1 then decide ((argVal c.l l).1 = (argVal c.r l).1) else if c.op = 2 then !decide ((argVal c.l l).1 = (argVal c.r l).1) else if c.op = 3 then lessV (argVal c.l l).1 (argVal c.r l).1 else false) else false
def holdAll (cs : List Cd) (l : List Bd) : Bool := cs.all fun c => holds c l

theorem implBindOf_any (A : Option Addr) (n c : Nat) (xs : List Bd) (nm : ByteArray) (w : World) (B : Nat) (hr : RdS bC 4 w B A n xs) (hn : n ≤ 4611686018427387904) :
    Calls Tryd.prog 67 #[.slice A n c, .string nm] w fun e w' => e = .returned (tupB (bindOf xs nm)) ∧ Below w.heap.size w w' := by
  have HL := Lib.hid hr.len
  have HZ := Blk.new w 30 #[.int .i64 0, .int .i64 0, .string ⟨#[]⟩]
  have HT := Lib.hid (show bindOf xs nm = bindOf (xs.drop 0) nm from rfl)
  go_enter Tryd.func67, Tryd.ntmps67
  go_wp2
  go_loopw [10] (fun i wr => ∃ k : Nat, k ≤ n ∧ i = .int .i64 k ∧ bindOf (xs.drop 0) nm = bindOf (xs.drop k) nm ∧ Below w.heap.size w wr ∧ Blk wr w.heap.size 30 #[.int .i64 0, .int .i64 0, .string ⟨#[]⟩]) (fun i _ => n - (intOf i).toNat)
  case atStart => exact ⟨0, Nat.zero_le _, rfl, rfl, (by repeat (first | with_reducible exact bel_refl _ | with_reducible assumption | with_reducible refine bel_set ?_ (by first | (simp; done) | (simp; omega) | omega) _ | with_reducible refine bel_alloc ?_ _ | with_reducible refine bel_drew ?_ | with_reducible refine bel_drewN ?_ _ | with_reducible refine bel_trans ?_ (by assumption))), HZ⟩
  case round =>
    obtain ⟨k, hk, rfl, ht, hbel, hz⟩ := hrel
    have HTT := Lib.hid ht; clear ht
    obtain ⟨c0, c1, c2, f0, f1, f2⟩ := hz.three
    have hzl := hz.lt
    by_cases hlt : k < n
    · obtain ⟨b, o, rfl, hb, hc⟩ := (hr.kept hbel).2.bind_ (by omega)
      obtain ⟨s, vk, vn, vs, he, p0, p1, p2, p3⟩ := hc k hlt
      clear hc
      have hkl : k < xs.length := by rw [HL.out]; exact hlt
      by_cases hs : s = nm
      · subst hs
        have hst := bindOf_stop (x := s) hkl (by rw [he])
        rw [he] at hst
        have HST := Lib.hid hst; clear hst he
        have hss : (s.toList == s.toList) = true := by simp
        go_wp2
        refine bodyPost_ret (v := tupB (⟨vk, vn, vs⟩, true)) (by simp [results, Tryd.results67, go_sem, tupB, c0, c1, c2, hzl]) rfl ⟨by rw [HT.out, HTT.out, HST.out], (by repeat (first | with_reducible exact bel_refl _ | with_reducible assumption | with_reducible refine bel_set ?_ (by first | (simp; done) | (simp; omega) | omega) _ | with_reducible refine bel_alloc ?_ _ | with_reducible refine bel_drew ?_ | with_reducible refine bel_drewN ?_ _ | with_reducible refine bel_trans ?_ (by assumption)))⟩
      · have hss : (s.toList == nm.toList) = false := by rw [str_eq, decide_eq_false hs]
        have hst := bindOf_step (x := nm) hkl (by rw [he]; exact hs)
        have HST := Lib.hid hst; clear hst he hs
        go_wp2
        go_roundw
        case rel => exact ⟨k + 1, by omega, by go_num, HTT.out.trans HST.out, (by repeat (first | with_reducible exact bel_refl _ | with_reducible assumption | with_reducible refine bel_set ?_ (by first | (simp; done) | (simp; omega) | omega) _ | with_reducible refine bel_alloc ?_ _ | with_reducible refine bel_drew ?_ | with_reducible refine bel_drewN ?_ _ | with_reducible refine bel_trans ?_ (by assumption))), hz.alloc _⟩
        case measure => simp [intOf]; omega
    · have HEN := Lib.hid (bindOf_end (l := xs) (k := k) (x := nm) (by rw [HL.out]; omega))
      go_wp2
      refine bodyPost_ret (v := tupB (nV, false)) (by simp [results, Tryd.results67, go_sem, tupB, nV, c0, c1, c2]; try rfl) rfl ⟨by rw [HT.out, HTT.out, HEN.out], (by repeat (first | with_reducible exact bel_refl _ | with_reducible assumption | with_reducible refine bel_set ?_ (by first | (simp; done) | (simp; omega) | omega) _ | with_reducible refine bel_alloc ?_ _ | with_reducible refine bel_drew ?_ | with_reducible refine bel_drewN ?_ _ | with_reducible refine bel_trans ?_ (by assumption)))⟩
theorem implArgVal_any (ak : Int) (as_ : ByteArray) (avk avn : Int) (avs : ByteArray) (A : Option Addr) (n c : Nat) (xs : List Bd) (w : World) (B : Nat) (hr : RdS bC 4 w B A n xs) (hn : n ≤ 4611686018427387904) :
    Calls Tryd.prog 37 #[.agg #[.int .i64 ak, .string as_, .int .i64 avk, .int .i64 avn, .string avs], .slice A n c] w fun e w' => e = .returned (tupB (argVal ⟨ak, as_, ⟨avk, avn, avs⟩⟩ xs)) ∧ Below w.heap.size w w' := by
  by_cases h2 : ak = 2
  · subst h2
    go_enter Tryd.func37, Tryd.ntmps37
    go_wp2
    refine bodyPost_ret (v := tupB (⟨avk, avn, avs⟩, true)) (by simp [results, Tryd.results37, go_sem, tupB]) rfl ⟨rfl, (by repeat (first | with_reducible exact bel_refl _ | with_reducible assumption | with_reducible refine bel_set ?_ (by first | (simp; done) | (simp; omega) | omega) _ | with_reducible refine bel_alloc ?_ _ | with_reducible refine bel_drew ?_ | with_reducible refine bel_drewN ?_ _ | with_reducible refine bel_trans ?_ (by assumption)))⟩
  · have ht2 : (ak == 2) = false := by simpa using h2
    by_cases h1 : ak = 1
    · subst h1
      obtain ⟨⟨rk, rn, rs⟩, rb, hv⟩ : ∃ (a : Vl) (b : Bool), bindOf xs as_ = (a, b) := ⟨_, _, rfl⟩
      have HV := Lib.hid hv; clear hv h2
      go_enter Tryd.func37, Tryd.ntmps37
      go_wp2_with fail
      refine (implBindOf_any A n c xs as_ _ _ ((hr.alloc _).alloc _) hn).mono ?_
      rw [HV.out]
      dsimp only [tupB]
      rintro e w1 ⟨rfl, hb⟩
      have HZ := Blk.kept (w := (w.alloc (.cells #[.int .i64 1, .string as_, .int .i64 avk, .int .i64 avn, .string avs] 32)).alloc (.cells #[.int .i64 0, .int .i64 0, .string ⟨#[]⟩] 30)) (Blk.new _ 30 #[.int .i64 0, .int .i64 0, .string ⟨#[]⟩]) hb
      simp at HZ
      obtain ⟨c0, c1, c2, f0, f1, f2⟩ := HZ.three
      go_wp2
      refine bodyPost_ret (v := tupB (⟨rk, rn, rs⟩, rb)) (by simp [results, Tryd.results37, go_sem, tupB, c0, c1, c2]) rfl ⟨?_, (by repeat (first | with_reducible exact bel_refl _ | with_reducible assumption | with_reducible refine bel_set ?_ (by first | (simp; done) | (simp; omega) | omega) _ | with_reducible refine bel_alloc ?_ _ | with_reducible refine bel_drew ?_ | with_reducible refine bel_drewN ?_ _ | with_reducible refine bel_trans ?_ (by assumption)))⟩
      unfold argVal
      rw [if_neg (by simp), if_pos rfl]
      rw [HV.out]
    · have ht1 : (ak == 1) = false := by simpa using h1
      have HT := Lib.hid (show argVal ⟨ak, as_, ⟨avk, avn, avs⟩⟩ xs = (nV, false) by unfold argVal; rw [if_neg h2, if_neg h1])
      clear h1 h2
      go_enter Tryd.func37, Tryd.ntmps37
      go_wp2
      refine bodyPost_ret (v := tupB (nV, false)) (by simp [results, Tryd.results37, go_sem, tupB, nV]; try rfl) rfl ⟨by rw [HT.out], (by repeat (first | with_reducible exact bel_refl _ | with_reducible assumption | with_reducible refine bel_set ?_ (by first | (simp; done) | (simp; omega) | omega) _ | with_reducible refine bel_alloc ?_ _ | with_reducible refine bel_drew ?_ | with_reducible refine bel_drewN ?_ _ | with_reducible refine bel_trans ?_ (by assumption)))⟩
theorem implHolds_any (op lk : Int) (ls : ByteArray) (lvk lvn : Int) (lvs : ByteArray) (rk : Int) (rs : ByteArray) (rvk rvn : Int) (rvs : ByteArray) (A : Option Addr) (n c : Nat) (xs : List Bd) (w : World) (B : Nat) (hr : RdS bC 4 w B A n xs) (hn : n ≤ 4611686018427387904) :
    Calls Tryd.prog 9 #[.agg #[.int .i64 op, .int .i64 lk, .string ls, .int .i64 lvk, .int .i64 lvn, .string lvs, .int .i64 rk, .string rs, .int .i64 rvk, .int .i64 rvn, .string rvs], .slice A n c] w fun e w' => e = .returned (.bool (holds ⟨op, ⟨lk, ls, ⟨lvk, lvn, lvs⟩⟩, ⟨rk, rs, ⟨rvk, rvn, rvs⟩⟩⟩ xs)) ∧ Below w.heap.size w w' := by
  obtain ⟨⟨xk, xn, xs'⟩, xb, hv⟩ : ∃ (a : Vl) (b : Bool), argVal ⟨lk, ls, ⟨lvk, lvn, lvs⟩⟩ xs = (a, b) := ⟨_, _, rfl⟩
  obtain ⟨⟨yk, yn, ys'⟩, yb, hv2⟩ : ∃ (a : Vl) (b : Bool), argVal ⟨rk, rs, ⟨rvk, rvn, rvs⟩⟩ xs = (a, b) := ⟨_, _, rfl⟩
  have HT := Lib.hid (show holds ⟨op, ⟨lk, ls, ⟨lvk, lvn, lvs⟩⟩, ⟨rk, rs, ⟨rvk, rvn, rvs⟩⟩⟩ xs = (if xb && yb then (if op = 1 then decide ((⟨xk, xn, xs'⟩ : Vl) = ⟨yk, yn, ys'⟩) else if op = 2 then !decide ((⟨xk, xn, xs'⟩ : Vl) = ⟨yk, yn, ys'⟩) else if op = 3 then lessV ⟨xk, xn, xs'⟩ ⟨yk, yn, ys'⟩ else false) else false) by unfold holds; rw [hv, hv2])
  have HV := Lib.hid hv; clear hv
  have HV2 := Lib.hid hv2; clear hv2
  have HB := Blk.new w 34 #[.int .i64 op, .int .i64 lk, .string ls, .int .i64 lvk, .int .i64 lvn, .string lvs, .int .i64 rk, .string rs, .int .i64 rvk, .int .i64 rvn, .string rvs]
  go_enter Tryd.func9, Tryd.ntmps9
  go_wp2_with fail
  refine (implArgVal_any lk ls lvk lvn lvs A n c xs _ _ (hr.alloc _) hn).mono ?_
  rw [HV.out]
  dsimp only [tupB]
  rintro e w1 ⟨rfl, hb⟩
  have g1 : Below w.heap.size w w1 := (by repeat (first | with_reducible exact bel_refl _ | with_reducible assumption | with_reducible refine bel_set ?_ (by first | (simp; done) | (simp; omega) | omega) _ | with_reducible refine bel_alloc ?_ _ | with_reducible refine bel_drew ?_ | with_reducible refine bel_drewN ?_ _ | with_reducible refine bel_trans ?_ (by assumption)))
  replace HB := HB.kept hb
  have q0 := HB.cell 0
  have q1 := HB.cell 6; have q2 := HB.cell 7; have q3 := HB.cell 8; have q4 := HB.cell 9; have q5 := HB.cell 10
  simp at q0 q1 q2 q3 q4 q5
  have hBl := HB.lt
  replace hr := hr.kept g1
  clear hb
  have HX := Blk.new w1 30 #[.int .i64 xk, .int .i64 xn, .string xs']
  go_wp2_with fail
  refine (implArgVal_any rk rs rvk rvn rvs A n c xs _ _ (hr.alloc _) hn).mono ?_
  rw [HV2.out]
  dsimp only [tupB]
  rintro e w2 ⟨rfl, hb⟩
  have g2 : Below w.heap.size w w2 := (by repeat (first | with_reducible exact bel_refl _ | with_reducible assumption | with_reducible refine bel_set ?_ (by first | (simp; done) | (simp; omega) | omega) _ | with_reducible refine bel_alloc ?_ _ | with_reducible refine bel_drew ?_ | with_reducible refine bel_drewN ?_ _ | with_reducible refine bel_trans ?_ (by assumption)))
  replace HB := (HB.alloc _).kept hb
  replace HX := HX.kept hb
  clear q0 q1 q2 q3 q4 q5
  have q0 := HB.cell 0
  simp at q0
  have hBl := HB.lt
  have hXl := HX.lt
  obtain ⟨x0, x1, x2, _, _, _⟩ := HX.three
  clear hb
  go_wp2_with (go_at_call 38; refine (implLessVal_any _ _ _ _ _ _ _).mono ?_; rintro e w' ⟨rfl, hb3⟩)
  all_goals
    go_ret
    refine ⟨ret_bool ?_, (by repeat (first | with_reducible exact bel_refl _ | with_reducible assumption | with_reducible refine bel_set ?_ (by first | (simp; done) | (simp; omega) | omega) _ | with_reducible refine bel_alloc ?_ _ | with_reducible refine bel_drew ?_ | with_reducible refine bel_drewN ?_ _ | with_reducible refine bel_trans ?_ (by assumption)))⟩
    rw [HT.out]
    simp_all [tl_inj]
theorem implHoldAll_any (A1 : Option Addr) (n1 c1 : Nat) (cs : List Cd) (A : Option Addr) (n c : Nat) (xs : List Bd) (w : World) (B1 B : Nat) (hr1 : RdS cC 11 w B1 A1 n1 cs) (hr : RdS bC 4 w B A n xs) (hn1 : n1 ≤ 4611686018427387904) (hn : n ≤ 4611686018427387904) :
    Calls Tryd.prog 11 #[.slice A1 n1 c1, .slice A n c] w fun e w' => e = .returned (.bool (holdAll cs xs)) ∧ Below w.heap.size w w' := by
  have HL := Lib.hid hr1.len
  go_enter Tryd.func11, Tryd.ntmps11
  go_wp2
  go_loopw [9] (fun i wr => ∃ k : Nat, k ≤ n1 ∧ i = .int .i64 k ∧ (cs.take k).all (fun c => holds c xs) = true ∧ Below w.heap.size w wr) (fun i _ => n1 - (intOf i).toNat)
  case atStart => exact ⟨0, Nat.zero_le _, rfl, rfl, bel_refl _⟩
  case round =>
    obtain ⟨k, hk, rfl, ha, hbel⟩ := hrel
    have HA := Lib.hid ha; clear ha
    by_cases hlt : k < n1
    · obtain ⟨b, o, rfl, hb, hc⟩ := (hr1.kept hbel).2.cond_ (by omega)
      obtain ⟨op, lk, ls, lvk, lvn, lvs, rk, rs, rvk, rvn, rvs, he, p0, p1, p2, p3, p4, p5, p6, p7, p8, p9, p10⟩ := hc k hlt
      clear hc
      have hkl : k < cs.length := by rw [HL.out]; exact hlt
      have HE := Lib.hid he; clear he
      have hrk := hr.kept hbel
      obtain ⟨r, hv⟩ : ∃ r, holds ⟨op, ⟨lk, ls, ⟨lvk, lvn, lvs⟩⟩, ⟨rk, rs, ⟨rvk, rvn, rvs⟩⟩⟩ xs = r := ⟨_, rfl⟩
      have HV := Lib.hid hv; clear hv
      cases r
      all_goals
        go_wp2_with (go_at_call 9; refine (implHolds_any op lk ls lvk lvn lvs rk rs rvk rvn rvs A n c xs _ _ (hrk.alloc _) hn).mono ?_; rw [HV.out]; rintro e w' ⟨rfl, hb1⟩)
      · go_ret
        refine ⟨ret_bool ?_, (by repeat (first | with_reducible exact bel_refl _ | with_reducible assumption | with_reducible refine bel_set ?_ (by first | (simp; done) | (simp; omega) | omega) _ | with_reducible refine bel_alloc ?_ _ | with_reducible refine bel_drew ?_ | with_reducible refine bel_drewN ?_ _ | with_reducible refine bel_trans ?_ (by assumption)))⟩
        rw [eq_comm]
        unfold holdAll
        rw [List.all_eq_false]
        exact ⟨cs[k]'hkl, List.getElem_mem _, by rw [HE.out, HV.out]; simp⟩
      · go_roundw
        case rel => exact ⟨k + 1, by omega, by go_num, by rw [List.take_succ_eq_append_getElem hkl, List.all_append, HA.out]; simp [HE.out, HV.out], (by repeat (first | with_reducible exact bel_refl _ | with_reducible assumption | with_reducible refine bel_set ?_ (by first | (simp; done) | (simp; omega) | omega) _ | with_reducible refine bel_alloc ?_ _ | with_reducible refine bel_drew ?_ | with_reducible refine bel_drewN ?_ _ | with_reducible refine bel_trans ?_ (by assumption)))⟩
        case measure => simp [intOf]; omega
    · have hall : holdAll cs xs = true := by unfold holdAll; rw [← HA.out, List.take_of_length_le (by rw [HL.out]; omega)]
      have HX := Lib.hid hall; clear hall
      go_wp2
      go_ret
      exact ⟨ret_bool HX.out.symm, hbel⟩
end Go.Proofs.YtgpinhamgdganaaDoor
