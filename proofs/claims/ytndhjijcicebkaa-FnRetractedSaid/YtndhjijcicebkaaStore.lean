/- Stores: the laws' helpers on them, and IdOf of the program and of the reference. Each answers what the plain function says and makes at most new blocks. No condition but lengths. -/
import Derived.Test.YtndhjijcicebkaaItem
import Derived.Test.YtndhjijcicebkaaFact2
namespace Go.Proofs.Ytndhjijcicebkaa
open Go.RowKit
set_option maxRecDepth 100000
set_option maxHeartbeats 2000000

structure St where
  xs : List It
  nx : Int
deriving DecidableEq
def idOf : List It → Ft → Int
  | [], _ => 0
  | x :: l, f => if x.f = f then x.id else idOf l f
theorem idOf_step {l : List It} {k : Nat} {f : Ft} (h1 : k < l.length) (he : ¬ l[k].f = f) : idOf (l.drop k) f = idOf (l.drop (k + 1)) f := by
  rw [List.drop_eq_getElem_cons h1, idOf, if_neg he]
theorem idOf_stop {l : List It} {k : Nat} {f : Ft} (h1 : k < l.length) (he : l[k].f = f) : idOf (l.drop k) f = l[k].id := by
  rw [List.drop_eq_getElem_cons h1, idOf, if_pos he]
theorem idOf_end {l : List It} {k : Nat} {f : Ft} (h1 : l.length ≤ k) : idOf (l.drop k) f = 0 := by
  rw [List.drop_eq_nil_of_le h1]; rfl
def totSt (rs : List IR) : Nat := totI rs
theorem eqItem_any (id1 : Int) (k1 : ByteArray) (A1 : Option Addr) (n1 c1 : Nat) (l1 : List Vl) (id2 : Int) (k2 : ByteArray) (A2 : Option Addr) (n2 c2 : Nat) (l2 : List Vl) (w : World) (B B2 : Nat) (h1 : RdS vC 3 w B A1 n1 l1) (h2 : RdS vC 3 w B2 A2 n2 l2) (hn : n1 ≤ 4611686018427387904) :
    Calls Try.prog 69 #[.agg #[.int .i64 id1, .string k1, .slice A1 n1 c1], .agg #[.int .i64 id2, .string k2, .slice A2 n2 c2]] w fun e w' => e = .returned (.bool (decide (It.mk id1 ⟨k1, l1⟩ = It.mk id2 ⟨k2, l2⟩))) ∧ Below w.heap.size w w' := by
  obtain ⟨r, hr⟩ : ∃ r, decide (Ft.mk k1 l1 = Ft.mk k2 l2) = r := ⟨_, rfl⟩
  have HR := Lib.hid hr; clear hr
  go_enter Try.func69, Try.ntmps69
  go_wp2_with (go_at_call 15; refine (eqFact_any k1 k2 A1 A2 n1 c1 n2 c2 l1 l2 _ _ _ ((h1.alloc _).alloc _) ((h2.alloc _).alloc _) hn).mono ?_; rw [HR.out]; rintro e w' ⟨rfl, hb⟩)
  all_goals
    go_ret
    refine ⟨ret_bool ?_, (by repeat (first | with_reducible exact bel_refl _ | with_reducible assumption | with_reducible refine bel_set ?_ (by first | (simp; done) | (simp; omega) | omega) _ | with_reducible refine bel_alloc ?_ _ | with_reducible refine bel_drew ?_ | with_reducible refine bel_drewN ?_ _ | with_reducible refine bel_trans ?_ (by assumption)))⟩
    have hR := HR.out
    simp_all
theorem eqItemS_any (A1 A2 : Option Addr) (n1 c1 n2 c2 : Nat) (l1 l2 : List IR) (w : World) (B B2 : Nat) (h1 : RdI w B A1 n1 l1) (h2 : RdI w B2 A2 n2 l2) (hn : n1 ≤ 4611686018427387904) (hs : ∀ r ∈ l1, r.fs.length ≤ 4611686018427387904) :
    Calls Try.prog 43 #[.slice A1 n1 c1, .slice A2 n2 c2] w fun e w' => e = .returned (.bool (decide (l1.map itOf = l2.map itOf))) ∧ Below w.heap.size w w' := by
  have hl1 := h1.len
  have hl2 := h2.len
  have HS := Lib.hid hs; clear hs
  by_cases hn : n1 = n2
  · subst hn
    have H1 := Lib.hid hl1; clear hl1
    have H2 := Lib.hid hl2; clear hl2
    go_enter Try.func43, Try.ntmps43
    go_wp2
    go_loopw [5] (fun i wr => ∃ k : Nat, k ≤ n1 ∧ i = .int .i64 k ∧ Same (l1.map itOf) (l2.map itOf) k ∧ Below w.heap.size w wr) (fun i _ => n1 - (intOf i).toNat)
    case atStart => exact ⟨0, Nat.zero_le _, rfl, Same.zero _ _, bel_refl _⟩
    case round =>
      obtain ⟨k, hk, rfl, ht, hbel⟩ := hrel
      have HT := Lib.hid ht; clear ht
      by_cases hlt : k < n1
      · obtain ⟨b1, o1, rfl, hb1, hc1⟩ := (h1.kept hbel).at_ (by omega)
        obtain ⟨b2, o2, rfl, hb2, hc2⟩ := (h2.kept hbel).at_ (by omega)
        obtain ⟨id, kd, Ai, ci, fs, he, p0, p1, p2, hri⟩ := hc1 k hlt
        obtain ⟨id2, kd2, Ai2, ci2, fs2, he2, q0, q1, q2, hri2⟩ := hc2 k hlt
        have hfl : fs.length ≤ 4611686018427387904 := by
          have := HS.out (l1[k]'(by rw [H1.out]; exact hlt)) (List.getElem_mem _)
          rw [he] at this; exact this
        have HE := Lib.hid he; clear he hc1
        have HE2 := Lib.hid he2; clear he2 hc2
        have hk0 : (0:Int) ≤ (k : Int) := by omega
        have hk1 : (k:Int) < (n1 : Int) := by omega
        obtain ⟨r, hr⟩ : ∃ r, decide (It.mk id ⟨kd, fs⟩ = It.mk id2 ⟨kd2, fs2⟩) = r := ⟨_, rfl⟩
        have HR := Lib.hid hr; clear hr
        have g1 : k < (l1.map itOf).length := by rw [List.length_map, H1.out]; exact hlt
        have g2 : k < (l2.map itOf).length := by rw [List.length_map, H2.out]; exact hlt
        have E1 := Lib.hid (show (l1.map itOf)[k] = It.mk id ⟨kd, fs⟩ by rw [List.getElem_map, HE.out]; rfl)
        have E2 := Lib.hid (show (l2.map itOf)[k] = It.mk id2 ⟨kd2, fs2⟩ by rw [List.getElem_map, HE2.out]; rfl)
        cases r
        all_goals
          go_wp2_with fail
          refine wp_still 8 (by kernel_rfl) (by kernel_rfl) ?_
          simp only [List.take_succ_cons, List.take_zero, List.drop_succ_cons, List.drop_zero]
          repeat still_step
          refine wpStill_nil ?_
          go_wp2_with (go_at_call 69; refine (eqItem_any id kd Ai _ ci fs id2 kd2 Ai2 _ ci2 fs2 _ _ _ hri.drew hri2.drew hfl).mono ?_; rw [HR.out]; rintro e w' ⟨rfl, hb3⟩)
        · go_ret
          refine ⟨ret_bool ?_, bel_trans (bel_drew hbel) hb3⟩
          rw [eq_comm, decide_eq_false_iff_not]
          intro hh
          have := of_decide_eq_false HR.out
          exact this (E1.out.symm.trans ((by simp only [hh] : (l1.map itOf)[k] = (l2.map itOf)[k]'g2).trans E2.out))
        · go_roundw
          case rel => exact ⟨k + 1, by omega, by go_num, HT.out.succ g1 g2 (by rw [E1.out, E2.out]; exact of_decide_eq_true HR.out), bel_trans (bel_drew hbel) hb3⟩
          case measure => simp [intOf]; omega
      · go_wp2
        go_ret
        refine ⟨ret_bool ?_, hbel⟩
        rw [eq_comm, decide_eq_true_eq]
        exact HT.out.full (by rw [List.length_map, List.length_map, H1.out, H2.out]) (by rw [List.length_map, H1.out]; omega)
  · go_enter Try.func43, Try.ntmps43
    go_wp2
    go_ret
    refine ⟨ret_bool ?_, bel_refl _⟩
    rw [eq_comm, decide_eq_false_iff_not]
    intro hh
    have := congrArg List.length hh
    rw [List.length_map, List.length_map, hl1, hl2] at this
    exact hn this
theorem szStore_any (A : Option Addr) (n c : Nat) (left : Int) (rs : List IR) (nx : Int) (w : World) (B : Nat) (hr : RdI w B A n rs) (hn : n ≤ 9223372036854775807) (hs : ∀ r ∈ rs, goodI r) (h0 : 0 ≤ left) (h1 : left ≤ 1048576) :
    Calls Try.prog 8 #[.agg #[.slice A n c, .int .i64 nx], .int .i64 left] w fun e w' => e = .returned (.int .i64 (szR left (totSt rs))) ∧ Below w.heap.size w w' := by
  have HS := Lib.hid hs; clear hs
  unfold totSt
  by_cases hfit : (totI rs : Int) ≤ left
  · have HV := Lib.hid (szR_fit hfit)
    go_enter Try.func8, Try.ntmps8
    go_wp2_with (go_at_call 33; refine (szItemS_any A n c _ rs _ B (hr.alloc _) hn HS.out h0 h1).mono ?_; rw [HV.out]; rintro e w' ⟨rfl, hb1⟩)
    go_ret
    exact ⟨ret_int HV.out.symm, (by repeat (first | with_reducible exact bel_refl _ | with_reducible assumption | with_reducible refine bel_set ?_ (by first | (simp; done) | (simp; omega) | omega) _ | with_reducible refine bel_alloc ?_ _ | with_reducible refine bel_drew ?_ | with_reducible refine bel_drewN ?_ _ | with_reducible refine bel_trans ?_ (by assumption)))⟩
  · have HV := Lib.hid (szR_big (left := left) (t := totI rs) (by omega))
    go_enter Try.func8, Try.ntmps8
    go_wp2_with (go_at_call 33; refine (szItemS_any A n c _ rs _ B (hr.alloc _) hn HS.out h0 h1).mono ?_; rw [HV.out]; rintro e w' ⟨rfl, hb1⟩)
    go_ret
    exact ⟨ret_int HV.out.symm, (by repeat (first | with_reducible exact bel_refl _ | with_reducible assumption | with_reducible refine bel_set ?_ (by first | (simp; done) | (simp; omega) | omega) _ | with_reducible refine bel_alloc ?_ _ | with_reducible refine bel_drew ?_ | with_reducible refine bel_drewN ?_ _ | with_reducible refine bel_trans ?_ (by assumption)))⟩
theorem toStore_any (A : Option Addr) (n c : Nat) (rs : List IR) (nx : Int) (w : World) (B : Nat) (hr : RdI w B A n rs) (hn : n ≤ 1048576) (hs : ∀ r ∈ rs, r.fs.length ≤ 1048576) :
    Calls Try.prog 11 #[.agg #[.slice A n c, .int .i64 nx]] w fun e w' => ∃ A' c' rs', e = .returned (.agg #[.slice A' rs'.length c', .int .i64 nx]) ∧ rs'.length ≤ c' ∧ rs'.map itOf = rs.map itOf ∧ OwnI w' w.heap.size (.slice A' rs'.length c') rs' ∧ Below w.heap.size w w' := by
  have HS := Lib.hid hs; clear hs
  go_enter Try.func11, Try.ntmps11
  go_wp2_with fail
  refine (toItemS_any A n c rs _ B (((hr.alloc _).alloc _).alloc _) hn HS.out).mono ?_
  rintro e w' ⟨v', rs', rfl, hmap, ho, hb⟩
  obtain ⟨A', c', rfl, hc', _⟩ := ho.rd
  have HM := Lib.hid hmap; clear hmap
  obtain ⟨hc, hf, hq⟩ := bcell3 hb
  have hz := hb.size
  simp at hz
  have e0 := old_cell hb (b := w.heap.size + 1) (o := 0) (v := .slice none 0 0) (by go_simp)
  have e1 := old_cell hb (b := w.heap.size + 1) (o := 1) (v := .int .i64 0) (by go_simp)
  go_wp2
  refine bodyPost_ret (v := .agg #[.slice A' rs'.length c', .int .i64 nx]) (by simp [results, Try.results11, go_sem, e0, e1]) rfl ⟨A', c', rs', rfl, hc', HM.out, ?_, (by repeat (first | with_reducible exact bel_refl _ | with_reducible assumption | with_reducible refine bel_set ?_ (by first | (simp; done) | (simp; omega) | omega) _ | with_reducible refine bel_alloc ?_ _ | with_reducible refine bel_drew ?_ | with_reducible refine bel_drewN ?_ _ | with_reducible refine bel_trans ?_ (by assumption)))⟩
  exact ((((ho.low (by simp) _).low (by simp) _).low (by simp) _).low (by simp) _).lower (by simp; omega)
theorem eqStore_any (A1 A2 : Option Addr) (n1 c1 n2 c2 : Nat) (l1 l2 : List IR) (x1 x2 : Int) (w : World) (B B2 : Nat) (h1 : RdI w B A1 n1 l1) (h2 : RdI w B2 A2 n2 l2) (hn : n1 ≤ 4611686018427387904) (hs : ∀ r ∈ l1, r.fs.length ≤ 4611686018427387904) :
    Calls Try.prog 14 #[.agg #[.slice A1 n1 c1, .int .i64 x1], .agg #[.slice A2 n2 c2, .int .i64 x2]] w fun e w' => e = .returned (.bool (decide (St.mk (l1.map itOf) x1 = St.mk (l2.map itOf) x2))) ∧ Below w.heap.size w w' := by
  have HS := Lib.hid hs; clear hs
  obtain ⟨r, hr⟩ : ∃ r, decide (l1.map itOf = l2.map itOf) = r := ⟨_, rfl⟩
  have HR := Lib.hid hr; clear hr
  go_enter Try.func14, Try.ntmps14
  go_wp2_with (go_at_call 43; refine (eqItemS_any A1 A2 n1 c1 n2 c2 l1 l2 _ _ _ ((h1.alloc _).alloc _) ((h2.alloc _).alloc _) hn HS.out).mono ?_; rw [HR.out]; rintro e w' ⟨rfl, hb⟩; obtain ⟨hc, hf⟩ := bcell hb)
  all_goals
    go_ret
    refine ⟨ret_bool ?_, (by repeat (first | with_reducible exact bel_refl _ | with_reducible assumption | with_reducible refine bel_set ?_ (by first | (simp; done) | (simp; omega) | omega) _ | with_reducible refine bel_alloc ?_ _ | with_reducible refine bel_drew ?_ | with_reducible refine bel_drewN ?_ _ | with_reducible refine bel_trans ?_ (by assumption)))⟩
    have hR := HR.out
    simp_all
theorem implIdOf_any (A : Option Addr) (n c : Nat) (rs : List IR) (nx : Int) (kd : ByteArray) (A2 : Option Addr) (n2 c2 : Nat) (fs : List Vl) (w : World) (B B2 : Nat) (hr : RdI w B A n rs) (hr2 : RdS vC 3 w B2 A2 n2 fs) (hn : n ≤ 4611686018427387904) (hs : ∀ r ∈ rs, r.fs.length ≤ 4611686018427387904) :
    Calls Try.prog 31 #[.agg #[.slice A n c, .int .i64 nx], .agg #[.string kd, .slice A2 n2 c2]] w fun e w' => e = .returned (.int .i64 (idOf (rs.map itOf) ⟨kd, fs⟩)) ∧ Below w.heap.size w w' := by
  have HL := Lib.hid hr.len
  have HS := Lib.hid hs; clear hs
  have HT := Lib.hid (show idOf (rs.map itOf) ⟨kd, fs⟩ = idOf ((rs.map itOf).drop 0) ⟨kd, fs⟩ from rfl)
  go_enter Try.func31, Try.ntmps31
  go_wp2
  go_loopw [10] (fun i wr => ∃ k : Nat, k ≤ n ∧ i = .int .i64 k ∧ idOf ((rs.map itOf).drop 0) ⟨kd, fs⟩ = idOf ((rs.map itOf).drop k) ⟨kd, fs⟩ ∧ Below w.heap.size w wr ∧ wr.cell? ⟨w.heap.size + 1, 0, none⟩ = some (.string kd) ∧ wr.cell? ⟨w.heap.size + 1, 1, none⟩ = some (.slice A2 n2 c2)) (fun i _ => n - (intOf i).toNat)
  case atStart => exact ⟨0, Nat.zero_le _, rfl, rfl, (by repeat (first | with_reducible exact bel_refl _ | with_reducible assumption | with_reducible refine bel_set ?_ (by first | (simp; done) | (simp; omega) | omega) _ | with_reducible refine bel_alloc ?_ _ | with_reducible refine bel_drew ?_ | with_reducible refine bel_drewN ?_ _ | with_reducible refine bel_trans ?_ (by assumption))), by go_simp, by go_simp⟩
  case round =>
    obtain ⟨k, hk, rfl, ht, hbel, d0, d1⟩ := hrel
    have HTT := Lib.hid ht; clear ht
    have hdl := cell_lt d0
    dsimp only at hdl
    by_cases hlt : k < n
    · obtain ⟨b, o, rfl, hb, hc⟩ := (hr.kept hbel).at_ (by omega)
      obtain ⟨id, kd', Ai, ci, fs', he, p0, p1, p2, hri⟩ := hc k hlt
      clear hc
      have hbl : b < wr.heap.size := Nat.lt_of_lt_of_le hb (hr.kept hbel).1.1
      have hfl : fs'.length ≤ 4611686018427387904 := by
        have := HS.out (rs[k]'(by rw [HL.out]; exact hlt)) (List.getElem_mem _)
        rw [he] at this; exact this
      have g1 : k < (rs.map itOf).length := by rw [List.length_map, HL.out]; exact hlt
      have E1 := Lib.hid (show (rs.map itOf)[k] = It.mk id ⟨kd', fs'⟩ by rw [List.getElem_map, he]; rfl)
      clear he
      have hr2k := (hr2.alloc (.cells #[.slice (some ⟨b, o, none⟩) n c, .int .i64 nx] 32)).alloc (.cells #[.string kd, .slice A2 n2 c2] 38)
      clear hr2k
      have hr3 := hr2.kept hbel
      by_cases hf : (⟨kd', fs'⟩ : Ft) = ⟨kd, fs⟩
      · have HST := Lib.hid (show idOf ((rs.map itOf).drop k) ⟨kd, fs⟩ = id by rw [idOf_stop g1 (by rw [E1.out]; exact hf), E1.out])
        have HF := Lib.hid (show decide ((⟨kd', fs'⟩ : Ft) = ⟨kd, fs⟩) = true from decide_eq_true hf); clear hf
        go_wp2_with (go_at_call 30; refine (implSameFact_any kd' kd Ai A2 _ ci n2 c2 fs' fs _ _ _ (hri.alloc _) (hr3.alloc _) hfl).mono ?_; rw [HF.out]; rintro e w' ⟨rfl, hb1⟩; have z0 := old_cell hb1 (b := wr.heap.size) (o := 0) (v := .int .i64 id) (by go_simp))
        go_ret
        exact ⟨ret_int (by rw [HT.out, HTT.out, HST.out]), (by repeat (first | with_reducible exact bel_refl _ | with_reducible assumption | with_reducible refine bel_set ?_ (by first | (simp; done) | (simp; omega) | omega) _ | with_reducible refine bel_alloc ?_ _ | with_reducible refine bel_drew ?_ | with_reducible refine bel_drewN ?_ _ | with_reducible refine bel_trans ?_ (by assumption)))⟩
      · have HST := Lib.hid (idOf_step (f := ⟨kd, fs⟩) g1 (by rw [E1.out]; exact hf))
        have HF := Lib.hid (show decide ((⟨kd', fs'⟩ : Ft) = ⟨kd, fs⟩) = false from decide_eq_false hf); clear hf
        go_wp2_with (go_at_call 30; refine (implSameFact_any kd' kd Ai A2 _ ci n2 c2 fs' fs _ _ _ (hri.alloc _) (hr3.alloc _) hfl).mono ?_; rw [HF.out]; rintro e w' ⟨rfl, hb1⟩)
        go_roundw
        case rel => exact ⟨k + 1, by omega, by go_num, HTT.out.trans HST.out, (by repeat (first | with_reducible exact bel_refl _ | with_reducible assumption | with_reducible refine bel_set ?_ (by first | (simp; done) | (simp; omega) | omega) _ | with_reducible refine bel_alloc ?_ _ | with_reducible refine bel_drew ?_ | with_reducible refine bel_drewN ?_ _ | with_reducible refine bel_trans ?_ (by assumption))), old_cell hb1 (old_cell (bel_alloc (bel_refl wr) _) d0), old_cell hb1 (old_cell (bel_alloc (bel_refl wr) _) d1)⟩
        case measure => simp [intOf]; omega
    · have HEN := Lib.hid (idOf_end (l := rs.map itOf) (k := k) (f := ⟨kd, fs⟩) (by rw [List.length_map, HL.out]; omega))
      go_wp2
      go_ret
      exact ⟨ret_int (by rw [HT.out, HTT.out, HEN.out]), hbel⟩
theorem specIdOf_any (A : Option Addr) (n c : Nat) (rs : List IR) (nx : Int) (kd : ByteArray) (A2 : Option Addr) (n2 c2 : Nat) (fs : List Vl) (w : World) (B B2 : Nat) (hr : RdI w B A n rs) (hr2 : RdS vC 3 w B2 A2 n2 fs) (hn : n ≤ 4611686018427387904) (hs : ∀ r ∈ rs, r.fs.length ≤ 4611686018427387904) :
    Calls Try.prog 55 #[.agg #[.slice A n c, .int .i64 nx], .agg #[.string kd, .slice A2 n2 c2]] w fun e w' => e = .returned (.int .i64 (idOf (rs.map itOf) ⟨kd, fs⟩)) ∧ Below w.heap.size w w' := by
  have HL := Lib.hid hr.len
  have HS := Lib.hid hs; clear hs
  have HT := Lib.hid (show idOf (rs.map itOf) ⟨kd, fs⟩ = idOf ((rs.map itOf).drop 0) ⟨kd, fs⟩ from rfl)
  go_enter Try.func55, Try.ntmps55
  go_wp2
  go_loopw [5] (fun i wr => ∃ k : Nat, k ≤ n ∧ i = .int .i64 k ∧ idOf ((rs.map itOf).drop 0) ⟨kd, fs⟩ = idOf ((rs.map itOf).drop k) ⟨kd, fs⟩ ∧ Below w.heap.size w wr ∧ wr.cell? ⟨w.heap.size, 0, none⟩ = some (.slice A n c) ∧ wr.cell? ⟨w.heap.size + 1, 0, none⟩ = some (.string kd) ∧ wr.cell? ⟨w.heap.size + 1, 1, none⟩ = some (.slice A2 n2 c2)) (fun i _ => n - (intOf i).toNat)
  case atStart => exact ⟨0, Nat.zero_le _, rfl, rfl, (by repeat (first | with_reducible exact bel_refl _ | with_reducible assumption | with_reducible refine bel_set ?_ (by first | (simp; done) | (simp; omega) | omega) _ | with_reducible refine bel_alloc ?_ _ | with_reducible refine bel_drew ?_ | with_reducible refine bel_drewN ?_ _ | with_reducible refine bel_trans ?_ (by assumption))), by go_simp, by go_simp, by go_simp⟩
  case round =>
    obtain ⟨k, hk, rfl, ht, hbel, z0, d0, d1⟩ := hrel
    have HTT := Lib.hid ht; clear ht
    by_cases hlt : k < n
    · obtain ⟨b, o, rfl, hb, hc⟩ := (hr.kept hbel).at_ (by omega)
      obtain ⟨id, kd', Ai, ci, fs', he, p0, p1, p2, hri⟩ := hc k hlt
      clear hc
      have hfl : fs'.length ≤ 4611686018427387904 := by
        have := HS.out (rs[k]'(by rw [HL.out]; exact hlt)) (List.getElem_mem _)
        rw [he] at this; exact this
      have g1 : k < (rs.map itOf).length := by rw [List.length_map, HL.out]; exact hlt
      have E1 := Lib.hid (show (rs.map itOf)[k] = It.mk id ⟨kd', fs'⟩ by rw [List.getElem_map, he]; rfl)
      clear he
      have hr3 := hr2.kept hbel
      have hk0 : (0:Int) ≤ (k : Int) := by omega
      have hk1 : (k:Int) < (n : Int) := by omega
      by_cases hf : (⟨kd', fs'⟩ : Ft) = ⟨kd, fs⟩
      · have HST := Lib.hid (show idOf ((rs.map itOf).drop k) ⟨kd, fs⟩ = id by rw [idOf_stop g1 (by rw [E1.out]; exact hf), E1.out])
        have HF := Lib.hid (show decide ((⟨kd', fs'⟩ : Ft) = ⟨kd, fs⟩) = true from decide_eq_true hf); clear hf
        go_wp2_with fail
        refine wp_still 7 (by kernel_rfl) (by kernel_rfl) ?_
        simp only [List.take_succ_cons, List.take_zero, List.drop_succ_cons, List.drop_zero]
        repeat still_step
        refine wpStill_nil ?_
        go_wp2_with (go_at_call 76; refine (specSameFact_any kd' kd Ai A2 _ ci n2 c2 fs' fs _ _ _ hri.drew hr3.drew hfl).mono ?_; rw [HF.out]; rintro e w' ⟨rfl, hb1⟩; have z0' := old_cell hb1 z0; have p0' := old_cell hb1 p0)
        go_ret
        exact ⟨ret_int (by rw [HT.out, HTT.out, HST.out]), bel_trans (bel_drew hbel) hb1⟩
      · have HST := Lib.hid (idOf_step (f := ⟨kd, fs⟩) g1 (by rw [E1.out]; exact hf))
        have HF := Lib.hid (show decide ((⟨kd', fs'⟩ : Ft) = ⟨kd, fs⟩) = false from decide_eq_false hf); clear hf
        go_wp2_with fail
        refine wp_still 7 (by kernel_rfl) (by kernel_rfl) ?_
        simp only [List.take_succ_cons, List.take_zero, List.drop_succ_cons, List.drop_zero]
        repeat still_step
        refine wpStill_nil ?_
        go_wp2_with (go_at_call 76; refine (specSameFact_any kd' kd Ai A2 _ ci n2 c2 fs' fs _ _ _ hri.drew hr3.drew hfl).mono ?_; rw [HF.out]; rintro e w' ⟨rfl, hb1⟩)
        go_roundw
        case rel => exact ⟨k + 1, by omega, by go_num, HTT.out.trans HST.out, bel_trans (bel_drew hbel) hb1, old_cell hb1 z0, old_cell hb1 d0, old_cell hb1 d1⟩
        case measure => simp [intOf]; omega
    · have HEN := Lib.hid (idOf_end (l := rs.map itOf) (k := k) (f := ⟨kd, fs⟩) (by rw [List.length_map, HL.out]; omega))
      go_wp2
      go_ret
      exact ⟨ret_int (by rw [HT.out, HTT.out, HEN.out]), hbel⟩
end Go.Proofs.Ytndhjijcicebkaa
