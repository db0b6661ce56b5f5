/- GetVal of the program and of the reference: each answers what the plain function says. No condition but lengths. -/
import Derived.Test.YtcbbefibebkfgaaGreatDoorText
import Derived.Test.YtcbbefibebkfgaaGreatDoorVal
import Derived.Test.YtcbbefibebkfgaaGreatDoorStep
namespace Go.Proofs.YtcbbefibebkfgaaGreatDoor
open Go.RowKit
set_option maxRecDepth 100000
set_option maxHeartbeats 2000000

def noV : Vl := ⟨0, 0, ByteArray.empty⟩
def getValN (bs : List UInt8) (nx : Int) : Vl × Int × Bool :=
  if (getNum bs nx).2.2 && valOk ⟨1, (getNum bs nx).1, ByteArray.empty⟩ then (⟨1, (getNum bs nx).1, ByteArray.empty⟩, (getNum bs nx).2.1, true) else (noV, 0, false)
def getValS (bs : List UInt8) (k nx : Int) : Vl × Int × Bool :=
  if (getText bs nx).2.2 && valOk ⟨k, 0, (getText bs nx).1⟩ then (⟨k, 0, (getText bs nx).1⟩, (getText bs nx).2.1, true) else (noV, 0, false)
def getVal (bs : List UInt8) (at_ : Int) : Vl × Int × Bool :=
  if (getNum bs at_).2.2 then (if (getNum bs at_).1 = 1 then getValN bs (getNum bs at_).2.1 else getValS bs (getNum bs at_).1 (getNum bs at_).2.1) else (noV, 0, false)
def tupG (r : Vl × Int × Bool) : Value := .tuple #[.agg #[.int .i64 r.1.k, .int .i64 r.1.n, .string r.1.s], .int .i64 r.2.1, .bool r.2.2]
theorem getText_size (bs : List UInt8) (at_ : Int) : (getText bs at_).1.size ≤ bs.length := by
  unfold getText
  split
  · show ((bs.drop _).take _).toArray.size ≤ _
    simp only [List.size_toArray, List.length_take, List.length_drop]
    omega
  · simp
theorem implGetVal_any (A : Option Addr) (n c : Nat) (at_ : Int) (bs : List UInt8) (w : World) (B : Nat) (hr : RdY w B A n bs) (hn : n ≤ 4611686018427387904) (hnc : n ≤ c) :
    Calls Tryz.prog 33 #[.slice A n c, .int .i64 at_] w fun e w' => e = .returned (tupG (getVal bs at_)) ∧ Below w.heap.size w w' := by
  have HL := Lib.hid hr.len
  obtain ⟨k, nx, ok, hg⟩ : ∃ v nx ok, getNum bs at_ = (v, nx, ok) := ⟨_, _, _, rfl⟩
  have HG := Lib.hid hg
  by_cases h1 : k = 1
  · subst h1
    obtain ⟨m, nx2, ok2, hg2⟩ : ∃ v nx2 ok, getNum bs nx = (v, nx2, ok) := ⟨_, _, _, rfl⟩
    have HG2 := Lib.hid hg2
    obtain ⟨vb, hv⟩ : ∃ vb, valOk ⟨1, m, ⟨#[]⟩⟩ = vb := ⟨_, rfl⟩
    have hv' : valOk ⟨1, m, ByteArray.empty⟩ = vb := hv
    have hT : getVal bs at_ = if ok && (ok2 && vb) then (⟨1, m, ByteArray.empty⟩, nx2, true) else (noV, 0, false) := by
      unfold getVal getValN getValS
      rw [hg]
      dsimp only
      rw [hg2]
      dsimp only
      rw [hv', if_pos rfl]
      cases ok <;> simp
    have HV := Lib.hid hv; clear hv
    clear hv'
    have HT := Lib.hid hT; clear hT hg hg2
    cases ok
    · go_enter Tryz.func33, Tryz.ntmps33
      go_wp2_with fail
      refine (implGetNum_any A n c at_ bs _ B (hr.alloc _).2 hn).mono ?_
      rw [HG.out]; dsimp only [tup3]
      rintro e w' ⟨rfl, rfl⟩
      go_wp2
      refine bodyPost_ret (v := tupG (noV, 0, false)) (by simp [results, Tryz.results33, go_sem, tupG, noV]; try rfl) rfl ⟨by rw [HT.out]; rfl, (by repeat (first | with_reducible exact bel_refl _ | with_reducible assumption | with_reducible refine bel_set ?_ (by first | (simp; done) | (simp; omega) | omega) _ | with_reducible refine bel_alloc ?_ _ | with_reducible refine bel_drew ?_ | with_reducible refine bel_drewN ?_ _ | with_reducible refine bel_trans ?_ (by assumption)))⟩
    · cases ok2
      · go_enter Tryz.func33, Tryz.ntmps33
        go_wp2_with fail
        refine (implGetNum_any A n c at_ bs _ B (hr.alloc _).2 hn).mono ?_
        rw [HG.out]; dsimp only [tup3]
        rintro e w' ⟨rfl, rfl⟩
        go_wp2_with fail
        refine (implGetNum_any A n c nx bs _ B ((hr.alloc _).alloc _).2 hn).mono ?_
        rw [HG2.out]; dsimp only [tup3]
        rintro e w' ⟨rfl, rfl⟩
        go_wp2
        refine bodyPost_ret (v := tupG (noV, 0, false)) (by simp [results, Tryz.results33, go_sem, tupG, noV]; try rfl) rfl ⟨by rw [HT.out]; rfl, (by repeat (first | with_reducible exact bel_refl _ | with_reducible assumption | with_reducible refine bel_set ?_ (by first | (simp; done) | (simp; omega) | omega) _ | with_reducible refine bel_alloc ?_ _ | with_reducible refine bel_drew ?_ | with_reducible refine bel_drewN ?_ _ | with_reducible refine bel_trans ?_ (by assumption)))⟩
      · cases vb
        · go_enter Tryz.func33, Tryz.ntmps33
          go_wp2_with fail
          refine (implGetNum_any A n c at_ bs _ B (hr.alloc _).2 hn).mono ?_
          rw [HG.out]; dsimp only [tup3]
          rintro e w' ⟨rfl, rfl⟩
          go_wp2_with fail
          refine (implGetNum_any A n c nx bs _ B ((hr.alloc _).alloc _).2 hn).mono ?_
          rw [HG2.out]; dsimp only [tup3]
          rintro e w' ⟨rfl, rfl⟩
          go_wp2_with fail
          refine (implValOk_any 1 m ⟨#[]⟩ _ (by decide)).mono ?_
          rw [HV.out]
          rintro e w1 ⟨rfl, hb⟩
          have e0 := old_cell hb (b := w.heap.size) (o := 0) (v := .int .i64 0) (by go_simp)
          have fe0 := old_frozen hb (b := w.heap.size) (o := 0) (by first | (simp; done) | (simp; omega)) (by go_simp)
          have e1 := old_cell hb (b := w.heap.size) (o := 1) (v := .int .i64 0) (by go_simp)
          have fe1 := old_frozen hb (b := w.heap.size) (o := 1) (by first | (simp; done) | (simp; omega)) (by go_simp)
          have e2 := old_cell hb (b := w.heap.size) (o := 2) (v := .string ⟨#[]⟩) (by go_simp)
          have fe2 := old_frozen hb (b := w.heap.size) (o := 2) (by first | (simp; done) | (simp; omega)) (by go_simp)
          have d0 := old_cell hb (b := w.heap.size + 1) (o := 0) (v := .int .i64 1) (by go_simp)
          have fd0 := old_frozen hb (b := w.heap.size + 1) (o := 0) (by first | (simp; done) | (simp; omega)) (by go_simp)
          have d1 := old_cell hb (b := w.heap.size + 1) (o := 1) (v := .int .i64 m) (by go_simp)
          have fd1 := old_frozen hb (b := w.heap.size + 1) (o := 1) (by first | (simp; done) | (simp; omega)) (by go_simp)
          have d2 := old_cell hb (b := w.heap.size + 1) (o := 2) (v := .string ⟨#[]⟩) (by go_simp)
          have fd2 := old_frozen hb (b := w.heap.size + 1) (o := 2) (by first | (simp; done) | (simp; omega)) (by go_simp)
          go_wp2
          refine bodyPost_ret (v := tupG (noV, 0, false)) (by simp [results, Tryz.results33, go_sem, tupG, noV, e0, e1, e2]; try rfl) rfl ⟨by rw [HT.out]; rfl, (by repeat (first | with_reducible exact bel_refl _ | with_reducible assumption | with_reducible refine bel_set ?_ (by first | (simp; done) | (simp; omega) | omega) _ | with_reducible refine bel_alloc ?_ _ | with_reducible refine bel_drew ?_ | with_reducible refine bel_drewN ?_ _ | with_reducible refine bel_trans ?_ (by assumption)))⟩
        · go_enter Tryz.func33, Tryz.ntmps33
          go_wp2_with fail
          refine (implGetNum_any A n c at_ bs _ B (hr.alloc _).2 hn).mono ?_
          rw [HG.out]; dsimp only [tup3]
          rintro e w' ⟨rfl, rfl⟩
          go_wp2_with fail
          refine (implGetNum_any A n c nx bs _ B ((hr.alloc _).alloc _).2 hn).mono ?_
          rw [HG2.out]; dsimp only [tup3]
          rintro e w' ⟨rfl, rfl⟩
          go_wp2_with fail
          refine (implValOk_any 1 m ⟨#[]⟩ _ (by decide)).mono ?_
          rw [HV.out]
          rintro e w1 ⟨rfl, hb⟩
          have e0 := old_cell hb (b := w.heap.size) (o := 0) (v := .int .i64 0) (by go_simp)
          have fe0 := old_frozen hb (b := w.heap.size) (o := 0) (by first | (simp; done) | (simp; omega)) (by go_simp)
          have e1 := old_cell hb (b := w.heap.size) (o := 1) (v := .int .i64 0) (by go_simp)
          have fe1 := old_frozen hb (b := w.heap.size) (o := 1) (by first | (simp; done) | (simp; omega)) (by go_simp)
          have e2 := old_cell hb (b := w.heap.size) (o := 2) (v := .string ⟨#[]⟩) (by go_simp)
          have fe2 := old_frozen hb (b := w.heap.size) (o := 2) (by first | (simp; done) | (simp; omega)) (by go_simp)
          have d0 := old_cell hb (b := w.heap.size + 1) (o := 0) (v := .int .i64 1) (by go_simp)
          have fd0 := old_frozen hb (b := w.heap.size + 1) (o := 0) (by first | (simp; done) | (simp; omega)) (by go_simp)
          have d1 := old_cell hb (b := w.heap.size + 1) (o := 1) (v := .int .i64 m) (by go_simp)
          have fd1 := old_frozen hb (b := w.heap.size + 1) (o := 1) (by first | (simp; done) | (simp; omega)) (by go_simp)
          have d2 := old_cell hb (b := w.heap.size + 1) (o := 2) (v := .string ⟨#[]⟩) (by go_simp)
          have fd2 := old_frozen hb (b := w.heap.size + 1) (o := 2) (by first | (simp; done) | (simp; omega)) (by go_simp)
          go_wp2
          refine bodyPost_ret (v := tupG (⟨1, m, ByteArray.empty⟩, nx2, true)) (by simp [results, Tryz.results33, go_sem, tupG, e0, e1, e2]; try rfl) rfl ⟨by rw [HT.out]; rfl, (by repeat (first | with_reducible exact bel_refl _ | with_reducible assumption | with_reducible refine bel_set ?_ (by first | (simp; done) | (simp; omega) | omega) _ | with_reducible refine bel_alloc ?_ _ | with_reducible refine bel_drew ?_ | with_reducible refine bel_drewN ?_ _ | with_reducible refine bel_trans ?_ (by assumption)))⟩
  · have hk1 : (k == 1) = false := by simpa using h1
    have hsz := getText_size bs nx
    rw [HL.out] at hsz
    obtain ⟨s, nx2, ok2, hg2⟩ : ∃ v nx2 ok, getText bs nx = (v, nx2, ok) := ⟨_, _, _, rfl⟩
    rw [hg2] at hsz
    dsimp only at hsz
    have HG2 := Lib.hid hg2
    obtain ⟨vb, hv⟩ : ∃ vb, valOk ⟨k, 0, s⟩ = vb := ⟨_, rfl⟩
    have hv' : valOk ⟨k, 0, s⟩ = vb := hv
    have hT : getVal bs at_ = if ok && (ok2 && vb) then (⟨k, 0, s⟩, nx2, true) else (noV, 0, false) := by
      unfold getVal getValN getValS
      rw [hg]
      dsimp only
      rw [hg2]
      dsimp only
      rw [hv', if_neg h1]
      cases ok <;> simp
    have HV := Lib.hid hv; clear hv
    clear hv'
    have HT := Lib.hid hT; clear hT hg hg2 h1
    cases ok
    · go_enter Tryz.func33, Tryz.ntmps33
      go_wp2_with fail
      refine (implGetNum_any A n c at_ bs _ B (hr.alloc _).2 hn).mono ?_
      rw [HG.out]; dsimp only [tup3]
      rintro e w' ⟨rfl, rfl⟩
      go_wp2
      refine bodyPost_ret (v := tupG (noV, 0, false)) (by simp [results, Tryz.results33, go_sem, tupG, noV]; try rfl) rfl ⟨by rw [HT.out]; rfl, (by repeat (first | with_reducible exact bel_refl _ | with_reducible assumption | with_reducible refine bel_set ?_ (by first | (simp; done) | (simp; omega) | omega) _ | with_reducible refine bel_alloc ?_ _ | with_reducible refine bel_drew ?_ | with_reducible refine bel_drewN ?_ _ | with_reducible refine bel_trans ?_ (by assumption)))⟩
    · cases ok2
      · go_enter Tryz.func33, Tryz.ntmps33
        go_wp2_with fail
        refine (implGetNum_any A n c at_ bs _ B (hr.alloc _).2 hn).mono ?_
        rw [HG.out]; dsimp only [tup3]
        rintro e w' ⟨rfl, rfl⟩
        go_wp2_with fail
        refine (implGetText_any A n c nx bs _ B ((hr.alloc _).alloc _).2 hn hnc).mono ?_
        rw [HG2.out]; dsimp only [tupS]
        rintro e w' ⟨rfl, rfl⟩
        go_wp2
        refine bodyPost_ret (v := tupG (noV, 0, false)) (by simp [results, Tryz.results33, go_sem, tupG, noV]; try rfl) rfl ⟨by rw [HT.out]; rfl, (by repeat (first | with_reducible exact bel_refl _ | with_reducible assumption | with_reducible refine bel_set ?_ (by first | (simp; done) | (simp; omega) | omega) _ | with_reducible refine bel_alloc ?_ _ | with_reducible refine bel_drew ?_ | with_reducible refine bel_drewN ?_ _ | with_reducible refine bel_trans ?_ (by assumption)))⟩
      · cases vb
        · go_enter Tryz.func33, Tryz.ntmps33
          go_wp2_with fail
          refine (implGetNum_any A n c at_ bs _ B (hr.alloc _).2 hn).mono ?_
          rw [HG.out]; dsimp only [tup3]
          rintro e w' ⟨rfl, rfl⟩
          go_wp2_with fail
          refine (implGetText_any A n c nx bs _ B ((hr.alloc _).alloc _).2 hn hnc).mono ?_
          rw [HG2.out]; dsimp only [tupS]
          rintro e w' ⟨rfl, rfl⟩
          go_wp2_with fail
          refine (implValOk_any k 0 s _ (by omega)).mono ?_
          rw [HV.out]
          rintro e w1 ⟨rfl, hb⟩
          have e0 := old_cell hb (b := w.heap.size) (o := 0) (v := .int .i64 0) (by go_simp)
          have fe0 := old_frozen hb (b := w.heap.size) (o := 0) (by first | (simp; done) | (simp; omega)) (by go_simp)
          have e1 := old_cell hb (b := w.heap.size) (o := 1) (v := .int .i64 0) (by go_simp)
          have fe1 := old_frozen hb (b := w.heap.size) (o := 1) (by first | (simp; done) | (simp; omega)) (by go_simp)
          have e2 := old_cell hb (b := w.heap.size) (o := 2) (v := .string ⟨#[]⟩) (by go_simp)
          have fe2 := old_frozen hb (b := w.heap.size) (o := 2) (by first | (simp; done) | (simp; omega)) (by go_simp)
          have d0 := old_cell hb (b := w.heap.size + 1) (o := 0) (v := .int .i64 k) (by go_simp)
          have fd0 := old_frozen hb (b := w.heap.size + 1) (o := 0) (by first | (simp; done) | (simp; omega)) (by go_simp)
          have d1 := old_cell hb (b := w.heap.size + 1) (o := 1) (v := .int .i64 0) (by go_simp)
          have fd1 := old_frozen hb (b := w.heap.size + 1) (o := 1) (by first | (simp; done) | (simp; omega)) (by go_simp)
          have d2 := old_cell hb (b := w.heap.size + 1) (o := 2) (v := .string s) (by go_simp)
          have fd2 := old_frozen hb (b := w.heap.size + 1) (o := 2) (by first | (simp; done) | (simp; omega)) (by go_simp)
          go_wp2
          refine bodyPost_ret (v := tupG (noV, 0, false)) (by simp [results, Tryz.results33, go_sem, tupG, noV, e0, e1, e2]; try rfl) rfl ⟨by rw [HT.out]; rfl, (by repeat (first | with_reducible exact bel_refl _ | with_reducible assumption | with_reducible refine bel_set ?_ (by first | (simp; done) | (simp; omega) | omega) _ | with_reducible refine bel_alloc ?_ _ | with_reducible refine bel_drew ?_ | with_reducible refine bel_drewN ?_ _ | with_reducible refine bel_trans ?_ (by assumption)))⟩
        · go_enter Tryz.func33, Tryz.ntmps33
          go_wp2_with fail
          refine (implGetNum_any A n c at_ bs _ B (hr.alloc _).2 hn).mono ?_
          rw [HG.out]; dsimp only [tup3]
          rintro e w' ⟨rfl, rfl⟩
          go_wp2_with fail
          refine (implGetText_any A n c nx bs _ B ((hr.alloc _).alloc _).2 hn hnc).mono ?_
          rw [HG2.out]; dsimp only [tupS]
          rintro e w' ⟨rfl, rfl⟩
          go_wp2_with fail
          refine (implValOk_any k 0 s _ (by omega)).mono ?_
          rw [HV.out]
          rintro e w1 ⟨rfl, hb⟩
          have e0 := old_cell hb (b := w.heap.size) (o := 0) (v := .int .i64 0) (by go_simp)
          have fe0 := old_frozen hb (b := w.heap.size) (o := 0) (by first | (simp; done) | (simp; omega)) (by go_simp)
          have e1 := old_cell hb (b := w.heap.size) (o := 1) (v := .int .i64 0) (by go_simp)
          have fe1 := old_frozen hb (b := w.heap.size) (o := 1) (by first | (simp; done) | (simp; omega)) (by go_simp)
          have e2 := old_cell hb (b := w.heap.size) (o := 2) (v := .string ⟨#[]⟩) (by go_simp)
          have fe2 := old_frozen hb (b := w.heap.size) (o := 2) (by first | (simp; done) | (simp; omega)) (by go_simp)
          have d0 := old_cell hb (b := w.heap.size + 1) (o := 0) (v := .int .i64 k) (by go_simp)
          have fd0 := old_frozen hb (b := w.heap.size + 1) (o := 0) (by first | (simp; done) | (simp; omega)) (by go_simp)
          have d1 := old_cell hb (b := w.heap.size + 1) (o := 1) (v := .int .i64 0) (by go_simp)
          have fd1 := old_frozen hb (b := w.heap.size + 1) (o := 1) (by first | (simp; done) | (simp; omega)) (by go_simp)
          have d2 := old_cell hb (b := w.heap.size + 1) (o := 2) (v := .string s) (by go_simp)
          have fd2 := old_frozen hb (b := w.heap.size + 1) (o := 2) (by first | (simp; done) | (simp; omega)) (by go_simp)
          go_wp2
          refine bodyPost_ret (v := tupG (⟨k, 0, s⟩, nx2, true)) (by simp [results, Tryz.results33, go_sem, tupG, e0, e1, e2]; try rfl) rfl ⟨by rw [HT.out]; rfl, (by repeat (first | with_reducible exact bel_refl _ | with_reducible assumption | with_reducible refine bel_set ?_ (by first | (simp; done) | (simp; omega) | omega) _ | with_reducible refine bel_alloc ?_ _ | with_reducible refine bel_drew ?_ | with_reducible refine bel_drewN ?_ _ | with_reducible refine bel_trans ?_ (by assumption)))⟩
theorem specGetVal_any (A : Option Addr) (n c : Nat) (at_ : Int) (bs : List UInt8) (w : World) (B : Nat) (hr : RdY w B A n bs) (hn : n ≤ 4611686018427387904) (hnc : n ≤ c) :
    Calls Tryz.prog 77 #[.slice A n c, .int .i64 at_] w fun e w' => e = .returned (tupG (getVal bs at_)) ∧ Below w.heap.size w w' := by
  have HL := Lib.hid hr.len
  obtain ⟨k, nx, ok, hg⟩ : ∃ v nx ok, getNum bs at_ = (v, nx, ok) := ⟨_, _, _, rfl⟩
  have HG := Lib.hid hg
  by_cases h1 : k = 1
  · subst h1
    obtain ⟨m, nx2, ok2, hg2⟩ : ∃ v nx2 ok, getNum bs nx = (v, nx2, ok) := ⟨_, _, _, rfl⟩
    have HG2 := Lib.hid hg2
    obtain ⟨vb, hv⟩ : ∃ vb, valOk ⟨1, m, ⟨#[]⟩⟩ = vb := ⟨_, rfl⟩
    have hv' : valOk ⟨1, m, ByteArray.empty⟩ = vb := hv
    have hT : getVal bs at_ = if ok && (ok2 && vb) then (⟨1, m, ByteArray.empty⟩, nx2, true) else (noV, 0, false) := by
      unfold getVal getValN getValS
      rw [hg]
      dsimp only
      rw [hg2]
      dsimp only
      rw [hv', if_pos rfl]
      cases ok <;> simp
    have HV := Lib.hid hv; clear hv
    clear hv'
    have HT := Lib.hid hT; clear hT hg hg2
    cases ok
    · cases ok2
      · go_enter Tryz.func77, Tryz.ntmps77
        go_wp2_with fail
        refine (specGetNum_any A n c at_ bs _ B (hr.alloc _).2 hn).mono ?_
        rw [HG.out]; dsimp only [tup3]
        rintro e w' ⟨rfl, rfl⟩
        go_wp2_with fail
        refine (specGetNum_any A n c nx bs _ B ((hr.alloc _).alloc _).2 hn).mono ?_
        rw [HG2.out]; dsimp only [tup3]
        rintro e w' ⟨rfl, rfl⟩
        go_wp2
        refine bodyPost_ret (v := tupG (noV, 0, false)) (by simp [results, Tryz.results77, go_sem, tupG, noV]; try rfl) rfl ⟨by rw [HT.out]; rfl, (by repeat (first | with_reducible exact bel_refl _ | with_reducible assumption | with_reducible refine bel_set ?_ (by first | (simp; done) | (simp; omega) | omega) _ | with_reducible refine bel_alloc ?_ _ | with_reducible refine bel_drew ?_ | with_reducible refine bel_drewN ?_ _ | with_reducible refine bel_trans ?_ (by assumption)))⟩
      · go_enter Tryz.func77, Tryz.ntmps77
        go_wp2_with fail
        refine (specGetNum_any A n c at_ bs _ B (hr.alloc _).2 hn).mono ?_
        rw [HG.out]; dsimp only [tup3]
        rintro e w' ⟨rfl, rfl⟩
        go_wp2_with fail
        refine (specGetNum_any A n c nx bs _ B ((hr.alloc _).alloc _).2 hn).mono ?_
        rw [HG2.out]; dsimp only [tup3]
        rintro e w' ⟨rfl, rfl⟩
        go_wp2
        refine bodyPost_ret (v := tupG (noV, 0, false)) (by simp [results, Tryz.results77, go_sem, tupG, noV]; try rfl) rfl ⟨by rw [HT.out]; rfl, (by repeat (first | with_reducible exact bel_refl _ | with_reducible assumption | with_reducible refine bel_set ?_ (by first | (simp; done) | (simp; omega) | omega) _ | with_reducible refine bel_alloc ?_ _ | with_reducible refine bel_drew ?_ | with_reducible refine bel_drewN ?_ _ | with_reducible refine bel_trans ?_ (by assumption)))⟩
    · cases ok2
      · go_enter Tryz.func77, Tryz.ntmps77
        go_wp2_with fail
        refine (specGetNum_any A n c at_ bs _ B (hr.alloc _).2 hn).mono ?_
        rw [HG.out]; dsimp only [tup3]
        rintro e w' ⟨rfl, rfl⟩
        go_wp2_with fail
        refine (specGetNum_any A n c nx bs _ B ((hr.alloc _).alloc _).2 hn).mono ?_
        rw [HG2.out]; dsimp only [tup3]
        rintro e w' ⟨rfl, rfl⟩
        go_wp2
        refine bodyPost_ret (v := tupG (noV, 0, false)) (by simp [results, Tryz.results77, go_sem, tupG, noV]; try rfl) rfl ⟨by rw [HT.out]; rfl, (by repeat (first | with_reducible exact bel_refl _ | with_reducible assumption | with_reducible refine bel_set ?_ (by first | (simp; done) | (simp; omega) | omega) _ | with_reducible refine bel_alloc ?_ _ | with_reducible refine bel_drew ?_ | with_reducible refine bel_drewN ?_ _ | with_reducible refine bel_trans ?_ (by assumption)))⟩
      · cases vb
        · go_enter Tryz.func77, Tryz.ntmps77
          go_wp2_with fail
          refine (specGetNum_any A n c at_ bs _ B (hr.alloc _).2 hn).mono ?_
          rw [HG.out]; dsimp only [tup3]
          rintro e w' ⟨rfl, rfl⟩
          go_wp2_with fail
          refine (specGetNum_any A n c nx bs _ B ((hr.alloc _).alloc _).2 hn).mono ?_
          rw [HG2.out]; dsimp only [tup3]
          rintro e w' ⟨rfl, rfl⟩
          go_wp2_with fail
          refine (specValOk_any 1 m ⟨#[]⟩ _ (by decide)).mono ?_
          rw [HV.out]
          rintro e w1 ⟨rfl, hb⟩
          have e0 := old_cell hb (b := w.heap.size) (o := 0) (v := .int .i64 0) (by go_simp)
          have fe0 := old_frozen hb (b := w.heap.size) (o := 0) (by first | (simp; done) | (simp; omega)) (by go_simp)
          have e1 := old_cell hb (b := w.heap.size) (o := 1) (v := .int .i64 0) (by go_simp)
          have fe1 := old_frozen hb (b := w.heap.size) (o := 1) (by first | (simp; done) | (simp; omega)) (by go_simp)
          have e2 := old_cell hb (b := w.heap.size) (o := 2) (v := .string ⟨#[]⟩) (by go_simp)
          have fe2 := old_frozen hb (b := w.heap.size) (o := 2) (by first | (simp; done) | (simp; omega)) (by go_simp)
          have d0 := old_cell hb (b := w.heap.size + 1) (o := 0) (v := .int .i64 1) (by go_simp)
          have fd0 := old_frozen hb (b := w.heap.size + 1) (o := 0) (by first | (simp; done) | (simp; omega)) (by go_simp)
          have d1 := old_cell hb (b := w.heap.size + 1) (o := 1) (v := .int .i64 m) (by go_simp)
          have fd1 := old_frozen hb (b := w.heap.size + 1) (o := 1) (by first | (simp; done) | (simp; omega)) (by go_simp)
          have d2 := old_cell hb (b := w.heap.size + 1) (o := 2) (v := .string ⟨#[]⟩) (by go_simp)
          have fd2 := old_frozen hb (b := w.heap.size + 1) (o := 2) (by first | (simp; done) | (simp; omega)) (by go_simp)
          go_wp2
          refine bodyPost_ret (v := tupG (noV, 0, false)) (by simp [results, Tryz.results77, go_sem, tupG, noV, e0, e1, e2]; try rfl) rfl ⟨by rw [HT.out]; rfl, (by repeat (first | with_reducible exact bel_refl _ | with_reducible assumption | with_reducible refine bel_set ?_ (by first | (simp; done) | (simp; omega) | omega) _ | with_reducible refine bel_alloc ?_ _ | with_reducible refine bel_drew ?_ | with_reducible refine bel_drewN ?_ _ | with_reducible refine bel_trans ?_ (by assumption)))⟩
        · go_enter Tryz.func77, Tryz.ntmps77
          go_wp2_with fail
          refine (specGetNum_any A n c at_ bs _ B (hr.alloc _).2 hn).mono ?_
          rw [HG.out]; dsimp only [tup3]
          rintro e w' ⟨rfl, rfl⟩
          go_wp2_with fail
          refine (specGetNum_any A n c nx bs _ B ((hr.alloc _).alloc _).2 hn).mono ?_
          rw [HG2.out]; dsimp only [tup3]
          rintro e w' ⟨rfl, rfl⟩
          go_wp2_with fail
          refine (specValOk_any 1 m ⟨#[]⟩ _ (by decide)).mono ?_
          rw [HV.out]
          rintro e w1 ⟨rfl, hb⟩
          have e0 := old_cell hb (b := w.heap.size) (o := 0) (v := .int .i64 0) (by go_simp)
          have fe0 := old_frozen hb (b := w.heap.size) (o := 0) (by first | (simp; done) | (simp; omega)) (by go_simp)
          have e1 := old_cell hb (b := w.heap.size) (o := 1) (v := .int .i64 0) (by go_simp)
          have fe1 := old_frozen hb (b := w.heap.size) (o := 1) (by first | (simp; done) | (simp; omega)) (by go_simp)
          have e2 := old_cell hb (b := w.heap.size) (o := 2) (v := .string ⟨#[]⟩) (by go_simp)
          have fe2 := old_frozen hb (b := w.heap.size) (o := 2) (by first | (simp; done) | (simp; omega)) (by go_simp)
          have d0 := old_cell hb (b := w.heap.size + 1) (o := 0) (v := .int .i64 1) (by go_simp)
          have fd0 := old_frozen hb (b := w.heap.size + 1) (o := 0) (by first | (simp; done) | (simp; omega)) (by go_simp)
          have d1 := old_cell hb (b := w.heap.size + 1) (o := 1) (v := .int .i64 m) (by go_simp)
          have fd1 := old_frozen hb (b := w.heap.size + 1) (o := 1) (by first | (simp; done) | (simp; omega)) (by go_simp)
          have d2 := old_cell hb (b := w.heap.size + 1) (o := 2) (v := .string ⟨#[]⟩) (by go_simp)
          have fd2 := old_frozen hb (b := w.heap.size + 1) (o := 2) (by first | (simp; done) | (simp; omega)) (by go_simp)
          go_wp2
          refine bodyPost_ret (v := tupG (⟨1, m, ByteArray.empty⟩, nx2, true)) (by simp [results, Tryz.results77, go_sem, tupG, e0, e1, e2]; try rfl) rfl ⟨by rw [HT.out]; rfl, (by repeat (first | with_reducible exact bel_refl _ | with_reducible assumption | with_reducible refine bel_set ?_ (by first | (simp; done) | (simp; omega) | omega) _ | with_reducible refine bel_alloc ?_ _ | with_reducible refine bel_drew ?_ | with_reducible refine bel_drewN ?_ _ | with_reducible refine bel_trans ?_ (by assumption)))⟩
  · have hk1 : (k == 1) = false := by simpa using h1
    have hsz := getText_size bs nx
    rw [HL.out] at hsz
    obtain ⟨s, nx2, ok2, hg2⟩ : ∃ v nx2 ok, getText bs nx = (v, nx2, ok) := ⟨_, _, _, rfl⟩
    rw [hg2] at hsz
    dsimp only at hsz
    have HG2 := Lib.hid hg2
    obtain ⟨vb, hv⟩ : ∃ vb, valOk ⟨k, 0, s⟩ = vb := ⟨_, rfl⟩
    have hv' : valOk ⟨k, 0, s⟩ = vb := hv
    have hT : getVal bs at_ = if ok && (ok2 && vb) then (⟨k, 0, s⟩, nx2, true) else (noV, 0, false) := by
      unfold getVal getValN getValS
      rw [hg]
      dsimp only
      rw [hg2]
      dsimp only
      rw [hv', if_neg h1]
      cases ok <;> simp
    have HV := Lib.hid hv; clear hv
    clear hv'
    have HT := Lib.hid hT; clear hT hg hg2 h1
    cases ok
    · cases ok2
      · go_enter Tryz.func77, Tryz.ntmps77
        go_wp2_with fail
        refine (specGetNum_any A n c at_ bs _ B (hr.alloc _).2 hn).mono ?_
        rw [HG.out]; dsimp only [tup3]
        rintro e w' ⟨rfl, rfl⟩
        go_wp2_with fail
        refine (specGetText_any A n c nx bs _ B ((hr.alloc _).alloc _).2 hn hnc).mono ?_
        rw [HG2.out]; dsimp only [tupS]
        rintro e w' ⟨rfl, rfl⟩
        go_wp2
        refine bodyPost_ret (v := tupG (noV, 0, false)) (by simp [results, Tryz.results77, go_sem, tupG, noV]; try rfl) rfl ⟨by rw [HT.out]; rfl, (by repeat (first | with_reducible exact bel_refl _ | with_reducible assumption | with_reducible refine bel_set ?_ (by first | (simp; done) | (simp; omega) | omega) _ | with_reducible refine bel_alloc ?_ _ | with_reducible refine bel_drew ?_ | with_reducible refine bel_drewN ?_ _ | with_reducible refine bel_trans ?_ (by assumption)))⟩
      · go_enter Tryz.func77, Tryz.ntmps77
        go_wp2_with fail
        refine (specGetNum_any A n c at_ bs _ B (hr.alloc _).2 hn).mono ?_
        rw [HG.out]; dsimp only [tup3]
        rintro e w' ⟨rfl, rfl⟩
        go_wp2_with fail
        refine (specGetText_any A n c nx bs _ B ((hr.alloc _).alloc _).2 hn hnc).mono ?_
        rw [HG2.out]; dsimp only [tupS]
        rintro e w' ⟨rfl, rfl⟩
        go_wp2
        refine bodyPost_ret (v := tupG (noV, 0, false)) (by simp [results, Tryz.results77, go_sem, tupG, noV]; try rfl) rfl ⟨by rw [HT.out]; rfl, (by repeat (first | with_reducible exact bel_refl _ | with_reducible assumption | with_reducible refine bel_set ?_ (by first | (simp; done) | (simp; omega) | omega) _ | with_reducible refine bel_alloc ?_ _ | with_reducible refine bel_drew ?_ | with_reducible refine bel_drewN ?_ _ | with_reducible refine bel_trans ?_ (by assumption)))⟩
    · cases ok2
      · go_enter Tryz.func77, Tryz.ntmps77
        go_wp2_with fail
        refine (specGetNum_any A n c at_ bs _ B (hr.alloc _).2 hn).mono ?_
        rw [HG.out]; dsimp only [tup3]
        rintro e w' ⟨rfl, rfl⟩
        go_wp2_with fail
        refine (specGetText_any A n c nx bs _ B ((hr.alloc _).alloc _).2 hn hnc).mono ?_
        rw [HG2.out]; dsimp only [tupS]
        rintro e w' ⟨rfl, rfl⟩
        go_wp2
        refine bodyPost_ret (v := tupG (noV, 0, false)) (by simp [results, Tryz.results77, go_sem, tupG, noV]; try rfl) rfl ⟨by rw [HT.out]; rfl, (by repeat (first | with_reducible exact bel_refl _ | with_reducible assumption | with_reducible refine bel_set ?_ (by first | (simp; done) | (simp; omega) | omega) _ | with_reducible refine bel_alloc ?_ _ | with_reducible refine bel_drew ?_ | with_reducible refine bel_drewN ?_ _ | with_reducible refine bel_trans ?_ (by assumption)))⟩
      · cases vb
        · go_enter Tryz.func77, Tryz.ntmps77
          go_wp2_with fail
          refine (specGetNum_any A n c at_ bs _ B (hr.alloc _).2 hn).mono ?_
          rw [HG.out]; dsimp only [tup3]
          rintro e w' ⟨rfl, rfl⟩
          go_wp2_with fail
          refine (specGetText_any A n c nx bs _ B ((hr.alloc _).alloc _).2 hn hnc).mono ?_
          rw [HG2.out]; dsimp only [tupS]
          rintro e w' ⟨rfl, rfl⟩
          go_wp2_with fail
          refine (specValOk_any k 0 s _ (by omega)).mono ?_
          rw [HV.out]
          rintro e w1 ⟨rfl, hb⟩
          have e0 := old_cell hb (b := w.heap.size) (o := 0) (v := .int .i64 0) (by go_simp)
          have fe0 := old_frozen hb (b := w.heap.size) (o := 0) (by first | (simp; done) | (simp; omega)) (by go_simp)
          have e1 := old_cell hb (b := w.heap.size) (o := 1) (v := .int .i64 0) (by go_simp)
          have fe1 := old_frozen hb (b := w.heap.size) (o := 1) (by first | (simp; done) | (simp; omega)) (by go_simp)
          have e2 := old_cell hb (b := w.heap.size) (o := 2) (v := .string ⟨#[]⟩) (by go_simp)
          have fe2 := old_frozen hb (b := w.heap.size) (o := 2) (by first | (simp; done) | (simp; omega)) (by go_simp)
          have d0 := old_cell hb (b := w.heap.size + 1) (o := 0) (v := .int .i64 k) (by go_simp)
          have fd0 := old_frozen hb (b := w.heap.size + 1) (o := 0) (by first | (simp; done) | (simp; omega)) (by go_simp)
          have d1 := old_cell hb (b := w.heap.size + 1) (o := 1) (v := .int .i64 0) (by go_simp)
          have fd1 := old_frozen hb (b := w.heap.size + 1) (o := 1) (by first | (simp; done) | (simp; omega)) (by go_simp)
          have d2 := old_cell hb (b := w.heap.size + 1) (o := 2) (v := .string s) (by go_simp)
          have fd2 := old_frozen hb (b := w.heap.size + 1) (o := 2) (by first | (simp; done) | (simp; omega)) (by go_simp)
          go_wp2
          refine bodyPost_ret (v := tupG (noV, 0, false)) (by simp [results, Tryz.results77, go_sem, tupG, noV, e0, e1, e2]; try rfl) rfl ⟨by rw [HT.out]; rfl, (by repeat (first | with_reducible exact bel_refl _ | with_reducible assumption | with_reducible refine bel_set ?_ (by first | (simp; done) | (simp; omega) | omega) _ | with_reducible refine bel_alloc ?_ _ | with_reducible refine bel_drew ?_ | with_reducible refine bel_drewN ?_ _ | with_reducible refine bel_trans ?_ (by assumption)))⟩
        · go_enter Tryz.func77, Tryz.ntmps77
          go_wp2_with fail
          refine (specGetNum_any A n c at_ bs _ B (hr.alloc _).2 hn).mono ?_
          rw [HG.out]; dsimp only [tup3]
          rintro e w' ⟨rfl, rfl⟩
          go_wp2_with fail
          refine (specGetText_any A n c nx bs _ B ((hr.alloc _).alloc _).2 hn hnc).mono ?_
          rw [HG2.out]; dsimp only [tupS]
          rintro e w' ⟨rfl, rfl⟩
          go_wp2_with fail
          refine (specValOk_any k 0 s _ (by omega)).mono ?_
          rw [HV.out]
          rintro e w1 ⟨rfl, hb⟩
          have e0 := old_cell hb (b := w.heap.size) (o := 0) (v := .int .i64 0) (by go_simp)
          have fe0 := old_frozen hb (b := w.heap.size) (o := 0) (by first | (simp; done) | (simp; omega)) (by go_simp)
          have e1 := old_cell hb (b := w.heap.size) (o := 1) (v := .int .i64 0) (by go_simp)
          have fe1 := old_frozen hb (b := w.heap.size) (o := 1) (by first | (simp; done) | (simp; omega)) (by go_simp)
          have e2 := old_cell hb (b := w.heap.size) (o := 2) (v := .string ⟨#[]⟩) (by go_simp)
          have fe2 := old_frozen hb (b := w.heap.size) (o := 2) (by first | (simp; done) | (simp; omega)) (by go_simp)
          have d0 := old_cell hb (b := w.heap.size + 1) (o := 0) (v := .int .i64 k) (by go_simp)
          have fd0 := old_frozen hb (b := w.heap.size + 1) (o := 0) (by first | (simp; done) | (simp; omega)) (by go_simp)
          have d1 := old_cell hb (b := w.heap.size + 1) (o := 1) (v := .int .i64 0) (by go_simp)
          have fd1 := old_frozen hb (b := w.heap.size + 1) (o := 1) (by first | (simp; done) | (simp; omega)) (by go_simp)
          have d2 := old_cell hb (b := w.heap.size + 1) (o := 2) (v := .string s) (by go_simp)
          have fd2 := old_frozen hb (b := w.heap.size + 1) (o := 2) (by first | (simp; done) | (simp; omega)) (by go_simp)
          go_wp2
          refine bodyPost_ret (v := tupG (⟨k, 0, s⟩, nx2, true)) (by simp [results, Tryz.results77, go_sem, tupG, e0, e1, e2]; try rfl) rfl ⟨by rw [HT.out]; rfl, (by repeat (first | with_reducible exact bel_refl _ | with_reducible assumption | with_reducible refine bel_set ?_ (by first | (simp; done) | (simp; omega) | omega) _ | with_reducible refine bel_alloc ?_ _ | with_reducible refine bel_drew ?_ | with_reducible refine bel_drewN ?_ _ | with_reducible refine bel_trans ?_ (by assumption)))⟩
end Go.Proofs.YtcbbefibebkfgaaGreatDoor
