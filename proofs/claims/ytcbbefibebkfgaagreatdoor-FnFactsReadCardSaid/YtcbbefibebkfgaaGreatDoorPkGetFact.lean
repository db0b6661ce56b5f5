import Derived.Test.YtcbbefibebkfgaaGreatDoorGetVal
import Derived.Test.YtcbbefibebkfgaaGreatDoorPkFact
import Derived.Test.YtcbbefibebkfgaaGreatDoorApp
import Derived.Test.YtcbbefibebkfgaaGreatDoorLit
import Derived.Test.YtcbbefibebkfgaaGreatDoorBox
/- GetFact of the program and of the reference: each answers what the plain function says, in memory of its own. No condition but lengths. -/
namespace Go.Proofs.YtcbbefibebkfgaaGreatDoor
open Go.RowKit
set_option maxRecDepth 100000
set_option maxHeartbeats 4000000

def getVs (bs : List UInt8) : Nat → Int → List Vl → Option (List Vl × Int)
  | 0, p, acc => some (acc, p)
  | m + 1, p, acc => if (getVal bs p).2.2 then getVs bs m (getVal bs p).2.1 (acc ++ [(getVal bs p).1]) else none
def getAll (bs : List UInt8) (p : Int) : Option (List Vl × Int) :=
  if (getNum bs p).2.2 && inB (getNum bs p).1 0 5 then getVs bs (getNum bs p).1.toNat (getNum bs p).2.1 [] else none
def noF : Ft × Int × Bool := (⟨⟨#[]⟩, []⟩, 0, false)
def getFact (bs : List UInt8) (at_ : Int) : Ft × Int × Bool :=
  if (getText bs at_).2.2 then
    match getAll bs (getText bs at_).2.1 with
    | some (vs, q) => if factOk ⟨(getText bs at_).1, vs⟩ then (⟨(getText bs at_).1, vs⟩, q, true) else noF
    | none => noF
  else noF
theorem getVal_size (bs : List UInt8) (p : Int) : (getVal bs p).1.s.size ≤ bs.length := by
  have h := fun q => getText_size bs q
  unfold getVal getValN getValS noV
  repeat' split
  all_goals first | exact h _ | (simp; done)
theorem inB05 {x : Int} (h : inB x 0 5 = true) : ∃ N : Nat, x = N ∧ N ≤ 5 := by
  unfold inB at h
  simp only [Bool.and_eq_true, decide_eq_true_eq] at h
  exact ⟨x.toNat, by omega, by omega⟩
theorem l3GetVals_any (A : Option Addr) (n c : Nat) (p : Int) (bs : List UInt8) (w : World) (B : Nat) (hr : RdY w B A n bs) (hn : n ≤ 4611686018427387904) (hnc : n ≤ c) :
    Calls Tryz.prog 49 #[.slice A n c, .int .i64 p] w fun e w' => ∃ (A' : Option Addr) (c' : Nat) (vs : List Vl) (q : Int) (b : Bool), e = .returned (.tuple #[.slice A' vs.length c', .int .i64 q, .bool b]) ∧ OwnT vC 3 w' w.heap.size 47 (.slice A' vs.length c') vs ∧ Below w.heap.size w w' ∧ vs.length ≤ 5 ∧ (∀ x ∈ vs, x.s.size ≤ bs.length) ∧ getAll bs p = (if b then some (vs, q) else none) := by
  obtain ⟨i0, hi, hz0, hz1, hz2⟩ := info_parts infoVal
  have HI := Lib.hid hi; clear hi
  obtain ⟨nv, nx, ok, hg⟩ : ∃ v nx ok, getNum bs p = (v, nx, ok) := ⟨_, _, _, rfl⟩
  have HG := Lib.hid hg
  have hlit : OwnT vC 3 (w.alloc (.cells #[] 47)) w.heap.size 47 (.slice (some ⟨w.heap.size, 0, none⟩) 0 0) [] := lit0 w 47
  cases ok
  · have HA := Lib.hid (show getAll bs p = none by unfold getAll; rw [hg]; rfl); clear hg
    go_enter Tryz.func49, Tryz.ntmps49
    go_wp2_with fail
    refine (specGetNum_any A n c p bs _ B (hr.alloc _).2 hn).mono ?_
    rw [HG.out]; dsimp only [tup3]
    rintro e w' ⟨rfl, rfl⟩
    go_wp2
    go_ret3
    exact ⟨_, _, [], _, _, rfl, hlit, (by repeat (first | with_reducible exact bel_refl _ | with_reducible assumption | with_reducible refine bel_set ?_ (by first | (simp; done) | (simp; omega) | omega) _ | with_reducible refine bel_alloc ?_ _ | with_reducible refine bel_drew ?_ | with_reducible refine bel_drewN ?_ _ | with_reducible refine bel_trans ?_ (by assumption))), by simp, fun x h => (by cases h), HA.out⟩
  obtain ⟨bi, hbi⟩ : ∃ b, inB nv 0 5 = b := ⟨_, rfl⟩
  have HB := Lib.hid hbi
  cases bi
  · have HA := Lib.hid (show getAll bs p = none by unfold getAll; rw [hg]; dsimp only; rw [hbi]; rfl); clear hg hbi
    go_enter Tryz.func49, Tryz.ntmps49
    go_wp2_with fail
    refine (specGetNum_any A n c p bs _ B (hr.alloc _).2 hn).mono ?_
    rw [HG.out]; dsimp only [tup3]
    rintro e w' ⟨rfl, rfl⟩
    go_wp2_with (go_at_call 58; refine (l1In_any _ _ _ _).mono ?_; rw [HB.out]; rintro e w' ⟨rfl, rfl⟩)
    go_ret3
    exact ⟨_, _, [], _, _, rfl, hlit, (by repeat (first | with_reducible exact bel_refl _ | with_reducible assumption | with_reducible refine bel_set ?_ (by first | (simp; done) | (simp; omega) | omega) _ | with_reducible refine bel_alloc ?_ _ | with_reducible refine bel_drew ?_ | with_reducible refine bel_drewN ?_ _ | with_reducible refine bel_trans ?_ (by assumption))), by simp, fun x h => (by cases h), HA.out⟩
  obtain ⟨N, rfl, hN⟩ := inB05 hbi
  obtain ⟨R, hR⟩ : ∃ R, getAll bs p = R := ⟨_, rfl⟩
  have hR2 : getVs bs N nx [] = R := by rw [← hR]; unfold getAll; rw [hg]; dsimp only; rw [hbi]; rfl
  rw [hR]
  clear hg hbi hR
  go_enter Tryz.func49, Tryz.ntmps49
  go_wp2_with fail
  refine (specGetNum_any A n c p bs _ B (hr.alloc _).2 hn).mono ?_
  rw [HG.out]; dsimp only [tup3]
  rintro e w' ⟨rfl, rfl⟩
  go_wp2_with (go_at_call 58; refine (l1In_any _ _ _ _).mono ?_; rw [HB.out]; rintro e w' ⟨rfl, rfl⟩)
  go_loopw [7, 9, 11] (fun u s9 i wr => ∃ (k : Nat) (q : Int) (acc : List Vl), k ≤ N ∧ i = .int .i64 k ∧ s9 = .int .i64 q ∧ acc.length = k ∧ (∀ x ∈ acc, x.s.size ≤ bs.length) ∧ getVs bs (N - k) q acc = R ∧ OwnT vC 3 wr w.heap.size 47 u acc ∧ Below w.heap.size w wr) (fun _ _ i _ => N - (intOf i).toNat)
  case atStart => exact ⟨0, nx, [], Nat.zero_le _, rfl, rfl, rfl, fun x h => (by cases h), hR2, hlit, (by repeat (first | with_reducible exact bel_refl _ | with_reducible assumption | with_reducible refine bel_set ?_ (by first | (simp; done) | (simp; omega) | omega) _ | with_reducible refine bel_alloc ?_ _ | with_reducible refine bel_drew ?_ | with_reducible refine bel_drewN ?_ _ | with_reducible refine bel_trans ?_ (by assumption)))⟩
  case round =>
    obtain ⟨k, q, acc, hk, rfl, rfl, hal, hsz, hv, ho, hbel⟩ := hrel
    obtain ⟨A', c', rfl, hc', _⟩ := ho.form
    have HAL := Lib.hid hal; clear hal
    have HSZ := Lib.hid hsz; clear hsz
    have HV := Lib.hid hv; clear hv
    have hbs := hbel.size
    by_cases hlt : k < N
    · have hj1 : (k:Int) < (N:Int) := by omega
      obtain ⟨⟨vk, vn, vs⟩, q2, ok2, hgv⟩ : ∃ v q2 ok2, getVal bs q = (v, q2, ok2) := ⟨_, _, _, rfl⟩
      have hvs := getVal_size bs q
      rw [hgv] at hvs
      dsimp only at hvs
      have hst : getVs bs (N - k) q acc = if ok2 then getVs bs (N - (k + 1)) q2 (acc ++ [⟨vk, vn, vs⟩]) else none := by
        rw [show N - k = (N - (k + 1)) + 1 by omega, getVs, hgv]
      have HGV := Lib.hid hgv; clear hgv
      cases ok2
      · have HR := Lib.hid (show R = none by rw [← HV.out, hst]; rfl); clear hst
        go_wp2_with fail
        refine (specGetVal_any A n c q bs _ B (hr.kept hbel) hn hnc).mono ?_
        rw [HGV.out]; dsimp only [tupG]
        rintro e w3 ⟨rfl, hb3⟩
        go_wp2
        go_ret3
        exact ⟨A', c', acc, _, _, rfl, (ho.kept hb3).alloc _, (by repeat (first | with_reducible exact bel_refl _ | with_reducible assumption | with_reducible refine bel_set ?_ (by first | (simp; done) | (simp; omega) | omega) _ | with_reducible refine bel_alloc ?_ _ | with_reducible refine bel_drew ?_ | with_reducible refine bel_drewN ?_ _ | with_reducible refine bel_trans ?_ (by assumption))), by have := HAL.out; omega, HSZ.out, HR.out⟩
      · have HR := Lib.hid (show getVs bs (N - (k + 1)) q2 (acc ++ [⟨vk, vn, vs⟩]) = R by rw [← HV.out, hst]; rfl); clear hst
        go_wp2_with fail
        refine (specGetVal_any A n c q bs _ B (hr.kept hbel) hn hnc).mono ?_
        rw [HGV.out]; dsimp only [tupG]
        rintro e w3 ⟨rfl, hb3⟩
        have hs3 := hb3.size
        have hnew : RdT vC 3 ((w3.alloc (.cells #[.int .i64 vk, .int .i64 vn, .string vs] 47)).alloc (.cells #[.int .i64 vk, .int .i64 vn, .string vs] 47)) (w3.heap.size + 1 + 1) (some ⟨w3.heap.size + 1, 0, none⟩) 1 [⟨vk, vn, vs⟩] := by
          have h := RdT.new1 vC_sz (w3.alloc (.cells #[.int .i64 vk, .int .i64 vn, .string vs] 47)) 47 ⟨vk, vn, vs⟩
          simpa [vC] using h
        have hbel3 := bel_trans hbel hb3
        go_wp2_with (at_builtin; refine appT rfl (.tmp 46) (.tmp 48) _ rfl vC_sz w.heap.size 47 i0 Tryz.underlying24 HI.out hz0 hz1 hz2 rfl (by omega) _ acc rfl (((ho.kept hb3).alloc _).alloc _) _ 1 1 [⟨vk, vn, vs⟩] rfl hnew (by intro u hu; simp [fl, vC] at hu; rcases hu with rfl | rfl | rfl <;> rfl) (by have := HAL.out; omega) (by simp; omega) ?_ (by have := HAL.out; omega); intro v' w4 ho4 hb4 hs4)
        go_roundw
        case rel => exact ⟨k + 1, q2, acc ++ [⟨vk, vn, vs⟩], by omega, by go_num, rfl, by rw [List.length_append, HAL.out]; rfl, fun x hx => (by rcases List.mem_append.1 hx with h | h; exact HSZ.out x h; rw [List.mem_singleton] at h; rw [h]; exact hvs), HR.out, ho4, (bel_alloc (bel_alloc hbel3 _) _).trans hb4⟩
        case measure => simp [intOf]; omega
    · have HR := Lib.hid (show R = some (acc, q) by rw [← HV.out, show N - k = 0 by omega]; rfl)
      go_wp2
      go_ret3
      exact ⟨A', c', acc, _, _, rfl, ho, hbel, by have := HAL.out; omega, HSZ.out, HR.out⟩
theorem getVs_len {bs : List UInt8} : ∀ {m : Nat} {p : Int} {acc vs : List Vl} {q : Int}, getVs bs m p acc = some (vs, q) → vs.length = acc.length + m
  | 0, p, acc, vs, q, h => by
    simp [getVs] at h
    rw [h.1]; rfl
  | m + 1, p, acc, vs, q, h => by
    rw [getVs] at h
    split at h
    · have := getVs_len h
      simp at this
      omega
    · cases h
theorem getAll_len {bs : List UInt8} {p q : Int} {vs : List Vl} (h : getAll bs p = some (vs, q)) : vs.length ≤ 5 := by
  unfold getAll at h
  split at h
  · next h1 =>
    have h2 := getVs_len h
    simp only [Bool.and_eq_true] at h1
    obtain ⟨N, hN, h5⟩ := inB05 h1.2
    rw [hN] at h2
    simp at h2
    omega
  · cases h
theorem getFact_len {bs : List UInt8} {at_ p : Int} {kd : ByteArray} {fs : List Vl} {b : Bool} (h : getFact bs at_ = (⟨kd, fs⟩, p, b)) : fs.length ≤ 5 := by
  unfold getFact at h
  split at h
  · split at h
    · next vs q ha =>
      split at h
      · simp at h
        rw [← h.1.2]
        exact getAll_len ha
      · simp [noF] at h
        simp [h.1.2]
    · simp [noF] at h
      simp [h.1.2]
  · simp [noF] at h
    simp [h.1.2]
def tupGF (kd : ByteArray) (A : Option Addr) (n c : Nat) (p : Int) (b : Bool) : Value := .tuple #[.agg #[.string kd, .slice A n c], .int .i64 p, .bool b]
theorem blk_bel {w w' : World} {b B : Nat} {t : TypeId} {cs : Array Value} (h : Blk w b t cs) (hb : Below B w w') (hB : b < B) : Blk w' b t cs := (hb.block b hB).trans h
theorem gf_text {bs : List UInt8} {at_ p2 rp : Int} {kd rkd : ByteArray} {rfs : List Vl} {rb : Bool} (ht : getText bs at_ = (kd, p2, false)) (hres : getFact bs at_ = (⟨rkd, rfs⟩, rp, rb)) : rkd = ⟨#[]⟩ ∧ rfs = [] ∧ rp = 0 ∧ rb = false := by
  unfold getFact at hres
  rw [ht] at hres
  simp [noF] at hres
  obtain ⟨⟨h1, h2⟩, h3, h4⟩ := hres
  exact ⟨h1.symm, h2, h3.symm, h4⟩
theorem gf_none {bs : List UInt8} {at_ p2 rp : Int} {kd rkd : ByteArray} {rfs : List Vl} {rb ok : Bool} (ht : getText bs at_ = (kd, p2, ok)) (ha : getAll bs p2 = none) (hres : getFact bs at_ = (⟨rkd, rfs⟩, rp, rb)) : rkd = ⟨#[]⟩ ∧ rfs = [] ∧ rp = 0 ∧ rb = false := by
  unfold getFact at hres
  rw [ht] at hres
  dsimp only at hres
  rw [ha] at hres
  cases ok <;> simp [noF] at hres <;> (obtain ⟨⟨h1, h2⟩, h3, h4⟩ := hres; exact ⟨h1.symm, h2, h3.symm, h4⟩)
theorem gf_bad {bs : List UInt8} {at_ p2 q rp : Int} {kd rkd : ByteArray} {vs rfs : List Vl} {rb : Bool} (ht : getText bs at_ = (kd, p2, true)) (ha : getAll bs p2 = some (vs, q)) (hf : factOk ⟨kd, vs⟩ = false) (hres : getFact bs at_ = (⟨rkd, rfs⟩, rp, rb)) : rkd = ⟨#[]⟩ ∧ rfs = [] ∧ rp = 0 ∧ rb = false := by
  unfold getFact at hres
  rw [ht] at hres
  dsimp only at hres
  rw [ha] at hres
  simp [noF, hf] at hres
  obtain ⟨⟨h1, h2⟩, h3, h4⟩ := hres
  exact ⟨h1.symm, h2, h3.symm, h4⟩
theorem gf_good {bs : List UInt8} {at_ p2 q rp : Int} {kd rkd : ByteArray} {vs rfs : List Vl} {rb : Bool} (ht : getText bs at_ = (kd, p2, true)) (ha : getAll bs p2 = some (vs, q)) (hf : factOk ⟨kd, vs⟩ = true) (hres : getFact bs at_ = (⟨rkd, rfs⟩, rp, rb)) : rkd = kd ∧ rfs = vs ∧ rp = q ∧ rb = true := by
  unfold getFact at hres
  rw [ht] at hres
  dsimp only at hres
  rw [ha] at hres
  simp [hf] at hres
  obtain ⟨⟨h1, h2⟩, h3, h4⟩ := hres
  exact ⟨h1.symm, h2.symm, h3.symm, h4⟩
theorem specGetFact_any (A : Option Addr) (n c : Nat) (at_ : Int) (bs : List UInt8) (rkd : ByteArray) (rfs : List Vl) (rp : Int) (rb : Bool) (w : World) (B : Nat) (hr : RdY w B A n bs) (hn : n ≤ 4611686018427387904) (hnc : n ≤ c) (hres : getFact bs at_ = (⟨rkd, rfs⟩, rp, rb)) :
    Calls Tryz.prog 17 #[.slice A n c, .int .i64 at_] w fun e w' => ∃ A' c', e = .returned (tupGF rkd A' rfs.length c' rp rb) ∧ OwnT vC 3 w' w.heap.size 47 (.slice A' rfs.length c') rfs ∧ Below w.heap.size w w' := by
  have HL := Lib.hid hr.len
  have HRES := Lib.hid hres; clear hres
  obtain ⟨kd, p2, ok, ht⟩ : ∃ kd p2 ok, getText bs at_ = (kd, p2, ok) := ⟨_, _, _, rfl⟩
  have hkz := getText_size bs at_
  rw [ht] at hkz
  dsimp only at hkz
  rw [HL.out] at hkz
  have HT := Lib.hid ht; clear ht
  have HZ := Blk.new w 26 #[.string ⟨#[]⟩, .slice none 0 0]
  go_enter Tryz.func17, Tryz.ntmps17
  go_wp2_with fail
  refine (specGetText_any A n c at_ bs _ B (hr.alloc _).2 hn hnc).mono ?_
  rw [HT.out]; dsimp only [tupS]
  rintro e w' ⟨rfl, rfl⟩
  go_wp2_with fail
  refine (l3GetVals_any A n c p2 bs _ B (hr.alloc _) hn hnc).mono ?_
  rintro e w1 ⟨A', c', vs, q, b, rfl, ho, hb, hvl, hvz, hall⟩
  replace HZ := HZ.kept hb
  have hs1 := hb.size
  simp at hs1
  have g1 : Below w.heap.size w w1 := bel_trans (bel_alloc (bel_refl w) _) hb
  have HVZ := Lib.hid hvz; clear hvz hb
  have HALL := Lib.hid hall; clear hall
  have hrd : RdS vC 3 (w1.alloc (.cells #[.string kd, .slice A' vs.length c'] 26)) w1.heap.size A' vs.length vs := (OwnT.rdO ho).alloc _
  have HZa := HZ.alloc (.cells #[.string kd, .slice A' vs.length c'] 26)
  cases ok
  · obtain ⟨rfl, rfl, rfl, rfl⟩ := gf_text HT.out HRES.out
    obtain ⟨z0, z1, z2, z3⟩ := HZa.two
    go_wp2
    refine bodyPost_ret (v := tupGF ⟨#[]⟩ none 0 0 0 false) (by simp [results, Tryz.results17, go_sem, tupGF, z0, z1]) rfl ⟨none, 0, rfl, OwnT.nil_ _ _ _, (by repeat (first | with_reducible exact bel_refl _ | with_reducible assumption | with_reducible refine bel_set ?_ (by first | (simp; done) | (simp; omega) | omega) _ | with_reducible refine bel_alloc ?_ _ | with_reducible refine bel_drew ?_ | with_reducible refine bel_drewN ?_ _ | with_reducible refine bel_trans ?_ (by assumption)))⟩
  cases b
  · obtain ⟨rfl, rfl, rfl, rfl⟩ := gf_none HT.out HALL.out HRES.out
    obtain ⟨z0, z1, z2, z3⟩ := HZa.two
    go_wp2
    refine bodyPost_ret (v := tupGF ⟨#[]⟩ none 0 0 0 false) (by simp [results, Tryz.results17, go_sem, tupGF, z0, z1]) rfl ⟨none, 0, rfl, OwnT.nil_ _ _ _, (by repeat (first | with_reducible exact bel_refl _ | with_reducible assumption | with_reducible refine bel_set ?_ (by first | (simp; done) | (simp; omega) | omega) _ | with_reducible refine bel_alloc ?_ _ | with_reducible refine bel_drew ?_ | with_reducible refine bel_drewN ?_ _ | with_reducible refine bel_trans ?_ (by assumption)))⟩
  obtain ⟨r1, hr1⟩ : ∃ r, factOk ⟨kd, vs⟩ = r := ⟨_, rfl⟩
  have HR1 := Lib.hid hr1; clear hr1
  go_wp2_with fail
  refine (specFactOk_any kd A' _ c' vs _ _ hrd (by omega) (by omega) (fun x hx => by have := HVZ.out x hx; rw [HL.out] at this; omega)).mono ?_
  rw [HR1.out]
  rintro e w2 ⟨rfl, hb2⟩
  have HB2 := (Blk.new w1 26 #[.string kd, .slice A' vs.length c']).kept hb2
  replace HZa := HZa.kept hb2
  replace g1 := bel_trans (bel_alloc g1 _) hb2
  replace ho := (ho.alloc (.cells #[.string kd, .slice A' vs.length c'] 26)).kept hb2
  obtain ⟨z0, z1, z2, z3⟩ := HZa.two
  obtain ⟨y0, y1, y2, y3⟩ := HB2.two
  cases r1
  · obtain ⟨rfl, rfl, rfl, rfl⟩ := gf_bad HT.out HALL.out HR1.out HRES.out
    go_wp2
    refine bodyPost_ret (v := tupGF ⟨#[]⟩ none 0 0 0 false) (by simp [results, Tryz.results17, go_sem, tupGF, z0, z1]) rfl ⟨none, 0, rfl, OwnT.nil_ _ _ _, (by repeat (first | with_reducible exact bel_refl _ | with_reducible assumption | with_reducible refine bel_set ?_ (by first | (simp; done) | (simp; omega) | omega) _ | with_reducible refine bel_alloc ?_ _ | with_reducible refine bel_drew ?_ | with_reducible refine bel_drewN ?_ _ | with_reducible refine bel_trans ?_ (by assumption)))⟩
  · obtain ⟨rfl, rfl, rfl, rfl⟩ := gf_good HT.out HALL.out HR1.out HRES.out
    go_wp2
    refine bodyPost_ret (v := tupGF rkd A' rfs.length c' rp true) (by simp [results, Tryz.results17, go_sem, tupGF, z0, z1]) rfl ⟨A', c', rfl, ((ho.low (by simp) _).low (by simp) _).lower (by simp), (by repeat (first | with_reducible exact bel_refl _ | with_reducible assumption | with_reducible refine bel_set ?_ (by first | (simp; done) | (simp; omega) | omega) _ | with_reducible refine bel_alloc ?_ _ | with_reducible refine bel_drew ?_ | with_reducible refine bel_drewN ?_ _ | with_reducible refine bel_trans ?_ (by assumption)))⟩
theorem implGetFact_any (A : Option Addr) (n c : Nat) (at_ : Int) (bs : List UInt8) (rkd : ByteArray) (rfs : List Vl) (rp : Int) (rb : Bool) (w : World) (B : Nat) (hr : RdY w B A n bs) (hn : n ≤ 4611686018427387904) (hnc : n ≤ c) (hres : getFact bs at_ = (⟨rkd, rfs⟩, rp, rb)) :
    Calls Tryz.prog 11 #[.slice A n c, .int .i64 at_] w fun e w' => ∃ A' c', e = .returned (tupGF rkd A' rfs.length c' rp rb) ∧ OwnT vC 3 w' w.heap.size 47 (.slice A' rfs.length c') rfs ∧ Below w.heap.size w w' := by
  obtain ⟨i0, hi, hz0, hz1, hz2⟩ := info_parts infoVal
  have HI := Lib.hid hi; clear hi
  have HL := Lib.hid hr.len
  have HRES := Lib.hid hres; clear hres
  obtain ⟨kd, p2, ok, ht⟩ : ∃ kd p2 ok, getText bs at_ = (kd, p2, ok) := ⟨_, _, _, rfl⟩
  have hkz := getText_size bs at_
  rw [ht] at hkz
  dsimp only at hkz
  rw [HL.out] at hkz
  have HT := Lib.hid ht; clear ht
  have HZ := Blk.new w 26 #[.string ⟨#[]⟩, .slice none 0 0]
  obtain ⟨z0, z1, z2, z3⟩ := HZ.two
  cases ok
  · obtain ⟨rfl, rfl, rfl, rfl⟩ := gf_text HT.out HRES.out
    go_enter Tryz.func11, Tryz.ntmps11
    go_wp2_with fail
    refine (implGetText_any A n c at_ bs _ B (hr.alloc _).2 hn hnc).mono ?_
    rw [HT.out]; dsimp only [tupS]
    rintro e w' ⟨rfl, rfl⟩
    go_wp2
    refine bodyPost_ret (v := tupGF ⟨#[]⟩ none 0 0 0 false) (by simp [results, Tryz.results11, go_sem, tupGF]; try rfl) rfl ⟨none, 0, rfl, OwnT.nil_ _ _ _, (by repeat (first | with_reducible exact bel_refl _ | with_reducible assumption | with_reducible refine bel_set ?_ (by first | (simp; done) | (simp; omega) | omega) _ | with_reducible refine bel_alloc ?_ _ | with_reducible refine bel_drew ?_ | with_reducible refine bel_drewN ?_ _ | with_reducible refine bel_trans ?_ (by assumption)))⟩
  obtain ⟨nv, nx, ok2, hg⟩ : ∃ v nx ok, getNum bs p2 = (v, nx, ok) := ⟨_, _, _, rfl⟩
  have HG := Lib.hid hg
  cases ok2
  · have ha : getAll bs p2 = none := by unfold getAll; rw [hg]; rfl
    obtain ⟨rfl, rfl, rfl, rfl⟩ := gf_none HT.out ha HRES.out
    clear hg ha
    go_enter Tryz.func11, Tryz.ntmps11
    go_wp2_with fail
    refine (implGetText_any A n c at_ bs _ B (hr.alloc _).2 hn hnc).mono ?_
    rw [HT.out]; dsimp only [tupS]
    rintro e w' ⟨rfl, rfl⟩
    go_wp2_with fail
    refine (implGetNum_any A n c p2 bs _ B (hr.alloc _).2 hn).mono ?_
    rw [HG.out]; dsimp only [tup3]
    rintro e w' ⟨rfl, rfl⟩
    go_wp2
    refine bodyPost_ret (v := tupGF ⟨#[]⟩ none 0 0 0 false) (by simp [results, Tryz.results11, go_sem, tupGF]; try rfl) rfl ⟨none, 0, rfl, OwnT.nil_ _ _ _, (by repeat (first | with_reducible exact bel_refl _ | with_reducible assumption | with_reducible refine bel_set ?_ (by first | (simp; done) | (simp; omega) | omega) _ | with_reducible refine bel_alloc ?_ _ | with_reducible refine bel_drew ?_ | with_reducible refine bel_drewN ?_ _ | with_reducible refine bel_trans ?_ (by assumption)))⟩
  obtain ⟨bi, hbi⟩ : ∃ b, inB nv 0 5 = b := ⟨_, rfl⟩
  have HB := Lib.hid hbi
  cases bi
  · have ha : getAll bs p2 = none := by unfold getAll; rw [hg]; dsimp only; rw [hbi]; rfl
    obtain ⟨rfl, rfl, rfl, rfl⟩ := gf_none HT.out ha HRES.out
    clear hg ha hbi
    go_enter Tryz.func11, Tryz.ntmps11
    go_wp2_with fail
    refine (implGetText_any A n c at_ bs _ B (hr.alloc _).2 hn hnc).mono ?_
    rw [HT.out]; dsimp only [tupS]
    rintro e w' ⟨rfl, rfl⟩
    go_wp2_with fail
    refine (implGetNum_any A n c p2 bs _ B (hr.alloc _).2 hn).mono ?_
    rw [HG.out]; dsimp only [tup3]
    rintro e w' ⟨rfl, rfl⟩
    go_wp2_with (go_at_call 32; refine (inRange_any _ _ _ _).mono ?_; rw [HB.out]; rintro e w' ⟨rfl, rfl⟩)
    refine bodyPost_ret (v := tupGF ⟨#[]⟩ none 0 0 0 false) (by simp [results, Tryz.results11, go_sem, tupGF]; try rfl) rfl ⟨none, 0, rfl, OwnT.nil_ _ _ _, (by repeat (first | with_reducible exact bel_refl _ | with_reducible assumption | with_reducible refine bel_set ?_ (by first | (simp; done) | (simp; omega) | omega) _ | with_reducible refine bel_alloc ?_ _ | with_reducible refine bel_drew ?_ | with_reducible refine bel_drewN ?_ _ | with_reducible refine bel_trans ?_ (by assumption)))⟩
  obtain ⟨N, rfl, hN⟩ := inB05 hbi
  obtain ⟨R, hR⟩ : ∃ R, getAll bs p2 = R := ⟨_, rfl⟩
  have hR2 : getVs bs N nx [] = R := by rw [← hR]; unfold getAll; rw [hg]; dsimp only; rw [hbi]; rfl
  have HRR := Lib.hid hR
  clear hg hbi hR
  have HBX := Blk.new (w.alloc (.cells #[.string ⟨#[]⟩, .slice none 0 0] 26)) 26 #[.string kd, .slice none 0 0]
  have hszw : (w.alloc (.cells #[.string ⟨#[]⟩, .slice none 0 0] 26)).heap.size = w.heap.size + 1 := by simp
  rw [hszw] at HBX
  replace HZ := HZ.alloc (.cells #[.string kd, .slice none 0 0] 26)
  clear z0 z1 z2 z3
  go_enter Tryz.func11, Tryz.ntmps11
  go_wp2_with fail
  refine (implGetText_any A n c at_ bs _ B (hr.alloc _).2 hn hnc).mono ?_
  rw [HT.out]; dsimp only [tupS]
  rintro e w' ⟨rfl, rfl⟩
  go_wp2_with fail
  refine (implGetNum_any A n c p2 bs _ B (hr.alloc _).2 hn).mono ?_
  rw [HG.out]; dsimp only [tup3]
  rintro e w' ⟨rfl, rfl⟩
  go_wp2_with (go_at_call 32; refine (inRange_any _ _ _ _).mono ?_; rw [HB.out]; rintro e w' ⟨rfl, rfl⟩)
  go_loopw [8, 43] (fun s8 i wr => ∃ (k : Nat) (q : Int) (acc : List Vl) (A' : Option Addr) (c' : Nat), k ≤ N ∧ i = .int .i64 k ∧ s8 = .int .i64 q ∧ acc.length = k ∧ (∀ x ∈ acc, x.s.size ≤ bs.length) ∧ getVs bs (N - k) q acc = R ∧ Blk wr (w.heap.size + 1) 26 #[.string kd, .slice A' k c'] ∧ Blk wr w.heap.size 26 #[.string ⟨#[]⟩, .slice none 0 0] ∧ OwnT vC 3 wr (w.heap.size + 2) 47 (.slice A' k c') acc ∧ Below w.heap.size w wr ∧ w.heap.size + 2 ≤ wr.heap.size) (fun _ i _ => N - (intOf i).toNat)
  case atStart => exact ⟨0, nx, [], none, 0, Nat.zero_le _, rfl, rfl, rfl, fun x h => (by cases h), hR2, HBX, HZ, OwnT.nil_ _ _ _, (by repeat (first | with_reducible exact bel_refl _ | with_reducible assumption | with_reducible refine bel_set ?_ (by first | (simp; done) | (simp; omega) | omega) _ | with_reducible refine bel_alloc ?_ _ | with_reducible refine bel_drew ?_ | with_reducible refine bel_drewN ?_ _ | with_reducible refine bel_trans ?_ (by assumption))), by simp⟩
  case round =>
    obtain ⟨k, q, acc, A', c', hk, rfl, rfl, hal, hsz, hv, HBk, HZk, ho, hbel, hbs⟩ := hrel
    have HAL := Lib.hid hal; clear hal
    have HSZ := Lib.hid hsz; clear hsz
    have HV := Lib.hid hv; clear hv
    by_cases hlt : k < N
    · have hj1 : (k:Int) < (N:Int) := by omega
      obtain ⟨⟨vk, vn, vs⟩, q2, ok2, hgv⟩ : ∃ v q2 ok2, getVal bs q = (v, q2, ok2) := ⟨_, _, _, rfl⟩
      have hvs := getVal_size bs q
      rw [hgv] at hvs
      dsimp only at hvs
      have hst : getVs bs (N - k) q acc = if ok2 then getVs bs (N - (k + 1)) q2 (acc ++ [⟨vk, vn, vs⟩]) else none := by
        rw [show N - k = (N - (k + 1)) + 1 by omega, getVs, hgv]
      have HGV := Lib.hid hgv; clear hgv
      cases ok2
      · have ha : getAll bs p2 = none := by rw [HRR.out, ← HV.out, hst]; rfl
        obtain ⟨rfl, rfl, rfl, rfl⟩ := gf_none HT.out ha HRES.out
        clear ha hst
        go_wp2_with fail
        refine (implGetVal_any A n c q bs _ B (hr.kept hbel) hn hnc).mono ?_
        rw [HGV.out]; dsimp only [tupG]
        rintro e w3 ⟨rfl, hb3⟩
        obtain ⟨z0, z1, z2, z3⟩ := ((HZk.kept hb3).alloc (.cells #[.int .i64 vk, .int .i64 vn, .string vs] 47)).two
        go_wp2
        refine bodyPost_ret (v := tupGF ⟨#[]⟩ none 0 0 0 false) (by simp [results, Tryz.results11, go_sem, tupGF, z0, z1]) rfl ⟨none, 0, rfl, OwnT.nil_ _ _ _, (by repeat (first | with_reducible exact bel_refl _ | with_reducible assumption | with_reducible refine bel_set ?_ (by first | (simp; done) | (simp; omega) | omega) _ | with_reducible refine bel_alloc ?_ _ | with_reducible refine bel_drew ?_ | with_reducible refine bel_drewN ?_ _ | with_reducible refine bel_trans ?_ (by assumption)))⟩
      · have HR := Lib.hid (show getVs bs (N - (k + 1)) q2 (acc ++ [⟨vk, vn, vs⟩]) = R by rw [← HV.out, hst]; rfl); clear hst
        go_wp2_with fail
        refine (implGetVal_any A n c q bs _ B (hr.kept hbel) hn hnc).mono ?_
        rw [HGV.out]; dsimp only [tupG]
        rintro e w3 ⟨rfl, hb3⟩
        have hs3 := hb3.size
        have hnew : RdT vC 3 ((w3.alloc (.cells #[.int .i64 vk, .int .i64 vn, .string vs] 47)).alloc (.cells #[.int .i64 vk, .int .i64 vn, .string vs] 47)) (w3.heap.size + 1 + 1) (some ⟨w3.heap.size + 1, 0, none⟩) 1 [⟨vk, vn, vs⟩] := by
          have h := RdT.new1 vC_sz (w3.alloc (.cells #[.int .i64 vk, .int .i64 vn, .string vs] 47)) 47 ⟨vk, vn, vs⟩
          simpa [vC] using h
        have hbel3 := bel_trans hbel hb3
        have HB3 := HBk.kept hb3
        have HZ3 := HZk.kept hb3
        obtain ⟨y0, y1, y2, y3⟩ := HB3.two
        have hlt3 : w.heap.size + 1 < w3.heap.size := by omega
        have hl6 : (acc ++ [(⟨vk, vn, vs⟩ : Vl)]).length = k + 1 := by rw [List.length_append, HAL.out]; rfl
        have HL6 := Lib.hid hl6; clear hl6
        go_wp2_with (at_builtin; refine appT rfl (.tmp 56) (.tmp 58) _ rfl vC_sz (w.heap.size + 2) 47 i0 Tryz.underlying24 HI.out hz0 hz1 hz2 rfl (by omega) _ acc rfl (((ho.kept hb3).alloc _).alloc _) _ 1 1 [⟨vk, vn, vs⟩] rfl hnew (by intro u hu; simp [fl, vC] at hu; rcases hu with rfl | rfl | rfl <;> rfl) (by have := HAL.out; omega) (by simp; omega) ?_ (by have := HAL.out; omega); intro v' w4 ho4 hb4 hs4; obtain ⟨A4, c4, hv4, _⟩ := ho4.form; rw [HL6.out] at hv4; subst hv4; have HB4 := blk_bel ((HB3.alloc _).alloc _) hb4 (by omega); have HZ4 := blk_bel ((HZ3.alloc _).alloc _) hb4 (by omega); obtain ⟨x0, x1, x2, x3⟩ := HB4.two)
        have HB5 := HB4.set_ 1 (.slice A4 (k + 1) c4)
        have HZ5 := HZ4.far (p := ⟨w.heap.size + 1, 1, none⟩) (by simp) (.slice A4 (k + 1) c4)
        simp at hs4
        go_roundw
        case rel => exact ⟨k + 1, q2, acc ++ [⟨vk, vn, vs⟩], A4, c4, by omega, by go_num, rfl, HL6.out, fun x hx => (by rcases List.mem_append.1 hx with h | h; exact HSZ.out x h; rw [List.mem_singleton] at h; rw [h]; exact hvs), HR.out, by simpa using HB5, HZ5, ho4.low (by simp) _, bel_set ((bel_alloc (bel_alloc hbel3 _) _).trans (hb4.mono (by omega))) (by simp) _, by simp; omega⟩
        case measure => simp [intOf]; omega
    · have ha : getAll bs p2 = some (acc, q) := by rw [HRR.out, ← HV.out, show N - k = 0 by omega]; rfl
      have HA := Lib.hid ha; clear ha
      obtain ⟨r1, hr1⟩ : ∃ r, factOk ⟨kd, acc⟩ = r := ⟨_, rfl⟩
      have HR1 := Lib.hid hr1; clear hr1
      obtain ⟨y0, y1, y2, y3⟩ := HBk.two
      go_wp2_with fail
      refine (implFactOk_any kd A' _ c' acc _ _ (OwnT.rdM ho HAL.out) (by omega) (by omega) (fun x hx => by have := HSZ.out x hx; rw [HL.out] at this; omega)).mono ?_
      rw [HR1.out]
      rintro e w2 ⟨rfl, hb2⟩
      replace HZk := HZk.kept hb2
      replace HBk := HBk.kept hb2
      replace hbel := bel_trans hbel hb2
      replace ho := ho.kept hb2
      clear y0 y1 y2 y3
      obtain ⟨z0, z1, z2, z3⟩ := HZk.two
      obtain ⟨y0, y1, y2, y3⟩ := HBk.two
      cases r1
      · obtain ⟨rfl, rfl, rfl, rfl⟩ := gf_bad HT.out HA.out HR1.out HRES.out
        go_wp2
        refine bodyPost_ret (v := tupGF ⟨#[]⟩ none 0 0 0 false) (by simp [results, Tryz.results11, go_sem, tupGF, z0, z1]) rfl ⟨none, 0, rfl, OwnT.nil_ _ _ _, (by repeat (first | with_reducible exact bel_refl _ | with_reducible assumption | with_reducible refine bel_set ?_ (by first | (simp; done) | (simp; omega) | omega) _ | with_reducible refine bel_alloc ?_ _ | with_reducible refine bel_drew ?_ | with_reducible refine bel_drewN ?_ _ | with_reducible refine bel_trans ?_ (by assumption)))⟩
      · obtain ⟨rfl, rfl, rfl, rfl⟩ := gf_good HT.out HA.out HR1.out HRES.out
        go_wp2
        refine bodyPost_ret (v := tupGF rkd A' k c' rp true) (by simp [results, Tryz.results11, go_sem, tupGF, z0, z1]) rfl ⟨A', c', by rw [HAL.out], ?_, (by repeat (first | with_reducible exact bel_refl _ | with_reducible assumption | with_reducible refine bel_set ?_ (by first | (simp; done) | (simp; omega) | omega) _ | with_reducible refine bel_alloc ?_ _ | with_reducible refine bel_drew ?_ | with_reducible refine bel_drewN ?_ _ | with_reducible refine bel_trans ?_ (by assumption)))⟩
        rw [HAL.out]
        exact ((ho.low (by simp) _).low (by simp) _).lower (by omega)
end Go.Proofs.YtcbbefibebkfgaaGreatDoor
