/- MatchPat of the program: it answers what the plain function says, in memory of its own. No condition but lengths. -/
import Derived.Test.YtdlcbmhnagajdaaBindOf
import Derived.Test.YtdlcbmhnagajdaaPat
import Derived.Test.YtdlcbmhnagajdaaFact
import Derived.Test.YtdlcbmhnagajdaaBindS
import Derived.Test.YtdlcbmhnagajdaaApp
import Derived.Test.YtdlcbmhnagajdaaLit
import Derived.Test.YtdlcbmhnagajdaaBox
namespace Go.Proofs.Ytdlcbmhnagajdaa
open Go.RowKit
set_option maxRecDepth 100000
set_option maxHeartbeats 4000000

def mstep (acc : List Bd) (a : Ag) (v : Vl) : Option (List Bd) :=
  if a.k = 2 then (if a.v = v then some acc else none)
  else if a.k = 1 then (if (bindOf acc a.s).2 then (if (bindOf acc a.s).1 = v then some acc else none) else some (acc ++ [⟨a.s, v⟩]))
  else some acc
def mgo : List Ag → List Vl → List Bd → Option (List Bd)
  | a :: gs, v :: vs, acc => match mstep acc a v with
    | some acc' => mgo gs vs acc'
    | none => none
  | _, _, acc => some acc
def mfin (l : List Bd) : Option (List Bd) → List Bd × Bool
  | some x => (x, true)
  | none => (l, false)
def matchPat (kd : ByteArray) (gs : List Ag) (f : Ft) (l : List Bd) : List Bd × Bool :=
  if kd = f.kd ∧ gs.length = f.fs.length then mfin l (mgo gs f.fs l) else (l, false)
theorem mgo_step {gs : List Ag} {vs : List Vl} {acc : List Bd} {k : Nat} (h1 : k < gs.length) (h2 : k < vs.length) : mgo (gs.drop k) (vs.drop k) acc = match mstep acc gs[k] vs[k] with | some acc' => mgo (gs.drop (k + 1)) (vs.drop (k + 1)) acc' | none => none := by
  rw [List.drop_eq_getElem_cons h1, List.drop_eq_getElem_cons h2, mgo]
theorem mgo_end {gs : List Ag} {vs : List Vl} {acc : List Bd} {k : Nat} (h1 : gs.length ≤ k) : mgo (gs.drop k) (vs.drop k) acc = some acc := by
  rw [List.drop_eq_nil_of_le h1, mgo]
  intro a gs v vs h
  cases h
theorem vl_split (a b : Vl) : a = b ∨ (¬ a = b ∧ ((a.k == b.k) = false ∨ ((a.k = b.k) ∧ (a.n == b.n) = false) ∨ ((a.k = b.k) ∧ (a.n = b.n) ∧ (a.s.toList == b.s.toList) = false))) := by
  obtain ⟨k, n, s⟩ := a
  obtain ⟨k2, n2, s2⟩ := b
  by_cases h1 : k = k2
  · by_cases h2 : n = n2
    · by_cases h3 : s = s2
      · left; rw [h1, h2, h3]
      · right; exact ⟨fun h => h3 (by injection h), .inr (.inr ⟨h1, h2, by rw [str_eq]; exact decide_eq_false h3⟩)⟩
    · right; exact ⟨fun h => h2 (by injection h), .inr (.inl ⟨h1, by simpa using h2⟩)⟩
  · right; exact ⟨fun h => h1 (by injection h), .inl (by simpa using h1)⟩
theorem bC_one (xs : List Bd) : ∀ u ∈ fl bC xs, u.oneCell' = true := by
  intro u hu
  simp only [fl, List.mem_flatMap] at hu
  obtain ⟨x, _, hu⟩ := hu
  simp [bC] at hu
  rcases hu with rfl | rfl | rfl | rfl <;> rfl
theorem cloneB_any (A : Option Addr) (n c : Nat) (xs : List Bd) (w : World) (B : Nat) (hr : RdS bC 4 w B A n xs) (hn : n ≤ 1048576) :
    Calls Try.prog 14 #[.slice A n c] w fun e w' => ∃ A' c', e = .returned (.slice A' xs.length c') ∧ OwnT bC 4 w' w.heap.size 49 (.slice A' xs.length c') xs ∧ Below w.heap.size w w' := by
  obtain ⟨i0, hi, hz0, hz1, hz2⟩ := info_parts infoBind
  have hl := hr.len
  have HI := Lib.hid hi; clear hi
  have HL := Lib.hid hl; clear hl
  have hq := Lib.run_eql_slice_nil (P := Try.prog) w 30 49 A n c 0 0 Try.underlying30
  cases A with
  | none =>
    have hn0 : n = 0 := by
      rcases Nat.eq_zero_or_pos n with h0 | h0
      · exact h0
      · obtain ⟨_, _, h, _⟩ := hr.2.2.2 h0
        cases h
    have hbs : xs = [] := List.eq_nil_of_length_eq_zero (by rw [HL.out]; exact hn0)
    subst hn0
    have HBS := Lib.hid hbs; clear hbs
    simp only [Option.isNone_none] at hq
    go_enter Try.func14, Try.ntmps14
    go_wp2
    go_ret
    exact ⟨none, 0, by rw [HBS.out]; rfl, by rw [HBS.out]; exact OwnT.nil_ _ _ _, Below.refl _ _⟩
  | some ad =>
    simp only [Option.isNone_some] at hq
    go_enter Try.func14, Try.ntmps14
    go_wp2_with (at_builtin; refine appT rfl (.tmp 5) (.tmp 6) _ rfl bC_sz w.heap.size 49 i0 Try.underlying30 HI.out hz0 hz1 hz2 rfl (by omega) _ [] rfl (lit0 w 49) _ n c xs rfl (hr.alloc _).2 (bC_one xs) (by simp only [List.length_nil]; omega) (by simp) ?_ (by simp only [List.length_nil]; omega); intro v' w' ho' hb' hs'; have hbel' : Below w.heap.size w w' := ((Below.refl w.heap.size w).alloc (Nat.le_refl _) _).trans hb'; obtain ⟨A', c', rfl, hc', _⟩ := ho'.form)
    go_ret
    exact ⟨A', c', rfl, ho', hbel'⟩
def tupM (A : Option Addr) (n c : Nat) (b : Bool) : Value := .tuple #[.slice A n c, .bool b]
theorem implMatchPat_any (kd : ByteArray) (A : Option Addr) (n c : Nat) (gs : List Ag) (no : Bool) (kd2 : ByteArray) (A2 : Option Addr) (n2 c2 : Nat) (fs : List Vl) (A3 : Option Addr) (n3 c3 : Nat) (l : List Bd) (rs : List Bd) (rb : Bool) (w : World) (B B2 B3 : Nat)
    (hr : RdS aC 5 w B A n gs) (hr2 : RdS vC 3 w B2 A2 n2 fs) (hr3 : RdS bC 4 w B3 A3 n3 l) (hn : n ≤ 1048576) (hn3 : n3 ≤ 1048576) (hres : matchPat kd gs ⟨kd2, fs⟩ l = (rs, rb)) :
    Calls Try.prog 6 #[.agg #[.string kd, .slice A n c, .bool no], .agg #[.string kd2, .slice A2 n2 c2], .slice A3 n3 c3] w fun e w' => ∃ A' c', e = .returned (tupM A' rs.length c' rb) ∧ OwnT bC 4 w' w.heap.size 49 (.slice A' rs.length c') rs ∧ Below w.heap.size w w' := by
  obtain ⟨i0, hi, hz0, hz1, hz2⟩ := info_parts infoBind
  have HI := Lib.hid hi; clear hi
  have HL := Lib.hid hr.len
  have HL2 := Lib.hid hr2.len
  have HL3 := Lib.hid hr3.len
  have hr30 := (hr3.alloc (.cells #[.string kd, .slice A n c, .bool no] 26)).alloc (.cells #[.string kd2, .slice A2 n2 c2] 29)
  by_cases hkd : kd = kd2
  case neg =>
    have hq : (kd2.toList == kd.toList) = false := by rw [str_eq]; exact decide_eq_false (fun h => hkd h.symm)
    have hR : rs = l ∧ rb = false := by unfold matchPat at hres; rw [if_neg (fun h => hkd h.1)] at hres; simp at hres; exact ⟨hres.1.symm, hres.2⟩
    obtain ⟨rfl, rfl⟩ := hR
    clear hres hkd
    go_enter Try.func6, Try.ntmps6
    go_wp2_with fail
    refine (cloneB_any A3 n3 c3 rs _ B3 hr30 hn3).mono ?_
    rintro e w1 ⟨A', c', rfl, ho, hb⟩
    go_wp2
    go_ret2
    exact ⟨A', c', rfl, ho.lower (by simp; omega), (by repeat (first | with_reducible exact bel_refl _ | with_reducible assumption | with_reducible refine bel_set ?_ (by first | (simp; done) | (simp; omega) | omega) _ | with_reducible refine bel_alloc ?_ _ | with_reducible refine bel_drew ?_ | with_reducible refine bel_drewN ?_ _ | with_reducible refine bel_trans ?_ (by assumption)))⟩
  subst hkd
  have hqt : (kd.toList == kd.toList) = true := by simp
  by_cases hnn : n = n2
  case neg =>
    have hq : ((n2 : Int) == (n : Int)) = false := by simp; omega
    have hR : rs = l ∧ rb = false := by unfold matchPat at hres; rw [if_neg (fun h => hnn (by have := h.2; rw [HL.out] at this; simp only at this; rw [HL2.out] at this; exact this))] at hres; simp at hres; exact ⟨hres.1.symm, hres.2⟩
    obtain ⟨rfl, rfl⟩ := hR
    clear hres hnn
    go_enter Try.func6, Try.ntmps6
    go_wp2_with fail
    refine (cloneB_any A3 n3 c3 rs _ B3 hr30 hn3).mono ?_
    rintro e w1 ⟨A', c', rfl, ho, hb⟩
    go_wp2
    go_ret2
    exact ⟨A', c', rfl, ho.lower (by simp; omega), (by repeat (first | with_reducible exact bel_refl _ | with_reducible assumption | with_reducible refine bel_set ?_ (by first | (simp; done) | (simp; omega) | omega) _ | with_reducible refine bel_alloc ?_ _ | with_reducible refine bel_drew ?_ | with_reducible refine bel_drewN ?_ _ | with_reducible refine bel_trans ?_ (by assumption)))⟩
  subst hnn
  obtain ⟨R, hR⟩ : ∃ R, mgo gs fs l = R := ⟨_, rfl⟩
  have hfin : mfin l R = (rs, rb) := by
    unfold matchPat at hres
    rw [if_pos ⟨rfl, by rw [HL.out]; exact HL2.out.symm⟩] at hres
    simp only at hres
    rw [hR] at hres
    exact hres
  have HFIN := Lib.hid hfin; clear hfin hres
  go_enter Try.func6, Try.ntmps6
  go_wp2_with fail
  refine (cloneB_any A3 n3 c3 l _ B3 hr30 hn3).mono ?_
  rintro e w1 ⟨A0, c0, rfl, ho1, hb1⟩
  have g1 : Below w.heap.size w w1 := (by repeat (first | with_reducible exact bel_refl _ | with_reducible assumption | with_reducible refine bel_set ?_ (by first | (simp; done) | (simp; omega) | omega) _ | with_reducible refine bel_alloc ?_ _ | with_reducible refine bel_drew ?_ | with_reducible refine bel_drewN ?_ _ | with_reducible refine bel_trans ?_ (by assumption)))
  have y1 := old_cell hb1 (b := w.heap.size + 1) (o := 1) (v := .slice A2 n c2) (by go_simp)
  have x1 := old_cell hb1 (b := w.heap.size) (o := 1) (v := .slice A n c) (by go_simp)
  have hs1 := hb1.size
  simp at hs1
  clear hb1 hr30
  have ho1' : OwnT bC 4 w1 (w.heap.size + 2) 49 (.slice A0 l.length c0) l := ho1.lower (by simp)
  clear ho1
  go_wp2
  go_loopw [8, 35] (fun u i wr => ∃ (k : Nat) (acc : List Bd), k ≤ n ∧ i = .int .i64 k ∧ acc.length ≤ n3 + k ∧ mgo (gs.drop k) (fs.drop k) acc = R ∧ OwnT bC 4 wr (w.heap.size + 2) 49 u acc ∧ Below w.heap.size w wr ∧ wr.cell? ⟨w.heap.size + 1, 1, none⟩ = some (.slice A2 n c2) ∧ w.heap.size + 2 ≤ wr.heap.size) (fun _ i _ => n - (intOf i).toNat)
  case atStart => exact ⟨0, l, Nat.zero_le _, rfl, by rw [HL3.out]; omega, hR, ho1', g1, y1, by omega⟩
  case round =>
    obtain ⟨k, acc, hk, rfl, hal, hv, ho, hbel, y1, hbs⟩ := hrel
    have HV := Lib.hid hv; clear hv
    obtain ⟨Au, cu, rfl, hcu, _⟩ := ho.form
    by_cases hlt : k < n
    · obtain ⟨b, o, rfl, hb0, hc⟩ := (hr.kept hbel).2.arg_ (by omega)
      obtain ⟨ek, es, evk, evn, evs, he, p0, p1, p2, p3, p4⟩ := hc k hlt
      clear hc
      obtain ⟨b2, o2, rfl, hb2, hc2⟩ := (hr2.kept hbel).2.val (by omega)
      obtain ⟨fk, fn, ft, he2, q0, q1, q2⟩ := hc2 k hlt
      clear hc2
      have hkl : k < gs.length := by rw [HL.out]; exact hlt
      have hkl2 : k < fs.length := by rw [HL2.out]; exact hlt
      have hst := mgo_step (acc := acc) hkl hkl2
      rw [he, he2] at hst
      rw [HV.out] at hst
      clear he he2
      have hj0 : (0:Int) ≤ (k : Int) := by omega
      have hj1 : (k:Int) < (n : Int) := by omega
      have hbl : b < wr.heap.size := Nat.lt_of_lt_of_le hb0 (hr.kept hbel).1
      have hbl2 : b2 < wr.heap.size := Nat.lt_of_lt_of_le hb2 (hr2.kept hbel).1
      have hyl := cell_lt y1
      dsimp only at hyl
      have gr := bel_alloc (bel_alloc (bel_refl wr) (.cells #[.int .i64 ek, .string es, .int .i64 evk, .int .i64 evn, .string evs] 41)) (.cells #[.int .i64 fk, .int .i64 fn, .string ft] 37)
      have y1' := old_cell gr y1
      have ho' := ho.kept gr
      have hr3' := (hr3.kept hbel).kept gr
      have hbel' := bel_trans hbel gr
      have hszg : ((wr.alloc (.cells #[.int .i64 ek, .string es, .int .i64 evk, .int .i64 evn, .string evs] 41)).alloc (.cells #[.int .i64 fk, .int .i64 fn, .string ft] 37)).heap.size = wr.heap.size + 2 := by simp
      by_cases h2 : ek = 2
      · subst h2
        rcases vl_split ⟨evk, evn, evs⟩ ⟨fk, fn, ft⟩ with heq | ⟨hne, hmis⟩
        · have hst2 : R = mgo (gs.drop (k + 1)) (fs.drop (k + 1)) acc := by rw [hst]; unfold mstep; rw [if_pos rfl]; simp only; rw [if_pos heq]
          simp only [Vl.mk.injEq] at heq
          obtain ⟨rfl, rfl, rfl⟩ := heq
          have HST := Lib.hid hst2; clear hst hst2 gr
          go_wp2
          go_roundw
          case rel => exact ⟨k + 1, acc, by omega, by go_num, by omega, HST.out.symm, ho', hbel', y1', by omega⟩
          case measure => simp [intOf]; omega
        · have hst2 : R = none := by rw [hst]; unfold mstep; rw [if_pos rfl]; simp only; rw [if_neg hne]
          have HST := Lib.hid hst2; clear hst hst2 gr hne
          have hfr := HFIN.out
          rw [HST.out] at hfr
          simp only [mfin, Prod.mk.injEq] at hfr
          obtain ⟨rfl, rfl⟩ := hfr
          rcases hmis with hm | ⟨rfl, hm⟩ | ⟨rfl, rfl, hm⟩
          all_goals
            dsimp only at hm
            go_wp2_with fail
            refine (cloneB_any A3 n3 c3 l _ _ hr3' hn3).mono ?_
            rintro e w3 ⟨A', c', rfl, ho3, hb3⟩
            go_wp2
            go_ret2
            exact ⟨A', c', rfl, ho3.lower (by omega), bel_trans hbel' hb3⟩
      by_cases h1 : ek = 1
      · subst h1
        clear h2
        obtain ⟨⟨bk, bn, bt⟩, bo, hbo⟩ : ∃ v o, bindOf acc es = (v, o) := ⟨_, _, rfl⟩
        have HBO := Lib.hid hbo
        cases bo
        · have hst2 : R = mgo (gs.drop (k + 1)) (fs.drop (k + 1)) (acc ++ [⟨es, ⟨fk, fn, ft⟩⟩]) := by rw [hst]; unfold mstep; simp only; rw [if_neg (by decide : ¬ (1:Int) = 2), if_pos trivial, hbo]; rfl
          have HST := Lib.hid hst2; clear hst hst2 gr hbo
          go_wp2_with fail
          refine (implBindOf_any Au _ cu acc es _ _ (OwnT.rdO ho') (by omega)).mono ?_
          rw [HBO.out]; dsimp only [tupB]
          rintro e w3 ⟨rfl, hb3⟩
          have hs3 := hb3.size
          have hv3 : wr.heap.size + 1 < w3.heap.size := by omega
          have hv30 : wr.heap.size < w3.heap.size := by omega
          have a1 := old_cell hb3 (b := wr.heap.size) (o := 1) (v := .string es) (by go_simp)
          have v0 := old_cell hb3 (b := wr.heap.size + 1) (o := 0) (v := .int .i64 fk) (by go_simp)
          have v1 := old_cell hb3 (b := wr.heap.size + 1) (o := 1) (v := .int .i64 fn) (by go_simp)
          have v2 := old_cell hb3 (b := wr.heap.size + 1) (o := 2) (v := .string ft) (by go_simp)
          have hnew : RdT bC 4 ((w3.alloc (.cells #[.int .i64 bk, .int .i64 bn, .string bt] 37)).alloc (.cells #[.string es, .int .i64 fk, .int .i64 fn, .string ft] 49)) (w3.heap.size + 1 + 1) (some ⟨w3.heap.size + 1, 0, none⟩) 1 [⟨es, ⟨fk, fn, ft⟩⟩] := by
            have h := RdT.new1 bC_sz (w3.alloc (.cells #[.int .i64 bk, .int .i64 bn, .string bt] 37)) 49 ⟨es, ⟨fk, fn, ft⟩⟩
            simpa [bC] using h
          go_wp2_with (at_builtin; refine appT rfl (.tmp 74) (.tmp 79) _ rfl bC_sz (w.heap.size + 2) 49 i0 Try.underlying30 HI.out hz0 hz1 hz2 rfl (by omega) _ acc rfl (((ho'.kept hb3).alloc _).alloc _) _ 1 1 [⟨es, ⟨fk, fn, ft⟩⟩] rfl hnew (bC_one _) (by omega) (by simp; omega) ?_; intro v' w4 ho4 hb4 hs4)
          simp at hs4
          have y4 := (hb4.cell (p := ⟨w.heap.size + 1, 1, none⟩) (by simp)).trans (old_cell (bel_alloc (bel_alloc hb3 (.cells #[.int .i64 bk, .int .i64 bn, .string bt] 37)) (.cells #[.string es, .int .i64 fk, .int .i64 fn, .string ft] 49)) y1')
          go_roundw
          case rel => exact ⟨k + 1, acc ++ [⟨es, ⟨fk, fn, ft⟩⟩], by omega, by go_num, by rw [List.length_append]; simp; omega, HST.out.symm, ho4, (bel_alloc (bel_alloc (bel_trans hbel' hb3) _) _).trans (hb4.mono (by omega)), y4, by omega⟩
          case measure => simp [intOf]; omega
        · rcases vl_split ⟨bk, bn, bt⟩ ⟨fk, fn, ft⟩ with heq | ⟨hne, hmis⟩
          · have hst2 : R = mgo (gs.drop (k + 1)) (fs.drop (k + 1)) acc := by rw [hst]; unfold mstep; simp only; rw [if_neg (by decide : ¬ (1:Int) = 2), if_pos trivial, hbo]; simp only; rw [if_pos heq]; rfl
            simp only [Vl.mk.injEq] at heq
            obtain ⟨rfl, rfl, rfl⟩ := heq
            have HST := Lib.hid hst2; clear hst hst2 gr hbo
            go_wp2_with fail
            refine (implBindOf_any Au _ cu acc es _ _ (OwnT.rdO ho') (by omega)).mono ?_
            rw [HBO.out]; dsimp only [tupB]
            rintro e w3 ⟨rfl, hb3⟩
            have hs3 := hb3.size
            have v0 := old_cell hb3 (b := wr.heap.size + 1) (o := 0) (v := .int .i64 bk) (by go_simp)
            have v1 := old_cell hb3 (b := wr.heap.size + 1) (o := 1) (v := .int .i64 bn) (by go_simp)
            have v2 := old_cell hb3 (b := wr.heap.size + 1) (o := 2) (v := .string bt) (by go_simp)
            have hv3 : wr.heap.size + 1 < w3.heap.size := by omega
            go_wp2
            go_roundw
            case rel => exact ⟨k + 1, acc, by omega, by go_num, by omega, HST.out.symm, (ho'.kept hb3).alloc _, bel_alloc (bel_trans hbel' hb3) _, old_cell (bel_alloc hb3 _) y1', by simp; omega⟩
            case measure => simp [intOf]; omega
          · have hst2 : R = none := by rw [hst]; unfold mstep; simp only; rw [if_neg (by decide : ¬ (1:Int) = 2), if_pos trivial, hbo]; simp only; rw [if_neg hne]; rfl
            have HST := Lib.hid hst2; clear hst hst2 gr hne hbo
            have hfr := HFIN.out
            rw [HST.out] at hfr
            simp only [mfin, Prod.mk.injEq] at hfr
            obtain ⟨rfl, rfl⟩ := hfr
            rcases hmis with hm | ⟨rfl, hm⟩ | ⟨rfl, rfl, hm⟩
            · dsimp only at hm
              go_wp2_with fail
              refine (implBindOf_any Au _ cu acc es _ _ (OwnT.rdO ho') (by omega)).mono ?_
              rw [HBO.out]; dsimp only [tupB]
              rintro e w3 ⟨rfl, hb3⟩
              have hs3 := hb3.size
              have hv3 : wr.heap.size + 1 < w3.heap.size := by omega
              have v0 := old_cell hb3 (b := wr.heap.size + 1) (o := 0) (v := .int .i64 fk) (by go_simp)
              have v1 := old_cell hb3 (b := wr.heap.size + 1) (o := 1) (v := .int .i64 fn) (by go_simp)
              have v2 := old_cell hb3 (b := wr.heap.size + 1) (o := 2) (v := .string ft) (by go_simp)
              go_wp2_with fail
              refine (cloneB_any A3 n3 c3 l _ _ ((hr3'.kept hb3).alloc _) hn3).mono ?_
              rintro e w5 ⟨A', c', rfl, ho5, hb5⟩
              go_wp2
              go_ret2
              exact ⟨A', c', rfl, ho5.lower (by have h9 := (bel_trans hbel' hb3).size; simp; omega), bel_trans (bel_alloc (bel_trans hbel' hb3) _) hb5⟩
            · dsimp only at hm
              go_wp2_with fail
              refine (implBindOf_any Au _ cu acc es _ _ (OwnT.rdO ho') (by omega)).mono ?_
              rw [HBO.out]; dsimp only [tupB]
              rintro e w3 ⟨rfl, hb3⟩
              have hs3 := hb3.size
              have hv3 : wr.heap.size + 1 < w3.heap.size := by omega
              have v0 := old_cell hb3 (b := wr.heap.size + 1) (o := 0) (v := .int .i64 bk) (by go_simp)
              have v1 := old_cell hb3 (b := wr.heap.size + 1) (o := 1) (v := .int .i64 fn) (by go_simp)
              have v2 := old_cell hb3 (b := wr.heap.size + 1) (o := 2) (v := .string ft) (by go_simp)
              go_wp2_with fail
              refine (cloneB_any A3 n3 c3 l _ _ ((hr3'.kept hb3).alloc _) hn3).mono ?_
              rintro e w5 ⟨A', c', rfl, ho5, hb5⟩
              go_wp2
              go_ret2
              exact ⟨A', c', rfl, ho5.lower (by have h9 := (bel_trans hbel' hb3).size; simp; omega), bel_trans (bel_alloc (bel_trans hbel' hb3) _) hb5⟩
            · dsimp only at hm
              go_wp2_with fail
              refine (implBindOf_any Au _ cu acc es _ _ (OwnT.rdO ho') (by omega)).mono ?_
              rw [HBO.out]; dsimp only [tupB]
              rintro e w3 ⟨rfl, hb3⟩
              have hs3 := hb3.size
              have hv3 : wr.heap.size + 1 < w3.heap.size := by omega
              have v0 := old_cell hb3 (b := wr.heap.size + 1) (o := 0) (v := .int .i64 bk) (by go_simp)
              have v1 := old_cell hb3 (b := wr.heap.size + 1) (o := 1) (v := .int .i64 bn) (by go_simp)
              have v2 := old_cell hb3 (b := wr.heap.size + 1) (o := 2) (v := .string ft) (by go_simp)
              go_wp2_with fail
              refine (cloneB_any A3 n3 c3 l _ _ ((hr3'.kept hb3).alloc _) hn3).mono ?_
              rintro e w5 ⟨A', c', rfl, ho5, hb5⟩
              go_wp2
              go_ret2
              exact ⟨A', c', rfl, ho5.lower (by have h9 := (bel_trans hbel' hb3).size; simp; omega), bel_trans (bel_alloc (bel_trans hbel' hb3) _) hb5⟩
      · have hst2 : R = mgo (gs.drop (k + 1)) (fs.drop (k + 1)) acc := by rw [hst]; unfold mstep; simp only; rw [if_neg h2, if_neg h1]
        have HST := Lib.hid hst2; clear hst hst2 gr
        have hq2 : (ek == 2) = false := by simpa using h2
        have hq1 : (ek == 1) = false := by simpa using h1
        go_wp2
        go_roundw
        case rel => exact ⟨k + 1, acc, by omega, by go_num, by omega, HST.out.symm, ho', hbel', y1', by omega⟩
        case measure => simp [intOf]; omega
    · have hkn : n ≤ k := by omega
      have hR2 : R = some acc := by rw [← HV.out, mgo_end (by rw [HL.out]; exact hkn)]
      have hfr := HFIN.out
      rw [hR2] at hfr
      simp only [mfin, Prod.mk.injEq] at hfr
      obtain ⟨rfl, rfl⟩ := hfr
      clear hR2
      go_wp2
      go_ret2
      exact ⟨Au, cu, rfl, ho.lower (by omega), hbel⟩
end Go.Proofs.Ytdlcbmhnagajdaa
