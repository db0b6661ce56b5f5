/- MatchPat of the reference: it answers what the plain function says, in memory of its own. No condition but lengths. -/
import Derived.Test.YtdlcbmhnagajdaaMatch
import Derived.Test.YtdlcbmhnagajdaaApp3
namespace Go.Proofs.Ytdlcbmhnagajdaa
open Go.RowKit
set_option maxRecDepth 100000
set_option maxHeartbeats 4000000

theorem drew_size'' (w : World) : w.drew.heap.size = w.heap.size := rfl
theorem specMatchPat_any (kd : ByteArray) (A : Option Addr) (n c : Nat) (gs : List Ag) (no : Bool) (kd2 : ByteArray) (A2 : Option Addr) (n2 c2 : Nat) (fs : List Vl) (A3 : Option Addr) (n3 c3 : Nat) (l : List Bd) (rs : List Bd) (rb : Bool) (w : World) (B B2 B3 : Nat)
    (hr : RdS aC 5 w B A n gs) (hr2 : RdS vC 3 w B2 A2 n2 fs) (hr3 : RdS bC 4 w B3 A3 n3 l) (hn : n ≤ 1048576) (hn3 : n3 ≤ 1048576) (hres : matchPat kd gs ⟨kd2, fs⟩ l = (rs, rb)) :
    Calls Try.prog 7 #[.agg #[.string kd, .slice A n c, .bool no], .agg #[.string kd2, .slice A2 n2 c2], .slice A3 n3 c3] w fun e w' => ∃ A' c', e = .returned (tupM A' rs.length c' rb) ∧ OwnT bC 4 w' w.heap.size 49 (.slice A' rs.length c') rs ∧ Below w.heap.size w w' := by
  obtain ⟨i0, hi, hz0, hz1, hz2⟩ := info_parts infoBind
  have HI := Lib.hid hi; clear hi
  have HL := Lib.hid hr.len
  have HL2 := Lib.hid hr2.len
  have HL3 := Lib.hid hr3.len
  have hl3 : l.length ≤ 1048576 := by rw [HL3.out]; exact hn3
  have hr30 := ((hr3.alloc (.cells #[.string kd, .slice A n c, .bool no] 26)).alloc (.cells #[.string kd2, .slice A2 n2 c2] 29)).alloc (.cells #[] 49)
  have hlit : OwnT bC 4 (((w.alloc (.cells #[.string kd, .slice A n c, .bool no] 26)).alloc (.cells #[.string kd2, .slice A2 n2 c2] 29)).alloc (.cells #[] 49)) (w.heap.size + 1 + 1) 49 (.slice (some ⟨w.heap.size + 1 + 1, 0, none⟩) 0 0) [] := by
    have h := lit0 (f := bC) (z := 4) ((w.alloc (.cells #[.string kd, .slice A n c, .bool no] 26)).alloc (.cells #[.string kd2, .slice A2 n2 c2] 29)) 49
    simpa using h
  by_cases hkd : kd = kd2
  case neg =>
    have hq : (kd.toList == kd2.toList) = false := by rw [str_eq]; exact decide_eq_false hkd
    have hR : rs = l ∧ rb = false := by unfold matchPat at hres; rw [if_neg (fun h => hkd h.1)] at hres; simp at hres; exact ⟨hres.1.symm, hres.2⟩
    obtain ⟨rfl, rfl⟩ := hR
    clear hres hkd
    go_enter Try.func7, Try.ntmps7
    go_wp2_with (at_builtin; refine appT rfl (.tmp 13) (.tmp 14) _ rfl bC_sz (w.heap.size + 1 + 1) 49 i0 Try.underlying30 HI.out hz0 hz1 hz2 rfl (by omega) _ [] rfl hlit _ n3 c3 rs rfl hr30.2 (bC_one rs) (by simp only [List.length_nil]; omega) (by simp) ?_ (by simp only [List.length_nil]; omega); intro v' w1 ho1 hb1 hs1; obtain ⟨A0, c0, rfl, hc0, _⟩ := ho1.form; simp only [List.nil_append] at ho1; have hg0 : Below w.heap.size w w1 := ((((Below.refl w.heap.size w).alloc (Nat.le_refl _) _).alloc (by simp) _).alloc (by simp; omega) _).trans (hb1.mono (by omega)); have x0 : w1.cell? ⟨w.heap.size, 0, none⟩ = some (.string kd) := (hb1.cell (p := ⟨w.heap.size, 0, none⟩) (by simp; omega)).trans (by go_simp); have x1 : w1.cell? ⟨w.heap.size, 1, none⟩ = some (.slice A n c) := (hb1.cell (p := ⟨w.heap.size, 1, none⟩) (by simp; omega)).trans (by go_simp); have y0 : w1.cell? ⟨w.heap.size + 1, 0, none⟩ = some (.string kd2) := (hb1.cell (p := ⟨w.heap.size + 1, 0, none⟩) (by simp)).trans (by go_simp); have y1 : w1.cell? ⟨w.heap.size + 1, 1, none⟩ = some (.slice A2 n2 c2) := (hb1.cell (p := ⟨w.heap.size + 1, 1, none⟩) (by simp)).trans (by go_simp); have hz1' : w.heap.size + 3 ≤ w1.heap.size := by simp at hs1; omega)
    go_ret2
    exact ⟨A0, c0, rfl, ho1.lower (by omega), hg0⟩
  subst hkd
  have hqt : (kd.toList == kd.toList) = true := by simp
  by_cases hnn : n = n2
  case neg =>
    have hq : ((n : Int) == (n2 : Int)) = false := by simp; omega
    have hR : rs = l ∧ rb = false := by unfold matchPat at hres; rw [if_neg (fun h => hnn (by have := h.2; rw [HL.out] at this; simp only at this; rw [HL2.out] at this; exact this))] at hres; simp at hres; exact ⟨hres.1.symm, hres.2⟩
    obtain ⟨rfl, rfl⟩ := hR
    clear hres hnn
    go_enter Try.func7, Try.ntmps7
    go_wp2_with (at_builtin; refine appT rfl (.tmp 13) (.tmp 14) _ rfl bC_sz (w.heap.size + 1 + 1) 49 i0 Try.underlying30 HI.out hz0 hz1 hz2 rfl (by omega) _ [] rfl hlit _ n3 c3 rs rfl hr30.2 (bC_one rs) (by simp only [List.length_nil]; omega) (by simp) ?_ (by simp only [List.length_nil]; omega); intro v' w1 ho1 hb1 hs1; obtain ⟨A0, c0, rfl, hc0, _⟩ := ho1.form; simp only [List.nil_append] at ho1; have hg0 : Below w.heap.size w w1 := ((((Below.refl w.heap.size w).alloc (Nat.le_refl _) _).alloc (by simp) _).alloc (by simp; omega) _).trans (hb1.mono (by omega)); have x0 : w1.cell? ⟨w.heap.size, 0, none⟩ = some (.string kd) := (hb1.cell (p := ⟨w.heap.size, 0, none⟩) (by simp; omega)).trans (by go_simp); have x1 : w1.cell? ⟨w.heap.size, 1, none⟩ = some (.slice A n c) := (hb1.cell (p := ⟨w.heap.size, 1, none⟩) (by simp; omega)).trans (by go_simp); have y0 : w1.cell? ⟨w.heap.size + 1, 0, none⟩ = some (.string kd) := (hb1.cell (p := ⟨w.heap.size + 1, 0, none⟩) (by simp)).trans (by go_simp); have y1 : w1.cell? ⟨w.heap.size + 1, 1, none⟩ = some (.slice A2 n2 c2) := (hb1.cell (p := ⟨w.heap.size + 1, 1, none⟩) (by simp)).trans (by go_simp); have hz1' : w.heap.size + 3 ≤ w1.heap.size := by simp at hs1; omega)
    go_ret2
    exact ⟨A0, c0, rfl, ho1.lower (by omega), hg0⟩
  subst hnn
  obtain ⟨R, hR⟩ : ∃ R, mgo gs fs l = R := ⟨_, rfl⟩
  have hfin : mfin l R = (rs, rb) := by
    unfold matchPat at hres
    rw [if_pos ⟨rfl, by rw [HL.out]; exact HL2.out.symm⟩] at hres
    simp only at hres
    rw [hR] at hres
    exact hres
  have HFIN := Lib.hid hfin; clear hfin hres
  go_enter Try.func7, Try.ntmps7
  go_wp2_with (at_builtin; refine appT rfl (.tmp 13) (.tmp 14) _ rfl bC_sz (w.heap.size + 1 + 1) 49 i0 Try.underlying30 HI.out hz0 hz1 hz2 rfl (by omega) _ [] rfl hlit _ n3 c3 l rfl hr30.2 (bC_one l) (by simp only [List.length_nil]; omega) (by simp) ?_ (by simp only [List.length_nil]; omega); intro v' w1 ho1 hb1 hs1; obtain ⟨A0, c0, rfl, hc0, _⟩ := ho1.form; simp only [List.nil_append] at ho1; have hg0 : Below w.heap.size w w1 := ((((Below.refl w.heap.size w).alloc (Nat.le_refl _) _).alloc (by simp) _).alloc (by simp; omega) _).trans (hb1.mono (by omega)); have x0 : w1.cell? ⟨w.heap.size, 0, none⟩ = some (.string kd) := (hb1.cell (p := ⟨w.heap.size, 0, none⟩) (by simp; omega)).trans (by go_simp); have x1 : w1.cell? ⟨w.heap.size, 1, none⟩ = some (.slice A n c) := (hb1.cell (p := ⟨w.heap.size, 1, none⟩) (by simp; omega)).trans (by go_simp); have y0 : w1.cell? ⟨w.heap.size + 1, 0, none⟩ = some (.string kd) := (hb1.cell (p := ⟨w.heap.size + 1, 0, none⟩) (by simp)).trans (by go_simp); have y1 : w1.cell? ⟨w.heap.size + 1, 1, none⟩ = some (.slice A2 n c2) := (hb1.cell (p := ⟨w.heap.size + 1, 1, none⟩) (by simp)).trans (by go_simp); have hz1' : w.heap.size + 3 ≤ w1.heap.size := by simp at hs1; omega)
  go_loopw [8, 9] (fun u i wr => ∃ (k : Nat) (acc : List Bd), k ≤ n ∧ i = .int .i64 k ∧ acc.length ≤ n3 + k ∧ mgo (gs.drop k) (fs.drop k) acc = R ∧ OwnT bC 4 wr (w.heap.size + 1 + 1) 49 u acc ∧ Below w.heap.size w wr ∧ wr.cell? ⟨w.heap.size, 1, none⟩ = some (.slice A n c) ∧ wr.cell? ⟨w.heap.size + 1, 1, none⟩ = some (.slice A2 n c2) ∧ w.heap.size + 2 ≤ wr.heap.size) (fun _ i _ => n - (intOf i).toNat)
  case atStart => exact ⟨0, l, Nat.zero_le _, rfl, by rw [HL3.out]; omega, hR, ho1, hg0, x1, y1, by omega⟩
  case round =>
    obtain ⟨k, acc, hk, rfl, hal, hv, ho, hbel, x1, y1, hbs⟩ := hrel
    have HV := Lib.hid hv; clear hv
    obtain ⟨Au, cu, rfl, hcu, _⟩ := ho.form
    by_cases hlt : k < n
    · obtain ⟨b, o, rfl, hb0, hc⟩ := (hr.kept hbel).2.arg_ (by omega)
      obtain ⟨ek, es, evk, evn, evs, he, p0, p1, p2, p3, p4⟩ := hc k hlt
      clear hc
      obtain ⟨b2, o2, rfl, hb2, hc2⟩ := (hr2.kept hbel).2.val (by omega)
      obtain ⟨fk, fn, ft, he2, q0, q1, q2⟩ := hc2 k hlt
      clear hc2
      have hkl : k < gs.length := by rw [HL.out]; exact hlt
      have hkl2 : k < fs.length := by rw [HL2.out]; exact hlt
      have hst := mgo_step (acc := acc) hkl hkl2
      rw [he, he2] at hst
      rw [HV.out] at hst
      clear he he2
      have hj0 : (0:Int) ≤ (k : Int) := by omega
      have hj1 : (k:Int) < (n : Int) := by omega
      have hbl : b < wr.heap.size := Nat.lt_of_lt_of_le hb0 (hr.kept hbel).1
      have hbl2 : b2 < wr.heap.size := Nat.lt_of_lt_of_le hb2 (hr2.kept hbel).1
      have hnw : (Value.slice Au acc.length cu).ownBlock ≠ some wr.heap.size := fun he => by have := (World.ownsRow.lt ho _ he).2; omega
      obtain ⟨⟨bk, bn, bt⟩, bo, hbo⟩ : ∃ v o, bindOf acc es = (v, o) := ⟨_, _, rfl⟩
      have HBO := Lib.hid hbo
      go_wp2_with fail
      refine (specBindOf_any Au _ cu acc es _ _ (OwnT.rdO (ho.alloc (.cells #[.int .i64 ek, .string es, .int .i64 evk, .int .i64 evn, .string evs] 41))) (by omega)).mono ?_
      rw [HBO.out]; dsimp only [tupB]
      rintro e w3 ⟨rfl, hb3⟩
      have a0 := old_cell hb3 (b := wr.heap.size) (o := 0) (v := .int .i64 ek) (by go_simp)
      have a1 := old_cell hb3 (b := wr.heap.size) (o := 1) (v := .string es) (by go_simp)
      have a2 := old_cell hb3 (b := wr.heap.size) (o := 2) (v := .int .i64 evk) (by go_simp)
      have a3 := old_cell hb3 (b := wr.heap.size) (o := 3) (v := .int .i64 evn) (by go_simp)
      have a4 := old_cell hb3 (b := wr.heap.size) (o := 4) (v := .string evs) (by go_simp)
      have gr := bel_trans (bel_alloc (bel_refl wr) (.cells #[.int .i64 ek, .string es, .int .i64 evk, .int .i64 evn, .string evs] 41)) hb3
      have hs3 := hb3.size
      simp at hs3
      clear hb3 p0 p1 p2 p3 p4
      replace x1 := old_cell gr x1
      replace y1 := old_cell gr y1
      replace q0 := old_cell gr q0
      replace q1 := old_cell gr q1
      replace q2 := old_cell gr q2
      replace ho := ho.kept gr
      replace hr3 := (hr3.kept hbel).kept gr
      replace hbel := bel_trans hbel gr
      clear gr
      -- the box of what was found
      have gb : Below w3.heap.size w3 (w3.alloc (.cells #[.int .i64 bk, .int .i64 bn, .string bt] 37)) := bel_alloc (bel_refl w3) _
      have v0 : (w3.alloc (.cells #[.int .i64 bk, .int .i64 bn, .string bt] 37)).cell? ⟨w3.heap.size, 0, none⟩ = some (.int .i64 bk) := by go_simp
      have v1 : (w3.alloc (.cells #[.int .i64 bk, .int .i64 bn, .string bt] 37)).cell? ⟨w3.heap.size, 1, none⟩ = some (.int .i64 bn) := by go_simp
      have v2 : (w3.alloc (.cells #[.int .i64 bk, .int .i64 bn, .string bt] 37)).cell? ⟨w3.heap.size, 2, none⟩ = some (.string bt) := by go_simp
      have hsv : (w3.alloc (.cells #[.int .i64 bk, .int .i64 bn, .string bt] 37)).heap.size = w3.heap.size + 1 := by simp
      go_wp2_with fail
      generalize hv : w3.alloc (.cells #[.int .i64 bk, .int .i64 bn, .string bt] 37) = v at gb v0 v1 v2 hsv ⊢
      clear hv
      have hsv' : w3.heap.size + 1 ≤ v.heap.size := by omega
      clear hsv
      replace x1 := old_cell gb x1
      replace y1 := old_cell gb y1
      replace q0 := old_cell gb q0
      replace q1 := old_cell gb q1
      replace q2 := old_cell gb q2
      replace a0 := old_cell gb a0
      replace a1 := old_cell gb a1
      replace a2 := old_cell gb a2
      replace a3 := old_cell gb a3
      replace a4 := old_cell gb a4
      replace ho := ho.kept gb
      replace hr3 := hr3.kept gb
      replace hbel := bel_trans hbel gb
      clear gb
      by_cases h2 : ek = 2
      · subst h2
        rcases vl_split ⟨evk, evn, evs⟩ ⟨fk, fn, ft⟩ with heq | ⟨hne, hmis⟩
        · have hst2 : R = mgo (gs.drop (k + 1)) (fs.drop (k + 1)) acc := by rw [hst]; unfold mstep; rw [if_pos rfl]; simp only; rw [if_pos heq]
          simp only [Vl.mk.injEq] at heq
          obtain ⟨rfl, rfl, rfl⟩ := heq
          have HST := Lib.hid hst2; clear hst hst2
          refine wp_region_held_drew (S := (fun w' => Below v.heap.size v w' ∧ w'.cell? ⟨wr.heap.size, 0, none⟩ = some (.int .i64 2) ∧ w'.cell? ⟨wr.heap.size, 1, none⟩ = some (.string es) ∧ w'.cell? ⟨wr.heap.size, 2, none⟩ = some (.int .i64 evk) ∧ w'.cell? ⟨wr.heap.size, 3, none⟩ = some (.int .i64 evn) ∧ w'.cell? ⟨wr.heap.size, 4, none⟩ = some (.string evs) ∧ w'.cell? ⟨w.heap.size + 1, 1, none⟩ = some (.slice (some ⟨b2, o2, none⟩) n c2) ∧ w'.cell? ⟨w3.heap.size, 0, none⟩ = some (.int .i64 bk) ∧ w'.cell? ⟨w3.heap.size, 1, none⟩ = some (.int .i64 bn) ∧ w'.cell? ⟨w3.heap.size, 2, none⟩ = some (.string bt) ∧ w'.cell? ⟨b2, o2 + k * 3, none⟩ = some (.int .i64 evk) ∧ w'.cell? ⟨b2, o2 + k * 3 + 1, none⟩ = some (.int .i64 evn) ∧ w'.cell? ⟨b2, o2 + k * 3 + 2, none⟩ = some (.string evs))) (by kernel_rfl) ?_ (fun hHeld => ?_)
          · (try dsimp only) <;> (exact ⟨bel_drew (bel_refl _), a0, a1, a2, a3, a4, y1, v0, v1, v2, q0, q1, q2⟩)
          refine h_take 0 (some 50) (?_) rfl rfl (by kernel_rfl) (by kernel_rfl) (by kernel_rfl) (fun _ _ _ h => h) (by kernel_rfl) ?_ (by assumption) ?_
          rotate_left
          · intro w hSw; (try dsimp only at hSw); go_simp
            all_goals first | with_reducible rfl | omega | (simp; omega)
          try simp only [Act.put, List.setIfInBounds_toArray, List.set_cons_zero, List.set_cons_succ]
          refine h_take 1 (some 51) (?_) rfl rfl (by kernel_rfl) (by kernel_rfl) (by kernel_rfl) (fun _ _ _ h => h) (by kernel_rfl) ?_ (by assumption) ?_
          rotate_left
          · intro w hSw; (try dsimp only at hSw); go_simp
            all_goals first | with_reducible rfl | omega | (simp; omega)
          try simp only [Act.put, List.setIfInBounds_toArray, List.set_cons_zero, List.set_cons_succ]
          refine h_take 2 (some 52) (.bool true) rfl rfl (by kernel_rfl) (by kernel_rfl) (by kernel_rfl) (fun _ _ _ h => h) (by kernel_rfl) ?_ (by assumption) ?_
          · intro w hSw; (try dsimp only at hSw); go_simp
            all_goals first | with_reducible rfl | omega | (simp; omega)
          try simp only [Act.put, List.setIfInBounds_toArray, List.set_cons_zero, List.set_cons_succ]
          refine h_take 3 (some 53) (.bool true) rfl rfl (by kernel_rfl) (by kernel_rfl) (by kernel_rfl) (fun _ _ _ h => h) (by kernel_rfl) ?_ (by assumption) ?_
          · intro w hSw; (try dsimp only at hSw); go_simp
            all_goals first | with_reducible rfl | omega | (simp; omega)
          try simp only [Act.put, List.setIfInBounds_toArray, List.set_cons_zero, List.set_cons_succ]
          refine h_take 4 (some 54) (?_) rfl rfl (by kernel_rfl) (by kernel_rfl) (by kernel_rfl) (fun _ _ _ h => h) (by kernel_rfl) ?_ (by assumption) ?_
          rotate_left
          · intro w hSw; (try dsimp only at hSw); go_simp
            all_goals first | with_reducible rfl | omega | (simp; omega)
          try simp only [Act.put, List.setIfInBounds_toArray, List.set_cons_zero, List.set_cons_succ]
          refine h_take 5 (some 55) (?_) rfl rfl (by kernel_rfl) (by kernel_rfl) (by kernel_rfl) (fun _ _ _ h => h) (by kernel_rfl) ?_ (by assumption) ?_
          rotate_left
          · intro w hSw; (try dsimp only at hSw); go_simp
            all_goals first | with_reducible rfl | omega | (simp; omega)
          try simp only [Act.put, List.setIfInBounds_toArray, List.set_cons_zero, List.set_cons_succ]
          refine h_take 6 (some 56) (?_) rfl rfl (by kernel_rfl) (by kernel_rfl) (by kernel_rfl) (fun _ _ _ h => h) (by kernel_rfl) ?_ (by assumption) ?_
          rotate_left
          · intro w hSw; (try dsimp only at hSw); go_simp
            all_goals first | with_reducible rfl | omega | (simp; omega)
          try simp only [Act.put, List.setIfInBounds_toArray, List.set_cons_zero, List.set_cons_succ]
          refine h_take 7 (some 57) (?_) rfl rfl (by kernel_rfl) (by kernel_rfl) (by kernel_rfl) (fun _ _ _ h => h) (by kernel_rfl) ?_ (by assumption) ?_
          rotate_left
          · intro w hSw; (try dsimp only at hSw); go_simp
            all_goals first | with_reducible rfl | omega | (simp; omega)
          try simp only [Act.put, List.setIfInBounds_toArray, List.set_cons_zero, List.set_cons_succ]
          refine h_take 8 (some 58) (?_) rfl rfl (by kernel_rfl) (by kernel_rfl) (by kernel_rfl) (fun _ _ _ h => h) (by kernel_rfl) ?_ (by assumption) ?_
          rotate_left
          · intro w hSw; (try dsimp only at hSw); go_simp
            all_goals first | with_reducible rfl | omega | (simp; omega)
          try simp only [Act.put, List.setIfInBounds_toArray, List.set_cons_zero, List.set_cons_succ]
          refine h_take 9 (some 59) (?_) rfl rfl (by kernel_rfl) (by kernel_rfl) (by kernel_rfl) (fun _ _ _ h => h) (by kernel_rfl) ?_ (by assumption) ?_
          rotate_left
          · intro w hSw; (try dsimp only at hSw); go_simp
            all_goals first | with_reducible rfl | omega | (simp; omega)
          try simp only [Act.put, List.setIfInBounds_toArray, List.set_cons_zero, List.set_cons_succ]
          refine h_take 10 (some 60) (?_) rfl rfl (by kernel_rfl) (by kernel_rfl) (by kernel_rfl) (fun _ _ _ h => h) (by kernel_rfl) ?_ (by assumption) ?_
          rotate_left
          · intro w hSw; (try dsimp only at hSw); go_simp
            all_goals first | with_reducible rfl | omega | (simp; omega)
          try simp only [Act.put, List.setIfInBounds_toArray, List.set_cons_zero, List.set_cons_succ]
          refine h_take 11 (some 61) (.bool false) rfl rfl (by kernel_rfl) (by kernel_rfl) (by kernel_rfl) (fun _ _ _ h => h) (by kernel_rfl) ?_ (by assumption) ?_
          · intro w hSw; (try dsimp only at hSw); go_simp
            all_goals first | with_reducible rfl | omega | (simp; omega)
          try simp only [Act.put, List.setIfInBounds_toArray, List.set_cons_zero, List.set_cons_succ]
          refine h_take 12 (some 62) (.bool false) rfl rfl (by kernel_rfl) (by kernel_rfl) (by kernel_rfl) (fun _ _ _ h => h) (by kernel_rfl) ?_ (by assumption) ?_
          · intro w hSw; (try dsimp only at hSw); go_simp
            all_goals first | with_reducible rfl | omega | (simp; omega)
          try simp only [Act.put, List.setIfInBounds_toArray, List.set_cons_zero, List.set_cons_succ]
          refine h_take 13 (some 63) (.bool false) rfl rfl (by kernel_rfl) (by kernel_rfl) (by kernel_rfl) (fun _ _ _ h => h) (by kernel_rfl) ?_ (by assumption) ?_
          · intro w hSw; (try dsimp only at hSw); go_simp
            all_goals first | with_reducible rfl | omega | (simp; omega)
          try simp only [Act.put, List.setIfInBounds_toArray, List.set_cons_zero, List.set_cons_succ]
          refine h_take 14 (some 64) (?_) rfl rfl (by kernel_rfl) (by kernel_rfl) (by kernel_rfl) (fun _ _ _ h => h) (by kernel_rfl) ?_ (by assumption) ?_
          rotate_left
          · intro w hSw; (try dsimp only at hSw); go_simp
            all_goals first | with_reducible rfl | omega | (simp; omega)
          try simp only [Act.put, List.setIfInBounds_toArray, List.set_cons_zero, List.set_cons_succ]
          refine h_take 15 (some 65) (?_) rfl rfl (by kernel_rfl) (by kernel_rfl) (by kernel_rfl) (fun _ _ _ h => h) (by kernel_rfl) ?_ (by assumption) ?_
          rotate_left
          · intro w hSw; (try dsimp only at hSw); go_simp
            all_goals first | with_reducible rfl | omega | (simp; omega)
          try simp only [Act.put, List.setIfInBounds_toArray, List.set_cons_zero, List.set_cons_succ]
          refine h_take 16 (some 66) (.bool false) rfl rfl (by kernel_rfl) (by kernel_rfl) (by kernel_rfl) (fun _ _ _ h => h) (by kernel_rfl) ?_ (by assumption) ?_
          · intro w hSw; (try dsimp only at hSw); go_simp
            all_goals first | with_reducible rfl | omega | (simp; omega)
          try simp only [Act.put, List.setIfInBounds_toArray, List.set_cons_zero, List.set_cons_succ]
          refine h_take 17 (some 67) (.bool false) rfl rfl (by kernel_rfl) (by kernel_rfl) (by kernel_rfl) (fun _ _ _ h => h) (by kernel_rfl) ?_ (by assumption) ?_
          · intro w hSw; (try dsimp only at hSw); go_simp
            all_goals first | with_reducible rfl | omega | (simp; omega)
          try simp only [Act.put, List.setIfInBounds_toArray, List.set_cons_zero, List.set_cons_succ]
          refine h_skip 18 (some 68) rfl rfl (by kernel_rfl) (by kernel_rfl) (by kernel_rfl) (fun _ _ _ h => h) (by kernel_rfl) (by assumption) ?_
          try simp only [Act.put, List.setIfInBounds_toArray, List.set_cons_zero, List.set_cons_succ]
          refine h_take 19 (some 69) (.bool false) rfl rfl (by kernel_rfl) (by kernel_rfl) (by kernel_rfl) (fun _ _ _ h => h) (by kernel_rfl) ?_ (by assumption) ?_
          · intro w hSw; (try dsimp only at hSw); go_simp
            all_goals first | with_reducible rfl | omega | (simp; omega)
          try simp only [Act.put, List.setIfInBounds_toArray, List.set_cons_zero, List.set_cons_succ]
          refine h_take 20 (some 70) (.bool false) rfl rfl (by kernel_rfl) (by kernel_rfl) (by kernel_rfl) (fun _ _ _ h => h) (by kernel_rfl) ?_ (by assumption) ?_
          · intro w hSw; (try dsimp only at hSw); go_simp
            all_goals first | with_reducible rfl | omega | (simp; omega)
          try simp only [Act.put, List.setIfInBounds_toArray, List.set_cons_zero, List.set_cons_succ]
          refine h_skip 21 (some 71) rfl rfl (by kernel_rfl) (by kernel_rfl) (by kernel_rfl) (fun _ _ _ h => h) (by kernel_rfl) (by assumption) ?_
          try simp only [Act.put, List.setIfInBounds_toArray, List.set_cons_zero, List.set_cons_succ]
          refine h_skip 22 (some 72) rfl rfl (by kernel_rfl) (by kernel_rfl) (by kernel_rfl) (fun _ _ _ h => h) (by kernel_rfl) (by assumption) ?_
          try simp only [Act.put, List.setIfInBounds_toArray, List.set_cons_zero, List.set_cons_succ]
          refine h_skip 23 (some 73) rfl rfl (by kernel_rfl) (by kernel_rfl) (by kernel_rfl) (fun _ _ _ h => h) (by kernel_rfl) (by assumption) ?_
          try simp only [Act.put, List.setIfInBounds_toArray, List.set_cons_zero, List.set_cons_succ]
          refine h_skip 24 (some 74) rfl rfl (by kernel_rfl) (by kernel_rfl) (by kernel_rfl) (fun _ _ _ h => h) (by kernel_rfl) (by assumption) ?_
          try simp only [Act.put, List.setIfInBounds_toArray, List.set_cons_zero, List.set_cons_succ]
          refine h_skip 25 (some 75) rfl rfl (by kernel_rfl) (by kernel_rfl) (by kernel_rfl) (fun _ _ _ h => h) (by kernel_rfl) (by assumption) ?_
          try simp only [Act.put, List.setIfInBounds_toArray, List.set_cons_zero, List.set_cons_succ]
          refine h_skip 26 (some 76) rfl rfl (by kernel_rfl) (by kernel_rfl) (by kernel_rfl) (fun _ _ _ h => h) (by kernel_rfl) (by assumption) ?_
          try simp only [Act.put, List.setIfInBounds_toArray, List.set_cons_zero, List.set_cons_succ]
          refine h_skip 27 (some 77) rfl rfl (by kernel_rfl) (by kernel_rfl) (by kernel_rfl) (fun _ _ _ h => h) (by kernel_rfl) (by assumption) ?_
          try simp only [Act.put, List.setIfInBounds_toArray, List.set_cons_zero, List.set_cons_succ]
          refine h_take 28 (some 78) (.bool false) rfl rfl (by kernel_rfl) (by kernel_rfl) (by kernel_rfl) (fun _ _ _ h => h) (by kernel_rfl) ?_ (by assumption) ?_
          · intro w hSw; (try dsimp only at hSw); go_simp
            all_goals first | with_reducible rfl | omega | (simp; omega)
          try simp only [Act.put, List.setIfInBounds_toArray, List.set_cons_zero, List.set_cons_succ]
          refine h_take 29 (some 79) (.bool false) rfl rfl (by kernel_rfl) (by kernel_rfl) (by kernel_rfl) (fun _ _ _ h => h) (by kernel_rfl) ?_ (by assumption) ?_
          · intro w hSw; (try dsimp only at hSw); go_simp
            all_goals first | with_reducible rfl | omega | (simp; omega)
          try simp only [Act.put, List.setIfInBounds_toArray, List.set_cons_zero, List.set_cons_succ]
          refine wpAnyH_done (by kernel_rfl) ?_ _
          have hdr := bel_drew (bel_refl v)
          go_wp2
          go_roundw
          case rel => exact ⟨k + 1, acc, by omega, by go_num, by omega, HST.out.symm, ho, bel_drew hbel, x1, y1, by simp only [drew_size'']; omega⟩
          case measure => simp [intOf]; omega
        · have hst2 : R = none := by rw [hst]; unfold mstep; rw [if_pos rfl]; simp only; rw [if_neg hne]
          have HST := Lib.hid hst2; clear hst hst2 hne
          have hfr := HFIN.out
          rw [HST.out] at hfr
          simp only [mfin, Prod.mk.injEq] at hfr
          obtain ⟨rfl, rfl⟩ := hfr
          rcases hmis with hm | ⟨rfl, hm⟩ | ⟨rfl, rfl, hm⟩
          · dsimp only at hm
            refine wp_region_held_drew (S := (fun w' => Below v.heap.size v w' ∧ w'.cell? ⟨wr.heap.size, 0, none⟩ = some (.int .i64 2) ∧ w'.cell? ⟨wr.heap.size, 1, none⟩ = some (.string es) ∧ w'.cell? ⟨wr.heap.size, 2, none⟩ = some (.int .i64 evk) ∧ w'.cell? ⟨wr.heap.size, 3, none⟩ = some (.int .i64 evn) ∧ w'.cell? ⟨wr.heap.size, 4, none⟩ = some (.string evs) ∧ w'.cell? ⟨w.heap.size + 1, 1, none⟩ = some (.slice (some ⟨b2, o2, none⟩) n c2) ∧ w'.cell? ⟨w3.heap.size, 0, none⟩ = some (.int .i64 bk) ∧ w'.cell? ⟨w3.heap.size, 1, none⟩ = some (.int .i64 bn) ∧ w'.cell? ⟨w3.heap.size, 2, none⟩ = some (.string bt) ∧ w'.cell? ⟨b2, o2 + k * 3, none⟩ = some (.int .i64 fk) ∧ w'.cell? ⟨b2, o2 + k * 3 + 1, none⟩ = some (.int .i64 fn) ∧ w'.cell? ⟨b2, o2 + k * 3 + 2, none⟩ = some (.string ft))) (by kernel_rfl) ?_ (fun hHeld => ?_)
            · (try dsimp only) <;> (exact ⟨bel_drew (bel_refl _), a0, a1, a2, a3, a4, y1, v0, v1, v2, q0, q1, q2⟩)
            refine h_take 0 (some 50) (?_) rfl rfl (by kernel_rfl) (by kernel_rfl) (by kernel_rfl) (fun _ _ _ h => h) (by kernel_rfl) ?_ (by assumption) ?_
            rotate_left
            · intro w hSw; (try dsimp only at hSw); go_simp
              all_goals first | with_reducible rfl | omega | (simp; omega)
            try simp only [Act.put, List.setIfInBounds_toArray, List.set_cons_zero, List.set_cons_succ]
            refine h_take 1 (some 51) (?_) rfl rfl (by kernel_rfl) (by kernel_rfl) (by kernel_rfl) (fun _ _ _ h => h) (by kernel_rfl) ?_ (by assumption) ?_
            rotate_left
            · intro w hSw; (try dsimp only at hSw); go_simp
              all_goals first | with_reducible rfl | omega | (simp; omega)
            try simp only [Act.put, List.setIfInBounds_toArray, List.set_cons_zero, List.set_cons_succ]
            refine h_take 2 (some 52) (.bool true) rfl rfl (by kernel_rfl) (by kernel_rfl) (by kernel_rfl) (fun _ _ _ h => h) (by kernel_rfl) ?_ (by assumption) ?_
            · intro w hSw; (try dsimp only at hSw); go_simp
              all_goals first | with_reducible rfl | omega | (simp; omega)
            try simp only [Act.put, List.setIfInBounds_toArray, List.set_cons_zero, List.set_cons_succ]
            refine h_take 3 (some 53) (.bool true) rfl rfl (by kernel_rfl) (by kernel_rfl) (by kernel_rfl) (fun _ _ _ h => h) (by kernel_rfl) ?_ (by assumption) ?_
            · intro w hSw; (try dsimp only at hSw); go_simp
              all_goals first | with_reducible rfl | omega | (simp; omega)
            try simp only [Act.put, List.setIfInBounds_toArray, List.set_cons_zero, List.set_cons_succ]
            refine h_take 4 (some 54) (?_) rfl rfl (by kernel_rfl) (by kernel_rfl) (by kernel_rfl) (fun _ _ _ h => h) (by kernel_rfl) ?_ (by assumption) ?_
            rotate_left
            · intro w hSw; (try dsimp only at hSw); go_simp
              all_goals first | with_reducible rfl | omega | (simp; omega)
            try simp only [Act.put, List.setIfInBounds_toArray, List.set_cons_zero, List.set_cons_succ]
            refine h_take 5 (some 55) (?_) rfl rfl (by kernel_rfl) (by kernel_rfl) (by kernel_rfl) (fun _ _ _ h => h) (by kernel_rfl) ?_ (by assumption) ?_
            rotate_left
            · intro w hSw; (try dsimp only at hSw); go_simp
              all_goals first | with_reducible rfl | omega | (simp; omega)
            try simp only [Act.put, List.setIfInBounds_toArray, List.set_cons_zero, List.set_cons_succ]
            refine h_take 6 (some 56) (?_) rfl rfl (by kernel_rfl) (by kernel_rfl) (by kernel_rfl) (fun _ _ _ h => h) (by kernel_rfl) ?_ (by assumption) ?_
            rotate_left
            · intro w hSw; (try dsimp only at hSw); go_simp
              all_goals first | with_reducible rfl | omega | (simp; omega)
            try simp only [Act.put, List.setIfInBounds_toArray, List.set_cons_zero, List.set_cons_succ]
            refine h_take 7 (some 57) (?_) rfl rfl (by kernel_rfl) (by kernel_rfl) (by kernel_rfl) (fun _ _ _ h => h) (by kernel_rfl) ?_ (by assumption) ?_
            rotate_left
            · intro w hSw; (try dsimp only at hSw); go_simp
              all_goals first | with_reducible rfl | omega | (simp; omega)
            try simp only [Act.put, List.setIfInBounds_toArray, List.set_cons_zero, List.set_cons_succ]
            refine h_take 8 (some 58) (?_) rfl rfl (by kernel_rfl) (by kernel_rfl) (by kernel_rfl) (fun _ _ _ h => h) (by kernel_rfl) ?_ (by assumption) ?_
            rotate_left
            · intro w hSw; (try dsimp only at hSw); go_simp
              all_goals first | with_reducible rfl | omega | (simp; omega)
            try simp only [Act.put, List.setIfInBounds_toArray, List.set_cons_zero, List.set_cons_succ]
            refine h_take 9 (some 59) (?_) rfl rfl (by kernel_rfl) (by kernel_rfl) (by kernel_rfl) (fun _ _ _ h => h) (by kernel_rfl) ?_ (by assumption) ?_
            rotate_left
            · intro w hSw; (try dsimp only at hSw); go_simp
              all_goals first | with_reducible rfl | omega | (simp; omega)
            try simp only [Act.put, List.setIfInBounds_toArray, List.set_cons_zero, List.set_cons_succ]
            refine h_take 10 (some 60) (?_) rfl rfl (by kernel_rfl) (by kernel_rfl) (by kernel_rfl) (fun _ _ _ h => h) (by kernel_rfl) ?_ (by assumption) ?_
            rotate_left
            · intro w hSw; (try dsimp only at hSw); go_simp
              all_goals first | with_reducible rfl | omega | (simp; omega)
            try simp only [Act.put, List.setIfInBounds_toArray, List.set_cons_zero, List.set_cons_succ]
            refine h_take 11 (some 61) (.bool true) rfl rfl (by kernel_rfl) (by kernel_rfl) (by kernel_rfl) (fun _ _ _ h => h) (by kernel_rfl) ?_ (by assumption) ?_
            · intro w hSw; (try dsimp only at hSw); go_simp
              all_goals first | with_reducible rfl | omega | (simp; omega)
            try simp only [Act.put, List.setIfInBounds_toArray, List.set_cons_zero, List.set_cons_succ]
            refine h_take 12 (some 62) (.bool true) rfl rfl (by kernel_rfl) (by kernel_rfl) (by kernel_rfl) (fun _ _ _ h => h) (by kernel_rfl) ?_ (by assumption) ?_
            · intro w hSw; (try dsimp only at hSw); go_simp
              all_goals first | with_reducible rfl | omega | (simp; omega)
            try simp only [Act.put, List.setIfInBounds_toArray, List.set_cons_zero, List.set_cons_succ]
            refine h_take 13 (some 63) (.bool true) rfl rfl (by kernel_rfl) (by kernel_rfl) (by kernel_rfl) (fun _ _ _ h => h) (by kernel_rfl) ?_ (by assumption) ?_
            · intro w hSw; (try dsimp only at hSw); go_simp
              all_goals first | with_reducible rfl | omega | (simp; omega)
            try simp only [Act.put, List.setIfInBounds_toArray, List.set_cons_zero, List.set_cons_succ]
            refine h_skip 14 (some 64) rfl rfl (by kernel_rfl) (by kernel_rfl) (by kernel_rfl) (fun _ _ _ h => h) (by kernel_rfl) (by assumption) ?_
            try simp only [Act.put, List.setIfInBounds_toArray, List.set_cons_zero, List.set_cons_succ]
            refine h_skip 15 (some 65) rfl rfl (by kernel_rfl) (by kernel_rfl) (by kernel_rfl) (fun _ _ _ h => h) (by kernel_rfl) (by assumption) ?_
            try simp only [Act.put, List.setIfInBounds_toArray, List.set_cons_zero, List.set_cons_succ]
            refine h_skip 16 (some 66) rfl rfl (by kernel_rfl) (by kernel_rfl) (by kernel_rfl) (fun _ _ _ h => h) (by kernel_rfl) (by assumption) ?_
            try simp only [Act.put, List.setIfInBounds_toArray, List.set_cons_zero, List.set_cons_succ]
            refine h_skip 17 (some 67) rfl rfl (by kernel_rfl) (by kernel_rfl) (by kernel_rfl) (fun _ _ _ h => h) (by kernel_rfl) (by assumption) ?_
            try simp only [Act.put, List.setIfInBounds_toArray, List.set_cons_zero, List.set_cons_succ]
            refine h_skip 18 (some 68) rfl rfl (by kernel_rfl) (by kernel_rfl) (by kernel_rfl) (fun _ _ _ h => h) (by kernel_rfl) (by assumption) ?_
            try simp only [Act.put, List.setIfInBounds_toArray, List.set_cons_zero, List.set_cons_succ]
            refine h_skip 19 (some 69) rfl rfl (by kernel_rfl) (by kernel_rfl) (by kernel_rfl) (fun _ _ _ h => h) (by kernel_rfl) (by assumption) ?_
            try simp only [Act.put, List.setIfInBounds_toArray, List.set_cons_zero, List.set_cons_succ]
            refine h_skip 20 (some 70) rfl rfl (by kernel_rfl) (by kernel_rfl) (by kernel_rfl) (fun _ _ _ h => h) (by kernel_rfl) (by assumption) ?_
            try simp only [Act.put, List.setIfInBounds_toArray, List.set_cons_zero, List.set_cons_succ]
            refine h_skip 21 (some 71) rfl rfl (by kernel_rfl) (by kernel_rfl) (by kernel_rfl) (fun _ _ _ h => h) (by kernel_rfl) (by assumption) ?_
            try simp only [Act.put, List.setIfInBounds_toArray, List.set_cons_zero, List.set_cons_succ]
            refine h_skip 22 (some 72) rfl rfl (by kernel_rfl) (by kernel_rfl) (by kernel_rfl) (fun _ _ _ h => h) (by kernel_rfl) (by assumption) ?_
            try simp only [Act.put, List.setIfInBounds_toArray, List.set_cons_zero, List.set_cons_succ]
            refine h_skip 23 (some 73) rfl rfl (by kernel_rfl) (by kernel_rfl) (by kernel_rfl) (fun _ _ _ h => h) (by kernel_rfl) (by assumption) ?_
            try simp only [Act.put, List.setIfInBounds_toArray, List.set_cons_zero, List.set_cons_succ]
            refine h_skip 24 (some 74) rfl rfl (by kernel_rfl) (by kernel_rfl) (by kernel_rfl) (fun _ _ _ h => h) (by kernel_rfl) (by assumption) ?_
            try simp only [Act.put, List.setIfInBounds_toArray, List.set_cons_zero, List.set_cons_succ]
            refine h_skip 25 (some 75) rfl rfl (by kernel_rfl) (by kernel_rfl) (by kernel_rfl) (fun _ _ _ h => h) (by kernel_rfl) (by assumption) ?_
            try simp only [Act.put, List.setIfInBounds_toArray, List.set_cons_zero, List.set_cons_succ]
            refine h_skip 26 (some 76) rfl rfl (by kernel_rfl) (by kernel_rfl) (by kernel_rfl) (fun _ _ _ h => h) (by kernel_rfl) (by assumption) ?_
            try simp only [Act.put, List.setIfInBounds_toArray, List.set_cons_zero, List.set_cons_succ]
            refine h_skip 27 (some 77) rfl rfl (by kernel_rfl) (by kernel_rfl) (by kernel_rfl) (fun _ _ _ h => h) (by kernel_rfl) (by assumption) ?_
            try simp only [Act.put, List.setIfInBounds_toArray, List.set_cons_zero, List.set_cons_succ]
            refine h_skip 28 (some 78) rfl rfl (by kernel_rfl) (by kernel_rfl) (by kernel_rfl) (fun _ _ _ h => h) (by kernel_rfl) (by assumption) ?_
            try simp only [Act.put, List.setIfInBounds_toArray, List.set_cons_zero, List.set_cons_succ]
            refine h_take 29 (some 79) (.bool true) rfl rfl (by kernel_rfl) (by kernel_rfl) (by kernel_rfl) (fun _ _ _ h => h) (by kernel_rfl) ?_ (by assumption) ?_
            · intro w hSw; (try dsimp only at hSw); go_simp
              all_goals first | with_reducible rfl | omega | (simp; omega)
            try simp only [Act.put, List.setIfInBounds_toArray, List.set_cons_zero, List.set_cons_succ]
            refine wpAnyH_done (by kernel_rfl) ?_ _
            have hr3d : RdS bC 4 v.drew B3 A3 n3 l := hr3
            have hlit2 : OwnT bC 4 (v.drew.alloc (.cells #[] 49)) v.heap.size 49 (.slice (some ⟨v.heap.size, 0, none⟩) 0 0) [] := lit0 v.drew 49
            go_wp2_with (at_builtin; refine appT rfl (.tmp 80) (.tmp 81) _ rfl bC_sz v.heap.size 49 i0 Try.underlying30 HI.out hz0 hz1 hz2 rfl (by omega) _ [] rfl hlit2 _ n3 c3 l rfl (hr3d.alloc _).2 (bC_one l) (by simp only [List.length_nil]; omega) (by simp) ?_ (by simp only [List.length_nil]; omega); intro v' w5 ho5 hb5 hs5; obtain ⟨A5, c5, rfl, hc5, _⟩ := ho5.form; simp only [List.nil_append] at ho5)
            go_ret2
            exact ⟨A5, c5, rfl, ho5.lower (by omega), (bel_alloc (bel_drew hbel) _).trans (hb5.mono (by omega))⟩
          · dsimp only at hm
            refine wp_region_held_drew (S := (fun w' => Below v.heap.size v w' ∧ w'.cell? ⟨wr.heap.size, 0, none⟩ = some (.int .i64 2) ∧ w'.cell? ⟨wr.heap.size, 1, none⟩ = some (.string es) ∧ w'.cell? ⟨wr.heap.size, 2, none⟩ = some (.int .i64 evk) ∧ w'.cell? ⟨wr.heap.size, 3, none⟩ = some (.int .i64 evn) ∧ w'.cell? ⟨wr.heap.size, 4, none⟩ = some (.string evs) ∧ w'.cell? ⟨w.heap.size + 1, 1, none⟩ = some (.slice (some ⟨b2, o2, none⟩) n c2) ∧ w'.cell? ⟨w3.heap.size, 0, none⟩ = some (.int .i64 bk) ∧ w'.cell? ⟨w3.heap.size, 1, none⟩ = some (.int .i64 bn) ∧ w'.cell? ⟨w3.heap.size, 2, none⟩ = some (.string bt) ∧ w'.cell? ⟨b2, o2 + k * 3, none⟩ = some (.int .i64 evk) ∧ w'.cell? ⟨b2, o2 + k * 3 + 1, none⟩ = some (.int .i64 fn) ∧ w'.cell? ⟨b2, o2 + k * 3 + 2, none⟩ = some (.string ft))) (by kernel_rfl) ?_ (fun hHeld => ?_)
            · (try dsimp only) <;> (exact ⟨bel_drew (bel_refl _), a0, a1, a2, a3, a4, y1, v0, v1, v2, q0, q1, q2⟩)
            refine h_take 0 (some 50) (?_) rfl rfl (by kernel_rfl) (by kernel_rfl) (by kernel_rfl) (fun _ _ _ h => h) (by kernel_rfl) ?_ (by assumption) ?_
            rotate_left
            · intro w hSw; (try dsimp only at hSw); go_simp
              all_goals first | with_reducible rfl | omega | (simp; omega)
            try simp only [Act.put, List.setIfInBounds_toArray, List.set_cons_zero, List.set_cons_succ]
            refine h_take 1 (some 51) (?_) rfl rfl (by kernel_rfl) (by kernel_rfl) (by kernel_rfl) (fun _ _ _ h => h) (by kernel_rfl) ?_ (by assumption) ?_
            rotate_left
            · intro w hSw; (try dsimp only at hSw); go_simp
              all_goals first | with_reducible rfl | omega | (simp; omega)
            try simp only [Act.put, List.setIfInBounds_toArray, List.set_cons_zero, List.set_cons_succ]
            refine h_take 2 (some 52) (.bool true) rfl rfl (by kernel_rfl) (by kernel_rfl) (by kernel_rfl) (fun _ _ _ h => h) (by kernel_rfl) ?_ (by assumption) ?_
            · intro w hSw; (try dsimp only at hSw); go_simp
              all_goals first | with_reducible rfl | omega | (simp; omega)
            try simp only [Act.put, List.setIfInBounds_toArray, List.set_cons_zero, List.set_cons_succ]
            refine h_take 3 (some 53) (.bool true) rfl rfl (by kernel_rfl) (by kernel_rfl) (by kernel_rfl) (fun _ _ _ h => h) (by kernel_rfl) ?_ (by assumption) ?_
            · intro w hSw; (try dsimp only at hSw); go_simp
              all_goals first | with_reducible rfl | omega | (simp; omega)
            try simp only [Act.put, List.setIfInBounds_toArray, List.set_cons_zero, List.set_cons_succ]
            refine h_take 4 (some 54) (?_) rfl rfl (by kernel_rfl) (by kernel_rfl) (by kernel_rfl) (fun _ _ _ h => h) (by kernel_rfl) ?_ (by assumption) ?_
            rotate_left
            · intro w hSw; (try dsimp only at hSw); go_simp
              all_goals first | with_reducible rfl | omega | (simp; omega)
            try simp only [Act.put, List.setIfInBounds_toArray, List.set_cons_zero, List.set_cons_succ]
            refine h_take 5 (some 55) (?_) rfl rfl (by kernel_rfl) (by kernel_rfl) (by kernel_rfl) (fun _ _ _ h => h) (by kernel_rfl) ?_ (by assumption) ?_
            rotate_left
            · intro w hSw; (try dsimp only at hSw); go_simp
              all_goals first | with_reducible rfl | omega | (simp; omega)
            try simp only [Act.put, List.setIfInBounds_toArray, List.set_cons_zero, List.set_cons_succ]
            refine h_take 6 (some 56) (?_) rfl rfl (by kernel_rfl) (by kernel_rfl) (by kernel_rfl) (fun _ _ _ h => h) (by kernel_rfl) ?_ (by assumption) ?_
            rotate_left
            · intro w hSw; (try dsimp only at hSw); go_simp
              all_goals first | with_reducible rfl | omega | (simp; omega)
            try simp only [Act.put, List.setIfInBounds_toArray, List.set_cons_zero, List.set_cons_succ]
            refine h_take 7 (some 57) (?_) rfl rfl (by kernel_rfl) (by kernel_rfl) (by kernel_rfl) (fun _ _ _ h => h) (by kernel_rfl) ?_ (by assumption) ?_
            rotate_left
            · intro w hSw; (try dsimp only at hSw); go_simp
              all_goals first | with_reducible rfl | omega | (simp; omega)
            try simp only [Act.put, List.setIfInBounds_toArray, List.set_cons_zero, List.set_cons_succ]
            refine h_take 8 (some 58) (?_) rfl rfl (by kernel_rfl) (by kernel_rfl) (by kernel_rfl) (fun _ _ _ h => h) (by kernel_rfl) ?_ (by assumption) ?_
            rotate_left
            · intro w hSw; (try dsimp only at hSw); go_simp
              all_goals first | with_reducible rfl | omega | (simp; omega)
            try simp only [Act.put, List.setIfInBounds_toArray, List.set_cons_zero, List.set_cons_succ]
            refine h_take 9 (some 59) (?_) rfl rfl (by kernel_rfl) (by kernel_rfl) (by kernel_rfl) (fun _ _ _ h => h) (by kernel_rfl) ?_ (by assumption) ?_
            rotate_left
            · intro w hSw; (try dsimp only at hSw); go_simp
              all_goals first | with_reducible rfl | omega | (simp; omega)
            try simp only [Act.put, List.setIfInBounds_toArray, List.set_cons_zero, List.set_cons_succ]
            refine h_take 10 (some 60) (?_) rfl rfl (by kernel_rfl) (by kernel_rfl) (by kernel_rfl) (fun _ _ _ h => h) (by kernel_rfl) ?_ (by assumption) ?_
            rotate_left
            · intro w hSw; (try dsimp only at hSw); go_simp
              all_goals first | with_reducible rfl | omega | (simp; omega)
            try simp only [Act.put, List.setIfInBounds_toArray, List.set_cons_zero, List.set_cons_succ]
            refine h_take 11 (some 61) (.bool true) rfl rfl (by kernel_rfl) (by kernel_rfl) (by kernel_rfl) (fun _ _ _ h => h) (by kernel_rfl) ?_ (by assumption) ?_
            · intro w hSw; (try dsimp only at hSw); go_simp
              all_goals first | with_reducible rfl | omega | (simp; omega)
            try simp only [Act.put, List.setIfInBounds_toArray, List.set_cons_zero, List.set_cons_succ]
            refine h_take 12 (some 62) (.bool true) rfl rfl (by kernel_rfl) (by kernel_rfl) (by kernel_rfl) (fun _ _ _ h => h) (by kernel_rfl) ?_ (by assumption) ?_
            · intro w hSw; (try dsimp only at hSw); go_simp
              all_goals first | with_reducible rfl | omega | (simp; omega)
            try simp only [Act.put, List.setIfInBounds_toArray, List.set_cons_zero, List.set_cons_succ]
            refine h_take 13 (some 63) (.bool true) rfl rfl (by kernel_rfl) (by kernel_rfl) (by kernel_rfl) (fun _ _ _ h => h) (by kernel_rfl) ?_ (by assumption) ?_
            · intro w hSw; (try dsimp only at hSw); go_simp
              all_goals first | with_reducible rfl | omega | (simp; omega)
            try simp only [Act.put, List.setIfInBounds_toArray, List.set_cons_zero, List.set_cons_succ]
            refine h_skip 14 (some 64) rfl rfl (by kernel_rfl) (by kernel_rfl) (by kernel_rfl) (fun _ _ _ h => h) (by kernel_rfl) (by assumption) ?_
            try simp only [Act.put, List.setIfInBounds_toArray, List.set_cons_zero, List.set_cons_succ]
            refine h_skip 15 (some 65) rfl rfl (by kernel_rfl) (by kernel_rfl) (by kernel_rfl) (fun _ _ _ h => h) (by kernel_rfl) (by assumption) ?_
            try simp only [Act.put, List.setIfInBounds_toArray, List.set_cons_zero, List.set_cons_succ]
            refine h_skip 16 (some 66) rfl rfl (by kernel_rfl) (by kernel_rfl) (by kernel_rfl) (fun _ _ _ h => h) (by kernel_rfl) (by assumption) ?_
            try simp only [Act.put, List.setIfInBounds_toArray, List.set_cons_zero, List.set_cons_succ]
            refine h_skip 17 (some 67) rfl rfl (by kernel_rfl) (by kernel_rfl) (by kernel_rfl) (fun _ _ _ h => h) (by kernel_rfl) (by assumption) ?_
            try simp only [Act.put, List.setIfInBounds_toArray, List.set_cons_zero, List.set_cons_succ]
            refine h_skip 18 (some 68) rfl rfl (by kernel_rfl) (by kernel_rfl) (by kernel_rfl) (fun _ _ _ h => h) (by kernel_rfl) (by assumption) ?_
            try simp only [Act.put, List.setIfInBounds_toArray, List.set_cons_zero, List.set_cons_succ]
            refine h_skip 19 (some 69) rfl rfl (by kernel_rfl) (by kernel_rfl) (by kernel_rfl) (fun _ _ _ h => h) (by kernel_rfl) (by assumption) ?_
            try simp only [Act.put, List.setIfInBounds_toArray, List.set_cons_zero, List.set_cons_succ]
            refine h_skip 20 (some 70) rfl rfl (by kernel_rfl) (by kernel_rfl) (by kernel_rfl) (fun _ _ _ h => h) (by kernel_rfl) (by assumption) ?_
            try simp only [Act.put, List.setIfInBounds_toArray, List.set_cons_zero, List.set_cons_succ]
            refine h_skip 21 (some 71) rfl rfl (by kernel_rfl) (by kernel_rfl) (by kernel_rfl) (fun _ _ _ h => h) (by kernel_rfl) (by assumption) ?_
            try simp only [Act.put, List.setIfInBounds_toArray, List.set_cons_zero, List.set_cons_succ]
            refine h_skip 22 (some 72) rfl rfl (by kernel_rfl) (by kernel_rfl) (by kernel_rfl) (fun _ _ _ h => h) (by kernel_rfl) (by assumption) ?_
            try simp only [Act.put, List.setIfInBounds_toArray, List.set_cons_zero, List.set_cons_succ]
            refine h_skip 23 (some 73) rfl rfl (by kernel_rfl) (by kernel_rfl) (by kernel_rfl) (fun _ _ _ h => h) (by kernel_rfl) (by assumption) ?_
            try simp only [Act.put, List.setIfInBounds_toArray, List.set_cons_zero, List.set_cons_succ]
            refine h_skip 24 (some 74) rfl rfl (by kernel_rfl) (by kernel_rfl) (by kernel_rfl) (fun _ _ _ h => h) (by kernel_rfl) (by assumption) ?_
            try simp only [Act.put, List.setIfInBounds_toArray, List.set_cons_zero, List.set_cons_succ]
            refine h_skip 25 (some 75) rfl rfl (by kernel_rfl) (by kernel_rfl) (by kernel_rfl) (fun _ _ _ h => h) (by kernel_rfl) (by assumption) ?_
            try simp only [Act.put, List.setIfInBounds_toArray, List.set_cons_zero, List.set_cons_succ]
            refine h_skip 26 (some 76) rfl rfl (by kernel_rfl) (by kernel_rfl) (by kernel_rfl) (fun _ _ _ h => h) (by kernel_rfl) (by assumption) ?_
            try simp only [Act.put, List.setIfInBounds_toArray, List.set_cons_zero, List.set_cons_succ]
            refine h_skip 27 (some 77) rfl rfl (by kernel_rfl) (by kernel_rfl) (by kernel_rfl) (fun _ _ _ h => h) (by kernel_rfl) (by assumption) ?_
            try simp only [Act.put, List.setIfInBounds_toArray, List.set_cons_zero, List.set_cons_succ]
            refine h_skip 28 (some 78) rfl rfl (by kernel_rfl) (by kernel_rfl) (by kernel_rfl) (fun _ _ _ h => h) (by kernel_rfl) (by assumption) ?_
            try simp only [Act.put, List.setIfInBounds_toArray, List.set_cons_zero, List.set_cons_succ]
            refine h_take 29 (some 79) (.bool true) rfl rfl (by kernel_rfl) (by kernel_rfl) (by kernel_rfl) (fun _ _ _ h => h) (by kernel_rfl) ?_ (by assumption) ?_
            · intro w hSw; (try dsimp only at hSw); go_simp
              all_goals first | with_reducible rfl | omega | (simp; omega)
            try simp only [Act.put, List.setIfInBounds_toArray, List.set_cons_zero, List.set_cons_succ]
            refine wpAnyH_done (by kernel_rfl) ?_ _
            have hr3d : RdS bC 4 v.drew B3 A3 n3 l := hr3
            have hlit2 : OwnT bC 4 (v.drew.alloc (.cells #[] 49)) v.heap.size 49 (.slice (some ⟨v.heap.size, 0, none⟩) 0 0) [] := lit0 v.drew 49
            go_wp2_with (at_builtin; refine appT rfl (.tmp 80) (.tmp 81) _ rfl bC_sz v.heap.size 49 i0 Try.underlying30 HI.out hz0 hz1 hz2 rfl (by omega) _ [] rfl hlit2 _ n3 c3 l rfl (hr3d.alloc _).2 (bC_one l) (by simp only [List.length_nil]; omega) (by simp) ?_ (by simp only [List.length_nil]; omega); intro v' w5 ho5 hb5 hs5; obtain ⟨A5, c5, rfl, hc5, _⟩ := ho5.form; simp only [List.nil_append] at ho5)
            go_ret2
            exact ⟨A5, c5, rfl, ho5.lower (by omega), (bel_alloc (bel_drew hbel) _).trans (hb5.mono (by omega))⟩
          · dsimp only at hm
            refine wp_region_held_drew (S := (fun w' => Below v.heap.size v w' ∧ w'.cell? ⟨wr.heap.size, 0, none⟩ = some (.int .i64 2) ∧ w'.cell? ⟨wr.heap.size, 1, none⟩ = some (.string es) ∧ w'.cell? ⟨wr.heap.size, 2, none⟩ = some (.int .i64 evk) ∧ w'.cell? ⟨wr.heap.size, 3, none⟩ = some (.int .i64 evn) ∧ w'.cell? ⟨wr.heap.size, 4, none⟩ = some (.string evs) ∧ w'.cell? ⟨w.heap.size + 1, 1, none⟩ = some (.slice (some ⟨b2, o2, none⟩) n c2) ∧ w'.cell? ⟨w3.heap.size, 0, none⟩ = some (.int .i64 bk) ∧ w'.cell? ⟨w3.heap.size, 1, none⟩ = some (.int .i64 bn) ∧ w'.cell? ⟨w3.heap.size, 2, none⟩ = some (.string bt) ∧ w'.cell? ⟨b2, o2 + k * 3, none⟩ = some (.int .i64 evk) ∧ w'.cell? ⟨b2, o2 + k * 3 + 1, none⟩ = some (.int .i64 evn) ∧ w'.cell? ⟨b2, o2 + k * 3 + 2, none⟩ = some (.string ft))) (by kernel_rfl) ?_ (fun hHeld => ?_)
            · (try dsimp only) <;> (exact ⟨bel_drew (bel_refl _), a0, a1, a2, a3, a4, y1, v0, v1, v2, q0, q1, q2⟩)
            refine h_take 0 (some 50) (?_) rfl rfl (by kernel_rfl) (by kernel_rfl) (by kernel_rfl) (fun _ _ _ h => h) (by kernel_rfl) ?_ (by assumption) ?_
            rotate_left
            · intro w hSw; (try dsimp only at hSw); go_simp
              all_goals first | with_reducible rfl | omega | (simp; omega)
            try simp only [Act.put, List.setIfInBounds_toArray, List.set_cons_zero, List.set_cons_succ]
            refine h_take 1 (some 51) (?_) rfl rfl (by kernel_rfl) (by kernel_rfl) (by kernel_rfl) (fun _ _ _ h => h) (by kernel_rfl) ?_ (by assumption) ?_
            rotate_left
            · intro w hSw; (try dsimp only at hSw); go_simp
              all_goals first | with_reducible rfl | omega | (simp; omega)
            try simp only [Act.put, List.setIfInBounds_toArray, List.set_cons_zero, List.set_cons_succ]
            refine h_take 2 (some 52) (.bool true) rfl rfl (by kernel_rfl) (by kernel_rfl) (by kernel_rfl) (fun _ _ _ h => h) (by kernel_rfl) ?_ (by assumption) ?_
            · intro w hSw; (try dsimp only at hSw); go_simp
              all_goals first | with_reducible rfl | omega | (simp; omega)
            try simp only [Act.put, List.setIfInBounds_toArray, List.set_cons_zero, List.set_cons_succ]
            refine h_take 3 (some 53) (.bool true) rfl rfl (by kernel_rfl) (by kernel_rfl) (by kernel_rfl) (fun _ _ _ h => h) (by kernel_rfl) ?_ (by assumption) ?_
            · intro w hSw; (try dsimp only at hSw); go_simp
              all_goals first | with_reducible rfl | omega | (simp; omega)
            try simp only [Act.put, List.setIfInBounds_toArray, List.set_cons_zero, List.set_cons_succ]
            refine h_take 4 (some 54) (?_) rfl rfl (by kernel_rfl) (by kernel_rfl) (by kernel_rfl) (fun _ _ _ h => h) (by kernel_rfl) ?_ (by assumption) ?_
            rotate_left
            · intro w hSw; (try dsimp only at hSw); go_simp
              all_goals first | with_reducible rfl | omega | (simp; omega)
            try simp only [Act.put, List.setIfInBounds_toArray, List.set_cons_zero, List.set_cons_succ]
            refine h_take 5 (some 55) (?_) rfl rfl (by kernel_rfl) (by kernel_rfl) (by kernel_rfl) (fun _ _ _ h => h) (by kernel_rfl) ?_ (by assumption) ?_
            rotate_left
            · intro w hSw; (try dsimp only at hSw); go_simp
              all_goals first | with_reducible rfl | omega | (simp; omega)
            try simp only [Act.put, List.setIfInBounds_toArray, List.set_cons_zero, List.set_cons_succ]
            refine h_take 6 (some 56) (?_) rfl rfl (by kernel_rfl) (by kernel_rfl) (by kernel_rfl) (fun _ _ _ h => h) (by kernel_rfl) ?_ (by assumption) ?_
            rotate_left
            · intro w hSw; (try dsimp only at hSw); go_simp
              all_goals first | with_reducible rfl | omega | (simp; omega)
            try simp only [Act.put, List.setIfInBounds_toArray, List.set_cons_zero, List.set_cons_succ]
            refine h_take 7 (some 57) (?_) rfl rfl (by kernel_rfl) (by kernel_rfl) (by kernel_rfl) (fun _ _ _ h => h) (by kernel_rfl) ?_ (by assumption) ?_
            rotate_left
            · intro w hSw; (try dsimp only at hSw); go_simp
              all_goals first | with_reducible rfl | omega | (simp; omega)
            try simp only [Act.put, List.setIfInBounds_toArray, List.set_cons_zero, List.set_cons_succ]
            refine h_take 8 (some 58) (?_) rfl rfl (by kernel_rfl) (by kernel_rfl) (by kernel_rfl) (fun _ _ _ h => h) (by kernel_rfl) ?_ (by assumption) ?_
            rotate_left
            · intro w hSw; (try dsimp only at hSw); go_simp
              all_goals first | with_reducible rfl | omega | (simp; omega)
            try simp only [Act.put, List.setIfInBounds_toArray, List.set_cons_zero, List.set_cons_succ]
            refine h_take 9 (some 59) (?_) rfl rfl (by kernel_rfl) (by kernel_rfl) (by kernel_rfl) (fun _ _ _ h => h) (by kernel_rfl) ?_ (by assumption) ?_
            rotate_left
            · intro w hSw; (try dsimp only at hSw); go_simp
              all_goals first | with_reducible rfl | omega | (simp; omega)
            try simp only [Act.put, List.setIfInBounds_toArray, List.set_cons_zero, List.set_cons_succ]
            refine h_take 10 (some 60) (?_) rfl rfl (by kernel_rfl) (by kernel_rfl) (by kernel_rfl) (fun _ _ _ h => h) (by kernel_rfl) ?_ (by assumption) ?_
            rotate_left
            · intro w hSw; (try dsimp only at hSw); go_simp
              all_goals first | with_reducible rfl | omega | (simp; omega)
            try simp only [Act.put, List.setIfInBounds_toArray, List.set_cons_zero, List.set_cons_succ]
            refine h_take 11 (some 61) (.bool true) rfl rfl (by kernel_rfl) (by kernel_rfl) (by kernel_rfl) (fun _ _ _ h => h) (by kernel_rfl) ?_ (by assumption) ?_
            · intro w hSw; (try dsimp only at hSw); go_simp
              all_goals first | with_reducible rfl | omega | (simp; omega)
            try simp only [Act.put, List.setIfInBounds_toArray, List.set_cons_zero, List.set_cons_succ]
            refine h_take 12 (some 62) (.bool true) rfl rfl (by kernel_rfl) (by kernel_rfl) (by kernel_rfl) (fun _ _ _ h => h) (by kernel_rfl) ?_ (by assumption) ?_
            · intro w hSw; (try dsimp only at hSw); go_simp
              all_goals first | with_reducible rfl | omega | (simp; omega)
            try simp only [Act.put, List.setIfInBounds_toArray, List.set_cons_zero, List.set_cons_succ]
            refine h_take 13 (some 63) (.bool true) rfl rfl (by kernel_rfl) (by kernel_rfl) (by kernel_rfl) (fun _ _ _ h => h) (by kernel_rfl) ?_ (by assumption) ?_
            · intro w hSw; (try dsimp only at hSw); go_simp
              all_goals first | with_reducible rfl | omega | (simp; omega)
            try simp only [Act.put, List.setIfInBounds_toArray, List.set_cons_zero, List.set_cons_succ]
            refine h_skip 14 (some 64) rfl rfl (by kernel_rfl) (by kernel_rfl) (by kernel_rfl) (fun _ _ _ h => h) (by kernel_rfl) (by assumption) ?_
            try simp only [Act.put, List.setIfInBounds_toArray, List.set_cons_zero, List.set_cons_succ]
            refine h_skip 15 (some 65) rfl rfl (by kernel_rfl) (by kernel_rfl) (by kernel_rfl) (fun _ _ _ h => h) (by kernel_rfl) (by assumption) ?_
            try simp only [Act.put, List.setIfInBounds_toArray, List.set_cons_zero, List.set_cons_succ]
            refine h_skip 16 (some 66) rfl rfl (by kernel_rfl) (by kernel_rfl) (by kernel_rfl) (fun _ _ _ h => h) (by kernel_rfl) (by assumption) ?_
            try simp only [Act.put, List.setIfInBounds_toArray, List.set_cons_zero, List.set_cons_succ]
            refine h_skip 17 (some 67) rfl rfl (by kernel_rfl) (by kernel_rfl) (by kernel_rfl) (fun _ _ _ h => h) (by kernel_rfl) (by assumption) ?_
            try simp only [Act.put, List.setIfInBounds_toArray, List.set_cons_zero, List.set_cons_succ]
            refine h_skip 18 (some 68) rfl rfl (by kernel_rfl) (by kernel_rfl) (by kernel_rfl) (fun _ _ _ h => h) (by kernel_rfl) (by assumption) ?_
            try simp only [Act.put, List.setIfInBounds_toArray, List.set_cons_zero, List.set_cons_succ]
            refine h_skip 19 (some 69) rfl rfl (by kernel_rfl) (by kernel_rfl) (by kernel_rfl) (fun _ _ _ h => h) (by kernel_rfl) (by assumption) ?_
            try simp only [Act.put, List.setIfInBounds_toArray, List.set_cons_zero, List.set_cons_succ]
            refine h_skip 20 (some 70) rfl rfl (by kernel_rfl) (by kernel_rfl) (by kernel_rfl) (fun _ _ _ h => h) (by kernel_rfl) (by assumption) ?_
            try simp only [Act.put, List.setIfInBounds_toArray, List.set_cons_zero, List.set_cons_succ]
            refine h_skip 21 (some 71) rfl rfl (by kernel_rfl) (by kernel_rfl) (by kernel_rfl) (fun _ _ _ h => h) (by kernel_rfl) (by assumption) ?_
            try simp only [Act.put, List.setIfInBounds_toArray, List.set_cons_zero, List.set_cons_succ]
            refine h_skip 22 (some 72) rfl rfl (by kernel_rfl) (by kernel_rfl) (by kernel_rfl) (fun _ _ _ h => h) (by kernel_rfl) (by assumption) ?_
            try simp only [Act.put, List.setIfInBounds_toArray, List.set_cons_zero, List.set_cons_succ]
            refine h_skip 23 (some 73) rfl rfl (by kernel_rfl) (by kernel_rfl) (by kernel_rfl) (fun _ _ _ h => h) (by kernel_rfl) (by assumption) ?_
            try simp only [Act.put, List.setIfInBounds_toArray, List.set_cons_zero, List.set_cons_succ]
            refine h_skip 24 (some 74) rfl rfl (by kernel_rfl) (by kernel_rfl) (by kernel_rfl) (fun _ _ _ h => h) (by kernel_rfl) (by assumption) ?_
            try simp only [Act.put, List.setIfInBounds_toArray, List.set_cons_zero, List.set_cons_succ]
            refine h_skip 25 (some 75) rfl rfl (by kernel_rfl) (by kernel_rfl) (by kernel_rfl) (fun _ _ _ h => h) (by kernel_rfl) (by assumption) ?_
            try simp only [Act.put, List.setIfInBounds_toArray, List.set_cons_zero, List.set_cons_succ]
            refine h_skip 26 (some 76) rfl rfl (by kernel_rfl) (by kernel_rfl) (by kernel_rfl) (fun _ _ _ h => h) (by kernel_rfl) (by assumption) ?_
            try simp only [Act.put, List.setIfInBounds_toArray, List.set_cons_zero, List.set_cons_succ]
            refine h_skip 27 (some 77) rfl rfl (by kernel_rfl) (by kernel_rfl) (by kernel_rfl) (fun _ _ _ h => h) (by kernel_rfl) (by assumption) ?_
            try simp only [Act.put, List.setIfInBounds_toArray, List.set_cons_zero, List.set_cons_succ]
            refine h_skip 28 (some 78) rfl rfl (by kernel_rfl) (by kernel_rfl) (by kernel_rfl) (fun _ _ _ h => h) (by kernel_rfl) (by assumption) ?_
            try simp only [Act.put, List.setIfInBounds_toArray, List.set_cons_zero, List.set_cons_succ]
            refine h_take 29 (some 79) (.bool true) rfl rfl (by kernel_rfl) (by kernel_rfl) (by kernel_rfl) (fun _ _ _ h => h) (by kernel_rfl) ?_ (by assumption) ?_
            · intro w hSw; (try dsimp only at hSw); go_simp
              all_goals first | with_reducible rfl | omega | (simp; omega)
            try simp only [Act.put, List.setIfInBounds_toArray, List.set_cons_zero, List.set_cons_succ]
            refine wpAnyH_done (by kernel_rfl) ?_ _
            have hr3d : RdS bC 4 v.drew B3 A3 n3 l := hr3
            have hlit2 : OwnT bC 4 (v.drew.alloc (.cells #[] 49)) v.heap.size 49 (.slice (some ⟨v.heap.size, 0, none⟩) 0 0) [] := lit0 v.drew 49
            go_wp2_with (at_builtin; refine appT rfl (.tmp 80) (.tmp 81) _ rfl bC_sz v.heap.size 49 i0 Try.underlying30 HI.out hz0 hz1 hz2 rfl (by omega) _ [] rfl hlit2 _ n3 c3 l rfl (hr3d.alloc _).2 (bC_one l) (by simp only [List.length_nil]; omega) (by simp) ?_ (by simp only [List.length_nil]; omega); intro v' w5 ho5 hb5 hs5; obtain ⟨A5, c5, rfl, hc5, _⟩ := ho5.form; simp only [List.nil_append] at ho5)
            go_ret2
            exact ⟨A5, c5, rfl, ho5.lower (by omega), (bel_alloc (bel_drew hbel) _).trans (hb5.mono (by omega))⟩
      have hq2 : (ek == 2) = false := by simpa using h2
      by_cases h1 : ek = 1
      · subst h1
        clear h2 hq2
        cases bo
        · have hst2 : R = mgo (gs.drop (k + 1)) (fs.drop (k + 1)) (acc ++ [⟨es, ⟨fk, fn, ft⟩⟩]) := by rw [hst]; unfold mstep; simp only; rw [if_neg (by decide : ¬ (1:Int) = 2), if_pos trivial, hbo]; rfl
          have HST := Lib.hid hst2; clear hst hst2 hbo
          refine wp_region_held_drew (S := (fun w' => Below v.heap.size v w' ∧ w'.cell? ⟨wr.heap.size, 0, none⟩ = some (.int .i64 1) ∧ w'.cell? ⟨wr.heap.size, 1, none⟩ = some (.string es) ∧ w'.cell? ⟨wr.heap.size, 2, none⟩ = some (.int .i64 evk) ∧ w'.cell? ⟨wr.heap.size, 3, none⟩ = some (.int .i64 evn) ∧ w'.cell? ⟨wr.heap.size, 4, none⟩ = some (.string evs) ∧ w'.cell? ⟨w.heap.size + 1, 1, none⟩ = some (.slice (some ⟨b2, o2, none⟩) n c2) ∧ w'.cell? ⟨w3.heap.size, 0, none⟩ = some (.int .i64 bk) ∧ w'.cell? ⟨w3.heap.size, 1, none⟩ = some (.int .i64 bn) ∧ w'.cell? ⟨w3.heap.size, 2, none⟩ = some (.string bt) ∧ w'.cell? ⟨b2, o2 + k * 3, none⟩ = some (.int .i64 fk) ∧ w'.cell? ⟨b2, o2 + k * 3 + 1, none⟩ = some (.int .i64 fn) ∧ w'.cell? ⟨b2, o2 + k * 3 + 2, none⟩ = some (.string ft))) (by kernel_rfl) ?_ (fun hHeld => ?_)
          · (try dsimp only) <;> (exact ⟨bel_drew (bel_refl _), a0, a1, a2, a3, a4, y1, v0, v1, v2, q0, q1, q2⟩)
          refine h_take 0 (some 50) (?_) rfl rfl (by kernel_rfl) (by kernel_rfl) (by kernel_rfl) (fun _ _ _ h => h) (by kernel_rfl) ?_ (by assumption) ?_
          rotate_left
          · intro w hSw; (try dsimp only at hSw); go_simp
            all_goals first | with_reducible rfl | omega | (simp; omega)
          try simp only [Act.put, List.setIfInBounds_toArray, List.set_cons_zero, List.set_cons_succ]
          refine h_take 1 (some 51) (?_) rfl rfl (by kernel_rfl) (by kernel_rfl) (by kernel_rfl) (fun _ _ _ h => h) (by kernel_rfl) ?_ (by assumption) ?_
          rotate_left
          · intro w hSw; (try dsimp only at hSw); go_simp
            all_goals first | with_reducible rfl | omega | (simp; omega)
          try simp only [Act.put, List.setIfInBounds_toArray, List.set_cons_zero, List.set_cons_succ]
          refine h_take 2 (some 52) (.bool false) rfl rfl (by kernel_rfl) (by kernel_rfl) (by kernel_rfl) (fun _ _ _ h => h) (by kernel_rfl) ?_ (by assumption) ?_
          · intro w hSw; (try dsimp only at hSw); go_simp
            all_goals first | with_reducible rfl | omega | (simp; omega)
          try simp only [Act.put, List.setIfInBounds_toArray, List.set_cons_zero, List.set_cons_succ]
          refine h_take 3 (some 53) (.bool false) rfl rfl (by kernel_rfl) (by kernel_rfl) (by kernel_rfl) (fun _ _ _ h => h) (by kernel_rfl) ?_ (by assumption) ?_
          · intro w hSw; (try dsimp only at hSw); go_simp
            all_goals first | with_reducible rfl | omega | (simp; omega)
          try simp only [Act.put, List.setIfInBounds_toArray, List.set_cons_zero, List.set_cons_succ]
          refine h_skip 4 (some 54) rfl rfl (by kernel_rfl) (by kernel_rfl) (by kernel_rfl) (fun _ _ _ h => h) (by kernel_rfl) (by assumption) ?_
          try simp only [Act.put, List.setIfInBounds_toArray, List.set_cons_zero, List.set_cons_succ]
          refine h_skip 5 (some 55) rfl rfl (by kernel_rfl) (by kernel_rfl) (by kernel_rfl) (fun _ _ _ h => h) (by kernel_rfl) (by assumption) ?_
          try simp only [Act.put, List.setIfInBounds_toArray, List.set_cons_zero, List.set_cons_succ]
          refine h_skip 6 (some 56) rfl rfl (by kernel_rfl) (by kernel_rfl) (by kernel_rfl) (fun _ _ _ h => h) (by kernel_rfl) (by assumption) ?_
          try simp only [Act.put, List.setIfInBounds_toArray, List.set_cons_zero, List.set_cons_succ]
          refine h_skip 7 (some 57) rfl rfl (by kernel_rfl) (by kernel_rfl) (by kernel_rfl) (fun _ _ _ h => h) (by kernel_rfl) (by assumption) ?_
          try simp only [Act.put, List.setIfInBounds_toArray, List.set_cons_zero, List.set_cons_succ]
          refine h_skip 8 (some 58) rfl rfl (by kernel_rfl) (by kernel_rfl) (by kernel_rfl) (fun _ _ _ h => h) (by kernel_rfl) (by assumption) ?_
          try simp only [Act.put, List.setIfInBounds_toArray, List.set_cons_zero, List.set_cons_succ]
          refine h_skip 9 (some 59) rfl rfl (by kernel_rfl) (by kernel_rfl) (by kernel_rfl) (fun _ _ _ h => h) (by kernel_rfl) (by assumption) ?_
          try simp only [Act.put, List.setIfInBounds_toArray, List.set_cons_zero, List.set_cons_succ]
          refine h_skip 10 (some 60) rfl rfl (by kernel_rfl) (by kernel_rfl) (by kernel_rfl) (fun _ _ _ h => h) (by kernel_rfl) (by assumption) ?_
          try simp only [Act.put, List.setIfInBounds_toArray, List.set_cons_zero, List.set_cons_succ]
          refine h_skip 11 (some 61) rfl rfl (by kernel_rfl) (by kernel_rfl) (by kernel_rfl) (fun _ _ _ h => h) (by kernel_rfl) (by assumption) ?_
          try simp only [Act.put, List.setIfInBounds_toArray, List.set_cons_zero, List.set_cons_succ]
          refine h_take 12 (some 62) (.bool false) rfl rfl (by kernel_rfl) (by kernel_rfl) (by kernel_rfl) (fun _ _ _ h => h) (by kernel_rfl) ?_ (by assumption) ?_
          · intro w hSw; (try dsimp only at hSw); go_simp
            all_goals first | with_reducible rfl | omega | (simp; omega)
          try simp only [Act.put, List.setIfInBounds_toArray, List.set_cons_zero, List.set_cons_succ]
          refine h_take 13 (some 63) (.bool false) rfl rfl (by kernel_rfl) (by kernel_rfl) (by kernel_rfl) (fun _ _ _ h => h) (by kernel_rfl) ?_ (by assumption) ?_
          · intro w hSw; (try dsimp only at hSw); go_simp
            all_goals first | with_reducible rfl | omega | (simp; omega)
          try simp only [Act.put, List.setIfInBounds_toArray, List.set_cons_zero, List.set_cons_succ]
          refine h_take 14 (some 64) (?_) rfl rfl (by kernel_rfl) (by kernel_rfl) (by kernel_rfl) (fun _ _ _ h => h) (by kernel_rfl) ?_ (by assumption) ?_
          rotate_left
          · intro w hSw; (try dsimp only at hSw); go_simp
            all_goals first | with_reducible rfl | omega | (simp; omega)
          try simp only [Act.put, List.setIfInBounds_toArray, List.set_cons_zero, List.set_cons_succ]
          refine h_take 15 (some 65) (?_) rfl rfl (by kernel_rfl) (by kernel_rfl) (by kernel_rfl) (fun _ _ _ h => h) (by kernel_rfl) ?_ (by assumption) ?_
          rotate_left
          · intro w hSw; (try dsimp only at hSw); go_simp
            all_goals first | with_reducible rfl | omega | (simp; omega)
          try simp only [Act.put, List.setIfInBounds_toArray, List.set_cons_zero, List.set_cons_succ]
          refine h_take 16 (some 66) (.bool true) rfl rfl (by kernel_rfl) (by kernel_rfl) (by kernel_rfl) (fun _ _ _ h => h) (by kernel_rfl) ?_ (by assumption) ?_
          · intro w hSw; (try dsimp only at hSw); go_simp
            all_goals first | with_reducible rfl | omega | (simp; omega)
          try simp only [Act.put, List.setIfInBounds_toArray, List.set_cons_zero, List.set_cons_succ]
          refine h_take 17 (some 67) (.bool true) rfl rfl (by kernel_rfl) (by kernel_rfl) (by kernel_rfl) (fun _ _ _ h => h) (by kernel_rfl) ?_ (by assumption) ?_
          · intro w hSw; (try dsimp only at hSw); go_simp
            all_goals first | with_reducible rfl | omega | (simp; omega)
          try simp only [Act.put, List.setIfInBounds_toArray, List.set_cons_zero, List.set_cons_succ]
          refine h_take 18 (some 68) (.bool false) rfl rfl (by kernel_rfl) (by kernel_rfl) (by kernel_rfl) (fun _ _ _ h => h) (by kernel_rfl) ?_ (by assumption) ?_
          · intro w hSw; (try dsimp only at hSw); go_simp
            all_goals first | with_reducible rfl | omega | (simp; omega)
          try simp only [Act.put, List.setIfInBounds_toArray, List.set_cons_zero, List.set_cons_succ]
          refine h_take 19 (some 69) (.bool false) rfl rfl (by kernel_rfl) (by kernel_rfl) (by kernel_rfl) (fun _ _ _ h => h) (by kernel_rfl) ?_ (by assumption) ?_
          · intro w hSw; (try dsimp only at hSw); go_simp
            all_goals first | with_reducible rfl | omega | (simp; omega)
          try simp only [Act.put, List.setIfInBounds_toArray, List.set_cons_zero, List.set_cons_succ]
          refine h_take 20 (some 70) (.bool false) rfl rfl (by kernel_rfl) (by kernel_rfl) (by kernel_rfl) (fun _ _ _ h => h) (by kernel_rfl) ?_ (by assumption) ?_
          · intro w hSw; (try dsimp only at hSw); go_simp
            all_goals first | with_reducible rfl | omega | (simp; omega)
          try simp only [Act.put, List.setIfInBounds_toArray, List.set_cons_zero, List.set_cons_succ]
          refine h_skip 21 (some 71) rfl rfl (by kernel_rfl) (by kernel_rfl) (by kernel_rfl) (fun _ _ _ h => h) (by kernel_rfl) (by assumption) ?_
          try simp only [Act.put, List.setIfInBounds_toArray, List.set_cons_zero, List.set_cons_succ]
          refine h_skip 22 (some 72) rfl rfl (by kernel_rfl) (by kernel_rfl) (by kernel_rfl) (fun _ _ _ h => h) (by kernel_rfl) (by assumption) ?_
          try simp only [Act.put, List.setIfInBounds_toArray, List.set_cons_zero, List.set_cons_succ]
          refine h_skip 23 (some 73) rfl rfl (by kernel_rfl) (by kernel_rfl) (by kernel_rfl) (fun _ _ _ h => h) (by kernel_rfl) (by assumption) ?_
          try simp only [Act.put, List.setIfInBounds_toArray, List.set_cons_zero, List.set_cons_succ]
          refine h_skip 24 (some 74) rfl rfl (by kernel_rfl) (by kernel_rfl) (by kernel_rfl) (fun _ _ _ h => h) (by kernel_rfl) (by assumption) ?_
          try simp only [Act.put, List.setIfInBounds_toArray, List.set_cons_zero, List.set_cons_succ]
          refine h_skip 25 (some 75) rfl rfl (by kernel_rfl) (by kernel_rfl) (by kernel_rfl) (fun _ _ _ h => h) (by kernel_rfl) (by assumption) ?_
          try simp only [Act.put, List.setIfInBounds_toArray, List.set_cons_zero, List.set_cons_succ]
          refine h_skip 26 (some 76) rfl rfl (by kernel_rfl) (by kernel_rfl) (by kernel_rfl) (fun _ _ _ h => h) (by kernel_rfl) (by assumption) ?_
          try simp only [Act.put, List.setIfInBounds_toArray, List.set_cons_zero, List.set_cons_succ]
          refine h_skip 27 (some 77) rfl rfl (by kernel_rfl) (by kernel_rfl) (by kernel_rfl) (fun _ _ _ h => h) (by kernel_rfl) (by assumption) ?_
          try simp only [Act.put, List.setIfInBounds_toArray, List.set_cons_zero, List.set_cons_succ]
          refine h_take 28 (some 78) (.bool false) rfl rfl (by kernel_rfl) (by kernel_rfl) (by kernel_rfl) (fun _ _ _ h => h) (by kernel_rfl) ?_ (by assumption) ?_
          · intro w hSw; (try dsimp only at hSw); go_simp
            all_goals first | with_reducible rfl | omega | (simp; omega)
          try simp only [Act.put, List.setIfInBounds_toArray, List.set_cons_zero, List.set_cons_succ]
          refine h_take 29 (some 79) (.bool false) rfl rfl (by kernel_rfl) (by kernel_rfl) (by kernel_rfl) (fun _ _ _ h => h) (by kernel_rfl) ?_ (by assumption) ?_
          · intro w hSw; (try dsimp only at hSw); go_simp
            all_goals first | with_reducible rfl | omega | (simp; omega)
          try simp only [Act.put, List.setIfInBounds_toArray, List.set_cons_zero, List.set_cons_succ]
          refine wpAnyH_done (by kernel_rfl) ?_ _
          go_wp2_with fail
          have hnb : ∀ b', b' < w.heap.size + 1 + 1 → (Value.slice Au acc.length cu).ownBlock ≠ some b' := fun b' h he => by have := (World.ownsRow.lt ho _ he).1; omega
          have hb2w : b2 < w.heap.size := Nat.lt_of_lt_of_le hb2 hr2.1
          have hod : OwnT bC 4 v.drew.drew (w.heap.size + 1 + 1) 49 (.slice Au acc.length cu) acc := ho
          refine wp_region_held_drew (S := (fun w' => w'.cell? ⟨wr.heap.size, 1, none⟩ = some (.string es) ∧ w'.cell? ⟨w.heap.size + 1, 1, none⟩ = some (.slice (some ⟨b2, o2, none⟩) n c2) ∧ w'.cell? ⟨b2, o2 + k * 3, none⟩ = some (.int .i64 fk) ∧ w'.cell? ⟨b2, o2 + k * 3 + 1, none⟩ = some (.int .i64 fn) ∧ w'.cell? ⟨b2, o2 + k * 3 + 2, none⟩ = some (.string ft))) (by kernel_rfl) ?_ (fun hHeld => ?_)
          · (try dsimp only) <;> (first | exact ⟨a1, y1, q0, q1, q2⟩ | exact ⟨hg6.cell (a := ⟨wr.heap.size, 1, none⟩) hHeld.1 (fun e => hnw e.symm), hg6.cell (a := ⟨w.heap.size + 1, 1, none⟩) hHeld.2.1 (fun e => hnb (w.heap.size + 1) (by omega) e.symm), hg6.cell (a := ⟨b2, o2 + k * 3, none⟩) hHeld.2.2.1 (fun e => hnb b2 (by omega) e.symm), hg6.cell (a := ⟨b2, o2 + k * 3 + 1, none⟩) hHeld.2.2.2.1 (fun e => hnb b2 (by omega) e.symm), hg6.cell (a := ⟨b2, o2 + k * 3 + 2, none⟩) hHeld.2.2.2.2 (fun e => hnb b2 (by omega) e.symm)⟩ | exact ⟨old_cell (bel_alloc (bel_refl _) _) hHeld.1, old_cell (bel_alloc (bel_refl _) _) hHeld.2.1, old_cell (bel_alloc (bel_refl _) _) hHeld.2.2.1, old_cell (bel_alloc (bel_refl _) _) hHeld.2.2.2.1, old_cell (bel_alloc (bel_refl _) _) hHeld.2.2.2.2⟩)
          refine h_take 0 (some 90) (?_) rfl rfl (by kernel_rfl) (by kernel_rfl) (by kernel_rfl) (fun _ _ _ h => h) (by kernel_rfl) ?_ (by assumption) ?_
          rotate_left
          · intro w hSw; (try dsimp only at hSw); go_simp
            all_goals first | with_reducible rfl | omega | (simp; omega)
          try simp only [Act.put, List.setIfInBounds_toArray, List.set_cons_zero, List.set_cons_succ]
          refine h_take 1 (some 91) (?_) rfl rfl (by kernel_rfl) (by kernel_rfl) (by kernel_rfl) (fun _ _ _ h => h) (by kernel_rfl) ?_ (by assumption) ?_
          rotate_left
          · intro w hSw; (try dsimp only at hSw); go_simp
            all_goals first | with_reducible rfl | omega | (simp; omega)
          try simp only [Act.put, List.setIfInBounds_toArray, List.set_cons_zero, List.set_cons_succ]
          refine h_take 2 (some 92) (?_) rfl rfl (by kernel_rfl) (by kernel_rfl) (by kernel_rfl) (fun _ _ _ h => h) (by kernel_rfl) ?_ (by assumption) ?_
          rotate_left
          · intro w hSw; (try dsimp only at hSw); go_simp
            all_goals first | with_reducible rfl | omega | (simp; omega)
          try simp only [Act.put, List.setIfInBounds_toArray, List.set_cons_zero, List.set_cons_succ]
          refine h_take 3 (some 93) (?_) rfl rfl (by kernel_rfl) (by kernel_rfl) (by kernel_rfl) (fun _ _ _ h => h) (by kernel_rfl) ?_ (by assumption) ?_
          rotate_left
          · intro w hSw; (try dsimp only at hSw); go_simp
            all_goals first | with_reducible rfl | omega | (simp; omega)
          try simp only [Act.put, List.setIfInBounds_toArray, List.set_cons_zero, List.set_cons_succ]
          refine h_take 4 (some 94) (?_) rfl rfl (by kernel_rfl) (by kernel_rfl) (by kernel_rfl) (fun _ _ _ h => h) (by kernel_rfl) ?_ (by assumption) ?_
          rotate_left
          · intro w hSw; (try dsimp only at hSw); go_simp
            all_goals first | with_reducible rfl | omega | (simp; omega)
          try simp only [Act.put, List.setIfInBounds_toArray, List.set_cons_zero, List.set_cons_succ]
          refine h_take 5 (some 95) (?_) rfl rfl (by kernel_rfl) (by kernel_rfl) (by kernel_rfl) (fun _ _ _ h => h) (by kernel_rfl) ?_ (by assumption) ?_
          rotate_left
          · intro w hSw; (try dsimp only at hSw); go_simp
            all_goals first | with_reducible rfl | omega | (simp; omega)
          try simp only [Act.put, List.setIfInBounds_toArray, List.set_cons_zero, List.set_cons_succ]
          refine h_take 6 (some 96) (?_) rfl rfl (by kernel_rfl) (by kernel_rfl) (by kernel_rfl) (fun _ _ _ h => h) (by kernel_rfl) ?_ (by assumption) ?_
          rotate_left
          · intro w hSw; (try dsimp only at hSw); go_simp
            all_goals first | with_reducible rfl | omega | (simp; omega)
          try simp only [Act.put, List.setIfInBounds_toArray, List.set_cons_zero, List.set_cons_succ]
          refine h_take 7 (some 97) (?_) rfl rfl (by kernel_rfl) (by kernel_rfl) (by kernel_rfl) (fun _ _ _ h => h) (by kernel_rfl) ?_ (by assumption) ?_
          rotate_left
          · intro w hSw; (try dsimp only at hSw); go_simp
            all_goals first | with_reducible rfl | omega | (simp; omega)
          try simp only [Act.put, List.setIfInBounds_toArray, List.set_cons_zero, List.set_cons_succ]
          refine h_take 8 (some 98) (?_) rfl rfl (by kernel_rfl) (by kernel_rfl) (by kernel_rfl) (fun _ _ _ h => h) (by kernel_rfl) ?_ (by assumption) ?_
          rotate_left
          · intro w hSw; (try dsimp only at hSw); go_simp
            all_goals first | with_reducible rfl | omega | (simp; omega)
          try simp only [Act.put, List.setIfInBounds_toArray, List.set_cons_zero, List.set_cons_succ]
          refine h_call 9 (by kernel_rfl) rfl (by kernel_rfl) (fun K hK => ?_)
          go_simp
          refine hK.out _ _ ?_ (fun hHeld => ?_)
          · (try dsimp only) <;> (first | exact ⟨a1, y1, q0, q1, q2⟩ | exact ⟨hg6.cell (a := ⟨wr.heap.size, 1, none⟩) hHeld.1 (fun e => hnw e.symm), hg6.cell (a := ⟨w.heap.size + 1, 1, none⟩) hHeld.2.1 (fun e => hnb (w.heap.size + 1) (by omega) e.symm), hg6.cell (a := ⟨b2, o2 + k * 3, none⟩) hHeld.2.2.1 (fun e => hnb b2 (by omega) e.symm), hg6.cell (a := ⟨b2, o2 + k * 3 + 1, none⟩) hHeld.2.2.2.1 (fun e => hnb b2 (by omega) e.symm), hg6.cell (a := ⟨b2, o2 + k * 3 + 2, none⟩) hHeld.2.2.2.2 (fun e => hnb b2 (by omega) e.symm)⟩ | exact ⟨old_cell (bel_alloc (bel_refl _) _) hHeld.1, old_cell (bel_alloc (bel_refl _) _) hHeld.2.1, old_cell (bel_alloc (bel_refl _) _) hHeld.2.2.1, old_cell (bel_alloc (bel_refl _) _) hHeld.2.2.2.1, old_cell (bel_alloc (bel_refl _) _) hHeld.2.2.2.2⟩)
          clear hK K
          try simp only [Act.put, List.setIfInBounds_toArray, List.set_cons_zero, List.set_cons_succ]
          refine h_call 10 (by kernel_rfl) rfl (by kernel_rfl) (fun K hK => ?_)
          refine appG (.tmp 90) (.tmp 99) _ rfl bC_sz (w.heap.size + 1 + 1) 49 i0 Try.underlying30 HI.out hz0 hz1 hz2 rfl (by omega) _ acc rfl (hod.alloc _) _ 1 1 [⟨es, ⟨fk, fn, ft⟩⟩] rfl (RdT.new1 bC_sz v.drew.drew 49 ⟨es, ⟨fk, fn, ft⟩⟩) (bC_one _) (by omega) (by simp; omega) ?_
          intro v' w6 ho6 hb6 hg6
          change K (Act.put _ (some 100) _) _
          refine hK.out _ _ ?_ (fun hHeld => ?_)
          · (try dsimp only) <;> (first | exact ⟨a1, y1, q0, q1, q2⟩ | exact ⟨hg6.cell (a := ⟨wr.heap.size, 1, none⟩) hHeld.1 (fun e => hnw e.symm), hg6.cell (a := ⟨w.heap.size + 1, 1, none⟩) hHeld.2.1 (fun e => hnb (w.heap.size + 1) (by omega) e.symm), hg6.cell (a := ⟨b2, o2 + k * 3, none⟩) hHeld.2.2.1 (fun e => hnb b2 (by omega) e.symm), hg6.cell (a := ⟨b2, o2 + k * 3 + 1, none⟩) hHeld.2.2.2.1 (fun e => hnb b2 (by omega) e.symm), hg6.cell (a := ⟨b2, o2 + k * 3 + 2, none⟩) hHeld.2.2.2.2 (fun e => hnb b2 (by omega) e.symm)⟩ | exact ⟨old_cell (bel_alloc (bel_refl _) _) hHeld.1, old_cell (bel_alloc (bel_refl _) _) hHeld.2.1, old_cell (bel_alloc (bel_refl _) _) hHeld.2.2.1, old_cell (bel_alloc (bel_refl _) _) hHeld.2.2.2.1, old_cell (bel_alloc (bel_refl _) _) hHeld.2.2.2.2⟩)
          clear hK K
          try simp only [Act.put, List.setIfInBounds_toArray, List.set_cons_zero, List.set_cons_succ]
          refine h_take 11 (some 8) (?_) rfl rfl (by kernel_rfl) (by kernel_rfl) (by kernel_rfl) (fun _ _ _ h => h) (by kernel_rfl) ?_ (by assumption) ?_
          rotate_left
          · intro w hSw; (try dsimp only at hSw); go_simp
            all_goals first | with_reducible rfl | omega | (simp; omega)
          try simp only [Act.put, List.setIfInBounds_toArray, List.set_cons_zero, List.set_cons_succ]
          refine wpAnyH_done (by kernel_rfl) ?_ _
          have hb7 : Below w.heap.size w w6 := (bel_alloc (bel_drew (bel_drew hbel)) _).trans (hb6.mono (by omega))
          have x7 : w6.cell? ⟨w.heap.size, 1, none⟩ = some (.slice (some ⟨b, o, none⟩) n c) := (hb6.cell (p := ⟨w.heap.size, 1, none⟩) (by simp; omega)).trans (old_cell (bel_alloc (bel_refl _) _) x1)
          have y7 := hHeld.2.1
          have hs6 := hg6.size
          simp at hs6
          go_wp2
          go_roundw
          case rel => exact ⟨k + 1, acc ++ [⟨es, ⟨fk, fn, ft⟩⟩], by omega, by go_num, by rw [List.length_append]; simp; omega, HST.out.symm, ho6, hb7, x7, y7, by omega⟩
          case measure => simp [intOf]; omega
        · rcases vl_split ⟨bk, bn, bt⟩ ⟨fk, fn, ft⟩ with heq | ⟨hne, hmis⟩
          · have hst2 : R = mgo (gs.drop (k + 1)) (fs.drop (k + 1)) acc := by rw [hst]; unfold mstep; simp only; rw [if_neg (by decide : ¬ (1:Int) = 2), if_pos trivial, hbo]; simp only; rw [if_pos heq]; rfl
            simp only [Vl.mk.injEq] at heq
            obtain ⟨rfl, rfl, rfl⟩ := heq
            have HST := Lib.hid hst2; clear hst hst2 hbo
            refine wp_region_held_drew (S := (fun w' => Below v.heap.size v w' ∧ w'.cell? ⟨wr.heap.size, 0, none⟩ = some (.int .i64 1) ∧ w'.cell? ⟨wr.heap.size, 1, none⟩ = some (.string es) ∧ w'.cell? ⟨wr.heap.size, 2, none⟩ = some (.int .i64 evk) ∧ w'.cell? ⟨wr.heap.size, 3, none⟩ = some (.int .i64 evn) ∧ w'.cell? ⟨wr.heap.size, 4, none⟩ = some (.string evs) ∧ w'.cell? ⟨w.heap.size + 1, 1, none⟩ = some (.slice (some ⟨b2, o2, none⟩) n c2) ∧ w'.cell? ⟨w3.heap.size, 0, none⟩ = some (.int .i64 bk) ∧ w'.cell? ⟨w3.heap.size, 1, none⟩ = some (.int .i64 bn) ∧ w'.cell? ⟨w3.heap.size, 2, none⟩ = some (.string bt) ∧ w'.cell? ⟨b2, o2 + k * 3, none⟩ = some (.int .i64 bk) ∧ w'.cell? ⟨b2, o2 + k * 3 + 1, none⟩ = some (.int .i64 bn) ∧ w'.cell? ⟨b2, o2 + k * 3 + 2, none⟩ = some (.string bt))) (by kernel_rfl) ?_ (fun hHeld => ?_)
            · (try dsimp only) <;> (exact ⟨bel_drew (bel_refl _), a0, a1, a2, a3, a4, y1, v0, v1, v2, q0, q1, q2⟩)
            refine h_take 0 (some 50) (?_) rfl rfl (by kernel_rfl) (by kernel_rfl) (by kernel_rfl) (fun _ _ _ h => h) (by kernel_rfl) ?_ (by assumption) ?_
            rotate_left
            · intro w hSw; (try dsimp only at hSw); go_simp
              all_goals first | with_reducible rfl | omega | (simp; omega)
            try simp only [Act.put, List.setIfInBounds_toArray, List.set_cons_zero, List.set_cons_succ]
            refine h_take 1 (some 51) (?_) rfl rfl (by kernel_rfl) (by kernel_rfl) (by kernel_rfl) (fun _ _ _ h => h) (by kernel_rfl) ?_ (by assumption) ?_
            rotate_left
            · intro w hSw; (try dsimp only at hSw); go_simp
              all_goals first | with_reducible rfl | omega | (simp; omega)
            try simp only [Act.put, List.setIfInBounds_toArray, List.set_cons_zero, List.set_cons_succ]
            refine h_take 2 (some 52) (.bool false) rfl rfl (by kernel_rfl) (by kernel_rfl) (by kernel_rfl) (fun _ _ _ h => h) (by kernel_rfl) ?_ (by assumption) ?_
            · intro w hSw; (try dsimp only at hSw); go_simp
              all_goals first | with_reducible rfl | omega | (simp; omega)
            try simp only [Act.put, List.setIfInBounds_toArray, List.set_cons_zero, List.set_cons_succ]
            refine h_take 3 (some 53) (.bool false) rfl rfl (by kernel_rfl) (by kernel_rfl) (by kernel_rfl) (fun _ _ _ h => h) (by kernel_rfl) ?_ (by assumption) ?_
            · intro w hSw; (try dsimp only at hSw); go_simp
              all_goals first | with_reducible rfl | omega | (simp; omega)
            try simp only [Act.put, List.setIfInBounds_toArray, List.set_cons_zero, List.set_cons_succ]
            refine h_skip 4 (some 54) rfl rfl (by kernel_rfl) (by kernel_rfl) (by kernel_rfl) (fun _ _ _ h => h) (by kernel_rfl) (by assumption) ?_
            try simp only [Act.put, List.setIfInBounds_toArray, List.set_cons_zero, List.set_cons_succ]
            refine h_skip 5 (some 55) rfl rfl (by kernel_rfl) (by kernel_rfl) (by kernel_rfl) (fun _ _ _ h => h) (by kernel_rfl) (by assumption) ?_
            try simp only [Act.put, List.setIfInBounds_toArray, List.set_cons_zero, List.set_cons_succ]
            refine h_skip 6 (some 56) rfl rfl (by kernel_rfl) (by kernel_rfl) (by kernel_rfl) (fun _ _ _ h => h) (by kernel_rfl) (by assumption) ?_
            try simp only [Act.put, List.setIfInBounds_toArray, List.set_cons_zero, List.set_cons_succ]
            refine h_skip 7 (some 57) rfl rfl (by kernel_rfl) (by kernel_rfl) (by kernel_rfl) (fun _ _ _ h => h) (by kernel_rfl) (by assumption) ?_
            try simp only [Act.put, List.setIfInBounds_toArray, List.set_cons_zero, List.set_cons_succ]
            refine h_skip 8 (some 58) rfl rfl (by kernel_rfl) (by kernel_rfl) (by kernel_rfl) (fun _ _ _ h => h) (by kernel_rfl) (by assumption) ?_
            try simp only [Act.put, List.setIfInBounds_toArray, List.set_cons_zero, List.set_cons_succ]
            refine h_skip 9 (some 59) rfl rfl (by kernel_rfl) (by kernel_rfl) (by kernel_rfl) (fun _ _ _ h => h) (by kernel_rfl) (by assumption) ?_
            try simp only [Act.put, List.setIfInBounds_toArray, List.set_cons_zero, List.set_cons_succ]
            refine h_skip 10 (some 60) rfl rfl (by kernel_rfl) (by kernel_rfl) (by kernel_rfl) (fun _ _ _ h => h) (by kernel_rfl) (by assumption) ?_
            try simp only [Act.put, List.setIfInBounds_toArray, List.set_cons_zero, List.set_cons_succ]
            refine h_skip 11 (some 61) rfl rfl (by kernel_rfl) (by kernel_rfl) (by kernel_rfl) (fun _ _ _ h => h) (by kernel_rfl) (by assumption) ?_
            try simp only [Act.put, List.setIfInBounds_toArray, List.set_cons_zero, List.set_cons_succ]
            refine h_take 12 (some 62) (.bool false) rfl rfl (by kernel_rfl) (by kernel_rfl) (by kernel_rfl) (fun _ _ _ h => h) (by kernel_rfl) ?_ (by assumption) ?_
            · intro w hSw; (try dsimp only at hSw); go_simp
              all_goals first | with_reducible rfl | omega | (simp; omega)
            try simp only [Act.put, List.setIfInBounds_toArray, List.set_cons_zero, List.set_cons_succ]
            refine h_take 13 (some 63) (.bool false) rfl rfl (by kernel_rfl) (by kernel_rfl) (by kernel_rfl) (fun _ _ _ h => h) (by kernel_rfl) ?_ (by assumption) ?_
            · intro w hSw; (try dsimp only at hSw); go_simp
              all_goals first | with_reducible rfl | omega | (simp; omega)
            try simp only [Act.put, List.setIfInBounds_toArray, List.set_cons_zero, List.set_cons_succ]
            refine h_take 14 (some 64) (?_) rfl rfl (by kernel_rfl) (by kernel_rfl) (by kernel_rfl) (fun _ _ _ h => h) (by kernel_rfl) ?_ (by assumption) ?_
            rotate_left
            · intro w hSw; (try dsimp only at hSw); go_simp
              all_goals first | with_reducible rfl | omega | (simp; omega)
            try simp only [Act.put, List.setIfInBounds_toArray, List.set_cons_zero, List.set_cons_succ]
            refine h_take 15 (some 65) (?_) rfl rfl (by kernel_rfl) (by kernel_rfl) (by kernel_rfl) (fun _ _ _ h => h) (by kernel_rfl) ?_ (by assumption) ?_
            rotate_left
            · intro w hSw; (try dsimp only at hSw); go_simp
              all_goals first | with_reducible rfl | omega | (simp; omega)
            try simp only [Act.put, List.setIfInBounds_toArray, List.set_cons_zero, List.set_cons_succ]
            refine h_take 16 (some 66) (.bool true) rfl rfl (by kernel_rfl) (by kernel_rfl) (by kernel_rfl) (fun _ _ _ h => h) (by kernel_rfl) ?_ (by assumption) ?_
            · intro w hSw; (try dsimp only at hSw); go_simp
              all_goals first | with_reducible rfl | omega | (simp; omega)
            try simp only [Act.put, List.setIfInBounds_toArray, List.set_cons_zero, List.set_cons_succ]
            refine h_take 17 (some 67) (.bool true) rfl rfl (by kernel_rfl) (by kernel_rfl) (by kernel_rfl) (fun _ _ _ h => h) (by kernel_rfl) ?_ (by assumption) ?_
            · intro w hSw; (try dsimp only at hSw); go_simp
              all_goals first | with_reducible rfl | omega | (simp; omega)
            try simp only [Act.put, List.setIfInBounds_toArray, List.set_cons_zero, List.set_cons_succ]
            refine h_take 18 (some 68) (.bool true) rfl rfl (by kernel_rfl) (by kernel_rfl) (by kernel_rfl) (fun _ _ _ h => h) (by kernel_rfl) ?_ (by assumption) ?_
            · intro w hSw; (try dsimp only at hSw); go_simp
              all_goals first | with_reducible rfl | omega | (simp; omega)
            try simp only [Act.put, List.setIfInBounds_toArray, List.set_cons_zero, List.set_cons_succ]
            refine h_take 19 (some 69) (.bool true) rfl rfl (by kernel_rfl) (by kernel_rfl) (by kernel_rfl) (fun _ _ _ h => h) (by kernel_rfl) ?_ (by assumption) ?_
            · intro w hSw; (try dsimp only at hSw); go_simp
              all_goals first | with_reducible rfl | omega | (simp; omega)
            try simp only [Act.put, List.setIfInBounds_toArray, List.set_cons_zero, List.set_cons_succ]
            refine h_take 20 (some 70) (.bool true) rfl rfl (by kernel_rfl) (by kernel_rfl) (by kernel_rfl) (fun _ _ _ h => h) (by kernel_rfl) ?_ (by assumption) ?_
            · intro w hSw; (try dsimp only at hSw); go_simp
              all_goals first | with_reducible rfl | omega | (simp; omega)
            try simp only [Act.put, List.setIfInBounds_toArray, List.set_cons_zero, List.set_cons_succ]
            refine h_take 21 (some 71) (?_) rfl rfl (by kernel_rfl) (by kernel_rfl) (by kernel_rfl) (fun _ _ _ h => h) (by kernel_rfl) ?_ (by assumption) ?_
            rotate_left
            · intro w hSw; (try dsimp only at hSw); go_simp
              all_goals first | with_reducible rfl | omega | (simp; omega)
            try simp only [Act.put, List.setIfInBounds_toArray, List.set_cons_zero, List.set_cons_succ]
            refine h_take 22 (some 72) (?_) rfl rfl (by kernel_rfl) (by kernel_rfl) (by kernel_rfl) (fun _ _ _ h => h) (by kernel_rfl) ?_ (by assumption) ?_
            rotate_left
            · intro w hSw; (try dsimp only at hSw); go_simp
              all_goals first | with_reducible rfl | omega | (simp; omega)
            try simp only [Act.put, List.setIfInBounds_toArray, List.set_cons_zero, List.set_cons_succ]
            refine h_take 23 (some 73) (?_) rfl rfl (by kernel_rfl) (by kernel_rfl) (by kernel_rfl) (fun _ _ _ h => h) (by kernel_rfl) ?_ (by assumption) ?_
            rotate_left
            · intro w hSw; (try dsimp only at hSw); go_simp
              all_goals first | with_reducible rfl | omega | (simp; omega)
            try simp only [Act.put, List.setIfInBounds_toArray, List.set_cons_zero, List.set_cons_succ]
            refine h_take 24 (some 74) (?_) rfl rfl (by kernel_rfl) (by kernel_rfl) (by kernel_rfl) (fun _ _ _ h => h) (by kernel_rfl) ?_ (by assumption) ?_
            rotate_left
            · intro w hSw; (try dsimp only at hSw); go_simp
              all_goals first | with_reducible rfl | omega | (simp; omega)
            try simp only [Act.put, List.setIfInBounds_toArray, List.set_cons_zero, List.set_cons_succ]
            refine h_take 25 (some 75) (?_) rfl rfl (by kernel_rfl) (by kernel_rfl) (by kernel_rfl) (fun _ _ _ h => h) (by kernel_rfl) ?_ (by assumption) ?_
            rotate_left
            · intro w hSw; (try dsimp only at hSw); go_simp
              all_goals first | with_reducible rfl | omega | (simp; omega)
            try simp only [Act.put, List.setIfInBounds_toArray, List.set_cons_zero, List.set_cons_succ]
            refine h_take 26 (some 76) (?_) rfl rfl (by kernel_rfl) (by kernel_rfl) (by kernel_rfl) (fun _ _ _ h => h) (by kernel_rfl) ?_ (by assumption) ?_
            rotate_left
            · intro w hSw; (try dsimp only at hSw); go_simp
              all_goals first | with_reducible rfl | omega | (simp; omega)
            try simp only [Act.put, List.setIfInBounds_toArray, List.set_cons_zero, List.set_cons_succ]
            refine h_take 27 (some 77) (.bool false) rfl rfl (by kernel_rfl) (by kernel_rfl) (by kernel_rfl) (fun _ _ _ h => h) (by kernel_rfl) ?_ (by assumption) ?_
            · intro w hSw; (try dsimp only at hSw); go_simp
              all_goals first | with_reducible rfl | omega | (simp; omega)
            try simp only [Act.put, List.setIfInBounds_toArray, List.set_cons_zero, List.set_cons_succ]
            refine h_take 28 (some 78) (.bool false) rfl rfl (by kernel_rfl) (by kernel_rfl) (by kernel_rfl) (fun _ _ _ h => h) (by kernel_rfl) ?_ (by assumption) ?_
            · intro w hSw; (try dsimp only at hSw); go_simp
              all_goals first | with_reducible rfl | omega | (simp; omega)
            try simp only [Act.put, List.setIfInBounds_toArray, List.set_cons_zero, List.set_cons_succ]
            refine h_take 29 (some 79) (.bool false) rfl rfl (by kernel_rfl) (by kernel_rfl) (by kernel_rfl) (fun _ _ _ h => h) (by kernel_rfl) ?_ (by assumption) ?_
            · intro w hSw; (try dsimp only at hSw); go_simp
              all_goals first | with_reducible rfl | omega | (simp; omega)
            try simp only [Act.put, List.setIfInBounds_toArray, List.set_cons_zero, List.set_cons_succ]
            refine wpAnyH_done (by kernel_rfl) ?_ _
            have hdr := bel_drew (bel_refl v)
            go_wp2
            go_roundw
            case rel => exact ⟨k + 1, acc, by omega, by go_num, by omega, HST.out.symm, ho, bel_drew hbel, x1, y1, by simp only [drew_size'']; omega⟩
            case measure => simp [intOf]; omega
          · have hst2 : R = none := by rw [hst]; unfold mstep; simp only; rw [if_neg (by decide : ¬ (1:Int) = 2), if_pos trivial, hbo]; simp only; rw [if_neg hne]; rfl
            have HST := Lib.hid hst2; clear hst hst2 hne hbo
            have hfr := HFIN.out
            rw [HST.out] at hfr
            simp only [mfin, Prod.mk.injEq] at hfr
            obtain ⟨rfl, rfl⟩ := hfr
            rcases hmis with hm | ⟨rfl, hm⟩ | ⟨rfl, rfl, hm⟩
            · dsimp only at hm
              refine wp_region_held_drew (S := (fun w' => Below v.heap.size v w' ∧ w'.cell? ⟨wr.heap.size, 0, none⟩ = some (.int .i64 1) ∧ w'.cell? ⟨wr.heap.size, 1, none⟩ = some (.string es) ∧ w'.cell? ⟨wr.heap.size, 2, none⟩ = some (.int .i64 evk) ∧ w'.cell? ⟨wr.heap.size, 3, none⟩ = some (.int .i64 evn) ∧ w'.cell? ⟨wr.heap.size, 4, none⟩ = some (.string evs) ∧ w'.cell? ⟨w.heap.size + 1, 1, none⟩ = some (.slice (some ⟨b2, o2, none⟩) n c2) ∧ w'.cell? ⟨w3.heap.size, 0, none⟩ = some (.int .i64 bk) ∧ w'.cell? ⟨w3.heap.size, 1, none⟩ = some (.int .i64 bn) ∧ w'.cell? ⟨w3.heap.size, 2, none⟩ = some (.string bt) ∧ w'.cell? ⟨b2, o2 + k * 3, none⟩ = some (.int .i64 fk) ∧ w'.cell? ⟨b2, o2 + k * 3 + 1, none⟩ = some (.int .i64 fn) ∧ w'.cell? ⟨b2, o2 + k * 3 + 2, none⟩ = some (.string ft))) (by kernel_rfl) ?_ (fun hHeld => ?_)
              · (try dsimp only) <;> (exact ⟨bel_drew (bel_refl _), a0, a1, a2, a3, a4, y1, v0, v1, v2, q0, q1, q2⟩)
              refine h_take 0 (some 50) (?_) rfl rfl (by kernel_rfl) (by kernel_rfl) (by kernel_rfl) (fun _ _ _ h => h) (by kernel_rfl) ?_ (by assumption) ?_
              rotate_left
              · intro w hSw; (try dsimp only at hSw); go_simp
                all_goals first | with_reducible rfl | omega | (simp; omega)
              try simp only [Act.put, List.setIfInBounds_toArray, List.set_cons_zero, List.set_cons_succ]
              refine h_take 1 (some 51) (?_) rfl rfl (by kernel_rfl) (by kernel_rfl) (by kernel_rfl) (fun _ _ _ h => h) (by kernel_rfl) ?_ (by assumption) ?_
              rotate_left
              · intro w hSw; (try dsimp only at hSw); go_simp
                all_goals first | with_reducible rfl | omega | (simp; omega)
              try simp only [Act.put, List.setIfInBounds_toArray, List.set_cons_zero, List.set_cons_succ]
              refine h_take 2 (some 52) (.bool false) rfl rfl (by kernel_rfl) (by kernel_rfl) (by kernel_rfl) (fun _ _ _ h => h) (by kernel_rfl) ?_ (by assumption) ?_
              · intro w hSw; (try dsimp only at hSw); go_simp
                all_goals first | with_reducible rfl | omega | (simp; omega)
              try simp only [Act.put, List.setIfInBounds_toArray, List.set_cons_zero, List.set_cons_succ]
              refine h_take 3 (some 53) (.bool false) rfl rfl (by kernel_rfl) (by kernel_rfl) (by kernel_rfl) (fun _ _ _ h => h) (by kernel_rfl) ?_ (by assumption) ?_
              · intro w hSw; (try dsimp only at hSw); go_simp
                all_goals first | with_reducible rfl | omega | (simp; omega)
              try simp only [Act.put, List.setIfInBounds_toArray, List.set_cons_zero, List.set_cons_succ]
              refine h_skip 4 (some 54) rfl rfl (by kernel_rfl) (by kernel_rfl) (by kernel_rfl) (fun _ _ _ h => h) (by kernel_rfl) (by assumption) ?_
              try simp only [Act.put, List.setIfInBounds_toArray, List.set_cons_zero, List.set_cons_succ]
              refine h_skip 5 (some 55) rfl rfl (by kernel_rfl) (by kernel_rfl) (by kernel_rfl) (fun _ _ _ h => h) (by kernel_rfl) (by assumption) ?_
              try simp only [Act.put, List.setIfInBounds_toArray, List.set_cons_zero, List.set_cons_succ]
              refine h_skip 6 (some 56) rfl rfl (by kernel_rfl) (by kernel_rfl) (by kernel_rfl) (fun _ _ _ h => h) (by kernel_rfl) (by assumption) ?_
              try simp only [Act.put, List.setIfInBounds_toArray, List.set_cons_zero, List.set_cons_succ]
              refine h_skip 7 (some 57) rfl rfl (by kernel_rfl) (by kernel_rfl) (by kernel_rfl) (fun _ _ _ h => h) (by kernel_rfl) (by assumption) ?_
              try simp only [Act.put, List.setIfInBounds_toArray, List.set_cons_zero, List.set_cons_succ]
              refine h_skip 8 (some 58) rfl rfl (by kernel_rfl) (by kernel_rfl) (by kernel_rfl) (fun _ _ _ h => h) (by kernel_rfl) (by assumption) ?_
              try simp only [Act.put, List.setIfInBounds_toArray, List.set_cons_zero, List.set_cons_succ]
              refine h_skip 9 (some 59) rfl rfl (by kernel_rfl) (by kernel_rfl) (by kernel_rfl) (fun _ _ _ h => h) (by kernel_rfl) (by assumption) ?_
              try simp only [Act.put, List.setIfInBounds_toArray, List.set_cons_zero, List.set_cons_succ]
              refine h_skip 10 (some 60) rfl rfl (by kernel_rfl) (by kernel_rfl) (by kernel_rfl) (fun _ _ _ h => h) (by kernel_rfl) (by assumption) ?_
              try simp only [Act.put, List.setIfInBounds_toArray, List.set_cons_zero, List.set_cons_succ]
              refine h_skip 11 (some 61) rfl rfl (by kernel_rfl) (by kernel_rfl) (by kernel_rfl) (fun _ _ _ h => h) (by kernel_rfl) (by assumption) ?_
              try simp only [Act.put, List.setIfInBounds_toArray, List.set_cons_zero, List.set_cons_succ]
              refine h_take 12 (some 62) (.bool false) rfl rfl (by kernel_rfl) (by kernel_rfl) (by kernel_rfl) (fun _ _ _ h => h) (by kernel_rfl) ?_ (by assumption) ?_
              · intro w hSw; (try dsimp only at hSw); go_simp
                all_goals first | with_reducible rfl | omega | (simp; omega)
              try simp only [Act.put, List.setIfInBounds_toArray, List.set_cons_zero, List.set_cons_succ]
              refine h_take 13 (some 63) (.bool false) rfl rfl (by kernel_rfl) (by kernel_rfl) (by kernel_rfl) (fun _ _ _ h => h) (by kernel_rfl) ?_ (by assumption) ?_
              · intro w hSw; (try dsimp only at hSw); go_simp
                all_goals first | with_reducible rfl | omega | (simp; omega)
              try simp only [Act.put, List.setIfInBounds_toArray, List.set_cons_zero, List.set_cons_succ]
              refine h_take 14 (some 64) (?_) rfl rfl (by kernel_rfl) (by kernel_rfl) (by kernel_rfl) (fun _ _ _ h => h) (by kernel_rfl) ?_ (by assumption) ?_
              rotate_left
              · intro w hSw; (try dsimp only at hSw); go_simp
                all_goals first | with_reducible rfl | omega | (simp; omega)
              try simp only [Act.put, List.setIfInBounds_toArray, List.set_cons_zero, List.set_cons_succ]
              refine h_take 15 (some 65) (?_) rfl rfl (by kernel_rfl) (by kernel_rfl) (by kernel_rfl) (fun _ _ _ h => h) (by kernel_rfl) ?_ (by assumption) ?_
              rotate_left
              · intro w hSw; (try dsimp only at hSw); go_simp
                all_goals first | with_reducible rfl | omega | (simp; omega)
              try simp only [Act.put, List.setIfInBounds_toArray, List.set_cons_zero, List.set_cons_succ]
              refine h_take 16 (some 66) (.bool true) rfl rfl (by kernel_rfl) (by kernel_rfl) (by kernel_rfl) (fun _ _ _ h => h) (by kernel_rfl) ?_ (by assumption) ?_
              · intro w hSw; (try dsimp only at hSw); go_simp
                all_goals first | with_reducible rfl | omega | (simp; omega)
              try simp only [Act.put, List.setIfInBounds_toArray, List.set_cons_zero, List.set_cons_succ]
              refine h_take 17 (some 67) (.bool true) rfl rfl (by kernel_rfl) (by kernel_rfl) (by kernel_rfl) (fun _ _ _ h => h) (by kernel_rfl) ?_ (by assumption) ?_
              · intro w hSw; (try dsimp only at hSw); go_simp
                all_goals first | with_reducible rfl | omega | (simp; omega)
              try simp only [Act.put, List.setIfInBounds_toArray, List.set_cons_zero, List.set_cons_succ]
              refine h_take 18 (some 68) (.bool true) rfl rfl (by kernel_rfl) (by kernel_rfl) (by kernel_rfl) (fun _ _ _ h => h) (by kernel_rfl) ?_ (by assumption) ?_
              · intro w hSw; (try dsimp only at hSw); go_simp
                all_goals first | with_reducible rfl | omega | (simp; omega)
              try simp only [Act.put, List.setIfInBounds_toArray, List.set_cons_zero, List.set_cons_succ]
              refine h_take 19 (some 69) (.bool true) rfl rfl (by kernel_rfl) (by kernel_rfl) (by kernel_rfl) (fun _ _ _ h => h) (by kernel_rfl) ?_ (by assumption) ?_
              · intro w hSw; (try dsimp only at hSw); go_simp
                all_goals first | with_reducible rfl | omega | (simp; omega)
              try simp only [Act.put, List.setIfInBounds_toArray, List.set_cons_zero, List.set_cons_succ]
              refine h_take 20 (some 70) (.bool true) rfl rfl (by kernel_rfl) (by kernel_rfl) (by kernel_rfl) (fun _ _ _ h => h) (by kernel_rfl) ?_ (by assumption) ?_
              · intro w hSw; (try dsimp only at hSw); go_simp
                all_goals first | with_reducible rfl | omega | (simp; omega)
              try simp only [Act.put, List.setIfInBounds_toArray, List.set_cons_zero, List.set_cons_succ]
              refine h_take 21 (some 71) (?_) rfl rfl (by kernel_rfl) (by kernel_rfl) (by kernel_rfl) (fun _ _ _ h => h) (by kernel_rfl) ?_ (by assumption) ?_
              rotate_left
              · intro w hSw; (try dsimp only at hSw); go_simp
                all_goals first | with_reducible rfl | omega | (simp; omega)
              try simp only [Act.put, List.setIfInBounds_toArray, List.set_cons_zero, List.set_cons_succ]
              refine h_take 22 (some 72) (?_) rfl rfl (by kernel_rfl) (by kernel_rfl) (by kernel_rfl) (fun _ _ _ h => h) (by kernel_rfl) ?_ (by assumption) ?_
              rotate_left
              · intro w hSw; (try dsimp only at hSw); go_simp
                all_goals first | with_reducible rfl | omega | (simp; omega)
              try simp only [Act.put, List.setIfInBounds_toArray, List.set_cons_zero, List.set_cons_succ]
              refine h_take 23 (some 73) (?_) rfl rfl (by kernel_rfl) (by kernel_rfl) (by kernel_rfl) (fun _ _ _ h => h) (by kernel_rfl) ?_ (by assumption) ?_
              rotate_left
              · intro w hSw; (try dsimp only at hSw); go_simp
                all_goals first | with_reducible rfl | omega | (simp; omega)
              try simp only [Act.put, List.setIfInBounds_toArray, List.set_cons_zero, List.set_cons_succ]
              refine h_take 24 (some 74) (?_) rfl rfl (by kernel_rfl) (by kernel_rfl) (by kernel_rfl) (fun _ _ _ h => h) (by kernel_rfl) ?_ (by assumption) ?_
              rotate_left
              · intro w hSw; (try dsimp only at hSw); go_simp
                all_goals first | with_reducible rfl | omega | (simp; omega)
              try simp only [Act.put, List.setIfInBounds_toArray, List.set_cons_zero, List.set_cons_succ]
              refine h_take 25 (some 75) (?_) rfl rfl (by kernel_rfl) (by kernel_rfl) (by kernel_rfl) (fun _ _ _ h => h) (by kernel_rfl) ?_ (by assumption) ?_
              rotate_left
              · intro w hSw; (try dsimp only at hSw); go_simp
                all_goals first | with_reducible rfl | omega | (simp; omega)
              try simp only [Act.put, List.setIfInBounds_toArray, List.set_cons_zero, List.set_cons_succ]
              refine h_take 26 (some 76) (?_) rfl rfl (by kernel_rfl) (by kernel_rfl) (by kernel_rfl) (fun _ _ _ h => h) (by kernel_rfl) ?_ (by assumption) ?_
              rotate_left
              · intro w hSw; (try dsimp only at hSw); go_simp
                all_goals first | with_reducible rfl | omega | (simp; omega)
              try simp only [Act.put, List.setIfInBounds_toArray, List.set_cons_zero, List.set_cons_succ]
              refine h_take 27 (some 77) (.bool true) rfl rfl (by kernel_rfl) (by kernel_rfl) (by kernel_rfl) (fun _ _ _ h => h) (by kernel_rfl) ?_ (by assumption) ?_
              · intro w hSw; (try dsimp only at hSw); go_simp
                all_goals first | with_reducible rfl | omega | (simp; omega)
              try simp only [Act.put, List.setIfInBounds_toArray, List.set_cons_zero, List.set_cons_succ]
              refine h_take 28 (some 78) (.bool true) rfl rfl (by kernel_rfl) (by kernel_rfl) (by kernel_rfl) (fun _ _ _ h => h) (by kernel_rfl) ?_ (by assumption) ?_
              · intro w hSw; (try dsimp only at hSw); go_simp
                all_goals first | with_reducible rfl | omega | (simp; omega)
              try simp only [Act.put, List.setIfInBounds_toArray, List.set_cons_zero, List.set_cons_succ]
              refine h_take 29 (some 79) (.bool true) rfl rfl (by kernel_rfl) (by kernel_rfl) (by kernel_rfl) (fun _ _ _ h => h) (by kernel_rfl) ?_ (by assumption) ?_
              · intro w hSw; (try dsimp only at hSw); go_simp
                all_goals first | with_reducible rfl | omega | (simp; omega)
              try simp only [Act.put, List.setIfInBounds_toArray, List.set_cons_zero, List.set_cons_succ]
              refine wpAnyH_done (by kernel_rfl) ?_ _
              have hr3d : RdS bC 4 v.drew B3 A3 n3 l := hr3
              have hlit2 : OwnT bC 4 (v.drew.alloc (.cells #[] 49)) v.heap.size 49 (.slice (some ⟨v.heap.size, 0, none⟩) 0 0) [] := lit0 v.drew 49
              go_wp2_with (at_builtin; refine appT rfl (.tmp 80) (.tmp 81) _ rfl bC_sz v.heap.size 49 i0 Try.underlying30 HI.out hz0 hz1 hz2 rfl (by omega) _ [] rfl hlit2 _ n3 c3 l rfl (hr3d.alloc _).2 (bC_one l) (by simp only [List.length_nil]; omega) (by simp) ?_ (by simp only [List.length_nil]; omega); intro v' w5 ho5 hb5 hs5; obtain ⟨A5, c5, rfl, hc5, _⟩ := ho5.form; simp only [List.nil_append] at ho5)
              go_ret2
              exact ⟨A5, c5, rfl, ho5.lower (by omega), (bel_alloc (bel_drew hbel) _).trans (hb5.mono (by omega))⟩
            · dsimp only at hm
              refine wp_region_held_drew (S := (fun w' => Below v.heap.size v w' ∧ w'.cell? ⟨wr.heap.size, 0, none⟩ = some (.int .i64 1) ∧ w'.cell? ⟨wr.heap.size, 1, none⟩ = some (.string es) ∧ w'.cell? ⟨wr.heap.size, 2, none⟩ = some (.int .i64 evk) ∧ w'.cell? ⟨wr.heap.size, 3, none⟩ = some (.int .i64 evn) ∧ w'.cell? ⟨wr.heap.size, 4, none⟩ = some (.string evs) ∧ w'.cell? ⟨w.heap.size + 1, 1, none⟩ = some (.slice (some ⟨b2, o2, none⟩) n c2) ∧ w'.cell? ⟨w3.heap.size, 0, none⟩ = some (.int .i64 bk) ∧ w'.cell? ⟨w3.heap.size, 1, none⟩ = some (.int .i64 bn) ∧ w'.cell? ⟨w3.heap.size, 2, none⟩ = some (.string bt) ∧ w'.cell? ⟨b2, o2 + k * 3, none⟩ = some (.int .i64 bk) ∧ w'.cell? ⟨b2, o2 + k * 3 + 1, none⟩ = some (.int .i64 fn) ∧ w'.cell? ⟨b2, o2 + k * 3 + 2, none⟩ = some (.string ft))) (by kernel_rfl) ?_ (fun hHeld => ?_)
              · (try dsimp only) <;> (exact ⟨bel_drew (bel_refl _), a0, a1, a2, a3, a4, y1, v0, v1, v2, q0, q1, q2⟩)
              refine h_take 0 (some 50) (?_) rfl rfl (by kernel_rfl) (by kernel_rfl) (by kernel_rfl) (fun _ _ _ h => h) (by kernel_rfl) ?_ (by assumption) ?_
              rotate_left
              · intro w hSw; (try dsimp only at hSw); go_simp
                all_goals first | with_reducible rfl | omega | (simp; omega)
              try simp only [Act.put, List.setIfInBounds_toArray, List.set_cons_zero, List.set_cons_succ]
              refine h_take 1 (some 51) (?_) rfl rfl (by kernel_rfl) (by kernel_rfl) (by kernel_rfl) (fun _ _ _ h => h) (by kernel_rfl) ?_ (by assumption) ?_
              rotate_left
              · intro w hSw; (try dsimp only at hSw); go_simp
                all_goals first | with_reducible rfl | omega | (simp; omega)
              try simp only [Act.put, List.setIfInBounds_toArray, List.set_cons_zero, List.set_cons_succ]
              refine h_take 2 (some 52) (.bool false) rfl rfl (by kernel_rfl) (by kernel_rfl) (by kernel_rfl) (fun _ _ _ h => h) (by kernel_rfl) ?_ (by assumption) ?_
              · intro w hSw; (try dsimp only at hSw); go_simp
                all_goals first | with_reducible rfl | omega | (simp; omega)
              try simp only [Act.put, List.setIfInBounds_toArray, List.set_cons_zero, List.set_cons_succ]
              refine h_take 3 (some 53) (.bool false) rfl rfl (by kernel_rfl) (by kernel_rfl) (by kernel_rfl) (fun _ _ _ h => h) (by kernel_rfl) ?_ (by assumption) ?_
              · intro w hSw; (try dsimp only at hSw); go_simp
                all_goals first | with_reducible rfl | omega | (simp; omega)
              try simp only [Act.put, List.setIfInBounds_toArray, List.set_cons_zero, List.set_cons_succ]
              refine h_skip 4 (some 54) rfl rfl (by kernel_rfl) (by kernel_rfl) (by kernel_rfl) (fun _ _ _ h => h) (by kernel_rfl) (by assumption) ?_
              try simp only [Act.put, List.setIfInBounds_toArray, List.set_cons_zero, List.set_cons_succ]
              refine h_skip 5 (some 55) rfl rfl (by kernel_rfl) (by kernel_rfl) (by kernel_rfl) (fun _ _ _ h => h) (by kernel_rfl) (by assumption) ?_
              try simp only [Act.put, List.setIfInBounds_toArray, List.set_cons_zero, List.set_cons_succ]
              refine h_skip 6 (some 56) rfl rfl (by kernel_rfl) (by kernel_rfl) (by kernel_rfl) (fun _ _ _ h => h) (by kernel_rfl) (by assumption) ?_
              try simp only [Act.put, List.setIfInBounds_toArray, List.set_cons_zero, List.set_cons_succ]
              refine h_skip 7 (some 57) rfl rfl (by kernel_rfl) (by kernel_rfl) (by kernel_rfl) (fun _ _ _ h => h) (by kernel_rfl) (by assumption) ?_
              try simp only [Act.put, List.setIfInBounds_toArray, List.set_cons_zero, List.set_cons_succ]
              refine h_skip 8 (some 58) rfl rfl (by kernel_rfl) (by kernel_rfl) (by kernel_rfl) (fun _ _ _ h => h) (by kernel_rfl) (by assumption) ?_
              try simp only [Act.put, List.setIfInBounds_toArray, List.set_cons_zero, List.set_cons_succ]
              refine h_skip 9 (some 59) rfl rfl (by kernel_rfl) (by kernel_rfl) (by kernel_rfl) (fun _ _ _ h => h) (by kernel_rfl) (by assumption) ?_
              try simp only [Act.put, List.setIfInBounds_toArray, List.set_cons_zero, List.set_cons_succ]
              refine h_skip 10 (some 60) rfl rfl (by kernel_rfl) (by kernel_rfl) (by kernel_rfl) (fun _ _ _ h => h) (by kernel_rfl) (by assumption) ?_
              try simp only [Act.put, List.setIfInBounds_toArray, List.set_cons_zero, List.set_cons_succ]
              refine h_skip 11 (some 61) rfl rfl (by kernel_rfl) (by kernel_rfl) (by kernel_rfl) (fun _ _ _ h => h) (by kernel_rfl) (by assumption) ?_
              try simp only [Act.put, List.setIfInBounds_toArray, List.set_cons_zero, List.set_cons_succ]
              refine h_take 12 (some 62) (.bool false) rfl rfl (by kernel_rfl) (by kernel_rfl) (by kernel_rfl) (fun _ _ _ h => h) (by kernel_rfl) ?_ (by assumption) ?_
              · intro w hSw; (try dsimp only at hSw); go_simp
                all_goals first | with_reducible rfl | omega | (simp; omega)
              try simp only [Act.put, List.setIfInBounds_toArray, List.set_cons_zero, List.set_cons_succ]
              refine h_take 13 (some 63) (.bool false) rfl rfl (by kernel_rfl) (by kernel_rfl) (by kernel_rfl) (fun _ _ _ h => h) (by kernel_rfl) ?_ (by assumption) ?_
              · intro w hSw; (try dsimp only at hSw); go_simp
                all_goals first | with_reducible rfl | omega | (simp; omega)
              try simp only [Act.put, List.setIfInBounds_toArray, List.set_cons_zero, List.set_cons_succ]
              refine h_take 14 (some 64) (?_) rfl rfl (by kernel_rfl) (by kernel_rfl) (by kernel_rfl) (fun _ _ _ h => h) (by kernel_rfl) ?_ (by assumption) ?_
              rotate_left
              · intro w hSw; (try dsimp only at hSw); go_simp
                all_goals first | with_reducible rfl | omega | (simp; omega)
              try simp only [Act.put, List.setIfInBounds_toArray, List.set_cons_zero, List.set_cons_succ]
              refine h_take 15 (some 65) (?_) rfl rfl (by kernel_rfl) (by kernel_rfl) (by kernel_rfl) (fun _ _ _ h => h) (by kernel_rfl) ?_ (by assumption) ?_
              rotate_left
              · intro w hSw; (try dsimp only at hSw); go_simp
                all_goals first | with_reducible rfl | omega | (simp; omega)
              try simp only [Act.put, List.setIfInBounds_toArray, List.set_cons_zero, List.set_cons_succ]
              refine h_take 16 (some 66) (.bool true) rfl rfl (by kernel_rfl) (by kernel_rfl) (by kernel_rfl) (fun _ _ _ h => h) (by kernel_rfl) ?_ (by assumption) ?_
              · intro w hSw; (try dsimp only at hSw); go_simp
                all_goals first | with_reducible rfl | omega | (simp; omega)
              try simp only [Act.put, List.setIfInBounds_toArray, List.set_cons_zero, List.set_cons_succ]
              refine h_take 17 (some 67) (.bool true) rfl rfl (by kernel_rfl) (by kernel_rfl) (by kernel_rfl) (fun _ _ _ h => h) (by kernel_rfl) ?_ (by assumption) ?_
              · intro w hSw; (try dsimp only at hSw); go_simp
                all_goals first | with_reducible rfl | omega | (simp; omega)
              try simp only [Act.put, List.setIfInBounds_toArray, List.set_cons_zero, List.set_cons_succ]
              refine h_take 18 (some 68) (.bool true) rfl rfl (by kernel_rfl) (by kernel_rfl) (by kernel_rfl) (fun _ _ _ h => h) (by kernel_rfl) ?_ (by assumption) ?_
              · intro w hSw; (try dsimp only at hSw); go_simp
                all_goals first | with_reducible rfl | omega | (simp; omega)
              try simp only [Act.put, List.setIfInBounds_toArray, List.set_cons_zero, List.set_cons_succ]
              refine h_take 19 (some 69) (.bool true) rfl rfl (by kernel_rfl) (by kernel_rfl) (by kernel_rfl) (fun _ _ _ h => h) (by kernel_rfl) ?_ (by assumption) ?_
              · intro w hSw; (try dsimp only at hSw); go_simp
                all_goals first | with_reducible rfl | omega | (simp; omega)
              try simp only [Act.put, List.setIfInBounds_toArray, List.set_cons_zero, List.set_cons_succ]
              refine h_take 20 (some 70) (.bool true) rfl rfl (by kernel_rfl) (by kernel_rfl) (by kernel_rfl) (fun _ _ _ h => h) (by kernel_rfl) ?_ (by assumption) ?_
              · intro w hSw; (try dsimp only at hSw); go_simp
                all_goals first | with_reducible rfl | omega | (simp; omega)
              try simp only [Act.put, List.setIfInBounds_toArray, List.set_cons_zero, List.set_cons_succ]
              refine h_take 21 (some 71) (?_) rfl rfl (by kernel_rfl) (by kernel_rfl) (by kernel_rfl) (fun _ _ _ h => h) (by kernel_rfl) ?_ (by assumption) ?_
              rotate_left
              · intro w hSw; (try dsimp only at hSw); go_simp
                all_goals first | with_reducible rfl | omega | (simp; omega)
              try simp only [Act.put, List.setIfInBounds_toArray, List.set_cons_zero, List.set_cons_succ]
              refine h_take 22 (some 72) (?_) rfl rfl (by kernel_rfl) (by kernel_rfl) (by kernel_rfl) (fun _ _ _ h => h) (by kernel_rfl) ?_ (by assumption) ?_
              rotate_left
              · intro w hSw; (try dsimp only at hSw); go_simp
                all_goals first | with_reducible rfl | omega | (simp; omega)
              try simp only [Act.put, List.setIfInBounds_toArray, List.set_cons_zero, List.set_cons_succ]
              refine h_take 23 (some 73) (?_) rfl rfl (by kernel_rfl) (by kernel_rfl) (by kernel_rfl) (fun _ _ _ h => h) (by kernel_rfl) ?_ (by assumption) ?_
              rotate_left
              · intro w hSw; (try dsimp only at hSw); go_simp
                all_goals first | with_reducible rfl | omega | (simp; omega)
              try simp only [Act.put, List.setIfInBounds_toArray, List.set_cons_zero, List.set_cons_succ]
              refine h_take 24 (some 74) (?_) rfl rfl (by kernel_rfl) (by kernel_rfl) (by kernel_rfl) (fun _ _ _ h => h) (by kernel_rfl) ?_ (by assumption) ?_
              rotate_left
              · intro w hSw; (try dsimp only at hSw); go_simp
                all_goals first | with_reducible rfl | omega | (simp; omega)
              try simp only [Act.put, List.setIfInBounds_toArray, List.set_cons_zero, List.set_cons_succ]
              refine h_take 25 (some 75) (?_) rfl rfl (by kernel_rfl) (by kernel_rfl) (by kernel_rfl) (fun _ _ _ h => h) (by kernel_rfl) ?_ (by assumption) ?_
              rotate_left
              · intro w hSw; (try dsimp only at hSw); go_simp
                all_goals first | with_reducible rfl | omega | (simp; omega)
              try simp only [Act.put, List.setIfInBounds_toArray, List.set_cons_zero, List.set_cons_succ]
              refine h_take 26 (some 76) (?_) rfl rfl (by kernel_rfl) (by kernel_rfl) (by kernel_rfl) (fun _ _ _ h => h) (by kernel_rfl) ?_ (by assumption) ?_
              rotate_left
              · intro w hSw; (try dsimp only at hSw); go_simp
                all_goals first | with_reducible rfl | omega | (simp; omega)
              try simp only [Act.put, List.setIfInBounds_toArray, List.set_cons_zero, List.set_cons_succ]
              refine h_take 27 (some 77) (.bool true) rfl rfl (by kernel_rfl) (by kernel_rfl) (by kernel_rfl) (fun _ _ _ h => h) (by kernel_rfl) ?_ (by assumption) ?_
              · intro w hSw; (try dsimp only at hSw); go_simp
                all_goals first | with_reducible rfl | omega | (simp; omega)
              try simp only [Act.put, List.setIfInBounds_toArray, List.set_cons_zero, List.set_cons_succ]
              refine h_take 28 (some 78) (.bool true) rfl rfl (by kernel_rfl) (by kernel_rfl) (by kernel_rfl) (fun _ _ _ h => h) (by kernel_rfl) ?_ (by assumption) ?_
              · intro w hSw; (try dsimp only at hSw); go_simp
                all_goals first | with_reducible rfl | omega | (simp; omega)
              try simp only [Act.put, List.setIfInBounds_toArray, List.set_cons_zero, List.set_cons_succ]
              refine h_take 29 (some 79) (.bool true) rfl rfl (by kernel_rfl) (by kernel_rfl) (by kernel_rfl) (fun _ _ _ h => h) (by kernel_rfl) ?_ (by assumption) ?_
              · intro w hSw; (try dsimp only at hSw); go_simp
                all_goals first | with_reducible rfl | omega | (simp; omega)
              try simp only [Act.put, List.setIfInBounds_toArray, List.set_cons_zero, List.set_cons_succ]
              refine wpAnyH_done (by kernel_rfl) ?_ _
              have hr3d : RdS bC 4 v.drew B3 A3 n3 l := hr3
              have hlit2 : OwnT bC 4 (v.drew.alloc (.cells #[] 49)) v.heap.size 49 (.slice (some ⟨v.heap.size, 0, none⟩) 0 0) [] := lit0 v.drew 49
              go_wp2_with (at_builtin; refine appT rfl (.tmp 80) (.tmp 81) _ rfl bC_sz v.heap.size 49 i0 Try.underlying30 HI.out hz0 hz1 hz2 rfl (by omega) _ [] rfl hlit2 _ n3 c3 l rfl (hr3d.alloc _).2 (bC_one l) (by simp only [List.length_nil]; omega) (by simp) ?_ (by simp only [List.length_nil]; omega); intro v' w5 ho5 hb5 hs5; obtain ⟨A5, c5, rfl, hc5, _⟩ := ho5.form; simp only [List.nil_append] at ho5)
              go_ret2
              exact ⟨A5, c5, rfl, ho5.lower (by omega), (bel_alloc (bel_drew hbel) _).trans (hb5.mono (by omega))⟩
            · dsimp only at hm
              refine wp_region_held_drew (S := (fun w' => Below v.heap.size v w' ∧ w'.cell? ⟨wr.heap.size, 0, none⟩ = some (.int .i64 1) ∧ w'.cell? ⟨wr.heap.size, 1, none⟩ = some (.string es) ∧ w'.cell? ⟨wr.heap.size, 2, none⟩ = some (.int .i64 evk) ∧ w'.cell? ⟨wr.heap.size, 3, none⟩ = some (.int .i64 evn) ∧ w'.cell? ⟨wr.heap.size, 4, none⟩ = some (.string evs) ∧ w'.cell? ⟨w.heap.size + 1, 1, none⟩ = some (.slice (some ⟨b2, o2, none⟩) n c2) ∧ w'.cell? ⟨w3.heap.size, 0, none⟩ = some (.int .i64 bk) ∧ w'.cell? ⟨w3.heap.size, 1, none⟩ = some (.int .i64 bn) ∧ w'.cell? ⟨w3.heap.size, 2, none⟩ = some (.string bt) ∧ w'.cell? ⟨b2, o2 + k * 3, none⟩ = some (.int .i64 bk) ∧ w'.cell? ⟨b2, o2 + k * 3 + 1, none⟩ = some (.int .i64 bn) ∧ w'.cell? ⟨b2, o2 + k * 3 + 2, none⟩ = some (.string ft))) (by kernel_rfl) ?_ (fun hHeld => ?_)
              · (try dsimp only) <;> (exact ⟨bel_drew (bel_refl _), a0, a1, a2, a3, a4, y1, v0, v1, v2, q0, q1, q2⟩)
              refine h_take 0 (some 50) (?_) rfl rfl (by kernel_rfl) (by kernel_rfl) (by kernel_rfl) (fun _ _ _ h => h) (by kernel_rfl) ?_ (by assumption) ?_
              rotate_left
              · intro w hSw; (try dsimp only at hSw); go_simp
                all_goals first | with_reducible rfl | omega | (simp; omega)
              try simp only [Act.put, List.setIfInBounds_toArray, List.set_cons_zero, List.set_cons_succ]
              refine h_take 1 (some 51) (?_) rfl rfl (by kernel_rfl) (by kernel_rfl) (by kernel_rfl) (fun _ _ _ h => h) (by kernel_rfl) ?_ (by assumption) ?_
              rotate_left
              · intro w hSw; (try dsimp only at hSw); go_simp
                all_goals first | with_reducible rfl | omega | (simp; omega)
              try simp only [Act.put, List.setIfInBounds_toArray, List.set_cons_zero, List.set_cons_succ]
              refine h_take 2 (some 52) (.bool false) rfl rfl (by kernel_rfl) (by kernel_rfl) (by kernel_rfl) (fun _ _ _ h => h) (by kernel_rfl) ?_ (by assumption) ?_
              · intro w hSw; (try dsimp only at hSw); go_simp
                all_goals first | with_reducible rfl | omega | (simp; omega)
              try simp only [Act.put, List.setIfInBounds_toArray, List.set_cons_zero, List.set_cons_succ]
              refine h_take 3 (some 53) (.bool false) rfl rfl (by kernel_rfl) (by kernel_rfl) (by kernel_rfl) (fun _ _ _ h => h) (by kernel_rfl) ?_ (by assumption) ?_
              · intro w hSw; (try dsimp only at hSw); go_simp
                all_goals first | with_reducible rfl | omega | (simp; omega)
              try simp only [Act.put, List.setIfInBounds_toArray, List.set_cons_zero, List.set_cons_succ]
              refine h_skip 4 (some 54) rfl rfl (by kernel_rfl) (by kernel_rfl) (by kernel_rfl) (fun _ _ _ h => h) (by kernel_rfl) (by assumption) ?_
              try simp only [Act.put, List.setIfInBounds_toArray, List.set_cons_zero, List.set_cons_succ]
              refine h_skip 5 (some 55) rfl rfl (by kernel_rfl) (by kernel_rfl) (by kernel_rfl) (fun _ _ _ h => h) (by kernel_rfl) (by assumption) ?_
              try simp only [Act.put, List.setIfInBounds_toArray, List.set_cons_zero, List.set_cons_succ]
              refine h_skip 6 (some 56) rfl rfl (by kernel_rfl) (by kernel_rfl) (by kernel_rfl) (fun _ _ _ h => h) (by kernel_rfl) (by assumption) ?_
              try simp only [Act.put, List.setIfInBounds_toArray, List.set_cons_zero, List.set_cons_succ]
              refine h_skip 7 (some 57) rfl rfl (by kernel_rfl) (by kernel_rfl) (by kernel_rfl) (fun _ _ _ h => h) (by kernel_rfl) (by assumption) ?_
              try simp only [Act.put, List.setIfInBounds_toArray, List.set_cons_zero, List.set_cons_succ]
              refine h_skip 8 (some 58) rfl rfl (by kernel_rfl) (by kernel_rfl) (by kernel_rfl) (fun _ _ _ h => h) (by kernel_rfl) (by assumption) ?_
              try simp only [Act.put, List.setIfInBounds_toArray, List.set_cons_zero, List.set_cons_succ]
              refine h_skip 9 (some 59) rfl rfl (by kernel_rfl) (by kernel_rfl) (by kernel_rfl) (fun _ _ _ h => h) (by kernel_rfl) (by assumption) ?_
              try simp only [Act.put, List.setIfInBounds_toArray, List.set_cons_zero, List.set_cons_succ]
              refine h_skip 10 (some 60) rfl rfl (by kernel_rfl) (by kernel_rfl) (by kernel_rfl) (fun _ _ _ h => h) (by kernel_rfl) (by assumption) ?_
              try simp only [Act.put, List.setIfInBounds_toArray, List.set_cons_zero, List.set_cons_succ]
              refine h_skip 11 (some 61) rfl rfl (by kernel_rfl) (by kernel_rfl) (by kernel_rfl) (fun _ _ _ h => h) (by kernel_rfl) (by assumption) ?_
              try simp only [Act.put, List.setIfInBounds_toArray, List.set_cons_zero, List.set_cons_succ]
              refine h_take 12 (some 62) (.bool false) rfl rfl (by kernel_rfl) (by kernel_rfl) (by kernel_rfl) (fun _ _ _ h => h) (by kernel_rfl) ?_ (by assumption) ?_
              · intro w hSw; (try dsimp only at hSw); go_simp
                all_goals first | with_reducible rfl | omega | (simp; omega)
              try simp only [Act.put, List.setIfInBounds_toArray, List.set_cons_zero, List.set_cons_succ]
              refine h_take 13 (some 63) (.bool false) rfl rfl (by kernel_rfl) (by kernel_rfl) (by kernel_rfl) (fun _ _ _ h => h) (by kernel_rfl) ?_ (by assumption) ?_
              · intro w hSw; (try dsimp only at hSw); go_simp
                all_goals first | with_reducible rfl | omega | (simp; omega)
              try simp only [Act.put, List.setIfInBounds_toArray, List.set_cons_zero, List.set_cons_succ]
              refine h_take 14 (some 64) (?_) rfl rfl (by kernel_rfl) (by kernel_rfl) (by kernel_rfl) (fun _ _ _ h => h) (by kernel_rfl) ?_ (by assumption) ?_
              rotate_left
              · intro w hSw; (try dsimp only at hSw); go_simp
                all_goals first | with_reducible rfl | omega | (simp; omega)
              try simp only [Act.put, List.setIfInBounds_toArray, List.set_cons_zero, List.set_cons_succ]
              refine h_take 15 (some 65) (?_) rfl rfl (by kernel_rfl) (by kernel_rfl) (by kernel_rfl) (fun _ _ _ h => h) (by kernel_rfl) ?_ (by assumption) ?_
              rotate_left
              · intro w hSw; (try dsimp only at hSw); go_simp
                all_goals first | with_reducible rfl | omega | (simp; omega)
              try simp only [Act.put, List.setIfInBounds_toArray, List.set_cons_zero, List.set_cons_succ]
              refine h_take 16 (some 66) (.bool true) rfl rfl (by kernel_rfl) (by kernel_rfl) (by kernel_rfl) (fun _ _ _ h => h) (by kernel_rfl) ?_ (by assumption) ?_
              · intro w hSw; (try dsimp only at hSw); go_simp
                all_goals first | with_reducible rfl | omega | (simp; omega)
              try simp only [Act.put, List.setIfInBounds_toArray, List.set_cons_zero, List.set_cons_succ]
              refine h_take 17 (some 67) (.bool true) rfl rfl (by kernel_rfl) (by kernel_rfl) (by kernel_rfl) (fun _ _ _ h => h) (by kernel_rfl) ?_ (by assumption) ?_
              · intro w hSw; (try dsimp only at hSw); go_simp
                all_goals first | with_reducible rfl | omega | (simp; omega)
              try simp only [Act.put, List.setIfInBounds_toArray, List.set_cons_zero, List.set_cons_succ]
              refine h_take 18 (some 68) (.bool true) rfl rfl (by kernel_rfl) (by kernel_rfl) (by kernel_rfl) (fun _ _ _ h => h) (by kernel_rfl) ?_ (by assumption) ?_
              · intro w hSw; (try dsimp only at hSw); go_simp
                all_goals first | with_reducible rfl | omega | (simp; omega)
              try simp only [Act.put, List.setIfInBounds_toArray, List.set_cons_zero, List.set_cons_succ]
              refine h_take 19 (some 69) (.bool true) rfl rfl (by kernel_rfl) (by kernel_rfl) (by kernel_rfl) (fun _ _ _ h => h) (by kernel_rfl) ?_ (by assumption) ?_
              · intro w hSw; (try dsimp only at hSw); go_simp
                all_goals first | with_reducible rfl | omega | (simp; omega)
              try simp only [Act.put, List.setIfInBounds_toArray, List.set_cons_zero, List.set_cons_succ]
              refine h_take 20 (some 70) (.bool true) rfl rfl (by kernel_rfl) (by kernel_rfl) (by kernel_rfl) (fun _ _ _ h => h) (by kernel_rfl) ?_ (by assumption) ?_
              · intro w hSw; (try dsimp only at hSw); go_simp
                all_goals first | with_reducible rfl | omega | (simp; omega)
              try simp only [Act.put, List.setIfInBounds_toArray, List.set_cons_zero, List.set_cons_succ]
              refine h_take 21 (some 71) (?_) rfl rfl (by kernel_rfl) (by kernel_rfl) (by kernel_rfl) (fun _ _ _ h => h) (by kernel_rfl) ?_ (by assumption) ?_
              rotate_left
              · intro w hSw; (try dsimp only at hSw); go_simp
                all_goals first | with_reducible rfl | omega | (simp; omega)
              try simp only [Act.put, List.setIfInBounds_toArray, List.set_cons_zero, List.set_cons_succ]
              refine h_take 22 (some 72) (?_) rfl rfl (by kernel_rfl) (by kernel_rfl) (by kernel_rfl) (fun _ _ _ h => h) (by kernel_rfl) ?_ (by assumption) ?_
              rotate_left
              · intro w hSw; (try dsimp only at hSw); go_simp
                all_goals first | with_reducible rfl | omega | (simp; omega)
              try simp only [Act.put, List.setIfInBounds_toArray, List.set_cons_zero, List.set_cons_succ]
              refine h_take 23 (some 73) (?_) rfl rfl (by kernel_rfl) (by kernel_rfl) (by kernel_rfl) (fun _ _ _ h => h) (by kernel_rfl) ?_ (by assumption) ?_
              rotate_left
              · intro w hSw; (try dsimp only at hSw); go_simp
                all_goals first | with_reducible rfl | omega | (simp; omega)
              try simp only [Act.put, List.setIfInBounds_toArray, List.set_cons_zero, List.set_cons_succ]
              refine h_take 24 (some 74) (?_) rfl rfl (by kernel_rfl) (by kernel_rfl) (by kernel_rfl) (fun _ _ _ h => h) (by kernel_rfl) ?_ (by assumption) ?_
              rotate_left
              · intro w hSw; (try dsimp only at hSw); go_simp
                all_goals first | with_reducible rfl | omega | (simp; omega)
              try simp only [Act.put, List.setIfInBounds_toArray, List.set_cons_zero, List.set_cons_succ]
              refine h_take 25 (some 75) (?_) rfl rfl (by kernel_rfl) (by kernel_rfl) (by kernel_rfl) (fun _ _ _ h => h) (by kernel_rfl) ?_ (by assumption) ?_
              rotate_left
              · intro w hSw; (try dsimp only at hSw); go_simp
                all_goals first | with_reducible rfl | omega | (simp; omega)
              try simp only [Act.put, List.setIfInBounds_toArray, List.set_cons_zero, List.set_cons_succ]
              refine h_take 26 (some 76) (?_) rfl rfl (by kernel_rfl) (by kernel_rfl) (by kernel_rfl) (fun _ _ _ h => h) (by kernel_rfl) ?_ (by assumption) ?_
              rotate_left
              · intro w hSw; (try dsimp only at hSw); go_simp
                all_goals first | with_reducible rfl | omega | (simp; omega)
              try simp only [Act.put, List.setIfInBounds_toArray, List.set_cons_zero, List.set_cons_succ]
              refine h_take 27 (some 77) (.bool true) rfl rfl (by kernel_rfl) (by kernel_rfl) (by kernel_rfl) (fun _ _ _ h => h) (by kernel_rfl) ?_ (by assumption) ?_
              · intro w hSw; (try dsimp only at hSw); go_simp
                all_goals first | with_reducible rfl | omega | (simp; omega)
              try simp only [Act.put, List.setIfInBounds_toArray, List.set_cons_zero, List.set_cons_succ]
              refine h_take 28 (some 78) (.bool true) rfl rfl (by kernel_rfl) (by kernel_rfl) (by kernel_rfl) (fun _ _ _ h => h) (by kernel_rfl) ?_ (by assumption) ?_
              · intro w hSw; (try dsimp only at hSw); go_simp
                all_goals first | with_reducible rfl | omega | (simp; omega)
              try simp only [Act.put, List.setIfInBounds_toArray, List.set_cons_zero, List.set_cons_succ]
              refine h_take 29 (some 79) (.bool true) rfl rfl (by kernel_rfl) (by kernel_rfl) (by kernel_rfl) (fun _ _ _ h => h) (by kernel_rfl) ?_ (by assumption) ?_
              · intro w hSw; (try dsimp only at hSw); go_simp
                all_goals first | with_reducible rfl | omega | (simp; omega)
              try simp only [Act.put, List.setIfInBounds_toArray, List.set_cons_zero, List.set_cons_succ]
              refine wpAnyH_done (by kernel_rfl) ?_ _
              have hr3d : RdS bC 4 v.drew B3 A3 n3 l := hr3
              have hlit2 : OwnT bC 4 (v.drew.alloc (.cells #[] 49)) v.heap.size 49 (.slice (some ⟨v.heap.size, 0, none⟩) 0 0) [] := lit0 v.drew 49
              go_wp2_with (at_builtin; refine appT rfl (.tmp 80) (.tmp 81) _ rfl bC_sz v.heap.size 49 i0 Try.underlying30 HI.out hz0 hz1 hz2 rfl (by omega) _ [] rfl hlit2 _ n3 c3 l rfl (hr3d.alloc _).2 (bC_one l) (by simp only [List.length_nil]; omega) (by simp) ?_ (by simp only [List.length_nil]; omega); intro v' w5 ho5 hb5 hs5; obtain ⟨A5, c5, rfl, hc5, _⟩ := ho5.form; simp only [List.nil_append] at ho5)
              go_ret2
              exact ⟨A5, c5, rfl, ho5.lower (by omega), (bel_alloc (bel_drew hbel) _).trans (hb5.mono (by omega))⟩
      · have hst2 : R = mgo (gs.drop (k + 1)) (fs.drop (k + 1)) acc := by rw [hst]; unfold mstep; simp only; rw [if_neg h2, if_neg h1]
        have HST := Lib.hid hst2; clear hst hst2
        have hq1 : (ek == 1) = false := by simpa using h1
        refine wp_region_held_drew (S := (fun w' => Below v.heap.size v w' ∧ w'.cell? ⟨wr.heap.size, 0, none⟩ = some (.int .i64 ek) ∧ w'.cell? ⟨wr.heap.size, 1, none⟩ = some (.string es) ∧ w'.cell? ⟨wr.heap.size, 2, none⟩ = some (.int .i64 evk) ∧ w'.cell? ⟨wr.heap.size, 3, none⟩ = some (.int .i64 evn) ∧ w'.cell? ⟨wr.heap.size, 4, none⟩ = some (.string evs) ∧ w'.cell? ⟨w.heap.size + 1, 1, none⟩ = some (.slice (some ⟨b2, o2, none⟩) n c2) ∧ w'.cell? ⟨w3.heap.size, 0, none⟩ = some (.int .i64 bk) ∧ w'.cell? ⟨w3.heap.size, 1, none⟩ = some (.int .i64 bn) ∧ w'.cell? ⟨w3.heap.size, 2, none⟩ = some (.string bt) ∧ w'.cell? ⟨b2, o2 + k * 3, none⟩ = some (.int .i64 fk) ∧ w'.cell? ⟨b2, o2 + k * 3 + 1, none⟩ = some (.int .i64 fn) ∧ w'.cell? ⟨b2, o2 + k * 3 + 2, none⟩ = some (.string ft))) (by kernel_rfl) ?_ (fun hHeld => ?_)
        · (try dsimp only) <;> (exact ⟨bel_drew (bel_refl _), a0, a1, a2, a3, a4, y1, v0, v1, v2, q0, q1, q2⟩)
        refine h_take 0 (some 50) (?_) rfl rfl (by kernel_rfl) (by kernel_rfl) (by kernel_rfl) (fun _ _ _ h => h) (by kernel_rfl) ?_ (by assumption) ?_
        rotate_left
        · intro w hSw; (try dsimp only at hSw); go_simp
          all_goals first | with_reducible rfl | omega | (simp; omega)
        try simp only [Act.put, List.setIfInBounds_toArray, List.set_cons_zero, List.set_cons_succ]
        refine h_take 1 (some 51) (?_) rfl rfl (by kernel_rfl) (by kernel_rfl) (by kernel_rfl) (fun _ _ _ h => h) (by kernel_rfl) ?_ (by assumption) ?_
        rotate_left
        · intro w hSw; (try dsimp only at hSw); go_simp
          all_goals first | with_reducible rfl | omega | (simp; omega)
        try simp only [Act.put, List.setIfInBounds_toArray, List.set_cons_zero, List.set_cons_succ]
        refine h_take 2 (some 52) (.bool false) rfl rfl (by kernel_rfl) (by kernel_rfl) (by kernel_rfl) (fun _ _ _ h => h) (by kernel_rfl) ?_ (by assumption) ?_
        · intro w hSw; (try dsimp only at hSw); go_simp
          all_goals first | with_reducible rfl | omega | (simp; omega)
        try simp only [Act.put, List.setIfInBounds_toArray, List.set_cons_zero, List.set_cons_succ]
        refine h_take 3 (some 53) (.bool false) rfl rfl (by kernel_rfl) (by kernel_rfl) (by kernel_rfl) (fun _ _ _ h => h) (by kernel_rfl) ?_ (by assumption) ?_
        · intro w hSw; (try dsimp only at hSw); go_simp
          all_goals first | with_reducible rfl | omega | (simp; omega)
        try simp only [Act.put, List.setIfInBounds_toArray, List.set_cons_zero, List.set_cons_succ]
        refine h_skip 4 (some 54) rfl rfl (by kernel_rfl) (by kernel_rfl) (by kernel_rfl) (fun _ _ _ h => h) (by kernel_rfl) (by assumption) ?_
        try simp only [Act.put, List.setIfInBounds_toArray, List.set_cons_zero, List.set_cons_succ]
        refine h_skip 5 (some 55) rfl rfl (by kernel_rfl) (by kernel_rfl) (by kernel_rfl) (fun _ _ _ h => h) (by kernel_rfl) (by assumption) ?_
        try simp only [Act.put, List.setIfInBounds_toArray, List.set_cons_zero, List.set_cons_succ]
        refine h_skip 6 (some 56) rfl rfl (by kernel_rfl) (by kernel_rfl) (by kernel_rfl) (fun _ _ _ h => h) (by kernel_rfl) (by assumption) ?_
        try simp only [Act.put, List.setIfInBounds_toArray, List.set_cons_zero, List.set_cons_succ]
        refine h_skip 7 (some 57) rfl rfl (by kernel_rfl) (by kernel_rfl) (by kernel_rfl) (fun _ _ _ h => h) (by kernel_rfl) (by assumption) ?_
        try simp only [Act.put, List.setIfInBounds_toArray, List.set_cons_zero, List.set_cons_succ]
        refine h_skip 8 (some 58) rfl rfl (by kernel_rfl) (by kernel_rfl) (by kernel_rfl) (fun _ _ _ h => h) (by kernel_rfl) (by assumption) ?_
        try simp only [Act.put, List.setIfInBounds_toArray, List.set_cons_zero, List.set_cons_succ]
        refine h_skip 9 (some 59) rfl rfl (by kernel_rfl) (by kernel_rfl) (by kernel_rfl) (fun _ _ _ h => h) (by kernel_rfl) (by assumption) ?_
        try simp only [Act.put, List.setIfInBounds_toArray, List.set_cons_zero, List.set_cons_succ]
        refine h_skip 10 (some 60) rfl rfl (by kernel_rfl) (by kernel_rfl) (by kernel_rfl) (fun _ _ _ h => h) (by kernel_rfl) (by assumption) ?_
        try simp only [Act.put, List.setIfInBounds_toArray, List.set_cons_zero, List.set_cons_succ]
        refine h_skip 11 (some 61) rfl rfl (by kernel_rfl) (by kernel_rfl) (by kernel_rfl) (fun _ _ _ h => h) (by kernel_rfl) (by assumption) ?_
        try simp only [Act.put, List.setIfInBounds_toArray, List.set_cons_zero, List.set_cons_succ]
        refine h_take 12 (some 62) (.bool false) rfl rfl (by kernel_rfl) (by kernel_rfl) (by kernel_rfl) (fun _ _ _ h => h) (by kernel_rfl) ?_ (by assumption) ?_
        · intro w hSw; (try dsimp only at hSw); go_simp
          all_goals first | with_reducible rfl | omega | (simp; omega)
        try simp only [Act.put, List.setIfInBounds_toArray, List.set_cons_zero, List.set_cons_succ]
        refine h_take 13 (some 63) (.bool false) rfl rfl (by kernel_rfl) (by kernel_rfl) (by kernel_rfl) (fun _ _ _ h => h) (by kernel_rfl) ?_ (by assumption) ?_
        · intro w hSw; (try dsimp only at hSw); go_simp
          all_goals first | with_reducible rfl | omega | (simp; omega)
        try simp only [Act.put, List.setIfInBounds_toArray, List.set_cons_zero, List.set_cons_succ]
        refine h_take 14 (some 64) (?_) rfl rfl (by kernel_rfl) (by kernel_rfl) (by kernel_rfl) (fun _ _ _ h => h) (by kernel_rfl) ?_ (by assumption) ?_
        rotate_left
        · intro w hSw; (try dsimp only at hSw); go_simp
          all_goals first | with_reducible rfl | omega | (simp; omega)
        try simp only [Act.put, List.setIfInBounds_toArray, List.set_cons_zero, List.set_cons_succ]
        refine h_take 15 (some 65) (?_) rfl rfl (by kernel_rfl) (by kernel_rfl) (by kernel_rfl) (fun _ _ _ h => h) (by kernel_rfl) ?_ (by assumption) ?_
        rotate_left
        · intro w hSw; (try dsimp only at hSw); go_simp
          all_goals first | with_reducible rfl | omega | (simp; omega)
        try simp only [Act.put, List.setIfInBounds_toArray, List.set_cons_zero, List.set_cons_succ]
        refine h_take 16 (some 66) (.bool false) rfl rfl (by kernel_rfl) (by kernel_rfl) (by kernel_rfl) (fun _ _ _ h => h) (by kernel_rfl) ?_ (by assumption) ?_
        · intro w hSw; (try dsimp only at hSw); go_simp
          all_goals first | with_reducible rfl | omega | (simp; omega)
        try simp only [Act.put, List.setIfInBounds_toArray, List.set_cons_zero, List.set_cons_succ]
        refine h_take 17 (some 67) (.bool false) rfl rfl (by kernel_rfl) (by kernel_rfl) (by kernel_rfl) (fun _ _ _ h => h) (by kernel_rfl) ?_ (by assumption) ?_
        · intro w hSw; (try dsimp only at hSw); go_simp
          all_goals first | with_reducible rfl | omega | (simp; omega)
        try simp only [Act.put, List.setIfInBounds_toArray, List.set_cons_zero, List.set_cons_succ]
        refine h_skip 18 (some 68) rfl rfl (by kernel_rfl) (by kernel_rfl) (by kernel_rfl) (fun _ _ _ h => h) (by kernel_rfl) (by assumption) ?_
        try simp only [Act.put, List.setIfInBounds_toArray, List.set_cons_zero, List.set_cons_succ]
        refine h_take 19 (some 69) (.bool false) rfl rfl (by kernel_rfl) (by kernel_rfl) (by kernel_rfl) (fun _ _ _ h => h) (by kernel_rfl) ?_ (by assumption) ?_
        · intro w hSw; (try dsimp only at hSw); go_simp
          all_goals first | with_reducible rfl | omega | (simp; omega)
        try simp only [Act.put, List.setIfInBounds_toArray, List.set_cons_zero, List.set_cons_succ]
        refine h_take 20 (some 70) (.bool false) rfl rfl (by kernel_rfl) (by kernel_rfl) (by kernel_rfl) (fun _ _ _ h => h) (by kernel_rfl) ?_ (by assumption) ?_
        · intro w hSw; (try dsimp only at hSw); go_simp
          all_goals first | with_reducible rfl | omega | (simp; omega)
        try simp only [Act.put, List.setIfInBounds_toArray, List.set_cons_zero, List.set_cons_succ]
        refine h_skip 21 (some 71) rfl rfl (by kernel_rfl) (by kernel_rfl) (by kernel_rfl) (fun _ _ _ h => h) (by kernel_rfl) (by assumption) ?_
        try simp only [Act.put, List.setIfInBounds_toArray, List.set_cons_zero, List.set_cons_succ]
        refine h_skip 22 (some 72) rfl rfl (by kernel_rfl) (by kernel_rfl) (by kernel_rfl) (fun _ _ _ h => h) (by kernel_rfl) (by assumption) ?_
        try simp only [Act.put, List.setIfInBounds_toArray, List.set_cons_zero, List.set_cons_succ]
        refine h_skip 23 (some 73) rfl rfl (by kernel_rfl) (by kernel_rfl) (by kernel_rfl) (fun _ _ _ h => h) (by kernel_rfl) (by assumption) ?_
        try simp only [Act.put, List.setIfInBounds_toArray, List.set_cons_zero, List.set_cons_succ]
        refine h_skip 24 (some 74) rfl rfl (by kernel_rfl) (by kernel_rfl) (by kernel_rfl) (fun _ _ _ h => h) (by kernel_rfl) (by assumption) ?_
        try simp only [Act.put, List.setIfInBounds_toArray, List.set_cons_zero, List.set_cons_succ]
        refine h_skip 25 (some 75) rfl rfl (by kernel_rfl) (by kernel_rfl) (by kernel_rfl) (fun _ _ _ h => h) (by kernel_rfl) (by assumption) ?_
        try simp only [Act.put, List.setIfInBounds_toArray, List.set_cons_zero, List.set_cons_succ]
        refine h_skip 26 (some 76) rfl rfl (by kernel_rfl) (by kernel_rfl) (by kernel_rfl) (fun _ _ _ h => h) (by kernel_rfl) (by assumption) ?_
        try simp only [Act.put, List.setIfInBounds_toArray, List.set_cons_zero, List.set_cons_succ]
        refine h_skip 27 (some 77) rfl rfl (by kernel_rfl) (by kernel_rfl) (by kernel_rfl) (fun _ _ _ h => h) (by kernel_rfl) (by assumption) ?_
        try simp only [Act.put, List.setIfInBounds_toArray, List.set_cons_zero, List.set_cons_succ]
        refine h_take 28 (some 78) (.bool false) rfl rfl (by kernel_rfl) (by kernel_rfl) (by kernel_rfl) (fun _ _ _ h => h) (by kernel_rfl) ?_ (by assumption) ?_
        · intro w hSw; (try dsimp only at hSw); go_simp
          all_goals first | with_reducible rfl | omega | (simp; omega)
        try simp only [Act.put, List.setIfInBounds_toArray, List.set_cons_zero, List.set_cons_succ]
        refine h_take 29 (some 79) (.bool false) rfl rfl (by kernel_rfl) (by kernel_rfl) (by kernel_rfl) (fun _ _ _ h => h) (by kernel_rfl) ?_ (by assumption) ?_
        · intro w hSw; (try dsimp only at hSw); go_simp
          all_goals first | with_reducible rfl | omega | (simp; omega)
        try simp only [Act.put, List.setIfInBounds_toArray, List.set_cons_zero, List.set_cons_succ]
        refine wpAnyH_done (by kernel_rfl) ?_ _
        have hdr := bel_drew (bel_refl v)
        go_wp2
        go_roundw
        case rel => exact ⟨k + 1, acc, by omega, by go_num, by omega, HST.out.symm, ho, bel_drew hbel, x1, y1, by simp only [drew_size'']; omega⟩
        case measure => simp [intOf]; omega
    · have hkn : n ≤ k := by omega
      have hR2 : R = some acc := by rw [← HV.out, mgo_end (by rw [HL.out]; exact hkn)]
      have hfr := HFIN.out
      rw [hR2] at hfr
      simp only [mfin, Prod.mk.injEq] at hfr
      obtain ⟨rfl, rfl⟩ := hfr
      clear hR2
      go_wp2
      go_ret2
      exact ⟨Au, cu, rfl, ho.lower (by omega), hbel⟩
end Go.Proofs.Ytdlcbmhnagajdaa
