import Derived.Test.YtcbbefibebkfgaaGreatDoorPkSplitS
import Derived.Test.YtcbbefibebkfgaaGreatDoorPkParseVal
/- Reading a fact of its text, by the program and by the reference. Conditions: the text's length; the library's variables are as its text lays them. -/
namespace Go.Proofs.YtcbbefibebkfgaaGreatDoor
open Go.RowKit
set_option maxRecDepth 100000
set_option maxHeartbeats 4000000
def tupPF (kd : ByteArray) (A : Option Addr) (n c : Nat) (b : Bool) : Value := .tuple #[.agg #[.string kd, .slice A n c], .bool b]
theorem pf_none {s rkd : ByteArray} {rfs : List Vl} {rb : Bool} (h : parseF s = noneF) (hres : parseF s = (⟨rkd, rfs⟩, rb)) : rkd = ⟨#[]⟩ ∧ rfs = [] ∧ rb = false := by
  rw [h] at hres
  unfold noneF at hres
  injection hres with h1 h2
  injection h1 with h3 h4
  exact ⟨h3.symm, h4.symm, h2.symm⟩
theorem pf_good {s kd rkd : ByteArray} {vs rfs : List Vl} {rb : Bool} (h : parseF s = (⟨kd, vs⟩, true)) (hres : parseF s = (⟨rkd, rfs⟩, rb)) : rkd = kd ∧ rfs = vs ∧ rb = true := by
  rw [h] at hres
  injection hres with h1 h2
  injection h1 with h3 h4
  exact ⟨h3.symm, h4.symm, h2.symm⟩
theorem parseF_ne2 {s : ByteArray} (h : (splitL 40 s.data.toList).length ≠ 2) : parseF s = noneF := by
  unfold parseF
  split
  · rename_i e
    rw [e] at h
    exact absurd rfl h
  · rfl
theorem parseF_two {s : ByteArray} {p t : List UInt8} (h : splitL 40 s.data.toList = [p, t]) : parseF s = if t.getLast? = some 41 then closeF (mkB p) (valsOf t.dropLast) else noneF := by
  unfold parseF
  rw [h]
theorem splitL_mem_len {b : UInt8} : ∀ {L q : List UInt8}, q ∈ splitL b L → q.length ≤ L.length
  | [], q, h => by
    rw [splitL, List.mem_singleton] at h
    rw [h]
    exact Nat.le_refl _
  | c :: t, q, h => by
    rw [splitL] at h
    split at h
    · rcases List.mem_cons.1 h with rfl | h
      · exact Nat.zero_le _
      · have := splitL_mem_len h
        rw [List.length_cons]
        omega
    · obtain ⟨x, r, e⟩ := splitL_ne b t
      have hx := splitL_mem_len (L := t) (q := x) (b := b) (by rw [e]; simp)
      rw [e] at h
      rcases List.mem_cons.1 h with rfl | h
      · simp only [List.length_append, List.length_cons, List.length_nil]
        omega
      · have := splitL_mem_len (L := t) (q := q) (b := b) (by rw [e]; simp [h])
        rw [List.length_cons]
        omega
theorem parseVs_stepN {ps : List ByteArray} {k : Nat} {acc : List Vl} {v : Vl} (h : k < ps.length) (hp : parseV ps[k] = (v, false)) : parseVs (ps.drop k) acc = none := by
  rw [List.drop_eq_getElem_cons h, parseVs, hp]
  rfl
theorem parseVs_stepY {ps : List ByteArray} {k : Nat} {acc : List Vl} {v : Vl} (h : k < ps.length) (hp : parseV ps[k] = (v, true)) : parseVs (ps.drop k) acc = parseVs (ps.drop (k + 1)) (acc ++ [v]) := by
  rw [List.drop_eq_getElem_cons h, parseVs, hp]
  rfl
theorem parseVs_end {ps : List ByteArray} {k : Nat} {acc : List Vl} (h : ps.length ≤ k) : parseVs (ps.drop k) acc = some acc := by
  rw [List.drop_of_length_le h]
  rfl
theorem parseV_short (p : ByteArray) : (parseV p).1.s.size ≤ 20 := by
  unfold parseV
  split
  · rename_i h
    exact valOk_len (k := (candV p).k) (n := (candV p).n) (s := (candV p).s) h.1
  · exact Nat.zero_le _
theorem last_byte (s : ByteArray) (h : s.size - 1 < s.size) : s.data.toList.getLast? = some s[s.size - 1] := by
  have h1 : s.data.toList.length = s.size := size_data s
  rw [List.getLast?_eq_getElem?, h1, List.getElem?_eq_getElem (by rw [h1]; exact h)]
  rfl
theorem drop_last (s : ByteArray) : (s.extract 0 (s.size - 1)).data.toList = s.data.toList.dropLast := by
  rw [Lib.extract_data, List.drop_zero, List.dropLast_eq_take, size_data, Nat.sub_zero]
theorem string_nil (s : ByteArray) : (s.toList == ([] : List UInt8)) = decide (s.data.toList = []) := by
  rw [ByteArray.toList_eq, Bool.eq_iff_iff, beq_iff_eq, decide_eq_true_eq]
theorem Blk.bel4 {w w' : World} {b B : Nat} {t : TypeId} {cs : Array Value} (h : Blk w b t cs) (hb : Below B w w') (hB : b < B) : Blk w' b t cs := (hb.block b hB).trans h
theorem World.alloc_size4 (w : World) (o : Obj) : (w.alloc o).heap.size = w.heap.size + 1 := by simp
theorem string_nilF {s : ByteArray} (h : ¬ s.data.toList = []) : (s.toList == ([] : List UInt8)) = false := by rw [string_nil, decide_eq_false h]
theorem string_nilT {s : ByteArray} (h : s.data.toList = []) : (s.toList == ([] : List UInt8)) = true := by rw [string_nil, decide_eq_true h]
theorem specParseFact_any (s : ByteArray) (rkd : ByteArray) (rfs : List Vl) (rb : Bool) (w : World) (hs : s.size ≤ 1048576) (hres : parseF s = (⟨rkd, rfs⟩, rb)) :
    Calls Tryz.prog 15 #[.string s] w fun e w' => ∃ A' c', e = .returned (tupPF rkd A' rfs.length c' rb) ∧ OwnT vC 3 w' w.heap.size 47 (.slice A' rfs.length c') rfs ∧ Below w.heap.size w w' := by
  obtain ⟨i0, hi, hz0, hz1, hz2⟩ := info_parts infoVal
  have HI := Lib.hid hi; clear hi
  have HRES := Lib.hid hres; clear hres
  have HZ := Blk.new w 26 #[.string ⟨#[]⟩, .slice none 0 0]
  have hml := splitL_len 40 s.data.toList
  rw [size_data] at hml
  go_enter Tryz.func15, Tryz.ntmps15
  go_wp2_with fail
  refine (l3Split_any s 40 40 _ rfl hs).mono ?_
  rintro e w1 ⟨v1, rfl, ho1, hb1, hs1⟩
  have HZ1 := HZ.kept hb1
  have g1 : Below w.heap.size w w1 := (by repeat (first | with_reducible exact bel_refl _ | with_reducible assumption | with_reducible refine bel_set ?_ (by first | (simp; done) | (simp; omega) | omega) _ | with_reducible refine bel_alloc ?_ _ | with_reducible refine bel_drew ?_ | with_reducible refine bel_drewN ?_ _ | with_reducible refine bel_trans ?_ (by assumption)))
  have hzl := HZ1.lt
  obtain ⟨z0, z1, z2, z3⟩ := HZ1.two
  clear hb1
  by_cases h2 : (splitL 40 s.data.toList).length = 2
  · obtain ⟨p, t, hpt⟩ : ∃ p t, splitL 40 s.data.toList = [p, t] := by
      match hm : splitL 40 s.data.toList, h2 with
      | [p, t], _ => exact ⟨p, t, rfl⟩
    have hP := parseF_two hpt
    obtain ⟨hL, _, h40⟩ := split_two hpt
    have hpl := splitL_mem_len (b := 40) (L := s.data.toList) (q := p) (by rw [hpt]; simp)
    have htl := splitL_mem_len (b := 40) (L := s.data.toList) (q := t) (by rw [hpt]; simp)
    rw [size_data] at hpl htl
    rw [hpt] at ho1
    obtain ⟨kd, hkd⟩ : ∃ kd, mkB p = kd := ⟨_, rfl⟩
    obtain ⟨tB, htB⟩ : ∃ tB, mkB t = tB := ⟨_, rfl⟩
    have hkz : kd.size ≤ 1048576 := by rw [← hkd]; show p.toArray.size ≤ _; rw [List.size_toArray]; omega
    have htd : tB.data.toList = t := by rw [← htB]; rfl
    have htz : tB.size = t.length := by rw [← size_data, htd]
    simp only [List.map_cons, List.map_nil, hkd, htB] at ho1
    rw [hkd] at hP
    obtain ⟨A1, c1, rfl, hc1, hr1⟩ := ho1.rd
    obtain ⟨b1, o1, rfl, hbb1, hcc1⟩ := hr1.2.string_ (by simp)
    obtain ⟨_, rfl, p0⟩ := hcc1 0 (by simp)
    obtain ⟨_, rfl, p1⟩ := hcc1 1 (by simp)
    simp only [List.getElem_cons_zero, List.getElem_cons_succ, Nat.add_zero] at p0 p1
    clear hcc1 h2
    have hpos : 0 < s.size := by rw [← size_data, hL, List.length_append, List.length_cons]; omega
    have hl0 : s.size - 1 < s.size := by omega
    have hlast := last_byte s hl0
    have hle : ∀ x : UInt8, x ≠ 40 → (s.data.toList.getLast? = some x ↔ t.getLast? = some x) := by
      intro x hx
      rw [hL]
      cases t with
      | nil => simp; exact fun e => hx e.symm
      | cons y r => rw [List.getLast?_append, List.getLast?_cons_cons]; simp [List.getLast?_cons]
    simp only [List.length_cons, List.length_nil] at *
    by_cases h41 : t.getLast? = some 41
    · have hq : ((s[s.size - 1].toNat : Int) == 41) = true := by
        have := (hle 41 (by decide)).2 h41
        rw [hlast] at this
        injection this with this
        rw [this]
        rfl
      rw [if_pos h41] at hP
      have htp : 0 < tB.size := by
        rw [htz]
        cases t with
        | nil => simp at h41
        | cons y r => simp
      obtain ⟨inn, hinn⟩ : ∃ inn, tB.extract 0 (tB.size - 1) = inn := ⟨_, rfl⟩
      have hid : inn.data.toList = t.dropLast := by rw [← hinn, drop_last, htd]
      have hiz : inn.size ≤ 1048576 := by rw [← hinn, ByteArray.size_extract]; omega
      rw [← hid] at hP
      obtain ⟨RV, hRV⟩ : ∃ RV, valsOf inn.data.toList = RV := ⟨_, rfl⟩
      rw [hRV] at hP
      have HPF := Lib.hid hP
      have htb9 : tB.size ≤ 1048576 := by omega
      clear hP hle hlast h41 hL h40 hpt htd htz hid hkd htB hr1
      have HINN := Lib.hid hinn
      have hti : (tB.size : Int) - 1 = ((tB.size - 1 : Nat) : Int) := by omega
      go_upto_region 6 with fail
      refine wp_region_held_drew (S := (fun w' => w'.cell? ⟨b1, o1 + 1, none⟩ = some (.string tB))) (by kernel_rfl) ?_ (fun hHeld => ?_)
      · (try dsimp only) <;> (first | exact old_cell (bel_alloc (bel_refl _) _) p1 | exact old_cell (bel_drew (bel_alloc (bel_refl _) _)) p1 | exact hHeld)
      refine h_take 0 (some 31) (?_) rfl rfl (by kernel_rfl) (by kernel_rfl) (by kernel_rfl) (fun _ _ _ h => h) (by kernel_rfl) ?_ (by assumption) ?_
      rotate_left
      · intro w hSw; (try dsimp only at hSw); go_simp
        all_goals first | with_reducible rfl | omega | (simp; omega)
      try simp only [Act.put, List.setIfInBounds_toArray, List.set_cons_zero, List.set_cons_succ]
      refine h_take 1 (some 32) (?_) rfl rfl (by kernel_rfl) (by kernel_rfl) (by kernel_rfl) (fun _ _ _ h => h) (by kernel_rfl) ?_ (by assumption) ?_
      rotate_left
      · intro w hSw; (try dsimp only at hSw); go_simp
        all_goals first | with_reducible rfl | omega | (simp; omega)
      try simp only [Act.put, List.setIfInBounds_toArray, List.set_cons_zero, List.set_cons_succ]
      refine h_take 2 (some 33) (?_) rfl rfl (by kernel_rfl) (by kernel_rfl) (by kernel_rfl) (fun _ _ _ h => h) (by kernel_rfl) ?_ (by assumption) ?_
      rotate_left
      · intro w hSw; (try dsimp only at hSw); go_simp
        all_goals first | with_reducible rfl | omega | (simp; omega)
      try simp only [Act.put, List.setIfInBounds_toArray, List.set_cons_zero, List.set_cons_succ]
      refine h_take 3 (some 34) (?_) rfl rfl (by kernel_rfl) (by kernel_rfl) (by kernel_rfl) (fun _ _ _ h => h) (by kernel_rfl) ?_ (by assumption) ?_
      rotate_left
      · intro w hSw; (try dsimp only at hSw); go_simp
        all_goals first | with_reducible rfl | omega | (simp; omega)
      try simp only [Act.put, List.setIfInBounds_toArray, List.set_cons_zero, List.set_cons_succ]
      refine h_take 4 (some 35) (?_) rfl rfl (by kernel_rfl) (by kernel_rfl) (by kernel_rfl) (fun _ _ _ h => h) (by kernel_rfl) ?_ (by assumption) ?_
      rotate_left
      · intro w hSw; (try dsimp only at hSw); go_simp
        all_goals first | with_reducible rfl | omega | (simp; omega)
      try simp only [Act.put, List.setIfInBounds_toArray, List.set_cons_zero, List.set_cons_succ]
      refine h_take 5 (some 36) (?_) rfl rfl (by kernel_rfl) (by kernel_rfl) (by kernel_rfl) (fun _ _ _ h => h) (by kernel_rfl) ?_ (by assumption) ?_
      rotate_left
      · intro w hSw; (try dsimp only at hSw); go_simp
        all_goals first | with_reducible rfl | omega | (simp; omega)
      try simp only [Act.put, List.setIfInBounds_toArray, List.set_cons_zero, List.set_cons_succ]
      refine h_take 6 (some 37) (?_) rfl rfl (by kernel_rfl) (by kernel_rfl) (by kernel_rfl) (fun _ _ _ h => h) (by kernel_rfl) ?_ (by assumption) ?_
      rotate_left
      · intro w hSw; (try dsimp only at hSw); go_simp
        all_goals first | with_reducible rfl | omega | (simp; omega)
      try simp only [Act.put, List.setIfInBounds_toArray, List.set_cons_zero, List.set_cons_succ]
      refine h_take 7 (some 38) (.int .i64 ((tB.size - 1 : Nat) : Int)) rfl rfl (by kernel_rfl) (by kernel_rfl) (by kernel_rfl) (fun _ _ _ h => h) (by kernel_rfl) ?_ (by assumption) ?_
      · intro w hSw; (try dsimp only at hSw); go_simp
        all_goals (first | omega | (simp; omega) | (rw [IntKind.wrap_i64]; omega))
      try simp only [Act.put, List.setIfInBounds_toArray, List.set_cons_zero, List.set_cons_succ]
      refine h_take 8 (some 39) (.string inn) rfl rfl (by kernel_rfl) (by kernel_rfl) (by kernel_rfl) (fun _ _ _ h => h) (by kernel_rfl) ?_ (by assumption) ?_
      · intro w hSw; (try dsimp only at hSw); go_simp
        all_goals (rw [← HINN.out]; first | rfl | simp)
      try simp only [Act.put, List.setIfInBounds_toArray, List.set_cons_zero, List.set_cons_succ]
      refine h_take 9 (some 7) (?_) rfl rfl (by kernel_rfl) (by kernel_rfl) (by kernel_rfl) (fun _ _ _ h => h) (by kernel_rfl) ?_ (by assumption) ?_
      rotate_left
      · intro w hSw; (try dsimp only at hSw); go_simp
        all_goals first | with_reducible rfl | omega | (simp; omega)
      try simp only [Act.put, List.setIfInBounds_toArray, List.set_cons_zero, List.set_cons_succ]
      refine wpAnyH_done (by kernel_rfl) ?_ _
      clear hHeld
      go_wp2_with fail
      refine (l3Split_any inn 44 44 _ rfl hiz).mono ?_
      rintro e w2 ⟨v2, rfl, ho2, hb2, _⟩
      have HBk := Blk.kept (w := (w1.alloc (.cells #[.string kd, .slice none 0 0] 26)).drew) (Blk.new w1 26 #[.string kd, .slice none 0 0]) hb2
      have HZk := Blk.kept (w := (w1.alloc (.cells #[.string kd, .slice none 0 0] 26)).drew) (HZ1.alloc _) hb2
      have g2 : Below w.heap.size w w2 := bel_trans (bel_drew (bel_alloc g1 _)) hb2
      clear hb2 HZ1 z0 z1 z2 z3 p0 p1 ho1 g1
      obtain ⟨ps, hps⟩ : ∃ ps, (splitL 44 inn.data.toList).map mkB = ps := ⟨_, rfl⟩
      have hpz : ∀ p ∈ ps, p.size ≤ 1048576 := by
        intro p hp
        rw [← hps] at hp
        obtain ⟨q, hq, rfl⟩ := List.mem_map.1 hp
        have := splitL_mem_len hq
        rw [size_data] at this
        show q.toArray.size ≤ _
        rw [List.size_toArray]
        omega
      have hnp2 := splitL_len 44 inn.data.toList
      rw [size_data, ← List.length_map (f := mkB), hps] at hnp2
      have hnp1 : 1 ≤ (splitL 44 inn.data.toList).length := by obtain ⟨q, r, e⟩ := splitL_ne 44 inn.data.toList; rw [e]; simp
      rw [← List.length_map (f := mkB), hps] at hnp1
      obtain ⟨np, hnp⟩ : ∃ np, ps.length = np := ⟨_, rfl⟩
      rw [hps] at ho2
      rw [hnp] at hnp2 hnp1
      have hnp0 : (0 : Int) < (np : Int) := by omega
      obtain ⟨A2, c2, rfl, hc2⟩ : ∃ A2 c2, v2 = .slice A2 np c2 ∧ np ≤ c2 := by
        obtain ⟨A, c, e, h, _⟩ := ho2.form
        exact ⟨A, c, by rw [e, hnp], by omega⟩
      have HW : OwnT sC 1 w2 (w1.heap.size + 1) 9 (.slice A2 np c2) ps := ho2.lower (by simp)
      have HPL := Lib.hid hnp; have HPZ := Lib.hid hpz
      clear hnp hpz ho2
      by_cases hE : inn.data.toList = []
      · have hq2 := string_nilT hE
        obtain ⟨A', c', acc, k, HAL, HSZ, HACC, HBk', ho⟩ : ∃ (A' : Option Addr) (c' : Nat) (acc : List Vl) (k : Nat), RowKit.Hid (acc.length = k) ∧ RowKit.Hid (∀ x ∈ acc, x.s.size ≤ 20) ∧ RowKit.Hid (RV = some acc) ∧ Blk w2 w1.heap.size 26 #[.string kd, .slice A' k c'] ∧ OwnT vC 3 w2 (w1.heap.size + 1) 47 (.slice A' k c') acc :=
          ⟨none, 0, [], 0, Lib.hid rfl, Lib.hid (fun x h => by cases h), Lib.hid (by rw [← hRV]; unfold valsOf; rw [if_pos hE]), HBk, OwnT.nil_ _ _ _⟩
        clear HBk
        have HBk := HBk'; clear HBk'
        have hbel := g2
        have hk9 : k ≤ 5000000 := by
          have := HACC.out
          rw [← hRV] at this
          unfold valsOf at this
          rw [if_pos hE] at this
          injection this with this
          have h2 := HAL.out
          rw [← this] at h2
          simp at h2
          omega
        go_wp2
        go_loopw [9] (fun i wr => i = .int .i64 0 ∧ wr = w2) (fun _ _ => 0)
        case atStart => exact ⟨rfl, rfl⟩
        case round =>
          obtain ⟨rfl, rfl⟩ := hrel
          obtain ⟨r1, hr1⟩ : ∃ r, factOk ⟨kd, acc⟩ = r := ⟨_, rfl⟩
          have HR1 := Lib.hid hr1; clear hr1
          obtain ⟨y0, y1, y2, y3⟩ := HBk.two
          go_wp2_with fail
          refine (specFactOk_any kd A' _ c' acc _ _ (ho.rdM HAL.out) (by omega) (by omega) (fun x hx => by have := HSZ.out x hx; omega)).mono ?_
          rw [HR1.out]
          rintro e w9 ⟨rfl, hb9⟩
          replace HZk := HZk.kept hb9
          replace HBk := HBk.kept hb9
          replace hbel := bel_trans hbel hb9
          replace ho := ho.kept hb9
          clear y0 y1 y2 y3 hb9
          obtain ⟨z0, z1, z2, z3⟩ := HZk.two
          obtain ⟨y0, y1, y2, y3⟩ := HBk.two
          have hz9 := HZk.lt
          cases r1
          · obtain ⟨rfl, rfl, rfl⟩ := pf_none (by rw [HPF.out, HACC.out]; unfold closeF; dsimp only; rw [HR1.out]; rfl) HRES.out
            go_wp2
            refine bodyPost_ret (v := tupPF ⟨#[]⟩ none 0 0 false) (by simp [results, Tryz.results15, go_sem, tupPF, z0, z1]; try rfl) rfl ⟨none, 0, rfl, OwnT.nil_ _ _ _, (by repeat (first | with_reducible exact bel_refl _ | with_reducible assumption | with_reducible refine bel_set ?_ (by first | (simp; done) | (simp; omega) | omega) _ | with_reducible refine bel_alloc ?_ _ | with_reducible refine bel_drew ?_ | with_reducible refine bel_drewN ?_ _ | with_reducible refine bel_trans ?_ (by assumption)))⟩
          · obtain ⟨rfl, rfl, rfl⟩ := pf_good (by rw [HPF.out, HACC.out]; unfold closeF; dsimp only; rw [HR1.out]; rfl) HRES.out
            go_wp2
            refine bodyPost_ret (v := tupPF rkd A' k c' true) (by simp [results, Tryz.results15, go_sem, tupPF, z0, z1]) rfl ⟨A', c', by rw [HAL.out], ?_, (by repeat (first | with_reducible exact bel_refl _ | with_reducible assumption | with_reducible refine bel_set ?_ (by first | (simp; done) | (simp; omega) | omega) _ | with_reducible refine bel_alloc ?_ _ | with_reducible refine bel_drew ?_ | with_reducible refine bel_drewN ?_ _ | with_reducible refine bel_trans ?_ (by assumption)))⟩
            rw [HAL.out]
            exact ((ho.low (by first | (simp; done) | (simp; omega)) _).low (by first | (simp; done) | (simp; omega)) _).lower (by omega)
      have hq2 := string_nilF hE
      have HST := Lib.hid (show parseVs (ps.drop 0) [] = RV by rw [← hRV, List.drop_zero]; unfold valsOf; rw [if_neg hE, hps])
      clear hRV hps hinn
      go_wp2
      go_loopw [9] (fun i wr => ∃ (k : Nat) (A' : Option Addr) (c' : Nat) (acc : List Vl), k ≤ np ∧ i = .int .i64 k ∧ acc.length = k ∧ parseVs (ps.drop k) acc = RV ∧ (∀ x ∈ acc, x.s.size ≤ 20) ∧ k ≤ c' ∧ Blk wr w1.heap.size 26 #[.string kd, .slice A' k c'] ∧ Blk wr w.heap.size 26 #[.string ⟨#[]⟩, .slice none 0 0] ∧ OwnT vC 3 wr (w1.heap.size + 1) 47 (.slice A' k c') acc ∧ OwnT sC 1 wr (w1.heap.size + 1) 9 (.slice A2 np c2) ps ∧ Below w.heap.size w wr) (fun i _ => np - (intOf i).toNat)
      case atStart => exact ⟨0, none, 0, [], Nat.zero_le _, rfl, rfl, HST.out, fun x h => (by cases h), Nat.le_refl _, HBk, HZk, OwnT.nil_ _ _ _, HW, g2⟩
      case round =>
        clear HBk HZk HW g2
        obtain ⟨k, A', c', acc, hk, rfl, hal, hpv, hsz, hkc, HBk, HZk, ho, HW, hbel⟩ := hrel
        have HAL := Lib.hid hal; clear hal
        have HSZ := Lib.hid hsz; clear hsz
        have HPV := Lib.hid hpv; clear hpv
        have hbs := HBk.lt
        by_cases hlt : k < np
        · have hj0 : (0:Int) ≤ (k:Int) := by omega
          have hj1 : (k:Int) < (np:Int) := by omega
          have hkl : k < ps.length := by rw [HPL.out]; exact hlt
          obtain ⟨bw, ow, rfl, hbw, hcw⟩ := (HW.rdM HPL.out).2.string_ (by omega)
          obtain ⟨pk, hpk, c0⟩ := hcw k hlt
          clear hcw
          have hpkz : pk.size ≤ 1048576 := by rw [← hpk]; exact HPZ.out _ (List.getElem_mem _)
          obtain ⟨⟨vk, vn, vs⟩, ok, hpr⟩ : ∃ v ok, parseV pk = (v, ok) := ⟨_, _, rfl⟩
          have hvs := parseV_short pk
          rw [hpr] at hvs
          dsimp only at hvs
          have HPR := Lib.hid hpr
          have HPK := Lib.hid hpk; clear hpr hpk
          cases ok
          · have hno : RV = none := by rw [← HPV.out, parseVs_stepN hkl (by rw [HPK.out]; exact HPR.out)]
            obtain ⟨rfl, rfl, rfl⟩ := pf_none (by rw [HPF.out, hno]; rfl) HRES.out
            clear hno
            go_wp2_with fail
            refine (specParseVal_any pk _ hpkz).mono ?_
            rw [HPR.out]; dsimp only [tupP]
            rintro e w3 ⟨rfl, hb3⟩
            obtain ⟨z0, z1, z2, z3⟩ := ((HZk.kept hb3).alloc (.cells #[.int .i64 vk, .int .i64 vn, .string vs] 47)).two
            go_wp2
            refine bodyPost_ret (v := tupPF ⟨#[]⟩ none 0 0 false) (by simp [results, Tryz.results15, go_sem, tupPF, z0, z1]; try rfl) rfl ⟨none, 0, rfl, OwnT.nil_ _ _ _, (by repeat (first | with_reducible exact bel_refl _ | with_reducible assumption | with_reducible refine bel_set ?_ (by first | (simp; done) | (simp; omega) | omega) _ | with_reducible refine bel_alloc ?_ _ | with_reducible refine bel_drew ?_ | with_reducible refine bel_drewN ?_ _ | with_reducible refine bel_trans ?_ (by assumption)))⟩
          · have hst := parseVs_stepY (acc := acc) hkl (by rw [HPK.out]; exact HPR.out)
            have HR := Lib.hid (show parseVs (ps.drop (k + 1)) (acc ++ [⟨vk, vn, vs⟩]) = RV by rw [← hst, HPV.out]); clear hst
            go_wp2_with fail
            refine (specParseVal_any pk _ hpkz).mono ?_
            rw [HPR.out]; dsimp only [tupP]
            rintro e w3 ⟨rfl, hb3⟩
            have hs3 := hb3.size
            have hnew : RdT vC 3 ((w3.alloc (.cells #[.int .i64 vk, .int .i64 vn, .string vs] 47)).alloc (.cells #[.int .i64 vk, .int .i64 vn, .string vs] 47)) (w3.heap.size + 1 + 1) (some ⟨w3.heap.size + 1, 0, none⟩) 1 [⟨vk, vn, vs⟩] := by
              have h := RdT.new1 vC_sz (w3.alloc (.cells #[.int .i64 vk, .int .i64 vn, .string vs] 47)) 47 ⟨vk, vn, vs⟩
              simpa [vC] using h
            have hbel3 := bel_trans hbel hb3
            have HB3 := HBk.kept hb3
            have HZ3 := HZk.kept hb3
            have ho3 := ho.kept hb3
            have HW3 := HW.kept hb3
            obtain ⟨y0, y1, y2, y3⟩ := HB3.two
            have hlt3 : w1.heap.size < w3.heap.size := HB3.lt
            have hlz3 : w.heap.size < w3.heap.size := HZ3.lt
            have hl6 : (acc ++ [(⟨vk, vn, vs⟩ : Vl)]).length = k + 1 := by rw [List.length_append, HAL.out]; rfl
            have HL6 := Lib.hid hl6; clear hl6
            go_wp2_with (at_builtin; refine appTG rfl (.tmp 64) (.tmp 66) _ rfl vC_sz (w1.heap.size + 1) 47 i0 Tryz.underlying24 HI.out hz0 hz1 hz2 rfl (by omega) _ acc rfl ((ho3.alloc _).alloc _) _ 1 1 [⟨vk, vn, vs⟩] rfl hnew (by intro u hu; simp [fl, vC] at hu; rcases hu with rfl | rfl | rfl <;> rfl) (by have := HAL.out; omega) (by simp; omega) ?_ (by have := HAL.out; omega); intro v' w4 ho4 hb4 hg4; obtain ⟨A4, c4, hv4, hc4, _⟩ := ho4.form; rw [HL6.out] at hv4 hc4; subst hv4; have HB4 := Blk.bel4 ((HB3.alloc _).alloc _) hb4 (by omega); have HZ4 := Blk.bel4 ((HZ3.alloc _).alloc _) hb4 (by omega); have HW4 : OwnT sC 1 w4 (w1.heap.size + 1) 9 (.slice (some ⟨bw, ow, none⟩) np c2) ps := World.ownsRow.kept ((HW3.alloc _).alloc _) hg4 (row_ne HW3 ho3 (by decide)); obtain ⟨x0, x1, x2, x3⟩ := HB4.two)
            have HB5 := HB4.set_ 1 (.slice A4 (k + 1) c4)
            have HZ5 := HZ4.far (p := ⟨w1.heap.size, 1, none⟩) (by simp; omega) (.slice A4 (k + 1) c4)
            have HW5 := row_set HW4 HB4 (by decide) 1 (.slice A4 (k + 1) c4)
            have ho5 := row_set ho4 HB4 (by decide) 1 (.slice A4 (k + 1) c4)
            go_roundw
            case rel => exact ⟨k + 1, A4, c4, acc ++ [⟨vk, vn, vs⟩], by omega, by go_num, HL6.out, HR.out, fun x hx => (by rcases List.mem_append.1 hx with h | h; exact HSZ.out x h; rw [List.mem_singleton] at h; rw [h]; exact hvs), hc4, by simpa using HB5, HZ5, ho5, HW5, bel_set ((bel_alloc (bel_alloc hbel3 _) _).trans (hb4.mono (by omega))) (by simp; omega) _⟩
            case measure => simp [intOf]; omega
        · have HACC := Lib.hid (show RV = some acc by rw [← HPV.out, parseVs_end (by rw [HPL.out]; omega)])
          have hnlt : ¬ ((k : Int) < (np : Int)) := by omega
          obtain ⟨r1, hr1⟩ : ∃ r, factOk ⟨kd, acc⟩ = r := ⟨_, rfl⟩
          have HR1 := Lib.hid hr1; clear hr1
          obtain ⟨y0, y1, y2, y3⟩ := HBk.two
          go_wp2_with fail
          refine (specFactOk_any kd A' _ c' acc _ _ (ho.rdM HAL.out) (by omega) (by omega) (fun x hx => by have := HSZ.out x hx; omega)).mono ?_
          rw [HR1.out]
          rintro e w9 ⟨rfl, hb9⟩
          replace HZk := HZk.kept hb9
          replace HBk := HBk.kept hb9
          replace hbel := bel_trans hbel hb9
          replace ho := ho.kept hb9
          clear y0 y1 y2 y3 hb9
          obtain ⟨z0, z1, z2, z3⟩ := HZk.two
          obtain ⟨y0, y1, y2, y3⟩ := HBk.two
          have hz9 := HZk.lt
          cases r1
          · obtain ⟨rfl, rfl, rfl⟩ := pf_none (by rw [HPF.out, HACC.out]; unfold closeF; dsimp only; rw [HR1.out]; rfl) HRES.out
            go_wp2
            refine bodyPost_ret (v := tupPF ⟨#[]⟩ none 0 0 false) (by simp [results, Tryz.results15, go_sem, tupPF, z0, z1]; try rfl) rfl ⟨none, 0, rfl, OwnT.nil_ _ _ _, (by repeat (first | with_reducible exact bel_refl _ | with_reducible assumption | with_reducible refine bel_set ?_ (by first | (simp; done) | (simp; omega) | omega) _ | with_reducible refine bel_alloc ?_ _ | with_reducible refine bel_drew ?_ | with_reducible refine bel_drewN ?_ _ | with_reducible refine bel_trans ?_ (by assumption)))⟩
          · obtain ⟨rfl, rfl, rfl⟩ := pf_good (by rw [HPF.out, HACC.out]; unfold closeF; dsimp only; rw [HR1.out]; rfl) HRES.out
            go_wp2
            refine bodyPost_ret (v := tupPF rkd A' k c' true) (by simp [results, Tryz.results15, go_sem, tupPF, z0, z1]) rfl ⟨A', c', by rw [HAL.out], ?_, (by repeat (first | with_reducible exact bel_refl _ | with_reducible assumption | with_reducible refine bel_set ?_ (by first | (simp; done) | (simp; omega) | omega) _ | with_reducible refine bel_alloc ?_ _ | with_reducible refine bel_drew ?_ | with_reducible refine bel_drewN ?_ _ | with_reducible refine bel_trans ?_ (by assumption)))⟩
            rw [HAL.out]
            exact ((ho.low (by first | (simp; done) | (simp; omega)) _).low (by first | (simp; done) | (simp; omega)) _).lower (by omega)
    · have hq : ((s[s.size - 1].toNat : Int) == 41) = false := by
        rw [beq_eq_false_iff_ne]
        intro e
        apply h41
        rw [← hle 41 (by decide), hlast]
        have e2 : s[s.size - 1].toNat = 41 := by omega
        exact congrArg some (UInt8.toNat_inj.1 e2)
      rw [if_neg h41] at hP
      obtain ⟨rfl, rfl, rfl⟩ := pf_none hP HRES.out
      clear hle hlast hP hL
      go_wp2
      refine bodyPost_ret (v := tupPF ⟨#[]⟩ none 0 0 false) (by simp [results, Tryz.results15, go_sem, tupPF, z0, z1]; try rfl) rfl ⟨none, 0, rfl, OwnT.nil_ _ _ _, (by repeat (first | with_reducible exact bel_refl _ | with_reducible assumption | with_reducible refine bel_set ?_ (by first | (simp; done) | (simp; omega) | omega) _ | with_reducible refine bel_alloc ?_ _ | with_reducible refine bel_drew ?_ | with_reducible refine bel_drewN ?_ _ | with_reducible refine bel_trans ?_ (by assumption)))⟩
  · obtain ⟨rfl, rfl, rfl⟩ := pf_none (parseF_ne2 h2) HRES.out
    obtain ⟨ls, hls⟩ : ∃ ls, (splitL 40 s.data.toList).map mkB = ls := ⟨_, rfl⟩
    have hn2 : ¬ ((ls.length : Int) = 2) := by rw [← hls, List.length_map]; omega
    rw [hls] at ho1
    obtain ⟨A1, c1, rfl, hc1, hr1⟩ := ho1.rd
    go_wp2
    refine bodyPost_ret (v := tupPF ⟨#[]⟩ none 0 0 false) (by simp [results, Tryz.results15, go_sem, tupPF, z0, z1]; try rfl) rfl ⟨none, 0, rfl, OwnT.nil_ _ _ _, (by repeat (first | with_reducible exact bel_refl _ | with_reducible assumption | with_reducible refine bel_set ?_ (by first | (simp; done) | (simp; omega) | omega) _ | with_reducible refine bel_alloc ?_ _ | with_reducible refine bel_drew ?_ | with_reducible refine bel_drewN ?_ _ | with_reducible refine bel_trans ?_ (by assumption)))⟩
def MaxT (w : World) : Prop := ∃ m, w.cell? ⟨0, 0, none⟩ = some (.int .i64 m)
theorem MaxT.kept {w w' : World} (h : MaxT w) (hb : Below w.heap.size w w') : MaxT w' := by
  obtain ⟨m, hm⟩ := h
  exact ⟨m, old_cell hb hm⟩
theorem implParseFact_any (s : ByteArray) (rkd : ByteArray) (rfs : List Vl) (rb : Bool) (w : World) (hs : s.size ≤ 1048576) (ht : TabT w) (hv : VarE w) (hm : MaxT w) (hres : parseF s = (⟨rkd, rfs⟩, rb)) :
    Calls Tryz.prog 12 #[.string s] w fun e w' => ∃ A' c', e = .returned (tupPF rkd A' rfs.length c' rb) ∧ OwnT vC 3 w' w.heap.size 47 (.slice A' rfs.length c') rfs ∧ Below w.heap.size w w' := by
  obtain ⟨i0, hi, hz0, hz1, hz2⟩ := info_parts infoVal
  have HI := Lib.hid hi; clear hi
  have HRES := Lib.hid hres; clear hres
  have HTT := Lib.hid ht; have HVV := Lib.hid hv; have HMM := Lib.hid hm; clear ht hv hm
  have HZ := Blk.new w 26 #[.string ⟨#[]⟩, .slice none 0 0]
  have g0 : Below w.heap.size w (w.alloc (.cells #[.string ⟨#[]⟩, .slice none 0 0] 26)) := bel_alloc (bel_refl w) _
  obtain ⟨m1, hm1⟩ := HMM.out.kept g0
  obtain ⟨cp, ct, cb, hcut⟩ : ∃ cp ct cb, Lib.cut s.data.toList [40] = (cp, ct, cb) := ⟨_, _, _, rfl⟩
  have hC : cp.length ≤ s.size ∧ ct.length ≤ s.size ∧ ((cb = false ∧ ¬ (40 : UInt8) ∈ s.data.toList) ∨ (cb = true ∧ s.data.toList = cp ++ 40 :: ct ∧ ¬ (40 : UInt8) ∈ cp)) := by
    have hz := size_data s
    rcases index_one 40 s.data.toList with ⟨_, h⟩ | ⟨p, t, hL, h, _⟩
    · rw [cut_none h] at hcut
      injection hcut with e1 e2
      injection e2 with e2 e3
      subst e1 e2 e3
      exact ⟨by omega, by simp, Or.inl ⟨rfl, h⟩⟩
    · rw [hL, cut_at h] at hcut
      injection hcut with e1 e2
      injection e2 with e2 e3
      subst e1 e2 e3
      rw [hL, List.length_append, List.length_cons] at hz
      exact ⟨by omega, by omega, Or.inr ⟨rfl, hL, h⟩⟩
  obtain ⟨hcp, hct, hC⟩ := hC
  obtain ⟨kd, hkd⟩ : ∃ kd, mkB cp = kd := ⟨_, rfl⟩
  obtain ⟨tB, htB⟩ : ∃ tB, mkB ct = tB := ⟨_, rfl⟩
  have hkz : kd.size ≤ 1048576 := by rw [← hkd]; show cp.toArray.size ≤ _; rw [List.size_toArray]; omega
  have htd : tB.data.toList = ct := by rw [← htB]; rfl
  have htz : tB.size ≤ 1048576 := by rw [← size_data, htd]; omega
  obtain ⟨inn, hinn⟩ : ∃ inn, mkB (Lib.trimSuffix tB.data.toList [41]) = inn := ⟨_, rfl⟩
  obtain ⟨cl, hcl⟩ : ∃ cl, Lib.hasSuffix tB.data.toList [41] = cl := ⟨_, rfl⟩
  have hP : (cb = false → parseF s = noneF) ∧ (cl = false → parseF s = noneF) ∧ (cb = true → cl = true → parseF s = closeF kd (valsOf inn.data.toList) ∧ inn.size ≤ 1048576) := by
    refine ⟨fun h => ?_, fun h => ?_, fun h1 h2 => ?_⟩
    · rcases hC with ⟨_, h2⟩ | ⟨h2, _⟩
      · exact parseF_nocut h2
      · rw [h] at h2; cases h2
    · rcases hC with ⟨_, h2⟩ | ⟨_, hL, h2⟩
      · exact parseF_nocut h2
      · rw [parseF_open hL h2]
        split
        · rename_i h3
          have h4 := last_some h3
          rw [h4] at htd
          have h5 := (suffix_one 41 ct.dropLast).1
          rw [← htd, hcl, h] at h5
          cases h5
        · rfl
    · rcases hC with ⟨h3, _⟩ | ⟨_, hL, h3⟩
      · rw [h1] at h3; cases h3
      · have hg : ct.getLast? = some 41 := by
          rcases Classical.em (ct.getLast? = some 41) with h4 | h4
          · exact h4
          · have h5 := suffix_none h4
            rw [← htd, hcl, h2] at h5
            cases h5
        have h4 := last_some hg
        have h5 := (suffix_one 41 ct.dropLast).2
        rw [← h4, ← htd] at h5
        have hid : inn.data.toList = ct.dropLast := by rw [← hinn, h5, htd]; rfl
        refine ⟨by rw [parseF_open hL h3, if_pos hg, hkd, hid], ?_⟩
        rw [← size_data, hid, List.length_dropLast]
        omega
  obtain ⟨hP1, hP2, hP3⟩ := hP
  have HP1 := Lib.hid hP1; have HP2 := Lib.hid hP2; have HP3 := Lib.hid hP3
  clear hP1 hP2 hP3 hC htd
  go_enter Tryz.func12, Tryz.ntmps12
  go_wp2_with fail
  refine (Tryz.strings_Cut s ⟨#[40]⟩ m1 _ (by omega) hm1).mono ?_
  rw [show (⟨#[40]⟩ : ByteArray).data.toList = [40] from rfl, hcut]
  dsimp only
  rw [show (⟨cp.toArray⟩ : ByteArray) = kd from hkd, show (⟨ct.toArray⟩ : ByteArray) = tB from htB]
  rintro e w1 ⟨rfl, nd, rfl⟩
  clear hcut hkd htB
  go_wp2_with fail
  refine (Tryz.strings_CutSuffix tB ⟨#[41]⟩ _ (by omega)).mono ?_
  rw [show (⟨#[41]⟩ : ByteArray).data.toList = [41] from rfl, hcl, show (⟨(Lib.trimSuffix tB.data.toList [41]).toArray⟩ : ByteArray) = inn from hinn]
  rintro e w1 ⟨rfl, rfl⟩
  clear hcl hinn
  replace HZ := HZ.drewN nd
  have gd : Below w.heap.size w ((w.alloc (.cells #[.string ⟨#[]⟩, .slice none 0 0] 26)).drewN nd) := bel_drewN g0 nd
  have hsv : ((w.alloc (.cells #[.string ⟨#[]⟩, .slice none 0 0] 26)).drewN nd).heap.size = w.heap.size + 1 := by simp
  have hm2 : ((w.alloc (.cells #[.string ⟨#[]⟩, .slice none 0 0] 26)).drewN nd).cell? ⟨0, 0, none⟩ = some (.int .i64 m1) := hm1
  generalize hvv : (w.alloc (.cells #[.string ⟨#[]⟩, .slice none 0 0] 26)).drewN nd = v at HZ gd hm2 hsv ⊢
  clear hvv hm1 g0
  have hsv1 : w.heap.size < v.heap.size := by omega
  clear hsv
  cases cb
  · obtain ⟨rfl, rfl, rfl⟩ := pf_none (HP1.out rfl) HRES.out
    obtain ⟨z0, z1, z2, z3⟩ := HZ.two
    go_wp2
    refine bodyPost_ret (v := tupPF ⟨#[]⟩ none 0 0 false) (by simp [results, Tryz.results12, go_sem, tupPF, z0, z1]; try rfl) rfl ⟨none, 0, rfl, OwnT.nil_ _ _ _, (by repeat (first | with_reducible exact bel_refl _ | with_reducible assumption | with_reducible refine bel_set ?_ (by first | (simp; done) | (simp; omega) | omega) _ | with_reducible refine bel_alloc ?_ _ | with_reducible refine bel_drew ?_ | with_reducible refine bel_drewN ?_ _ | with_reducible refine bel_trans ?_ (by assumption)))⟩
  cases cl
  · obtain ⟨rfl, rfl, rfl⟩ := pf_none (HP2.out rfl) HRES.out
    obtain ⟨z0, z1, z2, z3⟩ := HZ.two
    go_wp2
    refine bodyPost_ret (v := tupPF ⟨#[]⟩ none 0 0 false) (by simp [results, Tryz.results12, go_sem, tupPF, z0, z1]; try rfl) rfl ⟨none, 0, rfl, OwnT.nil_ _ _ _, (by repeat (first | with_reducible exact bel_refl _ | with_reducible assumption | with_reducible refine bel_set ?_ (by first | (simp; done) | (simp; omega) | omega) _ | with_reducible refine bel_alloc ?_ _ | with_reducible refine bel_drew ?_ | with_reducible refine bel_drewN ?_ _ | with_reducible refine bel_trans ?_ (by assumption)))⟩
  by_cases h200 : 200 < s.size
  · obtain ⟨rfl, rfl, rfl⟩ := pf_none (parseF_big h200) HRES.out
    obtain ⟨z0, z1, z2, z3⟩ := HZ.two
    have h200b : (200 : Int) < (s.size : Int) := by omega
    go_wp2
    refine bodyPost_ret (v := tupPF ⟨#[]⟩ none 0 0 false) (by simp [results, Tryz.results12, go_sem, tupPF, z0, z1]; try rfl) rfl ⟨none, 0, rfl, OwnT.nil_ _ _ _, (by repeat (first | with_reducible exact bel_refl _ | with_reducible assumption | with_reducible refine bel_set ?_ (by first | (simp; done) | (simp; omega) | omega) _ | with_reducible refine bel_alloc ?_ _ | with_reducible refine bel_drew ?_ | with_reducible refine bel_drewN ?_ _ | with_reducible refine bel_trans ?_ (by assumption)))⟩
  have h200b : ¬ ((200 : Int) < (s.size : Int)) := by omega
  obtain ⟨hP, hiz⟩ := HP3.out rfl rfl
  obtain ⟨RV, hRV⟩ : ∃ RV, valsOf inn.data.toList = RV := ⟨_, rfl⟩
  rw [hRV] at hP
  have HPF := Lib.hid hP
  clear hP h200
  have gf : Below v.heap.size v (v.alloc (.cells #[.string kd, .slice none 0 0] 26)) := bel_alloc (bel_refl v) _
  have HBk := Blk.new v 26 #[.string kd, .slice none 0 0]
  have HZk := HZ.kept gf
  have g1 : Below w.heap.size w (v.alloc (.cells #[.string kd, .slice none 0 0] 26)) := bel_trans gd gf
  have hm3 := old_cell gf hm2
  clear HZ gd gf hm2
  by_cases hE : inn.data.toList = []
  · have hq2 := string_nilT hE
    obtain ⟨A', c', acc, k, HAL, HSZ, HACC, HBk', ho⟩ : ∃ (A' : Option Addr) (c' : Nat) (acc : List Vl) (k : Nat), RowKit.Hid (acc.length = k) ∧ RowKit.Hid (∀ x ∈ acc, x.s.size ≤ 20) ∧ RowKit.Hid (RV = some acc) ∧ Blk (v.alloc (.cells #[.string kd, .slice none 0 0] 26)) v.heap.size 26 #[.string kd, .slice A' k c'] ∧ OwnT vC 3 (v.alloc (.cells #[.string kd, .slice none 0 0] 26)) (v.heap.size + 1) 47 (.slice A' k c') acc :=
      ⟨none, 0, [], 0, Lib.hid rfl, Lib.hid (fun x h => by cases h), Lib.hid (by rw [← hRV]; unfold valsOf; rw [if_pos hE]), HBk, OwnT.nil_ _ _ _⟩
    clear HBk
    have HBk := HBk'; clear HBk'
    have hbel := g1
    have hk9 : k ≤ 5000000 := by
      have := HACC.out
      rw [← hRV] at this
      unfold valsOf at this
      rw [if_pos hE] at this
      injection this with this
      have h2 := HAL.out
      rw [← this] at h2
      simp at h2
      omega
    clear hE hRV
    obtain ⟨r1, hr1⟩ : ∃ r, factOk ⟨kd, acc⟩ = r := ⟨_, rfl⟩
    have HR1 := Lib.hid hr1; clear hr1
    obtain ⟨y0, y1, y2, y3⟩ := HBk.two
    go_wp2_with fail
    refine (implFactOk_any kd A' _ c' acc _ _ (ho.rdM HAL.out) (by omega) (by omega) (fun x hx => by have := HSZ.out x hx; omega)).mono ?_
    rw [HR1.out]
    rintro e w9 ⟨rfl, hb9⟩
    replace HZk := HZk.kept hb9
    replace HBk := HBk.kept hb9
    replace hbel := bel_trans hbel hb9
    replace ho := ho.kept hb9
    clear y0 y1 y2 y3 hb9
    obtain ⟨z0, z1, z2, z3⟩ := HZk.two
    obtain ⟨y0, y1, y2, y3⟩ := HBk.two
    have hz9 := HZk.lt
    cases r1
    · obtain ⟨rfl, rfl, rfl⟩ := pf_none (by rw [HPF.out, HACC.out]; unfold closeF; dsimp only; rw [HR1.out]; rfl) HRES.out
      go_wp2
      refine bodyPost_ret (v := tupPF ⟨#[]⟩ none 0 0 false) (by simp [results, Tryz.results12, go_sem, tupPF, z0, z1]; try rfl) rfl ⟨none, 0, rfl, OwnT.nil_ _ _ _, (by repeat (first | with_reducible exact bel_refl _ | with_reducible assumption | with_reducible refine bel_set ?_ (by first | (simp; done) | (simp; omega) | omega) _ | with_reducible refine bel_alloc ?_ _ | with_reducible refine bel_drew ?_ | with_reducible refine bel_drewN ?_ _ | with_reducible refine bel_trans ?_ (by assumption)))⟩
    · obtain ⟨rfl, rfl, rfl⟩ := pf_good (by rw [HPF.out, HACC.out]; unfold closeF; dsimp only; rw [HR1.out]; rfl) HRES.out
      go_wp2
      refine bodyPost_ret (v := tupPF rkd A' k c' true) (by simp [results, Tryz.results12, go_sem, tupPF, z0, z1]) rfl ⟨A', c', by rw [HAL.out], ?_, (by repeat (first | with_reducible exact bel_refl _ | with_reducible assumption | with_reducible refine bel_set ?_ (by first | (simp; done) | (simp; omega) | omega) _ | with_reducible refine bel_alloc ?_ _ | with_reducible refine bel_drew ?_ | with_reducible refine bel_drewN ?_ _ | with_reducible refine bel_trans ?_ (by assumption)))⟩
      rw [HAL.out]
      exact ((ho.low (by first | (simp; done) | (simp; omega)) _).low (by first | (simp; done) | (simp; omega)) _).lower (by omega)
  have hq2 := string_nilF hE
  obtain ⟨ps, hps⟩ : ∃ ps, (splitL 44 inn.data.toList).map mkB = ps := ⟨_, rfl⟩
  have hpz : ∀ p ∈ ps, p.size ≤ 1048576 := by
    intro p hp
    rw [← hps] at hp
    obtain ⟨q, hq, rfl⟩ := List.mem_map.1 hp
    have := splitL_mem_len hq
    rw [size_data] at this
    show q.toArray.size ≤ _
    rw [List.size_toArray]
    omega
  have hnp2 := splitL_len 44 inn.data.toList
  rw [size_data, ← List.length_map (f := mkB), hps] at hnp2
  obtain ⟨np, hnp⟩ : ∃ np, ps.length = np := ⟨_, rfl⟩
  rw [hnp] at hnp2
  have hsp : Lib.splitB ⟨#[44]⟩ 0 (Lib.countB inn ⟨#[44]⟩) inn = ps := by rw [splitB_one 44 _ inn rfl, ← hps]; rfl
  have hcn : Lib.countB inn ⟨#[44]⟩ + 1 = np := by rw [← hnp, ← hsp, Lib.splitB_all ⟨#[44]⟩ (Nat.le_refl _) 0 _ inn rfl]
  have HST := Lib.hid (show parseVs (ps.drop 0) [] = RV by rw [← hRV, List.drop_zero]; unfold valsOf; rw [if_neg hE, hps])
  clear hRV hps hE
  go_wp2_with fail
  refine (Tryz.strings_Split inn ⟨#[44]⟩ m1 _ (by omega) hm3 (Nat.le_refl _)).mono ?_
  rw [hsp, hcn]
  rintro e w2 ⟨rfl, rfl⟩
  have hlo := lit_own sC_sz (v.alloc (.cells #[.string kd, .slice none 0 0] 26)) 9 ps (by rw [hnp]; simp only [maxLen]; omega)
  rw [fl_string, hnp] at hlo
  have gs : Below (v.alloc (.cells #[.string kd, .slice none 0 0] 26)).heap.size (v.alloc (.cells #[.string kd, .slice none 0 0] 26)) ((v.alloc (.cells #[.string kd, .slice none 0 0] 26)).alloc (.cells (ps.map Value.string).toArray 9)) := bel_alloc (bel_refl _) _
  replace HBk := HBk.kept gs
  replace HZk := HZk.kept gs
  have g2 := bel_trans g1 gs
  generalize hw2 : (v.alloc (.cells #[.string kd, .slice none 0 0] 26)).alloc (.cells (ps.map Value.string).toArray 9) = w2 at HBk HZk g2 hlo ⊢
  obtain ⟨A2, hA2⟩ : ∃ A2, some (⟨(v.alloc (.cells #[.string kd, .slice none 0 0] 26)).heap.size, 0, none⟩ : Addr) = A2 := ⟨_, rfl⟩
  have hA3 : some (⟨v.heap.size + 1, 0, none⟩ : Addr) = A2 := by rw [← hA2]; simp
  have HW : OwnT sC 1 w2 (v.heap.size + 1) 9 (.slice A2 np np) ps := by rw [← hA2]; exact hlo.lower (by simp)
  have HPL := Lib.hid hnp; have HPZ := Lib.hid hpz
  clear hnp hpz hlo gs g1 hm3 hw2 hsp hcn
  first | rw [hA2] | (simp only [World.alloc_size4]; rw [hA3])
  clear hA2 hA3
  go_wp2
  go_loopw [44] (fun i wr => ∃ (k : Nat) (A' : Option Addr) (c' : Nat) (acc : List Vl), k ≤ np ∧ i = .int .i64 k ∧ acc.length = k ∧ parseVs (ps.drop k) acc = RV ∧ (∀ x ∈ acc, x.s.size ≤ 20) ∧ k ≤ c' ∧ Blk wr v.heap.size 26 #[.string kd, .slice A' k c'] ∧ Blk wr w.heap.size 26 #[.string ⟨#[]⟩, .slice none 0 0] ∧ OwnT vC 3 wr (v.heap.size + 1) 47 (.slice A' k c') acc ∧ OwnT sC 1 wr (v.heap.size + 1) 9 (.slice A2 np np) ps ∧ Below w.heap.size w wr) (fun i _ => np - (intOf i).toNat)
  case atStart => exact ⟨0, none, 0, [], Nat.zero_le _, rfl, rfl, HST.out, fun x h => (by cases h), Nat.le_refl _, HBk, HZk, OwnT.nil_ _ _ _, HW, g2⟩
  case round =>
    clear HBk HZk HW g2
    obtain ⟨k, A', c', acc, hk, rfl, hal, hpv, hsz, hkc, HBk, HZk, ho, HW, hbel⟩ := hrel
    have HAL := Lib.hid hal; clear hal
    have HSZ := Lib.hid hsz; clear hsz
    have HPV := Lib.hid hpv; clear hpv
    have hbs := HBk.lt
    by_cases hlt : k < np
    · have hj0 : (0:Int) ≤ (k:Int) := by omega
      have hj1 : (k:Int) < (np:Int) := by omega
      have hkl : k < ps.length := by rw [HPL.out]; exact hlt
      obtain ⟨bw, ow, rfl, hbw, hcw⟩ := (HW.rdM HPL.out).2.string_ (by omega)
      obtain ⟨pk, hpk, c0⟩ := hcw k hlt
      clear hcw
      have hpkz : pk.size ≤ 1048576 := by rw [← hpk]; exact HPZ.out _ (List.getElem_mem _)
      obtain ⟨⟨vk, vn, vs⟩, ok, hpr⟩ : ∃ v ok, parseV pk = (v, ok) := ⟨_, _, rfl⟩
      have hvs := parseV_short pk
      rw [hpr] at hvs
      dsimp only at hvs
      have HPR := Lib.hid hpr
      have HPK := Lib.hid hpk; clear hpr hpk
      cases ok
      · have hno : RV = none := by rw [← HPV.out, parseVs_stepN hkl (by rw [HPK.out]; exact HPR.out)]
        obtain ⟨rfl, rfl, rfl⟩ := pf_none (by rw [HPF.out, hno]; rfl) HRES.out
        clear hno
        go_wp2_with fail
        refine (implParseVal_any pk _ hpkz (HTT.out.kept hbel) (HVV.out.kept hbel)).mono ?_
        rw [HPR.out]; dsimp only [tupP]
        rintro e w3 ⟨rfl, hb3⟩
        obtain ⟨z0, z1, z2, z3⟩ := ((HZk.kept hb3).alloc (.cells #[.int .i64 vk, .int .i64 vn, .string vs] 47)).two
        go_wp2
        refine bodyPost_ret (v := tupPF ⟨#[]⟩ none 0 0 false) (by simp [results, Tryz.results12, go_sem, tupPF, z0, z1]; try rfl) rfl ⟨none, 0, rfl, OwnT.nil_ _ _ _, (by repeat (first | with_reducible exact bel_refl _ | with_reducible assumption | with_reducible refine bel_set ?_ (by first | (simp; done) | (simp; omega) | omega) _ | with_reducible refine bel_alloc ?_ _ | with_reducible refine bel_drew ?_ | with_reducible refine bel_drewN ?_ _ | with_reducible refine bel_trans ?_ (by assumption)))⟩
      · have hst := parseVs_stepY (acc := acc) hkl (by rw [HPK.out]; exact HPR.out)
        have HR := Lib.hid (show parseVs (ps.drop (k + 1)) (acc ++ [⟨vk, vn, vs⟩]) = RV by rw [← hst, HPV.out]); clear hst
        go_wp2_with fail
        refine (implParseVal_any pk _ hpkz (HTT.out.kept hbel) (HVV.out.kept hbel)).mono ?_
        rw [HPR.out]; dsimp only [tupP]
        rintro e w3 ⟨rfl, hb3⟩
        have hs3 := hb3.size
        have hnew : RdT vC 3 ((w3.alloc (.cells #[.int .i64 vk, .int .i64 vn, .string vs] 47)).alloc (.cells #[.int .i64 vk, .int .i64 vn, .string vs] 47)) (w3.heap.size + 1 + 1) (some ⟨w3.heap.size + 1, 0, none⟩) 1 [⟨vk, vn, vs⟩] := by
          have h := RdT.new1 vC_sz (w3.alloc (.cells #[.int .i64 vk, .int .i64 vn, .string vs] 47)) 47 ⟨vk, vn, vs⟩
          simpa [vC] using h
        have hbel3 := bel_trans hbel hb3
        have HB3 := HBk.kept hb3
        have HZ3 := HZk.kept hb3
        have ho3 := ho.kept hb3
        have HW3 := HW.kept hb3
        obtain ⟨y0, y1, y2, y3⟩ := HB3.two
        have hlt3 : v.heap.size < w3.heap.size := HB3.lt
        have hlz3 : w.heap.size < w3.heap.size := HZ3.lt
        have hl6 : (acc ++ [(⟨vk, vn, vs⟩ : Vl)]).length = k + 1 := by rw [List.length_append, HAL.out]; rfl
        have HL6 := Lib.hid hl6; clear hl6
        go_wp2_with (at_builtin; refine appTG rfl (.tmp 57) (.tmp 59) _ rfl vC_sz (v.heap.size + 1) 47 i0 Tryz.underlying24 HI.out hz0 hz1 hz2 rfl (by omega) _ acc rfl ((ho3.alloc _).alloc _) _ 1 1 [⟨vk, vn, vs⟩] rfl hnew (by intro u hu; simp [fl, vC] at hu; rcases hu with rfl | rfl | rfl <;> rfl) (by have := HAL.out; omega) (by simp; omega) ?_ (by have := HAL.out; omega); intro v' w4 ho4 hb4 hg4; obtain ⟨A4, c4, hv4, hc4, _⟩ := ho4.form; rw [HL6.out] at hv4 hc4; subst hv4; have HB4 := Blk.bel4 ((HB3.alloc _).alloc _) hb4 (by omega); have HZ4 := Blk.bel4 ((HZ3.alloc _).alloc _) hb4 (by omega); have HW4 : OwnT sC 1 w4 (v.heap.size + 1) 9 (.slice (some ⟨bw, ow, none⟩) np np) ps := World.ownsRow.kept ((HW3.alloc _).alloc _) hg4 (row_ne HW3 ho3 (by decide)); obtain ⟨x0, x1, x2, x3⟩ := HB4.two)
        have HB5 := HB4.set_ 1 (.slice A4 (k + 1) c4)
        have HZ5 := HZ4.far (p := ⟨v.heap.size, 1, none⟩) (by simp; omega) (.slice A4 (k + 1) c4)
        have HW5 := row_set HW4 HB4 (by decide) 1 (.slice A4 (k + 1) c4)
        have ho5 := row_set ho4 HB4 (by decide) 1 (.slice A4 (k + 1) c4)
        go_roundw
        case rel => exact ⟨k + 1, A4, c4, acc ++ [⟨vk, vn, vs⟩], by omega, by go_num, HL6.out, HR.out, fun x hx => (by rcases List.mem_append.1 hx with h | h; exact HSZ.out x h; rw [List.mem_singleton] at h; rw [h]; exact hvs), hc4, by simpa using HB5, HZ5, ho5, HW5, bel_set ((bel_alloc (bel_alloc hbel3 _) _).trans (hb4.mono (by omega))) (by simp; omega) _⟩
        case measure => simp [intOf]; omega
    · have HACC := Lib.hid (show RV = some acc by rw [← HPV.out, parseVs_end (by rw [HPL.out]; omega)])
      have hnlt : ¬ ((k : Int) < (np : Int)) := by omega
      obtain ⟨r1, hr1⟩ : ∃ r, factOk ⟨kd, acc⟩ = r := ⟨_, rfl⟩
      have HR1 := Lib.hid hr1; clear hr1
      obtain ⟨y0, y1, y2, y3⟩ := HBk.two
      go_wp2_with fail
      refine (implFactOk_any kd A' _ c' acc _ _ (ho.rdM HAL.out) (by omega) (by omega) (fun x hx => by have := HSZ.out x hx; omega)).mono ?_
      rw [HR1.out]
      rintro e w9 ⟨rfl, hb9⟩
      replace HZk := HZk.kept hb9
      replace HBk := HBk.kept hb9
      replace hbel := bel_trans hbel hb9
      replace ho := ho.kept hb9
      clear y0 y1 y2 y3 hb9
      obtain ⟨z0, z1, z2, z3⟩ := HZk.two
      obtain ⟨y0, y1, y2, y3⟩ := HBk.two
      have hz9 := HZk.lt
      cases r1
      · obtain ⟨rfl, rfl, rfl⟩ := pf_none (by rw [HPF.out, HACC.out]; unfold closeF; dsimp only; rw [HR1.out]; rfl) HRES.out
        go_wp2
        refine bodyPost_ret (v := tupPF ⟨#[]⟩ none 0 0 false) (by simp [results, Tryz.results12, go_sem, tupPF, z0, z1]; try rfl) rfl ⟨none, 0, rfl, OwnT.nil_ _ _ _, (by repeat (first | with_reducible exact bel_refl _ | with_reducible assumption | with_reducible refine bel_set ?_ (by first | (simp; done) | (simp; omega) | omega) _ | with_reducible refine bel_alloc ?_ _ | with_reducible refine bel_drew ?_ | with_reducible refine bel_drewN ?_ _ | with_reducible refine bel_trans ?_ (by assumption)))⟩
      · obtain ⟨rfl, rfl, rfl⟩ := pf_good (by rw [HPF.out, HACC.out]; unfold closeF; dsimp only; rw [HR1.out]; rfl) HRES.out
        go_wp2
        refine bodyPost_ret (v := tupPF rkd A' k c' true) (by simp [results, Tryz.results12, go_sem, tupPF, z0, z1]) rfl ⟨A', c', by rw [HAL.out], ?_, (by repeat (first | with_reducible exact bel_refl _ | with_reducible assumption | with_reducible refine bel_set ?_ (by first | (simp; done) | (simp; omega) | omega) _ | with_reducible refine bel_alloc ?_ _ | with_reducible refine bel_drew ?_ | with_reducible refine bel_drewN ?_ _ | with_reducible refine bel_trans ?_ (by assumption)))⟩
        rw [HAL.out]
        exact ((ho.low (by first | (simp; done) | (simp; omega)) _).low (by first | (simp; done) | (simp; omega)) _).lower (by omega)
end Go.Proofs.YtcbbefibebkfgaaGreatDoor
