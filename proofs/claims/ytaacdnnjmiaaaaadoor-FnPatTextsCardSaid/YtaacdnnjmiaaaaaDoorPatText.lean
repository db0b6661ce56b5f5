/- Texts of patterns, of the program and of the reference. Each answers what the plain function says and makes at most new blocks. Conditions: lengths; the library's table of powers of ten is as its text lays it. -/
import Derived.Test.YtaacdnnjmiaaaaaDoorCondText
import Derived.Test.YtaacdnnjmiaaaaaDoorPat
import Derived.Test.YtaacdnnjmiaaaaaDoorJoinT
import Derived.Test.YtaacdnnjmiaaaaaDoorApp2
import Derived.Test.YtaacdnnjmiaaaaaDoorBox
import Derived.Test.YtaacdnnjmiaaaaaDoorHeld2
namespace Go.Proofs.YtaacdnnjmiaaaaaDoor
open Go.RowKit
set_option maxRecDepth 100000
set_option maxHeartbeats 4000000
def patText (f : Pt) : ByteArray := if patOk f then (if f.no then ⟨#[33]⟩ ++ ((f.kd ++ ⟨#[40]⟩) ++ joinB ⟨#[44, 32]⟩ (f.fs.map argText) ++ ⟨#[41]⟩) else ((f.kd ++ ⟨#[40]⟩) ++ joinB ⟨#[44, 32]⟩ (f.fs.map argText) ++ ⟨#[41]⟩)) else ⟨#[]⟩
theorem patOk_parts {f : Pt} (h : patOk f = true) : f.kd.size ≤ 12 ∧ f.fs.length ≤ 5 ∧ ∀ x ∈ f.fs, argOk x = true := by
  unfold patOk at h
  simp only [Bool.and_eq_true, decide_eq_true_eq, List.all_eq_true] at h
  refine ⟨?_, h.2.2, h.2.1⟩
  have := h.1
  unfold nameOk at this
  simp only [Bool.and_eq_true] at this
  have := word_len this.2
  omega
theorem patText_tl {l : List Ag} (h : ∀ x ∈ l, argOk x = true) : ∀ x ∈ l.map argText, x.size ≤ 100 := by
  intro x hx
  obtain ⟨y, hy, rfl⟩ := List.mem_map.1 hx
  exact argText_len (h y hy)
theorem patText_sz {l : List Ag} (h : ∀ x ∈ l, argOk x = true) (hl : l.length ≤ 5) (k : Nat) : (joinB ⟨#[44, 32]⟩ ((l.map argText).take k)).size ≤ 5 * (100 + 2) := by
  have h1 := joinB_len (M := 100) ⟨#[44, 32]⟩ ((l.map argText).take k) (fun x hx => patText_tl h x (List.mem_of_mem_take hx))
  have h2 : ((l.map argText).take k).length ≤ 5 := by rw [List.length_take, List.length_map]; omega
  have h3 : (⟨#[44, 32]⟩ : ByteArray).size = 2 := rfl
  rw [h3] at h1
  exact Nat.le_trans h1 (Nat.mul_le_mul_right _ h2)
theorem implPatText_any (kd : ByteArray) (A : Option Addr) (n c : Nat) (xs : List Ag) (no : Bool) (w : World) (B : Nat) (ht : TabT w) (hr : RdS aC 5 w B A n xs) (hn : n ≤ 4611686018427387904) (hk : kd.size ≤ 9223372036854775807) (hs : ∀ x ∈ xs, goodA x) :
    Calls Tryd.prog 11 #[.agg #[.string kd, .slice A n c, .bool no]] w fun e w' => e = .returned (.string (patText ⟨kd, xs, no⟩)) ∧ Below w.heap.size w w' := by
  obtain ⟨i0, hi, hz0, hz1, hz2⟩ := info_parts infoString
  have HI := Lib.hid hi; clear hi
  have HT := Lib.hid ht; clear ht
  have HL := Lib.hid hr.len
  have HS := Lib.hid hs; clear hs
  obtain ⟨r, hrr⟩ : ∃ r, patOk ⟨kd, xs, no⟩ = r := ⟨_, rfl⟩
  have HR := Lib.hid hrr
  cases r
  · clear hrr
    go_enter Tryd.func11, Tryd.ntmps11
    go_wp2_with fail
    refine (implPatOk_any kd A n c xs no _ B (by repeat (first | with_reducible assumption | with_reducible refine RdS.alloc ?_ _ | with_reducible refine RdS.drew ?_ | with_reducible refine RdS.drewN ?_ _ | with_reducible refine RdS.setCell ?_ (by first | (simp; done) | (simp; omega) | omega) _)) hn hk HS.out).mono ?_
    rw [HR.out]
    rintro e w1 ⟨rfl, hb⟩
    have g1 : Below w.heap.size w w1 := (by repeat (first | with_reducible exact bel_refl _ | with_reducible assumption | with_reducible refine bel_set ?_ (by first | (simp; done) | (simp; omega) | omega) _ | with_reducible refine bel_alloc ?_ _ | with_reducible refine bel_drew ?_ | with_reducible refine bel_drewN ?_ _ | with_reducible refine bel_trans ?_ (by assumption)))
    go_wp2
    go_ret
    exact ⟨ret_str (by rw [patText, HR.out]; rfl), (by repeat (first | with_reducible exact bel_refl _ | with_reducible assumption | with_reducible refine bel_set ?_ (by first | (simp; done) | (simp; omega) | omega) _ | with_reducible refine bel_alloc ?_ _ | with_reducible refine bel_drew ?_ | with_reducible refine bel_drewN ?_ _ | with_reducible refine bel_trans ?_ (by assumption)))⟩
  obtain ⟨hkl, hfl, hall⟩ := patOk_parts hrr
  have HA := Lib.hid hall; clear hall hrr
  go_enter Tryd.func11, Tryd.ntmps11
  go_wp2_with fail
  refine (implPatOk_any kd A n c xs no _ B (by repeat (first | with_reducible assumption | with_reducible refine RdS.alloc ?_ _ | with_reducible refine RdS.drew ?_ | with_reducible refine RdS.drewN ?_ _ | with_reducible refine RdS.setCell ?_ (by first | (simp; done) | (simp; omega) | omega) _)) hn hk HS.out).mono ?_
  rw [HR.out]
  rintro e w1 ⟨rfl, hb⟩
  have g1 : Below w.heap.size w w1 := (by repeat (first | with_reducible exact bel_refl _ | with_reducible assumption | with_reducible refine bel_set ?_ (by first | (simp; done) | (simp; omega) | omega) _ | with_reducible refine bel_alloc ?_ _ | with_reducible refine bel_drew ?_ | with_reducible refine bel_drewN ?_ _ | with_reducible refine bel_trans ?_ (by assumption)))
  have HB := (Blk.new w 26 #[.string kd, .slice A n c, .bool no]).kept hb
  have zb := HB.lt
  have c0 := HB.cell 0; have c1 := HB.cell 1; have c2 := HB.cell 2
  simp at c0 c1 c2
  clear hb
  go_wp2
  go_loopw [3, 13] (fun v i wr => ∃ k : Nat, k ≤ n ∧ i = .int .i64 k ∧ OwnT sC 1 wr (w.heap.size + 1) 9 v ((xs.take k).map argText) ∧ Below w.heap.size w wr ∧ Blk wr w.heap.size 26 #[.string kd, .slice A n c, .bool no]) (fun _ i _ => n - (intOf i).toNat)
  case atStart => exact ⟨0, Nat.zero_le _, rfl, OwnT.nil_ _ _ _, g1, HB⟩
  case round =>
    clear c0 c1 c2
    obtain ⟨k, hk2, rfl, ho, hbel, HB2⟩ := hrel
    have hsz := HB2.lt
    by_cases hlt : k < n
    · skip
      obtain ⟨b, o, rfl, hb, hc⟩ := (hr.kept hbel).2.arg_ (by omega)
      obtain ⟨ek, es, evk, evn, evs, he, p0, p1, p2, p3, p4⟩ := hc k hlt
      clear hc
      have hkl2 : k < xs.length := by rw [HL.out]; exact hlt
      have hvo := HA.out _ (List.getElem_mem hkl2)
      rw [he] at hvo
      have HVO := Lib.hid hvo
      have hgs : evs.size ≤ 9223372036854775807 := by have := HS.out _ (List.getElem_mem hkl2); rw [he] at this; exact this.2
      have hxl := argText_len hvo
      have HVV := Lib.hid (argOk_val hvo)
      obtain ⟨tx, htx⟩ : ∃ tx, argText ⟨ek, es, ⟨evk, evn, evs⟩⟩ = tx := ⟨_, rfl⟩
      rw [htx] at hxl
      have HTX := Lib.hid htx; clear htx hvo
      have HN := Lib.hid (show (xs.take (k + 1)).map argText = (xs.take k).map argText ++ [tx] by rw [List.take_succ_eq_append_getElem hkl2, List.map_append, he, List.map_singleton, HTX.out])
      clear he
      obtain ⟨acc, hacc⟩ : ∃ acc, (xs.take k).map argText = acc := ⟨_, rfl⟩
      have hal : acc.length ≤ 5 := by rw [← hacc, List.length_map, List.length_take]; omega
      rw [hacc] at ho
      have HAC := Lib.hid hacc; have HO := Lib.hid ho; clear hacc ho
      go_wp2_with (first | (go_at_call 24; refine (implArgText_any ek es evk evn evs _ (HT.out.kept (by repeat (first | with_reducible exact bel_refl _ | with_reducible assumption | with_reducible refine bel_set ?_ (by first | (simp; done) | (simp; omega) | omega) _ | with_reducible refine bel_alloc ?_ _ | with_reducible refine bel_drew ?_ | with_reducible refine bel_drewN ?_ _ | with_reducible refine bel_trans ?_ (by assumption)))) hgs HVV.out).mono ?_; rw [HTX.out]; rintro e w2 ⟨rfl, hb2⟩) | (at_builtin; refine appT rfl (.tmp 17) (.tmp 20) _ rfl sC_sz (w.heap.size + 1) 9 i0 Tryd.underlying28 HI.out hz0 hz1 hz2 rfl (by omega) _ acc rfl (((HO.out.alloc _).kept hb2).alloc _) _ 1 1 [tx] rfl (RdT.new1 sC_sz w2 9 tx) (by intro u hu; simp [fl, sC] at hu; subst hu; rfl) (by omega) (by have := hb2.size; simp at this ⊢; omega) ?_; intro v' w' ho' hb' hs'))
      have hq2 := hb2.size
      simp at hq2
      go_roundw
      case rel => exact ⟨k + 1, by omega, by go_num, by rw [HN.out, HAC.out]; exact ho', (bel_alloc (bel_trans (bel_alloc hbel _) hb2) _).trans (hb'.mono (by omega)), (blk_bel2 (((HB2.alloc _).kept hb2).alloc _) hb' (by omega))⟩
      case measure => simp [intOf]; omega
    · skip
      have hful : (xs.take k).map argText = xs.map argText := by rw [List.take_of_length_le (by rw [HL.out]; omega)]
      have hjl := patText_sz HA.out hfl (xs.map argText).length
      rw [List.take_length] at hjl
      rw [hful] at ho
      obtain ⟨ts, hts⟩ : ∃ ts, xs.map argText = ts := ⟨_, rfl⟩
      have htl : ts.length ≤ 5 := by rw [← hts, List.length_map]; exact hfl
      rw [hts] at ho hjl
      have HTS := Lib.hid hts; clear hts hful
      obtain ⟨A5, c5, rfl, hc5, _⟩ := ho.rd
      have HO := Lib.hid ho; clear ho
      obtain ⟨jt, hjt⟩ : ∃ jt, joinB ⟨#[44, 32]⟩ ts = jt := ⟨_, rfl⟩
      rw [hjt] at hjl
      have HJ := Lib.hid hjt; clear hjt
      have c0 := HB2.cell 0; have c1 := HB2.cell 1; have c2 := HB2.cell 2
      simp at c0 c1 c2
      cases no
      · skip
        go_upto_region 9 with fail
        refine wp_region_held_drew (S := (fun w' => Below wr.heap.size wr w' ∧ w'.cell? ⟨w.heap.size, 0, none⟩ = some (.string kd) ∧ w'.cell? ⟨w.heap.size, 1, none⟩ = some (.slice A n c) ∧ w'.cell? ⟨w.heap.size, 2, none⟩ = some (.bool false))) (by kernel_rfl) ?_ (fun hHeld => ?_)
        · (try dsimp only) <;> (((refine (fun hB => ⟨hB, old_cell hB c0, old_cell hB c1, old_cell hB c2⟩ : Below wr.heap.size wr _ → _) ?_); (repeat (first | exact bel_refl _ | exact bel_drew (bel_refl _) | exact bel_trans (And.left (by assumption)) (by assumption) | assumption))))
        refine h_take 0 (some 23) (?_) rfl rfl (by kernel_rfl) (by kernel_rfl) (by kernel_rfl) (fun _ _ _ h => h) (by kernel_rfl) ?_ (by assumption) ?_
        rotate_left
        · intro w hSw; (try dsimp only at hSw); go_simp
          all_goals first | with_reducible rfl | omega | (simp; omega)
        try simp only [Act.put, List.setIfInBounds_toArray, List.set_cons_zero, List.set_cons_succ]
        refine h_take 1 (some 24) (?_) rfl rfl (by kernel_rfl) (by kernel_rfl) (by kernel_rfl) (fun _ _ _ h => h) (by kernel_rfl) ?_ (by assumption) ?_
        rotate_left
        · intro w hSw; (try dsimp only at hSw); go_simp
          all_goals first | with_reducible rfl | omega | (simp; omega)
        try simp only [Act.put, List.setIfInBounds_toArray, List.set_cons_zero, List.set_cons_succ]
        refine h_take 2 (some 25) (.string (kd ++ ⟨#[40]⟩)) rfl rfl (by kernel_rfl) (by kernel_rfl) (by kernel_rfl) (fun _ _ _ h => h) (by kernel_rfl) ?_ (by assumption) ?_
        · intro w hSw; (try dsimp only at hSw); go_simp
          all_goals (first | omega | rw [if_neg (by first | omega | (simp [ByteArray.size] at *; omega))])
        try simp only [Act.put, List.setIfInBounds_toArray, List.set_cons_zero, List.set_cons_succ]
        refine h_take 3 (some 26) (?_) rfl rfl (by kernel_rfl) (by kernel_rfl) (by kernel_rfl) (fun _ _ _ h => h) (by kernel_rfl) ?_ (by assumption) ?_
        rotate_left
        · intro w hSw; (try dsimp only at hSw); go_simp
          all_goals first | with_reducible rfl | omega | (simp; omega)
        try simp only [Act.put, List.setIfInBounds_toArray, List.set_cons_zero, List.set_cons_succ]
        refine h_call 4 (by kernel_rfl) rfl (by kernel_rfl) (fun K hK => ?_)
        go_simp
        refine (joinB_any A5 c5 ts ⟨#[44, 32]⟩ _ wr.heap.size ((HO.out.rdO).kept (And.left (by assumption))) hc5 (by omega) (by rw [HJ.out]; omega)).mono ?_
        rw [HJ.out]
        rintro e wa ⟨rfl, hb⟩
        refine hK.out _ _ ?_ (fun hHeld => ?_)
        · (try dsimp only) <;> (((refine (fun hB => ⟨hB, old_cell hB c0, old_cell hB c1, old_cell hB c2⟩ : Below wr.heap.size wr _ → _) ?_); (repeat (first | exact bel_refl _ | exact bel_drew (bel_refl _) | exact bel_trans (And.left (by assumption)) (by assumption) | assumption))))
        clear hK K
        try simp only [Act.put, List.setIfInBounds_toArray, List.set_cons_zero, List.set_cons_succ]
        refine h_take 5 (some 28) (.string ((kd ++ ⟨#[40]⟩) ++ jt)) rfl rfl (by kernel_rfl) (by kernel_rfl) (by kernel_rfl) (fun _ _ _ h => h) (by kernel_rfl) ?_ (by assumption) ?_
        · intro w hSw; (try dsimp only at hSw); go_simp
          all_goals (first | omega | rw [if_neg (by first | omega | (simp [ByteArray.size] at *; omega))])
        try simp only [Act.put, List.setIfInBounds_toArray, List.set_cons_zero, List.set_cons_succ]
        refine h_take 6 (some 29) (.string (((kd ++ ⟨#[40]⟩) ++ jt) ++ ⟨#[41]⟩)) rfl rfl (by kernel_rfl) (by kernel_rfl) (by kernel_rfl) (fun _ _ _ h => h) (by kernel_rfl) ?_ (by assumption) ?_
        · intro w hSw; (try dsimp only at hSw); go_simp
          all_goals (first | omega | rw [if_neg (by first | omega | (simp [ByteArray.size] at *; omega))])
        try simp only [Act.put, List.setIfInBounds_toArray, List.set_cons_zero, List.set_cons_succ]
        refine h_take 7 (some 6) (.string (((kd ++ ⟨#[40]⟩) ++ jt) ++ ⟨#[41]⟩)) rfl rfl (by kernel_rfl) (by kernel_rfl) (by kernel_rfl) (fun _ _ _ h => h) (by kernel_rfl) ?_ (by assumption) ?_
        · intro w hSw; (try dsimp only at hSw); go_simp
          all_goals first | with_reducible rfl | omega | (simp; omega) | (rw [IntKind.wrap_i64]; omega) | (rw [IntKind.wrap_u8]; omega) | exact Int.tmod_eq_emod_of_nonneg (by omega) | (simp [IntKind.wrap_i64, IntKind.wrap_u8]; omega)
        try simp only [Act.put, List.setIfInBounds_toArray, List.set_cons_zero, List.set_cons_succ]
        refine wpAnyH_done (by kernel_rfl) ?_ _
        obtain ⟨hB, _, _, k2⟩ := hHeld
        have hB1 : Below w.heap.size w _ := bel_trans hbel hB
        have zz := cell_lt k2
        dsimp only at zz
        go_wp2
        go_ret
        exact ⟨ret_str (by rw [patText, HR.out]; simp only [HTS.out, HJ.out]; rfl), hB1⟩
      · skip
        go_upto_region 9 with fail
        refine wp_region_held_drew (S := (fun w' => Below wr.heap.size wr w' ∧ w'.cell? ⟨w.heap.size, 0, none⟩ = some (.string kd) ∧ w'.cell? ⟨w.heap.size, 1, none⟩ = some (.slice A n c) ∧ w'.cell? ⟨w.heap.size, 2, none⟩ = some (.bool true))) (by kernel_rfl) ?_ (fun hHeld => ?_)
        · (try dsimp only) <;> (((refine (fun hB => ⟨hB, old_cell hB c0, old_cell hB c1, old_cell hB c2⟩ : Below wr.heap.size wr _ → _) ?_); (repeat (first | exact bel_refl _ | exact bel_drew (bel_refl _) | exact bel_trans (And.left (by assumption)) (by assumption) | assumption))))
        refine h_take 0 (some 23) (?_) rfl rfl (by kernel_rfl) (by kernel_rfl) (by kernel_rfl) (fun _ _ _ h => h) (by kernel_rfl) ?_ (by assumption) ?_
        rotate_left
        · intro w hSw; (try dsimp only at hSw); go_simp
          all_goals first | with_reducible rfl | omega | (simp; omega)
        try simp only [Act.put, List.setIfInBounds_toArray, List.set_cons_zero, List.set_cons_succ]
        refine h_take 1 (some 24) (?_) rfl rfl (by kernel_rfl) (by kernel_rfl) (by kernel_rfl) (fun _ _ _ h => h) (by kernel_rfl) ?_ (by assumption) ?_
        rotate_left
        · intro w hSw; (try dsimp only at hSw); go_simp
          all_goals first | with_reducible rfl | omega | (simp; omega)
        try simp only [Act.put, List.setIfInBounds_toArray, List.set_cons_zero, List.set_cons_succ]
        refine h_take 2 (some 25) (.string (kd ++ ⟨#[40]⟩)) rfl rfl (by kernel_rfl) (by kernel_rfl) (by kernel_rfl) (fun _ _ _ h => h) (by kernel_rfl) ?_ (by assumption) ?_
        · intro w hSw; (try dsimp only at hSw); go_simp
          all_goals (first | omega | rw [if_neg (by first | omega | (simp [ByteArray.size] at *; omega))])
        try simp only [Act.put, List.setIfInBounds_toArray, List.set_cons_zero, List.set_cons_succ]
        refine h_take 3 (some 26) (?_) rfl rfl (by kernel_rfl) (by kernel_rfl) (by kernel_rfl) (fun _ _ _ h => h) (by kernel_rfl) ?_ (by assumption) ?_
        rotate_left
        · intro w hSw; (try dsimp only at hSw); go_simp
          all_goals first | with_reducible rfl | omega | (simp; omega)
        try simp only [Act.put, List.setIfInBounds_toArray, List.set_cons_zero, List.set_cons_succ]
        refine h_call 4 (by kernel_rfl) rfl (by kernel_rfl) (fun K hK => ?_)
        go_simp
        refine (joinB_any A5 c5 ts ⟨#[44, 32]⟩ _ wr.heap.size ((HO.out.rdO).kept (And.left (by assumption))) hc5 (by omega) (by rw [HJ.out]; omega)).mono ?_
        rw [HJ.out]
        rintro e wa ⟨rfl, hb⟩
        refine hK.out _ _ ?_ (fun hHeld => ?_)
        · (try dsimp only) <;> (((refine (fun hB => ⟨hB, old_cell hB c0, old_cell hB c1, old_cell hB c2⟩ : Below wr.heap.size wr _ → _) ?_); (repeat (first | exact bel_refl _ | exact bel_drew (bel_refl _) | exact bel_trans (And.left (by assumption)) (by assumption) | assumption))))
        clear hK K
        try simp only [Act.put, List.setIfInBounds_toArray, List.set_cons_zero, List.set_cons_succ]
        refine h_take 5 (some 28) (.string ((kd ++ ⟨#[40]⟩) ++ jt)) rfl rfl (by kernel_rfl) (by kernel_rfl) (by kernel_rfl) (fun _ _ _ h => h) (by kernel_rfl) ?_ (by assumption) ?_
        · intro w hSw; (try dsimp only at hSw); go_simp
          all_goals (first | omega | rw [if_neg (by first | omega | (simp [ByteArray.size] at *; omega))])
        try simp only [Act.put, List.setIfInBounds_toArray, List.set_cons_zero, List.set_cons_succ]
        refine h_take 6 (some 29) (.string (((kd ++ ⟨#[40]⟩) ++ jt) ++ ⟨#[41]⟩)) rfl rfl (by kernel_rfl) (by kernel_rfl) (by kernel_rfl) (fun _ _ _ h => h) (by kernel_rfl) ?_ (by assumption) ?_
        · intro w hSw; (try dsimp only at hSw); go_simp
          all_goals (first | omega | rw [if_neg (by first | omega | (simp [ByteArray.size] at *; omega))])
        try simp only [Act.put, List.setIfInBounds_toArray, List.set_cons_zero, List.set_cons_succ]
        refine h_take 7 (some 6) (.string (((kd ++ ⟨#[40]⟩) ++ jt) ++ ⟨#[41]⟩)) rfl rfl (by kernel_rfl) (by kernel_rfl) (by kernel_rfl) (fun _ _ _ h => h) (by kernel_rfl) ?_ (by assumption) ?_
        · intro w hSw; (try dsimp only at hSw); go_simp
          all_goals first | with_reducible rfl | omega | (simp; omega) | (rw [IntKind.wrap_i64]; omega) | (rw [IntKind.wrap_u8]; omega) | exact Int.tmod_eq_emod_of_nonneg (by omega) | (simp [IntKind.wrap_i64, IntKind.wrap_u8]; omega)
        try simp only [Act.put, List.setIfInBounds_toArray, List.set_cons_zero, List.set_cons_succ]
        refine wpAnyH_done (by kernel_rfl) ?_ _
        obtain ⟨hB, _, _, k2⟩ := hHeld
        have hB1 : Below w.heap.size w _ := bel_trans hbel hB
        have zz := cell_lt k2
        dsimp only at zz
        go_wp2
        go_ret
        exact ⟨ret_str (by rw [patText, HR.out]; simp only [HTS.out, HJ.out]; rfl), hB1⟩
theorem cat_nilP (s : ByteArray) : s ++ (⟨#[]⟩ : ByteArray) = s := by
  apply ByteArray.ext
  simp
theorem pat_fin (kd j : ByteArray) (no : Bool) {ini : ByteArray} (h : (if no then (⟨#[33]⟩ ++ (kd ++ ⟨#[40]⟩) : ByteArray) else kd ++ ⟨#[40]⟩) = ini) : (ini ++ j) ++ ⟨#[41]⟩ = if true = true then (if no = true then ⟨#[33]⟩ ++ ((kd ++ ⟨#[40]⟩) ++ j ++ ⟨#[41]⟩) else ((kd ++ ⟨#[40]⟩) ++ j ++ ⟨#[41]⟩)) else (⟨#[]⟩ : ByteArray) := by
  subst h
  cases no
  · rfl
  · simp only [if_true, ByteArray.append_assoc]
theorem specPatText_any (kd : ByteArray) (A : Option Addr) (n c : Nat) (xs : List Ag) (no : Bool) (w : World) (B : Nat) (hr : RdS aC 5 w B A n xs) (hn : n ≤ 4611686018427387904) (hk : kd.size ≤ 9223372036854775807) (hs : ∀ x ∈ xs, goodA x) :
    Calls Tryd.prog 14 #[.agg #[.string kd, .slice A n c, .bool no]] w fun e w' => e = .returned (.string (patText ⟨kd, xs, no⟩)) ∧ Below w.heap.size w w' := by
  have HL := Lib.hid hr.len
  have HS := Lib.hid hs; clear hs
  obtain ⟨r, hrr⟩ : ∃ r, patOk ⟨kd, xs, no⟩ = r := ⟨_, rfl⟩
  have HR := Lib.hid hrr
  cases r
  · clear hrr
    go_enter Tryd.func14, Tryd.ntmps14
    go_wp2_with fail
    refine (specPatOk_any kd A n c xs no _ B (by repeat (first | with_reducible assumption | with_reducible refine RdS.alloc ?_ _ | with_reducible refine RdS.drew ?_ | with_reducible refine RdS.drewN ?_ _ | with_reducible refine RdS.setCell ?_ (by first | (simp; done) | (simp; omega) | omega) _)) hn hk HS.out).mono ?_
    rw [HR.out]
    rintro e w1 ⟨rfl, hb⟩
    have g1 : Below w.heap.size w w1 := (by repeat (first | with_reducible exact bel_refl _ | with_reducible assumption | with_reducible refine bel_set ?_ (by first | (simp; done) | (simp; omega) | omega) _ | with_reducible refine bel_alloc ?_ _ | with_reducible refine bel_drew ?_ | with_reducible refine bel_drewN ?_ _ | with_reducible refine bel_trans ?_ (by assumption)))
    go_wp2
    go_ret
    exact ⟨ret_str (by rw [patText, HR.out]; rfl), (by repeat (first | with_reducible exact bel_refl _ | with_reducible assumption | with_reducible refine bel_set ?_ (by first | (simp; done) | (simp; omega) | omega) _ | with_reducible refine bel_alloc ?_ _ | with_reducible refine bel_drew ?_ | with_reducible refine bel_drewN ?_ _ | with_reducible refine bel_trans ?_ (by assumption)))⟩
  obtain ⟨hkl, hfl, hall⟩ := patOk_parts hrr
  have HA := Lib.hid hall; clear hall hrr
  have hn5 : n ≤ 5 := by have := HL.out; simp only at hfl; omega
  obtain ⟨ini, hini, hil⟩ : ∃ ini, (if no then (⟨#[33]⟩ ++ (kd ++ ⟨#[40]⟩) : ByteArray) else kd ++ ⟨#[40]⟩) = ini ∧ ini.size ≤ 20 := ⟨_, rfl, by
    have e1 : (kd ++ ⟨#[40]⟩ : ByteArray).size = kd.size + 1 := by rw [ByteArray.size_append]; rfl
    cases no
    · simp only [Bool.false_eq_true, if_false]; rw [e1]; simp only at hkl; omega
    · simp only [if_true]; rw [ByteArray.size_append, e1]; have e2 : (⟨#[33]⟩ : ByteArray).size = 1 := rfl; simp only at hkl; omega⟩
  have HINI := Lib.hid hini; clear hini
  go_enter Tryd.func14, Tryd.ntmps14
  go_wp2_with fail
  refine (specPatOk_any kd A n c xs no _ B (by repeat (first | with_reducible assumption | with_reducible refine RdS.alloc ?_ _ | with_reducible refine RdS.drew ?_ | with_reducible refine RdS.drewN ?_ _ | with_reducible refine RdS.setCell ?_ (by first | (simp; done) | (simp; omega) | omega) _)) hn hk HS.out).mono ?_
  rw [HR.out]
  rintro e w1 ⟨rfl, hb⟩
  have g1 : Below w.heap.size w w1 := (by repeat (first | with_reducible exact bel_refl _ | with_reducible assumption | with_reducible refine bel_set ?_ (by first | (simp; done) | (simp; omega) | omega) _ | with_reducible refine bel_alloc ?_ _ | with_reducible refine bel_drew ?_ | with_reducible refine bel_drewN ?_ _ | with_reducible refine bel_trans ?_ (by assumption)))
  have HB := (Blk.new w 26 #[.string kd, .slice A n c, .bool no]).kept hb
  have zb := HB.lt
  have c0 := HB.cell 0; have c1 := HB.cell 1; have c2 := HB.cell 2
  simp at c0 c1 c2
  clear hb
  try simp only at hkl
  cases no
  · skip
    have hini := HINI.out
    simp only [Bool.false_eq_true, if_false] at hini
    go_wp2
    go_loopw [3, 4] (fun u i wr => ∃ (k : Nat) (acc : ByteArray), k ≤ n ∧ i = .int .i64 k ∧ u = .string acc ∧ ini ++ joinB ⟨#[44, 32]⟩ ((xs.map argText).take k) = acc ∧ acc.size ≤ 530 ∧ Below w.heap.size w wr ∧ Blk wr w.heap.size 26 #[.string kd, .slice A n c, .bool false]) (fun _ i _ => n - (intOf i).toNat)
    case atStart => exact ⟨0, _, Nat.zero_le _, rfl, rfl, by rw [← hini]; exact cat_nilP _, by first | omega | (rw [hini]; omega), g1, HB⟩
    case round =>
      clear c0 c1 c2
      obtain ⟨k, acc, hk2, rfl, rfl, hacc, hal, hbel, HB2⟩ := hrel
      have c0 := HB2.cell 0; have c1 := HB2.cell 1; have c2 := HB2.cell 2
      simp at c0 c1 c2
      have hsz := HB2.lt
      have HAC := Lib.hid hacc; clear hacc
      by_cases hlt : k < n
      · skip
        obtain ⟨b, o, rfl, hb, hc⟩ := (hr.kept hbel).2.arg_ (by omega)
        obtain ⟨ek, es, evk, evn, evs, he, p0, p1, p2, p3, p4⟩ := hc k hlt
        clear hc
        have hkl2 : k < xs.length := by rw [HL.out]; exact hlt
        have hvo := HA.out _ (List.getElem_mem hkl2)
        rw [he] at hvo
        have HVO := Lib.hid hvo
        have hgs : evs.size ≤ 9223372036854775807 := by have := HS.out _ (List.getElem_mem hkl2); rw [he] at this; exact this.2
        have hxl := argText_len hvo
        have HVV := Lib.hid (argOk_val hvo)
        obtain ⟨tx, htx⟩ : ∃ tx, argText ⟨ek, es, ⟨evk, evn, evs⟩⟩ = tx := ⟨_, rfl⟩
        rw [htx] at hxl
        have HTX := Lib.hid htx; clear htx hvo
        have hstep := joinB_step ⟨#[44, 32]⟩ (l := xs.map argText) (k := k) (by rw [List.length_map]; exact hkl2)
        have hsz2 := patText_sz HA.out hfl (k + 1)
        rw [List.getElem_map, he, HTX.out] at hstep
        have hl2 : (ini ++ joinB ⟨#[44, 32]⟩ ((xs.map argText).take (k + 1)) : ByteArray).size ≤ 530 := by rw [ByteArray.size_append]; omega
        clear he
        by_cases hk0 : k = 0
        · subst hk0
          simp only [Nat.zero_mul, Nat.add_zero] at p0 p1 p2 p3 p4
          rw [if_pos rfl] at hstep
          have hacc0 : ini = acc := by rw [← HAC.out]; exact (cat_nilP _).symm
          have HN := Lib.hid (show ini ++ joinB ⟨#[44, 32]⟩ ((xs.map argText).take (0 + 1)) = acc ++ tx by rw [hstep, hacc0])
          rw [HN.out] at hl2
          clear hstep hacc0 hsz2
          go_wp2_with fail
          refine (specArgText_any ek es evk evn evs _ hgs HVV.out).mono ?_
          rw [HTX.out]
          rintro e w2 ⟨rfl, hb2⟩
          have hal2 : acc.size + tx.size ≤ 530 := by rw [ByteArray.size_append] at hl2; exact hl2
          go_wp2
          go_roundw
          case rel => exact ⟨0 + 1, _, by omega, by go_num, rfl, HN.out, hl2, bel_trans hbel hb2, (HB2).kept hb2⟩
          case measure => simp [intOf]; omega
        · rw [if_neg hk0] at hstep
          have hkp : (0 : Int) < (k : Int) := by omega
          have HN := Lib.hid (show ini ++ joinB ⟨#[44, 32]⟩ ((xs.map argText).take (k + 1)) = (acc ++ ⟨#[44, 32]⟩) ++ tx by rw [hstep, ← HAC.out, ByteArray.append_assoc, ByteArray.append_assoc, ByteArray.append_assoc])
          rw [HN.out] at hl2
          clear hstep hsz2
          have hal3 : (acc ++ ⟨#[44, 32]⟩ : ByteArray).size + tx.size ≤ 530 := by rw [ByteArray.size_append] at hl2; exact hl2
          have e8 : (acc ++ ⟨#[44, 32]⟩ : ByteArray).size = acc.size + 2 := by rw [ByteArray.size_append]; rfl
          have hal2 : acc.size + 2 + tx.size ≤ 530 := by omega
          clear hal3 e8
          go_wp2_with fail
          refine (specArgText_any ek es evk evn evs _ hgs HVV.out).mono ?_
          rw [HTX.out]
          rintro e w2 ⟨rfl, hb2⟩
          go_wp2
          go_roundw
          case rel => exact ⟨k + 1, _, by omega, by go_num, rfl, HN.out, hl2, bel_trans hbel hb2, (HB2).kept hb2⟩
          case measure => simp [intOf]; omega
      · have HU := Lib.hid (show acc = ini ++ joinB ⟨#[44, 32]⟩ (xs.map argText) by rw [← HAC.out, List.take_of_length_le (by rw [List.length_map, HL.out]; omega)])
        have FIN := Lib.hid (pat_fin kd (joinB ⟨#[44, 32]⟩ (xs.map argText)) false HINI.out)
        go_wp2
        go_ret
        exact ⟨ret_str (by rw [HU.out, patText, HR.out]; exact FIN.out), hbel⟩
  · skip
    have hini := HINI.out
    simp only [if_true] at hini
    go_wp2
    go_loopw [3, 4] (fun u i wr => ∃ (k : Nat) (acc : ByteArray), k ≤ n ∧ i = .int .i64 k ∧ u = .string acc ∧ ini ++ joinB ⟨#[44, 32]⟩ ((xs.map argText).take k) = acc ∧ acc.size ≤ 530 ∧ Below w.heap.size w wr ∧ Blk wr w.heap.size 26 #[.string kd, .slice A n c, .bool true]) (fun _ i _ => n - (intOf i).toNat)
    case atStart => exact ⟨0, _, Nat.zero_le _, rfl, rfl, by rw [← hini]; exact cat_nilP _, by first | omega | (rw [hini]; omega), g1, HB⟩
    case round =>
      clear c0 c1 c2
      obtain ⟨k, acc, hk2, rfl, rfl, hacc, hal, hbel, HB2⟩ := hrel
      have c0 := HB2.cell 0; have c1 := HB2.cell 1; have c2 := HB2.cell 2
      simp at c0 c1 c2
      have hsz := HB2.lt
      have HAC := Lib.hid hacc; clear hacc
      by_cases hlt : k < n
      · skip
        obtain ⟨b, o, rfl, hb, hc⟩ := (hr.kept hbel).2.arg_ (by omega)
        obtain ⟨ek, es, evk, evn, evs, he, p0, p1, p2, p3, p4⟩ := hc k hlt
        clear hc
        have hkl2 : k < xs.length := by rw [HL.out]; exact hlt
        have hvo := HA.out _ (List.getElem_mem hkl2)
        rw [he] at hvo
        have HVO := Lib.hid hvo
        have hgs : evs.size ≤ 9223372036854775807 := by have := HS.out _ (List.getElem_mem hkl2); rw [he] at this; exact this.2
        have hxl := argText_len hvo
        have HVV := Lib.hid (argOk_val hvo)
        obtain ⟨tx, htx⟩ : ∃ tx, argText ⟨ek, es, ⟨evk, evn, evs⟩⟩ = tx := ⟨_, rfl⟩
        rw [htx] at hxl
        have HTX := Lib.hid htx; clear htx hvo
        have hstep := joinB_step ⟨#[44, 32]⟩ (l := xs.map argText) (k := k) (by rw [List.length_map]; exact hkl2)
        have hsz2 := patText_sz HA.out hfl (k + 1)
        rw [List.getElem_map, he, HTX.out] at hstep
        have hl2 : (ini ++ joinB ⟨#[44, 32]⟩ ((xs.map argText).take (k + 1)) : ByteArray).size ≤ 530 := by rw [ByteArray.size_append]; omega
        clear he
        by_cases hk0 : k = 0
        · subst hk0
          simp only [Nat.zero_mul, Nat.add_zero] at p0 p1 p2 p3 p4
          rw [if_pos rfl] at hstep
          have hacc0 : ini = acc := by rw [← HAC.out]; exact (cat_nilP _).symm
          have HN := Lib.hid (show ini ++ joinB ⟨#[44, 32]⟩ ((xs.map argText).take (0 + 1)) = acc ++ tx by rw [hstep, hacc0])
          rw [HN.out] at hl2
          clear hstep hacc0 hsz2
          go_wp2_with fail
          refine (specArgText_any ek es evk evn evs _ hgs HVV.out).mono ?_
          rw [HTX.out]
          rintro e w2 ⟨rfl, hb2⟩
          have hal2 : acc.size + tx.size ≤ 530 := by rw [ByteArray.size_append] at hl2; exact hl2
          go_wp2
          go_roundw
          case rel => exact ⟨0 + 1, _, by omega, by go_num, rfl, HN.out, hl2, bel_trans hbel hb2, (HB2).kept hb2⟩
          case measure => simp [intOf]; omega
        · rw [if_neg hk0] at hstep
          have hkp : (0 : Int) < (k : Int) := by omega
          have HN := Lib.hid (show ini ++ joinB ⟨#[44, 32]⟩ ((xs.map argText).take (k + 1)) = (acc ++ ⟨#[44, 32]⟩) ++ tx by rw [hstep, ← HAC.out, ByteArray.append_assoc, ByteArray.append_assoc, ByteArray.append_assoc])
          rw [HN.out] at hl2
          clear hstep hsz2
          have hal3 : (acc ++ ⟨#[44, 32]⟩ : ByteArray).size + tx.size ≤ 530 := by rw [ByteArray.size_append] at hl2; exact hl2
          have e8 : (acc ++ ⟨#[44, 32]⟩ : ByteArray).size = acc.size + 2 := by rw [ByteArray.size_append]; rfl
          have hal2 : acc.size + 2 + tx.size ≤ 530 := by omega
          clear hal3 e8
          go_wp2_with fail
          refine (specArgText_any ek es evk evn evs _ hgs HVV.out).mono ?_
          rw [HTX.out]
          rintro e w2 ⟨rfl, hb2⟩
          go_wp2
          go_roundw
          case rel => exact ⟨k + 1, _, by omega, by go_num, rfl, HN.out, hl2, bel_trans hbel hb2, (HB2).kept hb2⟩
          case measure => simp [intOf]; omega
      · have HU := Lib.hid (show acc = ini ++ joinB ⟨#[44, 32]⟩ (xs.map argText) by rw [← HAC.out, List.take_of_length_le (by rw [List.length_map, HL.out]; omega)])
        have FIN := Lib.hid (pat_fin kd (joinB ⟨#[44, 32]⟩ (xs.map argText)) true HINI.out)
        go_wp2
        go_ret
        exact ⟨ret_str (by rw [HU.out, patText, HR.out]; exact FIN.out), hbel⟩
end Go.Proofs.YtaacdnnjmiaaaaaDoor
