import Derived.Test.YtcbbefibebkfgaaGreatDoorShelfT
import Derived.Lib.Join
import Derived.Test.YtcbbefibebkfgaaGreatDoorStringS
import Derived.Test.YtcbbefibebkfgaaGreatDoorPkNumT
import Derived.Test.YtcbbefibebkfgaaGreatDoorBox
import Derived.Test.YtcbbefibebkfgaaGreatDoorPkCondText
import Derived.Test.YtcbbefibebkfgaaGreatDoorPkFact
import Derived.Test.YtcbbefibebkfgaaGreatDoorApp2
/- Texts that are joined: plain laws, and the library's Join over a row of texts. Conditions: lengths. -/
namespace Go.Proofs.YtcbbefibebkfgaaGreatDoor
open Go.RowKit
set_option maxRecDepth 100000
set_option maxHeartbeats 4000000
theorem blk_bel2 {w w' : World} {b B : Nat} {t : TypeId} {cs : Array Value} (h : Blk w b t cs) (hb : Below B w w') (hB : b < B) : Blk w' b t cs := (hb.block b hB).trans h
def joinB (sep : ByteArray) (l : List ByteArray) : ByteArray := ⟨(Lib.join (l.map (·.data.toList)) sep.data.toList).toArray⟩
theorem joinB_nil (sep : ByteArray) : joinB sep [] = ⟨#[]⟩ := rfl
theorem joinB_one (sep x : ByteArray) : joinB sep [x] = x := by
  unfold joinB
  apply ByteArray.ext
  simp [Lib.join_one]
theorem join_snoc (s y : List UInt8) : ∀ xs : List (List UInt8), xs ≠ [] → Lib.join (xs ++ [y]) s = Lib.join xs s ++ (s ++ y)
  | [], h => absurd rfl h
  | x :: r, _ => by
    rw [List.cons_append, Lib.join_cons, Lib.join_cons]
    simp [Lib.joinTail]
theorem joinB_snoc (sep x : ByteArray) {l : List ByteArray} (h : l ≠ []) : joinB sep (l ++ [x]) = (joinB sep l ++ sep) ++ x := by
  unfold joinB
  apply ByteArray.ext
  apply Array.ext'
  rw [List.map_append, List.map_singleton, join_snoc _ _ _ (by simpa using h)]
  simp
theorem joinB_step (sep : ByteArray) {l : List ByteArray} {k : Nat} (h : k < l.length) : joinB sep (l.take (k + 1)) = if k = 0 then l[k] else (joinB sep (l.take k) ++ sep) ++ l[k] := by
  rw [List.take_succ_eq_append_getElem h]
  by_cases h0 : k = 0
  · subst h0
    simp [joinB_one]
  · rw [if_neg h0, joinB_snoc]
    intro he
    have := congrArg List.length he
    rw [List.length_take, List.length_nil] at this
    omega
theorem lens_le {M : Nat} : ∀ l : List ByteArray, (∀ x ∈ l, x.size ≤ M) → Lib.lens (l.map (·.data.toList)) ≤ l.length * M
  | [], _ => by simp [Lib.lens]
  | x :: r, h => by
    have h1 := lens_le r (fun y hy => h y (List.mem_cons_of_mem _ hy))
    have h2 := h x List.mem_cons_self
    have e : (x :: r).length * M = r.length * M + M := by rw [List.length_cons, Nat.add_mul, Nat.one_mul]
    have e2 : Lib.lens ((x :: r).map (·.data.toList)) = x.size + Lib.lens (r.map (·.data.toList)) := by
      rw [← size_data]
      simp [Lib.lens]
    rw [e, e2]
    omega
theorem joinB_len {M : Nat} (sep : ByteArray) : ∀ l : List ByteArray, (∀ x ∈ l, x.size ≤ M) → (joinB sep l).size ≤ l.length * (M + sep.size)
  | [], _ => Nat.le_trans (Nat.le_of_eq (show (joinB sep []).size = 0 from rfl)) (Nat.zero_le _)
  | x :: r, h => by
    have h1 := lens_le (x :: r) h
    show (joinB sep (x :: r)).data.size ≤ _
    unfold joinB
    rw [List.size_toArray, List.map_cons, Lib.join_length]
    rw [← List.map_cons (f := fun z : ByteArray => z.data.toList), List.length_map, size_data]
    have e : (x :: r).length * (M + sep.size) = (x :: r).length * M + (sep.size * r.length + sep.size) := by
      rw [Nat.mul_add, List.length_cons, Nat.add_mul r.length 1 sep.size, Nat.one_mul, Nat.mul_comm r.length sep.size]
    rw [e]
    omega
theorem joinB_any (A : Option Addr) (c : Nat) (xs : List ByteArray) (sep : ByteArray) (w : World) (B : Nat) (hr : RdS sC 1 w B A xs.length xs) (hc : xs.length ≤ c) (hN : xs.length ≤ 140737488355328) (hlen : (joinB sep xs).size ≤ 140737488355328) :
    Calls Tryz.prog 23 #[.slice A xs.length c, .string sep] w fun e w' => e = .returned (.string (joinB sep xs)) ∧ Below w.heap.size w w' := by
  cases xs with
  | nil => exact (Tryz.strings_Join_none A c sep w).mono fun e w' ⟨he, hw⟩ => ⟨he, hw ▸ Below.refl _ _⟩
  | cons x r =>
    obtain ⟨b, o, rfl, hb, hcell⟩ := hr.2.string_ (by simp)
    refine Tryz.strings_Join b o c (x :: r) sep w (fun j y hy => ?_) (Nat.lt_of_lt_of_le hb hr.1) hN hc (by have := hlen; unfold joinB at this; simpa [ByteArray.size] using this)
    have hj := (List.getElem?_eq_some_iff.1 hy).1
    obtain ⟨es, he, hcc⟩ := hcell j hj
    rw [hcc, ← he]
    rw [List.getElem?_eq_getElem hj] at hy
    injection hy with hy
    rw [hy]
end Go.Proofs.YtcbbefibebkfgaaGreatDoor

/- Texts of facts, of the program and of the reference. Each answers what the plain function says and makes at most new blocks. Conditions: lengths; the library's table of powers of ten is as its text lays it. -/
namespace Go.Proofs.YtcbbefibebkfgaaGreatDoor
open Go.RowKit
set_option maxRecDepth 100000
set_option maxHeartbeats 4000000
def factText (f : Ft) : ByteArray := if factOk f then ((f.kd ++ ⟨#[40]⟩) ++ joinB ⟨#[44]⟩ (f.fs.map rawText)) ++ ⟨#[41]⟩ else ⟨#[]⟩
theorem factOk_parts {f : Ft} (h : factOk f = true) : f.kd.size ≤ 12 ∧ f.fs.length ≤ 5 ∧ ∀ x ∈ f.fs, valOk x = true := by
  unfold factOk at h
  simp only [Bool.and_eq_true, decide_eq_true_eq, List.all_eq_true] at h
  refine ⟨?_, h.2.2, h.2.1⟩
  have := h.1
  unfold nameOk at this
  simp only [Bool.and_eq_true] at this
  have := word_len this.2
  omega
theorem factText_tl {l : List Vl} (h : ∀ x ∈ l, valOk x = true) : ∀ x ∈ l.map rawText, x.size ≤ 30 := by
  intro x hx
  obtain ⟨y, hy, rfl⟩ := List.mem_map.1 hx
  exact rawText_len (h y hy)
theorem factText_sz {l : List Vl} (h : ∀ x ∈ l, valOk x = true) (hl : l.length ≤ 5) (k : Nat) : (joinB ⟨#[44]⟩ ((l.map rawText).take k)).size ≤ 5 * (30 + 1) := by
  have h1 := joinB_len (M := 30) ⟨#[44]⟩ ((l.map rawText).take k) (fun x hx => factText_tl h x (List.mem_of_mem_take hx))
  have h2 : ((l.map rawText).take k).length ≤ 5 := by rw [List.length_take, List.length_map]; omega
  have h3 : (⟨#[44]⟩ : ByteArray).size = 1 := rfl
  rw [h3] at h1
  exact Nat.le_trans h1 (Nat.mul_le_mul_right _ h2)
theorem implFactText_any (kd : ByteArray) (A : Option Addr) (n c : Nat) (xs : List Vl) (w : World) (B : Nat) (ht : TabT w) (hr : RdS vC 3 w B A n xs) (hn : n ≤ 4611686018427387904) (hk : kd.size ≤ 9223372036854775807) (hs : ∀ x ∈ xs, x.s.size ≤ 9223372036854775807) :
    Calls Tryz.prog 7 #[.agg #[.string kd, .slice A n c]] w fun e w' => e = .returned (.string (factText ⟨kd, xs⟩)) ∧ Below w.heap.size w w' := by
  obtain ⟨i0, hi, hz0, hz1, hz2⟩ := info_parts infoString
  have HI := Lib.hid hi; clear hi
  have HT := Lib.hid ht; clear ht
  have HL := Lib.hid hr.len
  have HS := Lib.hid hs; clear hs
  obtain ⟨r, hrr⟩ : ∃ r, factOk ⟨kd, xs⟩ = r := ⟨_, rfl⟩
  have HR := Lib.hid hrr
  cases r
  · clear hrr
    go_enter Tryz.func7, Tryz.ntmps7
    go_wp2_with fail
    refine (implFactOk_any kd A n c xs _ B (by repeat (first | with_reducible assumption | with_reducible refine RdS.alloc ?_ _ | with_reducible refine RdS.drew ?_ | with_reducible refine RdS.drewN ?_ _ | with_reducible refine RdS.setCell ?_ (by first | (simp; done) | (simp; omega) | omega) _)) hn hk HS.out).mono ?_
    rw [HR.out]
    rintro e w1 ⟨rfl, hb⟩
    have g1 : Below w.heap.size w w1 := (by repeat (first | with_reducible exact bel_refl _ | with_reducible assumption | with_reducible refine bel_set ?_ (by first | (simp; done) | (simp; omega) | omega) _ | with_reducible refine bel_alloc ?_ _ | with_reducible refine bel_drew ?_ | with_reducible refine bel_drewN ?_ _ | with_reducible refine bel_trans ?_ (by assumption)))
    go_wp2
    go_ret
    exact ⟨ret_str (by rw [factText, HR.out]; rfl), (by repeat (first | with_reducible exact bel_refl _ | with_reducible assumption | with_reducible refine bel_set ?_ (by first | (simp; done) | (simp; omega) | omega) _ | with_reducible refine bel_alloc ?_ _ | with_reducible refine bel_drew ?_ | with_reducible refine bel_drewN ?_ _ | with_reducible refine bel_trans ?_ (by assumption)))⟩
  obtain ⟨hkl, hfl, hall⟩ := factOk_parts hrr
  have HA := Lib.hid hall; clear hall hrr
  go_enter Tryz.func7, Tryz.ntmps7
  go_wp2_with fail
  refine (implFactOk_any kd A n c xs _ B (by repeat (first | with_reducible assumption | with_reducible refine RdS.alloc ?_ _ | with_reducible refine RdS.drew ?_ | with_reducible refine RdS.drewN ?_ _ | with_reducible refine RdS.setCell ?_ (by first | (simp; done) | (simp; omega) | omega) _)) hn hk HS.out).mono ?_
  rw [HR.out]
  rintro e w1 ⟨rfl, hb⟩
  have g1 : Below w.heap.size w w1 := (by repeat (first | with_reducible exact bel_refl _ | with_reducible assumption | with_reducible refine bel_set ?_ (by first | (simp; done) | (simp; omega) | omega) _ | with_reducible refine bel_alloc ?_ _ | with_reducible refine bel_drew ?_ | with_reducible refine bel_drewN ?_ _ | with_reducible refine bel_trans ?_ (by assumption)))
  have HB := (Blk.new w 26 #[.string kd, .slice A n c]).kept hb
  have zb := HB.lt
  obtain ⟨c0, c1, f0, f1⟩ := HB.two
  clear hb
  go_wp2
  go_loopw [3, 12] (fun v i wr => ∃ k : Nat, k ≤ n ∧ i = .int .i64 k ∧ OwnT sC 1 wr (w.heap.size + 1) 9 v ((xs.take k).map rawText) ∧ Below w.heap.size w wr ∧ Blk wr w.heap.size 26 #[.string kd, .slice A n c]) (fun _ i _ => n - (intOf i).toNat)
  case atStart => exact ⟨0, Nat.zero_le _, rfl, OwnT.nil_ _ _ _, g1, HB⟩
  case round =>
    clear c0 c1 f0 f1
    obtain ⟨k, hk2, rfl, ho, hbel, HB2⟩ := hrel
    have hsz := HB2.lt
    by_cases hlt : k < n
    · skip
      obtain ⟨b, o, rfl, hb, hc⟩ := (hr.kept hbel).2.val (by omega)
      obtain ⟨x, y, s, he, p0, p1, p2⟩ := hc k hlt
      clear hc
      have hkl2 : k < xs.length := by rw [HL.out]; exact hlt
      have hvo := HA.out _ (List.getElem_mem hkl2)
      rw [he] at hvo
      have HVO := Lib.hid hvo
      have hsl := valOk_len hvo
      have hxl := rawText_len hvo
      obtain ⟨tx, htx⟩ : ∃ tx, rawText ⟨x, y, s⟩ = tx := ⟨_, rfl⟩
      rw [htx] at hxl
      have HTX := Lib.hid htx; clear htx hvo
      have HN := Lib.hid (show (xs.take (k + 1)).map rawText = (xs.take k).map rawText ++ [tx] by rw [List.take_succ_eq_append_getElem hkl2, List.map_append, he, List.map_singleton, HTX.out])
      clear he
      obtain ⟨acc, hacc⟩ : ∃ acc, (xs.take k).map rawText = acc := ⟨_, rfl⟩
      have hal : acc.length ≤ 5 := by rw [← hacc, List.length_map, List.length_take]; omega
      rw [hacc] at ho
      have HAC := Lib.hid hacc; have HO := Lib.hid ho; clear hacc ho
      go_wp2_with (first | (go_at_call 22; refine (implValText_any x y s _ (HT.out.kept (by repeat (first | with_reducible exact bel_refl _ | with_reducible assumption | with_reducible refine bel_set ?_ (by first | (simp; done) | (simp; omega) | omega) _ | with_reducible refine bel_alloc ?_ _ | with_reducible refine bel_drew ?_ | with_reducible refine bel_drewN ?_ _ | with_reducible refine bel_trans ?_ (by assumption)))) (by omega)).mono ?_; rw [show valText ⟨x, y, s⟩ = tx from by rw [valText, HVO.out]; exact HTX.out]; rintro e w2 ⟨rfl, hb2⟩) | (at_builtin; refine appT rfl (.tmp 16) (.tmp 19) _ rfl sC_sz (w.heap.size + 1) 9 i0 Tryz.underlying45 HI.out hz0 hz1 hz2 rfl (by omega) _ acc rfl (((HO.out.alloc _).kept hb2).alloc _) _ 1 1 [tx] rfl (RdT.new1 sC_sz w2 9 tx) (by intro u hu; simp [fl, sC] at hu; subst hu; rfl) (by omega) (by have := hb2.size; simp at this ⊢; omega) ?_; intro v' w' ho' hb' hs'))
      have hq2 := hb2.size
      simp at hq2
      go_roundw
      case rel => exact ⟨k + 1, by omega, by go_num, by rw [HN.out, HAC.out]; exact ho', (bel_alloc (bel_trans (bel_alloc hbel _) hb2) _).trans (hb'.mono (by omega)), (blk_bel2 (((HB2.alloc _).kept hb2).alloc _) hb' (by omega))⟩
      case measure => simp [intOf]; omega
    · skip
      have hful : (xs.take k).map rawText = xs.map rawText := by rw [List.take_of_length_le (by rw [HL.out]; omega)]
      have hjl := factText_sz HA.out hfl (xs.map rawText).length
      rw [List.take_length] at hjl
      rw [hful] at ho
      obtain ⟨ts, hts⟩ : ∃ ts, xs.map rawText = ts := ⟨_, rfl⟩
      have htl : ts.length ≤ 5 := by rw [← hts, List.length_map]; exact hfl
      rw [hts] at ho hjl
      have HTS := Lib.hid hts; clear hts hful
      obtain ⟨A5, c5, rfl, hc5, _⟩ := ho.rd
      have HO := Lib.hid ho; clear ho
      obtain ⟨jt, hjt⟩ : ∃ jt, joinB ⟨#[44]⟩ ts = jt := ⟨_, rfl⟩
      rw [hjt] at hjl
      have HJ := Lib.hid hjt; clear hjt
      obtain ⟨c0, c1, f0, f1⟩ := HB2.two
      go_upto_region 9 with fail
      refine wp_region_held_drew (S := (fun w' => Below wr.heap.size wr w' ∧ w'.cell? ⟨w.heap.size, 0, none⟩ = some (.string kd) ∧ w'.cell? ⟨w.heap.size, 1, none⟩ = some (.slice A n c))) (by kernel_rfl) ?_ (fun hHeld => ?_)
      · (try dsimp only) <;> (((refine (fun hB => ⟨hB, old_cell hB c0, old_cell hB c1⟩ : Below wr.heap.size wr _ → _) ?_); (repeat (first | exact bel_refl _ | exact bel_drew (bel_refl _) | exact bel_trans (And.left (by assumption)) (by assumption) | assumption))))
      refine h_take 0 (some 22) (?_) rfl rfl (by kernel_rfl) (by kernel_rfl) (by kernel_rfl) (fun _ _ _ h => h) (by kernel_rfl) ?_ (by assumption) ?_
      rotate_left
      · intro w hSw; (try dsimp only at hSw); go_simp
        all_goals first | with_reducible rfl | omega | (simp; omega)
      try simp only [Act.put, List.setIfInBounds_toArray, List.set_cons_zero, List.set_cons_succ]
      refine h_take 1 (some 23) (?_) rfl rfl (by kernel_rfl) (by kernel_rfl) (by kernel_rfl) (fun _ _ _ h => h) (by kernel_rfl) ?_ (by assumption) ?_
      rotate_left
      · intro w hSw; (try dsimp only at hSw); go_simp
        all_goals first | with_reducible rfl | omega | (simp; omega)
      try simp only [Act.put, List.setIfInBounds_toArray, List.set_cons_zero, List.set_cons_succ]
      refine h_take 2 (some 24) (.string (kd ++ ⟨#[40]⟩)) rfl rfl (by kernel_rfl) (by kernel_rfl) (by kernel_rfl) (fun _ _ _ h => h) (by kernel_rfl) ?_ (by assumption) ?_
      · intro w hSw; (try dsimp only at hSw); go_simp
        all_goals (first | omega | rw [if_neg (by first | omega | (simp [ByteArray.size] at *; omega))])
      try simp only [Act.put, List.setIfInBounds_toArray, List.set_cons_zero, List.set_cons_succ]
      refine h_take 3 (some 25) (?_) rfl rfl (by kernel_rfl) (by kernel_rfl) (by kernel_rfl) (fun _ _ _ h => h) (by kernel_rfl) ?_ (by assumption) ?_
      rotate_left
      · intro w hSw; (try dsimp only at hSw); go_simp
        all_goals first | with_reducible rfl | omega | (simp; omega)
      try simp only [Act.put, List.setIfInBounds_toArray, List.set_cons_zero, List.set_cons_succ]
      refine h_call 4 (by kernel_rfl) rfl (by kernel_rfl) (fun K hK => ?_)
      go_simp
      refine (joinB_any A5 c5 ts ⟨#[44]⟩ _ wr.heap.size ((HO.out.rdO).kept (And.left (by assumption))) hc5 (by omega) (by rw [HJ.out]; omega)).mono ?_
      rw [HJ.out]
      rintro e wa ⟨rfl, hb⟩
      refine hK.out _ _ ?_ (fun hHeld => ?_)
      · (try dsimp only) <;> (((refine (fun hB => ⟨hB, old_cell hB c0, old_cell hB c1⟩ : Below wr.heap.size wr _ → _) ?_); (repeat (first | exact bel_refl _ | exact bel_drew (bel_refl _) | exact bel_trans (And.left (by assumption)) (by assumption) | assumption))))
      clear hK K
      try simp only [Act.put, List.setIfInBounds_toArray, List.set_cons_zero, List.set_cons_succ]
      refine h_take 5 (some 27) (.string ((kd ++ ⟨#[40]⟩) ++ jt)) rfl rfl (by kernel_rfl) (by kernel_rfl) (by kernel_rfl) (fun _ _ _ h => h) (by kernel_rfl) ?_ (by assumption) ?_
      · intro w hSw; (try dsimp only at hSw); go_simp
        all_goals (first | omega | rw [if_neg (by first | omega | (simp [ByteArray.size] at *; omega))])
      try simp only [Act.put, List.setIfInBounds_toArray, List.set_cons_zero, List.set_cons_succ]
      refine h_take 6 (some 28) (.string (((kd ++ ⟨#[40]⟩) ++ jt) ++ ⟨#[41]⟩)) rfl rfl (by kernel_rfl) (by kernel_rfl) (by kernel_rfl) (fun _ _ _ h => h) (by kernel_rfl) ?_ (by assumption) ?_
      · intro w hSw; (try dsimp only at hSw); go_simp
        all_goals (first | omega | rw [if_neg (by first | omega | (simp [ByteArray.size] at *; omega))])
      try simp only [Act.put, List.setIfInBounds_toArray, List.set_cons_zero, List.set_cons_succ]
      refine h_take 7 (some 2) (.string (((kd ++ ⟨#[40]⟩) ++ jt) ++ ⟨#[41]⟩)) rfl rfl (by kernel_rfl) (by kernel_rfl) (by kernel_rfl) (fun _ _ _ h => h) (by kernel_rfl) ?_ (by assumption) ?_
      · intro w hSw; (try dsimp only at hSw); go_simp
        all_goals first | with_reducible rfl | omega | (simp; omega) | (rw [IntKind.wrap_i64]; omega) | (rw [IntKind.wrap_u8]; omega) | exact Int.tmod_eq_emod_of_nonneg (by omega) | (simp [IntKind.wrap_i64, IntKind.wrap_u8]; omega)
      try simp only [Act.put, List.setIfInBounds_toArray, List.set_cons_zero, List.set_cons_succ]
      refine wpAnyH_done (by kernel_rfl) ?_ _
      obtain ⟨hB, _, _⟩ := hHeld
      have hB1 : Below w.heap.size w _ := bel_trans hbel hB
      go_wp2
      go_ret
      exact ⟨ret_str (by rw [factText, HR.out]; simp only [HTS.out, HJ.out]; rfl), hB1⟩
theorem cat_nil (s : ByteArray) : s ++ (⟨#[]⟩ : ByteArray) = s := by
  apply ByteArray.ext
  simp
theorem l3ValsText_any (A : Option Addr) (n c : Nat) (xs : List Vl) (w : World) (B : Nat) (hr : RdS vC 3 w B A n xs) (hfl : xs.length ≤ 5) (hall : ∀ x ∈ xs, valOk x = true) :
    Calls Tryz.prog 69 #[.slice A n c] w fun e w' => e = .returned (.string ((⟨#[40]⟩ ++ joinB ⟨#[44]⟩ (xs.map rawText)) ++ ⟨#[41]⟩)) ∧ Below w.heap.size w w' := by
  have HL := Lib.hid hr.len
  have hn5 : n ≤ 5 := by have := hr.len; omega
  have HA := Lib.hid hall; clear hall
  go_enter Tryz.func69, Tryz.ntmps69
  go_wp2
  go_loopw [3, 4] (fun u i wr => ∃ (k : Nat) (acc : ByteArray), k ≤ n ∧ i = .int .i64 k ∧ u = .string acc ∧ ⟨#[40]⟩ ++ joinB ⟨#[44]⟩ ((xs.map rawText).take k) = acc ∧ acc.size ≤ 156 ∧ Below w.heap.size w wr) (fun _ i _ => n - (intOf i).toNat)
  case atStart => exact ⟨0, _, Nat.zero_le _, rfl, rfl, cat_nil _, by decide, bel_refl _⟩
  case round =>
    obtain ⟨k, acc, hk2, rfl, rfl, hacc, hal, hbel⟩ := hrel
    have HAC := Lib.hid hacc; clear hacc
    by_cases hlt : k < n
    · skip
      obtain ⟨b, o, rfl, hb, hc⟩ := (hr.kept hbel).2.val (by omega)
      obtain ⟨x, y, s, he, p0, p1, p2⟩ := hc k hlt
      clear hc
      have hkl2 : k < xs.length := by rw [HL.out]; exact hlt
      have hvo := HA.out _ (List.getElem_mem hkl2)
      rw [he] at hvo
      have HVO := Lib.hid hvo
      have hsl := valOk_len hvo
      have hxl := rawText_len hvo
      obtain ⟨tx, htx⟩ : ∃ tx, rawText ⟨x, y, s⟩ = tx := ⟨_, rfl⟩
      rw [htx] at hxl
      have HTX := Lib.hid htx; clear htx hvo
      have hstep := joinB_step ⟨#[44]⟩ (l := xs.map rawText) (k := k) (by rw [List.length_map]; exact hkl2)
      have hsz2 := factText_sz HA.out hfl (k + 1)
      rw [List.getElem_map, he, HTX.out] at hstep
      have hl2 : (⟨#[40]⟩ ++ joinB ⟨#[44]⟩ ((xs.map rawText).take (k + 1)) : ByteArray).size ≤ 156 := by rw [ByteArray.size_append]; have e9 : (⟨#[40]⟩ : ByteArray).size = 1 := rfl; omega
      clear he
      by_cases hk0 : k = 0
      · subst hk0
        simp only [Nat.zero_mul, Nat.add_zero] at p0 p1 p2
        rw [if_pos rfl] at hstep
        have hacc0 : ⟨#[40]⟩ = acc := by rw [← HAC.out]; exact (cat_nil _).symm
        have HN := Lib.hid (show ⟨#[40]⟩ ++ joinB ⟨#[44]⟩ ((xs.map rawText).take (0 + 1)) = acc ++ tx by rw [hstep, hacc0])
        rw [HN.out] at hl2
        clear hstep hacc0 hsz2
        go_wp2_with fail
        refine (l2Text_any x y s _ (by omega) (valOk_num HVO.out)).mono ?_
        rw [HTX.out]
        rintro e w2 ⟨rfl, hb2⟩
        have hal2 : acc.size + tx.size ≤ 156 := by rw [ByteArray.size_append] at hl2; exact hl2
        go_wp2
        go_roundw
        case rel => exact ⟨0 + 1, _, by omega, by go_num, rfl, HN.out, hl2, bel_trans hbel hb2⟩
        case measure => simp [intOf]; omega
      · rw [if_neg hk0] at hstep
        have hkp : (0 : Int) < (k : Int) := by omega
        have HN := Lib.hid (show ⟨#[40]⟩ ++ joinB ⟨#[44]⟩ ((xs.map rawText).take (k + 1)) = (acc ++ ⟨#[44]⟩) ++ tx by rw [hstep, ← HAC.out, ByteArray.append_assoc, ByteArray.append_assoc, ByteArray.append_assoc])
        rw [HN.out] at hl2
        clear hstep hsz2
        have hal3 : (acc ++ ⟨#[44]⟩ : ByteArray).size + tx.size ≤ 156 := by rw [ByteArray.size_append] at hl2; exact hl2
        have e8 : (acc ++ ⟨#[44]⟩ : ByteArray).size = acc.size + 1 := by rw [ByteArray.size_append]; rfl
        have hal2 : acc.size + 1 + tx.size ≤ 156 := by omega
        clear hal3 e8
        go_wp2_with fail
        refine (l2Text_any x y s _ (by omega) (valOk_num HVO.out)).mono ?_
        rw [HTX.out]
        rintro e w2 ⟨rfl, hb2⟩
        go_wp2
        go_roundw
        case rel => exact ⟨k + 1, _, by omega, by go_num, rfl, HN.out, hl2, bel_trans hbel hb2⟩
        case measure => simp [intOf]; omega
    · have HU := Lib.hid (show acc = ⟨#[40]⟩ ++ joinB ⟨#[44]⟩ (xs.map rawText) by rw [← HAC.out, List.take_of_length_le (by rw [List.length_map, HL.out]; omega)])
      go_wp2
      go_ret
      exact ⟨ret_str (by rw [HU.out]), hbel⟩
theorem specFactText_any (kd : ByteArray) (A : Option Addr) (n c : Nat) (xs : List Vl) (w : World) (B : Nat) (hr : RdS vC 3 w B A n xs) (hn : n ≤ 4611686018427387904) (hk : kd.size ≤ 9223372036854775807) (hs : ∀ x ∈ xs, x.s.size ≤ 9223372036854775807) :
    Calls Tryz.prog 39 #[.agg #[.string kd, .slice A n c]] w fun e w' => e = .returned (.string (factText ⟨kd, xs⟩)) ∧ Below w.heap.size w w' := by
  have HS := Lib.hid hs; clear hs
  obtain ⟨r, hrr⟩ : ∃ r, factOk ⟨kd, xs⟩ = r := ⟨_, rfl⟩
  have HR := Lib.hid hrr
  cases r
  · clear hrr
    go_enter Tryz.func39, Tryz.ntmps39
    go_wp2_with fail
    refine (specFactOk_any kd A n c xs _ B (by repeat (first | with_reducible assumption | with_reducible refine RdS.alloc ?_ _ | with_reducible refine RdS.drew ?_ | with_reducible refine RdS.drewN ?_ _ | with_reducible refine RdS.setCell ?_ (by first | (simp; done) | (simp; omega) | omega) _)) hn hk HS.out).mono ?_
    rw [HR.out]
    rintro e w1 ⟨rfl, hb⟩
    have g1 : Below w.heap.size w w1 := (by repeat (first | with_reducible exact bel_refl _ | with_reducible assumption | with_reducible refine bel_set ?_ (by first | (simp; done) | (simp; omega) | omega) _ | with_reducible refine bel_alloc ?_ _ | with_reducible refine bel_drew ?_ | with_reducible refine bel_drewN ?_ _ | with_reducible refine bel_trans ?_ (by assumption)))
    go_wp2
    go_ret
    exact ⟨ret_str (by rw [factText, HR.out]; rfl), (by repeat (first | with_reducible exact bel_refl _ | with_reducible assumption | with_reducible refine bel_set ?_ (by first | (simp; done) | (simp; omega) | omega) _ | with_reducible refine bel_alloc ?_ _ | with_reducible refine bel_drew ?_ | with_reducible refine bel_drewN ?_ _ | with_reducible refine bel_trans ?_ (by assumption)))⟩
  obtain ⟨hkl, hfl, hall⟩ := factOk_parts hrr
  have HA := Lib.hid hall; clear hall hrr
  simp only at hkl hfl
  have hjl := factText_sz HA.out hfl (xs.map rawText).length
  rw [List.take_length] at hjl
  obtain ⟨jt, hjt, hjtl⟩ : ∃ jt, ((⟨#[40]⟩ ++ joinB ⟨#[44]⟩ (xs.map rawText)) ++ ⟨#[41]⟩ : ByteArray) = jt ∧ jt.size ≤ 200 := ⟨_, rfl, by rw [ByteArray.size_append, ByteArray.size_append]; have e1 : (⟨#[40]⟩ : ByteArray).size = 1 := rfl; have e2 : (⟨#[41]⟩ : ByteArray).size = 1 := rfl; omega⟩
  have HJ := Lib.hid hjt; clear hjt hjl
  go_enter Tryz.func39, Tryz.ntmps39
  go_wp2_with fail
  refine (specFactOk_any kd A n c xs _ B (by repeat (first | with_reducible assumption | with_reducible refine RdS.alloc ?_ _ | with_reducible refine RdS.drew ?_ | with_reducible refine RdS.drewN ?_ _ | with_reducible refine RdS.setCell ?_ (by first | (simp; done) | (simp; omega) | omega) _)) hn hk HS.out).mono ?_
  rw [HR.out]
  rintro e w1 ⟨rfl, hb⟩
  have g1 : Below w.heap.size w w1 := (by repeat (first | with_reducible exact bel_refl _ | with_reducible assumption | with_reducible refine bel_set ?_ (by first | (simp; done) | (simp; omega) | omega) _ | with_reducible refine bel_alloc ?_ _ | with_reducible refine bel_drew ?_ | with_reducible refine bel_drewN ?_ _ | with_reducible refine bel_trans ?_ (by assumption)))
  have HB := (Blk.new w 26 #[.string kd, .slice A n c]).kept hb
  have zb := HB.lt
  obtain ⟨c0, c1, f0, f1⟩ := HB.two
  replace hr := hr.kept g1
  clear hb
  go_upto_region 3 with fail
  refine wp_region_held_drew (S := (fun w' => Below w1.heap.size w1 w' ∧ w'.cell? ⟨w.heap.size, 0, none⟩ = some (.string kd) ∧ w'.cell? ⟨w.heap.size, 1, none⟩ = some (.slice A n c))) (by kernel_rfl) ?_ (fun hHeld => ?_)
  · (try dsimp only) <;> (((refine (fun hB => ⟨hB, old_cell hB c0, old_cell hB c1⟩ : Below w1.heap.size w1 _ → _) ?_); (repeat (first | exact bel_refl _ | exact bel_drew (bel_refl _) | exact bel_trans (And.left (by assumption)) (by assumption) | assumption))))
  refine h_take 0 (some 6) (?_) rfl rfl (by kernel_rfl) (by kernel_rfl) (by kernel_rfl) (fun _ _ _ h => h) (by kernel_rfl) ?_ (by assumption) ?_
  rotate_left
  · intro w hSw; (try dsimp only at hSw); go_simp
    all_goals first | with_reducible rfl | omega | (simp; omega)
  try simp only [Act.put, List.setIfInBounds_toArray, List.set_cons_zero, List.set_cons_succ]
  refine h_take 1 (some 7) (?_) rfl rfl (by kernel_rfl) (by kernel_rfl) (by kernel_rfl) (fun _ _ _ h => h) (by kernel_rfl) ?_ (by assumption) ?_
  rotate_left
  · intro w hSw; (try dsimp only at hSw); go_simp
    all_goals first | with_reducible rfl | omega | (simp; omega)
  try simp only [Act.put, List.setIfInBounds_toArray, List.set_cons_zero, List.set_cons_succ]
  refine h_take 2 (some 8) (?_) rfl rfl (by kernel_rfl) (by kernel_rfl) (by kernel_rfl) (fun _ _ _ h => h) (by kernel_rfl) ?_ (by assumption) ?_
  rotate_left
  · intro w hSw; (try dsimp only at hSw); go_simp
    all_goals first | with_reducible rfl | omega | (simp; omega)
  try simp only [Act.put, List.setIfInBounds_toArray, List.set_cons_zero, List.set_cons_succ]
  refine h_take 3 (some 9) (?_) rfl rfl (by kernel_rfl) (by kernel_rfl) (by kernel_rfl) (fun _ _ _ h => h) (by kernel_rfl) ?_ (by assumption) ?_
  rotate_left
  · intro w hSw; (try dsimp only at hSw); go_simp
    all_goals first | with_reducible rfl | omega | (simp; omega)
  try simp only [Act.put, List.setIfInBounds_toArray, List.set_cons_zero, List.set_cons_succ]
  refine h_call 4 (by kernel_rfl) rfl (by kernel_rfl) (fun K hK => ?_)
  go_simp
  refine (l3ValsText_any A n c xs _ B (hr.kept (And.left (by assumption))) hfl HA.out).mono ?_
  rw [HJ.out]
  rintro e wa ⟨rfl, hb⟩
  refine hK.out _ _ ?_ (fun hHeld => ?_)
  · (try dsimp only) <;> (((refine (fun hB => ⟨hB, old_cell hB c0, old_cell hB c1⟩ : Below w1.heap.size w1 _ → _) ?_); (repeat (first | exact bel_refl _ | exact bel_drew (bel_refl _) | exact bel_trans (And.left (by assumption)) (by assumption) | assumption))))
  clear hK K
  try simp only [Act.put, List.setIfInBounds_toArray, List.set_cons_zero, List.set_cons_succ]
  refine h_take 5 (some 11) (.string (kd ++ jt)) rfl rfl (by kernel_rfl) (by kernel_rfl) (by kernel_rfl) (fun _ _ _ h => h) (by kernel_rfl) ?_ (by assumption) ?_
  · intro w hSw; (try dsimp only at hSw); go_simp
    all_goals (first | omega | rw [if_neg (by first | omega | (simp [ByteArray.size] at *; omega))])
  try simp only [Act.put, List.setIfInBounds_toArray, List.set_cons_zero, List.set_cons_succ]
  refine h_take 6 (some 2) (.string (kd ++ jt)) rfl rfl (by kernel_rfl) (by kernel_rfl) (by kernel_rfl) (fun _ _ _ h => h) (by kernel_rfl) ?_ (by assumption) ?_
  · intro w hSw; (try dsimp only at hSw); go_simp
    all_goals first | with_reducible rfl | omega | (simp; omega) | (rw [IntKind.wrap_i64]; omega) | (rw [IntKind.wrap_u8]; omega) | exact Int.tmod_eq_emod_of_nonneg (by omega) | (simp [IntKind.wrap_i64, IntKind.wrap_u8]; omega)
  try simp only [Act.put, List.setIfInBounds_toArray, List.set_cons_zero, List.set_cons_succ]
  refine wpAnyH_done (by kernel_rfl) ?_ _
  obtain ⟨hB, _⟩ := hHeld
  have hB1 : Below w.heap.size w _ := bel_trans g1 hB
  go_wp2
  go_ret
  exact ⟨ret_str (by rw [factText, HR.out, ← HJ.out]; simp [ByteArray.append_assoc]), hB1⟩
end Go.Proofs.YtcbbefibebkfgaaGreatDoor
