/- FactOf and OfKind of the program and of the reference. Each answers what the plain function says, in memory of its own, and makes at most new blocks. No condition but lengths. -/
import Derived.Test.YtndhjijcicebkaaStore
import Derived.Test.YtndhjijcicebkaaCopy
import Derived.Test.YtndhjijcicebkaaIntS
namespace Go.Proofs.Ytndhjijcicebkaa
open Go.RowKit
set_option maxRecDepth 100000
set_option maxHeartbeats 4000000

def factOf : List It → Int → Ft × Bool
  | [], _ => (⟨⟨#[]⟩, []⟩, false)
  | x :: l, id => if x.id = id then (x.f, true) else factOf l id
theorem factOf_step {l : List It} {k : Nat} {id : Int} (h1 : k < l.length) (he : ¬ l[k].id = id) : factOf (l.drop k) id = factOf (l.drop (k + 1)) id := by
  rw [List.drop_eq_getElem_cons h1, factOf, if_neg he]
theorem factOf_stop {l : List It} {k : Nat} {id : Int} (h1 : k < l.length) (he : l[k].id = id) : factOf (l.drop k) id = (l[k].f, true) := by
  rw [List.drop_eq_getElem_cons h1, factOf, if_pos he]
theorem factOf_end {l : List It} {k : Nat} {id : Int} (h1 : l.length ≤ k) : factOf (l.drop k) id = (⟨⟨#[]⟩, []⟩, false) := by
  rw [List.drop_eq_nil_of_le h1]; rfl
def ofKind (l : List It) (kd : ByteArray) : List Int := (l.filter fun x => decide (x.f.kd = kd)).map It.id
theorem ofKind_hit {l : List It} {k : Nat} {kd : ByteArray} (h : k < l.length) (he : l[k].f.kd = kd) : ofKind (l.take (k + 1)) kd = ofKind (l.take k) kd ++ [l[k].id] := by
  unfold ofKind
  rw [List.take_succ_eq_append_getElem h, List.filter_append, List.map_append]
  simp [he]
theorem ofKind_miss {l : List It} {k : Nat} {kd : ByteArray} (h : k < l.length) (he : ¬ l[k].f.kd = kd) : ofKind (l.take (k + 1)) kd = ofKind (l.take k) kd := by
  unfold ofKind
  rw [List.take_succ_eq_append_getElem h, List.filter_append, List.map_append]
  simp [he]
theorem ofKind_len (l : List It) (kd : ByteArray) : (ofKind l kd).length ≤ l.length := by
  unfold ofKind
  rw [List.length_map]
  exact List.length_filter_le _ _
def tupF (kd : ByteArray) (A : Option Addr) (n c : Nat) (b : Bool) : Value := .tuple #[.agg #[.string kd, .slice A n c], .bool b]
theorem implFactOf_any (A : Option Addr) (n c : Nat) (rs : List IR) (nx id : Int) (kd : ByteArray) (fs : List Vl) (b : Bool) (w : World) (B : Nat) (hr : RdI w B A n rs) (hn : n ≤ 4611686018427387904) (hs : ∀ r ∈ rs, r.fs.length ≤ 1048576) (hres : factOf (rs.map itOf) id = (⟨kd, fs⟩, b)) :
    Calls Try.prog 29 #[.agg #[.slice A n c, .int .i64 nx], .int .i64 id] w fun e w' => ∃ A' c', e = .returned (tupF kd A' fs.length c' b) ∧ OwnT vC 3 w' w.heap.size 90 (.slice A' fs.length c') fs ∧ Below w.heap.size w w' := by
  have HL := Lib.hid hr.len
  have HS := Lib.hid hs; clear hs
  have HT := Lib.hid (show factOf ((rs.map itOf).drop 0) id = (⟨kd, fs⟩, b) from hres); clear hres
  go_enter Try.func29, Try.ntmps29
  go_wp2
  go_loopw [11] (fun i wr => ∃ k : Nat, k ≤ n ∧ i = .int .i64 k ∧ factOf ((rs.map itOf).drop k) id = (⟨kd, fs⟩, b) ∧ Below w.heap.size w wr ∧ wr.cell? ⟨w.heap.size + 1, 0, none⟩ = some (.string ⟨#[]⟩) ∧ wr.cell? ⟨w.heap.size + 1, 1, none⟩ = some (.slice none 0 0) ∧ wr.frozen? ⟨w.heap.size + 1, 0, none⟩ = false ∧ wr.frozen? ⟨w.heap.size + 1, 1, none⟩ = false) (fun i _ => n - (intOf i).toNat)
  case atStart => exact ⟨0, Nat.zero_le _, rfl, HT.out, (by repeat (first | with_reducible exact bel_refl _ | with_reducible assumption | with_reducible refine bel_set ?_ (by first | (simp; done) | (simp; omega) | omega) _ | with_reducible refine bel_alloc ?_ _ | with_reducible refine bel_drew ?_ | with_reducible refine bel_drewN ?_ _ | with_reducible refine bel_trans ?_ (by assumption))), by go_simp, by go_simp, by go_simp, by go_simp⟩
  case round =>
    obtain ⟨k, hk, rfl, ht, hbel, d0, d1, f0, f1⟩ := hrel
    have HTT := Lib.hid ht; clear ht
    have hdl := cell_lt d0
    dsimp only at hdl
    by_cases hlt : k < n
    · obtain ⟨b0, o, rfl, hb, hc⟩ := (hr.kept hbel).at_ (by omega)
      obtain ⟨id', kd', Ai, ci, fs', he, p0, p1, p2, hri⟩ := hc k hlt
      clear hc
      have hfl : fs'.length ≤ 1048576 := by
        have := HS.out (rs[k]'(by rw [HL.out]; exact hlt)) (List.getElem_mem _)
        rw [he] at this; exact this
      have g1 : k < (rs.map itOf).length := by rw [List.length_map, HL.out]; exact hlt
      have hk0 : (0:Int) ≤ (k : Int) := by omega
      have hk1 : (k:Int) < (n : Int) := by omega
      have E1 := Lib.hid (show (rs.map itOf)[k] = It.mk id' ⟨kd', fs'⟩ by rw [List.getElem_map, he]; rfl)
      clear he
      by_cases hf : id' = id
      · subst hf
        have hst := HTT.out
        rw [factOf_stop g1 (by rw [E1.out]), E1.out] at hst
        simp only [Prod.mk.injEq, Ft.mk.injEq] at hst
        obtain ⟨⟨rfl, rfl⟩, rfl⟩ := hst
        go_wp2_with fail
        refine (copyFact_any kd' Ai _ ci fs' _ _ (hri.alloc _) hfl).mono ?_
        rintro e w' ⟨A', c', rfl, ho, hb1⟩
        replace d0 := old_cell hb1 (old_cell (bel_alloc (bel_refl wr) _) d0)
        replace d1 := old_cell hb1 (old_cell (bel_alloc (bel_refl wr) _) d1)
        have y0 : w'.frozen? ⟨w.heap.size + 1, 0, none⟩ = false := (hb1.frozen (p := ⟨w.heap.size + 1, 0, none⟩) (by simp; omega)).trans (by go_simp)
        have y1 : w'.frozen? ⟨w.heap.size + 1, 1, none⟩ = false := (hb1.frozen (p := ⟨w.heap.size + 1, 1, none⟩) (by simp; omega)).trans (by go_simp)
        go_wp2
        refine bodyPost_ret (v := tupF kd' A' fs'.length c' true) (by simp [results, Try.results29, go_sem, tupF, d0, d1]) rfl ⟨A', c', rfl, ?_, (by repeat (first | with_reducible exact bel_refl _ | with_reducible assumption | with_reducible refine bel_set ?_ (by first | (simp; done) | (simp; omega) | omega) _ | with_reducible refine bel_alloc ?_ _ | with_reducible refine bel_drew ?_ | with_reducible refine bel_drewN ?_ _ | with_reducible refine bel_trans ?_ (by assumption)))⟩
        exact ((ho.low (by simp; omega) _).low (by simp; omega) _).lower (by have := hbel.size; simp; omega)
      · have hst := HTT.out
        rw [factOf_step g1 (by rw [E1.out]; exact hf)] at hst
        have HST := Lib.hid hst; clear hst
        have hq : (id' == id) = false := by simpa using hf
        go_wp2
        go_roundw
        case rel => exact ⟨k + 1, by omega, by go_num, HST.out, (by repeat (first | with_reducible exact bel_refl _ | with_reducible assumption | with_reducible refine bel_set ?_ (by first | (simp; done) | (simp; omega) | omega) _ | with_reducible refine bel_alloc ?_ _ | with_reducible refine bel_drew ?_ | with_reducible refine bel_drewN ?_ _ | with_reducible refine bel_trans ?_ (by assumption))), old_cell (bel_alloc (bel_refl wr) _) d0, old_cell (bel_alloc (bel_refl wr) _) d1, by go_simp, by go_simp⟩
        case measure => simp [intOf]; omega
    · have hst := HTT.out
      rw [factOf_end (by rw [List.length_map, HL.out]; omega)] at hst
      simp only [Prod.mk.injEq, Ft.mk.injEq] at hst
      obtain ⟨⟨rfl, rfl⟩, rfl⟩ := hst
      go_wp2
      refine bodyPost_ret (v := tupF ⟨#[]⟩ none 0 0 false) (by simp [results, Try.results29, go_sem, tupF, d0, d1]) rfl ⟨none, 0, rfl, OwnT.nil_ _ _ _, (by repeat (first | with_reducible exact bel_refl _ | with_reducible assumption | with_reducible refine bel_set ?_ (by first | (simp; done) | (simp; omega) | omega) _ | with_reducible refine bel_alloc ?_ _ | with_reducible refine bel_drew ?_ | with_reducible refine bel_drewN ?_ _ | with_reducible refine bel_trans ?_ (by assumption)))⟩
theorem implOfKind_any (A : Option Addr) (n c : Nat) (rs : List IR) (nx : Int) (kd : ByteArray) (w : World) (B : Nat) (hr : RdI w B A n rs) (hn : n ≤ 1048576) :
    Calls Try.prog 23 #[.agg #[.slice A n c, .int .i64 nx], .string kd] w fun e w' => ∃ v', e = .returned v' ∧ OwnT iC 1 w' w.heap.size 3 v' (ofKind (rs.map itOf) kd) ∧ Below w.heap.size w w' ∧ w.heap.size ≤ w'.heap.size := by
  obtain ⟨i0, hi, hz0, hz1, hz2⟩ := info_parts infoInt
  have HI := Lib.hid hi; clear hi
  have HL := Lib.hid hr.len
  go_enter Try.func23, Try.ntmps23
  go_wp2
  go_loopw [5, 11] (fun v i wr => ∃ k : Nat, k ≤ n ∧ i = .int .i64 k ∧ OwnT iC 1 wr w.heap.size 3 v (ofKind ((rs.map itOf).take k) kd) ∧ Below w.heap.size w wr) (fun _ i _ => n - (intOf i).toNat)
  case atStart => exact ⟨0, Nat.zero_le _, rfl, OwnT.nil_ _ _ _, (by repeat (first | with_reducible exact bel_refl _ | with_reducible assumption | with_reducible refine bel_set ?_ (by first | (simp; done) | (simp; omega) | omega) _ | with_reducible refine bel_alloc ?_ _ | with_reducible refine bel_drew ?_ | with_reducible refine bel_drewN ?_ _ | with_reducible refine bel_trans ?_ (by assumption)))⟩
  case round =>
    obtain ⟨k, hk, rfl, ho, hbel⟩ := hrel
    have hvl := ofKind_len ((rs.map itOf).take k) kd
    have hvl2 : ((rs.map itOf).take k).length ≤ 1048576 := by rw [List.length_take, List.length_map, HL.out]; omega
    have hsz := hbel.size
    by_cases hlt : k < n
    · obtain ⟨b, o, rfl, hb, hc⟩ := (hr.kept hbel).at_ (by omega)
      obtain ⟨id', kd', Ai, ci, fs', he, p0, p1, p2, hri⟩ := hc k hlt
      clear hc
      have g1 : k < (rs.map itOf).length := by rw [List.length_map, HL.out]; exact hlt
      have hk0 : (0:Int) ≤ (k : Int) := by omega
      have hk1 : (k:Int) < (n : Int) := by omega
      have E1 : (rs.map itOf)[k] = It.mk id' ⟨kd', fs'⟩ := by rw [List.getElem_map, he]; rfl
      have hit := fun h => ofKind_hit (kd := kd) g1 (by rw [E1]; exact h)
      have hmi := fun h => ofKind_miss (kd := kd) g1 (by rw [E1]; exact h)
      rw [E1] at hit
      generalize hacc : ofKind ((rs.map itOf).take k) kd = acc at ho hvl hit hmi
      clear he hri E1
      have hal : acc.length ≤ 1048576 := by omega
      clear hvl hvl2 hacc
      by_cases h1 : kd' = kd
      · have hst := hit h1
        clear hit hmi
        subst h1
        have HST := Lib.hid hst; clear hst
        have HO := Lib.hid ho; clear ho
        have hnew : RdT iC 1 ((wr.alloc (.cells #[.int .i64 id', .string kd', .slice Ai fs'.length ci] 55)).alloc (.cells #[.int .i64 id'] 3)) (wr.heap.size + 1 + 1) (some ⟨wr.heap.size + 1, 0, none⟩) 1 [id'] := by
          have h := RdT.new1 iC_sz (wr.alloc (.cells #[.int .i64 id', .string kd', .slice Ai fs'.length ci] 55)) 3 id'
          simpa [iC] using h
        go_wp2_with (at_builtin; refine appT rfl (.tmp 20) (.tmp 23) _ rfl iC_sz w.heap.size 3 i0 Try.underlying52 HI.out hz0 hz1 hz2 rfl (by omega) _ acc rfl ((HO.out.alloc _).alloc _) _ 1 1 [id'] rfl hnew (by intro u hu; simp [fl, iC] at hu; subst hu; rfl) (by omega) (by simp; omega) ?_; intro v' w' ho' hb' hs')
        go_roundw
        case rel => exact ⟨k + 1, by omega, by go_num, by rw [HST.out]; exact ho', ((hbel.alloc hsz _).alloc (by simp; omega) _).trans hb'⟩
        case measure => simp [intOf]; omega
      · have hst := hmi h1
        have hq := (str_eq kd' kd).trans (decide_eq_false h1)
        clear hit hmi
        have HST := Lib.hid hst; clear hst
        have HO := Lib.hid ho; clear ho
        go_wp2
        go_roundw
        case rel => exact ⟨k + 1, by omega, by go_num, by rw [HST.out]; exact HO.out.alloc _, hbel.alloc hsz _⟩
        case measure => simp [intOf]; omega
    · have hfull : ofKind ((rs.map itOf).take k) kd = ofKind (rs.map itOf) kd := by rw [List.take_of_length_le (by rw [List.length_map, HL.out]; omega)]
      rw [hfull] at ho
      have HO := Lib.hid ho; clear ho hfull hvl
      go_wp2
      go_ret
      exact ⟨_, rfl, HO.out, hbel, hsz⟩
end Go.Proofs.Ytndhjijcicebkaa
