/- VarsOf of the program and of the reference. Each answers a slice of its own that holds what the plain function says. No condition but lengths. -/
import Derived.Test.YtaacdnnjmiaaaaaDoorPat
import Derived.Test.YtaacdnnjmiaaaaaDoorStringS
import Derived.Test.YtaacdnnjmiaaaaaDoorApp
namespace Go.Proofs.YtaacdnnjmiaaaaaDoor
open Go.RowKit
set_option maxRecDepth 100000
set_option maxHeartbeats 2000000

instance decMemB (s : ByteArray) (l : List ByteArray) : Decidable (s ∈ l) := decidable_of_iff ((l.any fun x => decide (x = s)) = true) (by simp)
def addStr (acc : List ByteArray) (s : ByteArray) : List ByteArray := if s ∈ acc then acc else acc ++ [s]
theorem addStr_in {acc : List ByteArray} {s : ByteArray} (h : s ∈ acc) : addStr acc s = acc := if_pos h
theorem addStr_out {acc : List ByteArray} {s : ByteArray} (h : ¬ s ∈ acc) : addStr acc s = acc ++ [s] := if_neg h
def addVar (acc : List ByteArray) (a : Ag) : List ByteArray := if a.k = 1 then addStr acc a.s else acc
def varsOf (xs : List Ag) : List ByteArray := xs.foldl addVar []
theorem vars_step {xs : List Ag} {k : Nat} (h : k < xs.length) : varsOf (xs.take (k + 1)) = addVar (varsOf (xs.take k)) xs[k] := by
  unfold varsOf
  rw [List.take_succ_eq_append_getElem h, List.foldl_append]
  rfl
theorem addVar_len (acc : List ByteArray) (a : Ag) : (addVar acc a).length ≤ acc.length + 1 := by
  unfold addVar addStr; split
  · split <;> simp
  · simp
theorem vars_len (xs : List Ag) : ∀ k, (varsOf (xs.take k)).length ≤ k
  | 0 => by simp [varsOf]
  | k + 1 => by
    by_cases h : k < xs.length
    · rw [vars_step h]; have := addVar_len (varsOf (xs.take k)) xs[k]; have := vars_len xs k; omega
    · rw [List.take_of_length_le (by omega), ← List.take_of_length_le (l := xs) (i := k) (by omega)]; have := vars_len xs k; omega
theorem notMem_succ {xs : List ByteArray} {s x : ByteArray} {k : Nat} (h : k < xs.length) (hx : xs[k] = x) (hn : ¬ s ∈ xs.take k) (hne : ¬ s = x) : ¬ s ∈ xs.take (k + 1) := by
  rw [List.take_succ_eq_append_getElem h, List.mem_append, hx, List.mem_singleton]
  rintro (h | h)
  · exact hn h
  · exact hne h
theorem own_lit0 {α : Type} {f : α → List Value} {z : Nat} (w : World) (e : TypeId) : OwnT f z (w.alloc (.cells #[] e)) w.heap.size e (.slice (some ⟨w.heap.size, 0, none⟩) 0 0) [] := by
  have := World.ownsRow_lit (base := w.heap.size) (e := e) (size := z) w #[] 0 (Nat.le_refl _) (Nat.zero_le _) (by simp)
  exact this
theorem indexStr_any (A : Option Addr) (n c : Nat) (xs : List ByteArray) (s : ByteArray) (w : World) (B : Nat) (hr : RdS sC 1 w B A n xs) (hn : n ≤ 4611686018427387904) :
    Calls Tryd.prog 60 #[.slice A n c, .string s] w fun e w' => (∃ i : Int, e = .returned (.int .i64 i) ∧ (0 ≤ i ↔ s ∈ xs)) ∧ w = w' := by
  have HL := Lib.hid hr.len
  go_enter Tryd.func60, Tryd.ntmps60
  go_wp2
  go_loop [8] (fun i => ∃ k : Nat, k ≤ n ∧ i = .int .i64 k ∧ ¬ s ∈ xs.take k) (fun i => n - (intOf i).toNat)
  case atStart => exact ⟨0, Nat.zero_le _, rfl, by simp⟩
  case round =>
    obtain ⟨k, hk, rfl, hno⟩ := hrel
    have HN := Lib.hid hno; clear hno
    by_cases hlt : k < n
    · obtain ⟨b, o, rfl, hb, hc⟩ := hr.2.string_ (by omega)
      obtain ⟨x, he, c0⟩ := hc k hlt
      clear hc
      have hkl : k < xs.length := by rw [HL.out]; exact hlt
      have HE := Lib.hid he; clear he
      by_cases hs : s = x
      · subst hs
        have hss : (s.toList == s.toList) = true := by simp
        go_wp2
        go_ret
        exact ⟨⟨k, rfl, ⟨fun _ => by rw [← HE.out]; exact List.getElem_mem _, fun _ => by omega⟩⟩, rfl⟩
      · have hss : (s.toList == x.toList) = false := by rw [str_eq, decide_eq_false hs]
        have HS := Lib.hid hs; clear hs
        go_wp2
        go_round
        case rel => exact ⟨k + 1, by omega, by go_num, notMem_succ hkl HE.out HN.out HS.out⟩
        case measure => simp [intOf]; omega
    · have hno : ¬ s ∈ xs := by have := HN.out; rwa [List.take_of_length_le (by rw [HL.out]; omega)] at this
      have HNO := Lib.hid hno; clear hno
      go_wp2
      go_ret
      exact ⟨⟨-1, rfl, ⟨fun h => absurd h (by omega), fun h => absurd h HNO.out⟩⟩, rfl⟩
theorem containsStr_any (A : Option Addr) (n c : Nat) (xs : List ByteArray) (s : ByteArray) (w : World) (B : Nat) (hr : RdS sC 1 w B A n xs) (hn : n ≤ 4611686018427387904) :
    Calls Tryd.prog 54 #[.slice A n c, .string s] w fun e w' => e = .returned (.bool (decide (s ∈ xs))) ∧ w = w' := by
  go_enter Tryd.func54, Tryd.ntmps54
  go_wp2_with fail
  refine (indexStr_any A n c xs s _ B hr hn).mono ?_
  rintro e w' ⟨⟨i, rfl, hi⟩, rfl⟩
  have HI := Lib.hid hi; clear hi
  go_wp2
  go_ret
  exact ⟨ret_bool (decide_eq_decide.2 HI.out), rfl⟩
theorem addOnce_any (v : Value) (acc : List ByteArray) (s : ByteArray) (w : World) (base : Nat) (ho : OwnT sC 1 w base 9 v acc) (hb : base ≤ w.heap.size) (hl : acc.length ≤ 2097152) :
    Calls Tryd.prog 33 #[v, .string s] w fun e w' => ∃ v', e = .returned v' ∧ OwnT sC 1 w' base 9 v' (addStr acc s) ∧ Below base w w' ∧ w.heap.size ≤ w'.heap.size := by
  obtain ⟨i0, hi, hz0, hz1, hz2⟩ := info_parts infoString
  have HI := Lib.hid hi; clear hi
  obtain ⟨A, c, rfl, hc, hr⟩ := ho.rd
  by_cases hs : s ∈ acc
  · have HS := Lib.hid (show decide (s ∈ acc) = true from decide_eq_true hs)
    have HV := Lib.hid (addStr_in hs); clear hs
    have HO := Lib.hid ho; clear ho
    go_enter Tryd.func33, Tryd.ntmps33
    go_wp2_with (go_at_call 54; refine (containsStr_any A _ c acc s _ _ hr (by omega)).mono ?_; rw [HS.out]; rintro e w' ⟨rfl, rfl⟩)
    go_ret
    exact ⟨_, rfl, by rw [HV.out]; exact HO.out, Below.refl _ _, Nat.le_refl _⟩
  · have HS := Lib.hid (show decide (s ∈ acc) = false from decide_eq_false hs)
    have HV := Lib.hid (addStr_out hs); clear hs
    have HO := Lib.hid ho; clear ho
    go_enter Tryd.func33, Tryd.ntmps33
    go_wp2_with (first | (go_at_call 54; refine (containsStr_any A _ c acc s _ _ hr (by omega)).mono ?_; rw [HS.out]; rintro e w' ⟨rfl, rfl⟩) | (at_builtin; refine appT rfl (.tmp 9) (.tmp 11) _ rfl sC_sz base 9 i0 Tryd.underlying28 HI.out hz0 hz1 hz2 rfl (by omega) _ acc rfl (HO.out.alloc _) _ 1 1 [s] rfl (RdT.new1 sC_sz w 9 s) (by intro u hu; simp [fl, sC] at hu; subst hu; rfl) (by omega) (by simp; omega) ?_; intro v' w' ho' hb' hs'))
    go_ret
    exact ⟨_, rfl, by rw [HV.out]; exact ho', ((Below.refl base w).alloc hb _).trans hb', by simp at hs'; omega⟩
theorem addVars_any (A : Option Addr) (n c : Nat) (xs : List Ag) (w : World) (B : Nat) (hr : RdS aC 5 w B A n xs) (hn : n ≤ 1048576) :
    Calls Tryd.prog 17 #[.slice none 0 0, .slice A n c] w fun e w' => ∃ v', e = .returned v' ∧ OwnT sC 1 w' w.heap.size 9 v' (varsOf xs) ∧ Below w.heap.size w w' ∧ w.heap.size ≤ w'.heap.size := by
  have HL := Lib.hid hr.len
  go_enter Tryd.func17, Tryd.ntmps17
  go_wp2
  go_loopw [0, 9] (fun v i wr => ∃ k : Nat, k ≤ n ∧ i = .int .i64 k ∧ OwnT sC 1 wr w.heap.size 9 v (varsOf (xs.take k)) ∧ Below w.heap.size w wr) (fun _ i _ => n - (intOf i).toNat)
  case atStart => exact ⟨0, Nat.zero_le _, rfl, OwnT.nil_ _ _ _, bel_refl _⟩
  case round =>
    obtain ⟨k, hk, rfl, ho, hbel⟩ := hrel
    have hvl := vars_len xs k
    have hsz := hbel.size
    by_cases hlt : k < n
    · obtain ⟨b, o, rfl, hb, hc⟩ := (hr.kept hbel).2.arg_ (by omega)
      obtain ⟨ek, es, evk, evn, evs, he, c0, c1, c2, c3, c4⟩ := hc k hlt
      clear hc
      have hkl : k < xs.length := by rw [HL.out]; exact hlt
      have hst := vars_step hkl
      rw [he] at hst
      generalize hacc : varsOf (xs.take k) = acc at ho hvl hst
      have HAC := Lib.hid hacc; clear hacc
      by_cases h1 : ek = 1
      · subst h1
        have hst2 : varsOf (xs.take (k + 1)) = addStr acc es := by rw [hst]; unfold addVar; rw [if_pos rfl]
        have HST := Lib.hid hst2; clear hst hst2 he
        have HO := Lib.hid ho; clear ho
        go_wp2_with (go_at_call 33; refine (addOnce_any _ acc es _ w.heap.size (HO.out.alloc _) (by simp; omega) (by omega)).mono ?_; rintro e w' ⟨v', rfl, ho', hb', hs'⟩)
        go_roundw
        case rel => exact ⟨k + 1, by omega, by go_num, by rw [HST.out]; exact ho', (hbel.alloc hsz _).trans hb'⟩
        case measure => simp [intOf]; omega
      · have ht : (ek == 1) = false := by simpa using h1
        have hst2 : varsOf (xs.take (k + 1)) = acc := by rw [hst]; unfold addVar; rw [if_neg h1]
        have HST := Lib.hid hst2; clear hst hst2 he h1
        have HO := Lib.hid ho; clear ho
        go_wp2
        go_roundw
        case rel => exact ⟨k + 1, by omega, by go_num, by rw [HST.out]; exact HO.out.alloc _, hbel.alloc hsz _⟩
        case measure => simp [intOf]; omega
    · have hfull : varsOf (xs.take k) = varsOf xs := by rw [List.take_of_length_le (by rw [HL.out]; omega)]
      rw [hfull] at ho
      have HO := Lib.hid ho; clear ho hfull hvl
      go_wp2
      go_ret
      exact ⟨_, rfl, HO.out, hbel, hsz⟩
theorem implVarsOf_any (kd : ByteArray) (A : Option Addr) (n c : Nat) (xs : List Ag) (no : Bool) (w : World) (B : Nat) (hr : RdS aC 5 w B A n xs) (hn : n ≤ 1048576) :
    Calls Tryd.prog 6 #[.agg #[.string kd, .slice A n c, .bool no]] w fun e w' => ∃ v', e = .returned v' ∧ OwnT sC 1 w' w.heap.size 9 v' (varsOf xs) ∧ Below w.heap.size w w' ∧ w.heap.size ≤ w'.heap.size := by
  go_enter Tryd.func6, Tryd.ntmps6
  go_wp2_with fail
  refine (addVars_any A n c xs _ B (hr.alloc _) hn).mono ?_
  rintro e w1 ⟨v', rfl, ho, hb, hs⟩
  go_wp2
  go_ret
  exact ⟨_, rfl, ho.lower (by simp), (by repeat (first | with_reducible exact bel_refl _ | with_reducible assumption | with_reducible refine bel_set ?_ (by first | (simp; done) | (simp; omega) | omega) _ | with_reducible refine bel_alloc ?_ _ | with_reducible refine bel_drew ?_ | with_reducible refine bel_drewN ?_ _ | with_reducible refine bel_trans ?_ (by assumption))), by simp at hs; omega⟩
end Go.Proofs.YtaacdnnjmiaaaaaDoor
