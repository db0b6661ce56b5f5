import Derived.Test.YtcbbefibebkfgaaGreatDoorApp
import Derived.Test.YtcbbefibebkfgaaGreatDoorLit
import Derived.Test.YtcbbefibebkfgaaGreatDoorStringS
import Derived.Test.YtcbbefibebkfgaaGreatDoorBox
import Derived.Test.YtcbbefibebkfgaaGreatDoorPkPlainSplit
/- One append to a row of the call's own, with what it leaves of the rest; a literal's row is the call's own. Names no program. No condition but lengths. -/
namespace Go.Proofs.YtcbbefibebkfgaaGreatDoor
open Go Go.RowKit
theorem appTG {α : Type} {f : α → List Value} {z : Nat} {P : Program} {w : World} {ops : Array Oper} {rest : List Oper} {o : Oper} {a : Act} {Q : Exit → Act → World → Prop} (hgd : o.guard = none) (s x : Operand) (t : TypeId)
    (ho : o.op = .call { callee := .builtin .append, args := #[s, x], argTypes := #[t, t] }) (_hf : Sz f z)
    (base : Nat) (e : TypeId) (i : TypeInfo) {zv : Value} {bytes : Nat} (ht : P.underlying t = some (.slice e)) (hi : P.info? e = some i) (hz : i.zero = some zv) (hsize : i.size = z) (hby : i.bytes = bytes) (hzs : zv.cells.size = z) (hz0 : 0 < z)
    (v : Value) (xs : List α) (hs : a.eval s = v) (hown : OwnT f z w base e v xs) (A : Option Addr) (m c : Nat) (news : List α) {B : Nat} (hx : a.eval x = .slice A m c) (hr : RdT f z w B A m news) (h1 : ∀ u ∈ fl f news, u.oneCell' = true)
    (h63 : (xs.length + m) * bytes ≤ 140737488355328) (hbase : base ≤ w.heap.size)
    (h : ∀ v' w', OwnT f z w' base e v' (xs ++ news) → Below base w w' → w.grownBy w' v.ownBlock → wpList P ops Q rest (a.put o.dst v') w') (hml : xs.length + m ≤ 140737488355328 := by omega) : wpList P ops Q (o :: rest) a w := by
  have hl := hr.len
  refine wpList_append_any hgd s x t ho base e i zv z bytes ht hi hz hsize hby hzs hz0 v xs.length _ hs hown B A m c _ hx hr.2 h1 (by simp only [maxLen]; omega) h63 hbase fun v' w' h2 h3 => ?_
  refine h v' w' ?_ ((Below.refl base w).grown h3 hbase fun k hk => (World.ownsRow.lt hown k hk).1) h3
  unfold OwnT
  rw [fl_append, List.length_append, hl]
  exact h2
theorem lit_own {α : Type} {f : α → List Value} {z : Nat} (hf : Sz f z) (w : World) (e : TypeId) (xs : List α) (hm : xs.length ≤ maxLen) : OwnT f z (w.alloc (.cells (fl f xs).toArray e)) w.heap.size e (.slice (some ⟨w.heap.size, 0, none⟩) xs.length xs.length) xs := by
  have := World.ownsRow_lit (base := w.heap.size) (e := e) (size := z) w (fl f xs).toArray xs.length (Nat.le_refl _) hm (by rw [List.size_toArray, fl_len hf])
  exact this
theorem row_ne {w : World} {base b2 : Nat} {e e2 : TypeId} {s1 s2 n1 n2 : Nat} {v u : Value} {xs ys : List Value} (h : w.ownsRow base e s1 v n1 xs) (k : w.ownsRow b2 e2 s2 u n2 ys) (hne : e ≠ e2) : v.ownBlock = none ∨ v.ownBlock ≠ u.ownBlock := by
  rcases h.2 with ⟨rfl, _⟩ | ⟨g, cap, cur, rfl, _, hg, _⟩
  · exact .inl rfl
  · refine .inr fun he => ?_
    rcases k.2 with ⟨rfl, _⟩ | ⟨g2, cap2, cur2, rfl, _, hg2, _⟩
    · simp [Value.ownBlock] at he
    · simp [Value.ownBlock] at he
      subst he
      rw [hg] at hg2
      simp at hg2
      exact hne hg2.2
theorem row_blk_ne {α : Type} {f : α → List Value} {z : Nat} {w : World} {base : Nat} {e : TypeId} {v : Value} {xs : List α} (h : OwnT f z w base e v xs) {b : Nat} {t : TypeId} {cs : Array Value} (hB : Blk w b t cs) (hne : e ≠ t) : v.ownBlock ≠ some b := by
  intro hv
  rcases h.2 with ⟨rfl, _⟩ | ⟨g, cap, cur, rfl, _, hg, _⟩
  · cases hv
  · injection hv with hv
    have hv : g = b := hv
    subst hv
    unfold Blk at hB
    rw [hg] at hB
    injection hB with hB
    injection hB with h1 h2
    exact hne h2
theorem row_set {α : Type} {f : α → List Value} {z : Nat} {w : World} {base : Nat} {e : TypeId} {v : Value} {xs : List α} (h : OwnT f z w base e v xs) {b : Nat} {t : TypeId} {cs : Array Value} (hB : Blk w b t cs) (hne : e ≠ t) (i : Nat) (u : Value) : OwnT f z (w.setCell ⟨b, i, none⟩ u) base e v xs :=
  World.ownsRow.kept h (row := some b) ⟨rfl, rfl, rfl, by simp, fun k _ hk => heap_setCell_other w ⟨b, i, none⟩ k u (fun e => hk (by rw [e]))⟩ (.inr (row_blk_ne h hB hne))
theorem fl_string : ∀ xs : List ByteArray, fl sC xs = xs.map Value.string
  | [] => rfl
  | a :: l => by
    have := fl_string l
    simp only [fl, List.flatMap_cons, List.map_cons] at this ⊢
    rw [this]
    rfl
end Go.Proofs.YtcbbefibebkfgaaGreatDoor

/- The reference's cut of a text at a byte. Condition: the text's length. -/
namespace Go.Proofs.YtcbbefibebkfgaaGreatDoor
open Go.RowKit
set_option maxRecDepth 100000
set_option maxHeartbeats 4000000
theorem l3Split_any (s : ByteArray) (b : Int) (q : UInt8) (w : World) (hb : b = q.toNat) (hs : s.size ≤ 1048576) :
    Calls Tryz.prog 43 #[.string s, .int .u8 b] w fun e w' => ∃ v', e = .returned v' ∧ OwnT sC 1 w' w.heap.size 9 v' ((splitL q s.data.toList).map mkB) ∧ Below w.heap.size w w' ∧ w.heap.size ≤ w'.heap.size := by
  subst hb
  obtain ⟨i0, hi, hz0, hz1, hz2⟩ := info_parts infoString
  have HI := Lib.hid hi; clear hi
  have hstart := spRem_start q s
  obtain ⟨R, hR⟩ : ∃ R, (splitL q s.data.toList).map mkB = R := ⟨_, rfl⟩
  rw [hR] at hstart ⊢
  have HSTART := Lib.hid hstart
  clear hR hstart
  go_enter Tryz.func43, Tryz.ntmps43
  go_wp2
  go_loopw [5, 6, 7] (fun v f i wr => ∃ (k fr : Nat) (acc : List ByteArray), i = .int .i64 k ∧ f = .int .i64 fr ∧ acc.length ≤ k ∧ fr ≤ k ∧ ((k ≤ s.size ∧ acc ++ spRem q s fr k = R) ∨ (k = s.size + 1 ∧ acc = R)) ∧ OwnT sC 1 wr w.heap.size 9 v acc ∧ Below w.heap.size w wr) (fun _ _ i _ => s.size + 1 - (intOf i).toNat)
  case atStart => exact ⟨0, 0, [], rfl, rfl, Nat.zero_le _, Nat.le_refl _, Or.inl ⟨Nat.zero_le _, by rw [List.nil_append]; exact HSTART.out⟩, by have hh := lit0 (f := sC) (z := 1) w 9; simpa using hh, (by repeat (first | with_reducible exact bel_refl _ | with_reducible assumption | with_reducible refine bel_set ?_ (by first | (simp; done) | (simp; omega) | omega) _ | with_reducible refine bel_alloc ?_ _ | with_reducible refine bel_drew ?_ | with_reducible refine bel_drewN ?_ _ | with_reducible refine bel_trans ?_ (by assumption)))⟩
  case round =>
    obtain ⟨k, fr, acc, rfl, rfl, hal, hfk, hst, ho, hbel⟩ := hrel
    have hsz := hbel.size
    rcases hst with ⟨hk, hst⟩ | ⟨hk, hst⟩
    · have HST := Lib.hid hst; clear hst
      have HO := Lib.hid ho; clear ho
      have hk1 : (k : Int) ≤ (s.size : Int) := by omega
      by_cases hlt : k < s.size
      · have hne : ¬ (k : Int) = (s.size : Int) := by omega
        by_cases hq : s[k] = q
        · have hN := spRem_hit (f := fr) hlt hq
          have hqq : ((s[k].toNat : Int) == (q.toNat : Int)) = true := by rw [hq]; simp
          have HN := Lib.hid (show (acc ++ [s.extract fr k]) ++ spRem q s (k + 1) (k + 1) = R by rw [← HST.out, hN, List.append_assoc, List.singleton_append])
          clear hN hq
          go_wp2_with (at_builtin; refine appT rfl (.tmp 26) (.tmp 31) _ rfl sC_sz w.heap.size 9 i0 Tryz.underlying45 HI.out hz0 hz1 hz2 rfl (by omega) _ acc rfl (HO.out.alloc _) _ 1 1 [s.extract fr k] rfl (RdT.new1 sC_sz wr 9 (s.extract fr k)) (by intro u hu; simp [fl, sC] at hu; subst hu; rfl) (by omega) (by simp; omega) ?_; intro v' w' ho' hb' hs')
          go_roundw
          case rel => exact ⟨k + 1, k + 1, acc ++ [s.extract fr k], by go_num, by go_num, by rw [List.length_append, List.length_singleton]; omega, Nat.le_refl _, Or.inl ⟨by omega, HN.out⟩, ho', (hbel.alloc hsz _).trans hb'⟩
          case measure => simp [intOf]; omega
        · have hN := spRem_miss hfk hlt hq
          have hqq : ((s[k].toNat : Int) == (q.toNat : Int)) = false := by
            rw [beq_eq_false_iff_ne]
            intro e
            exact hq (UInt8.toNat_inj.1 (by omega))
          have HN := Lib.hid (show acc ++ spRem q s fr (k + 1) = R by rw [← HST.out, hN])
          clear hN hq
          go_wp2
          go_roundw
          case rel => exact ⟨k + 1, fr, acc, by go_num, rfl, by omega, by omega, Or.inl ⟨by omega, HN.out⟩, HO.out, hbel⟩
          case measure => simp [intOf]; omega
      · obtain rfl : k = s.size := by omega
        have HN := Lib.hid (show acc ++ [s.extract fr s.size] = R by rw [← HST.out, spRem_end])
        go_wp2_with (at_builtin; refine appT rfl (.tmp 26) (.tmp 31) _ rfl sC_sz w.heap.size 9 i0 Tryz.underlying45 HI.out hz0 hz1 hz2 rfl (by omega) _ acc rfl (HO.out.alloc _) _ 1 1 [s.extract fr s.size] rfl (RdT.new1 sC_sz wr 9 (s.extract fr s.size)) (by intro u hu; simp [fl, sC] at hu; subst hu; rfl) (by omega) (by simp; omega) ?_; intro v' w' ho' hb' hs')
        go_roundw
        case rel => exact ⟨s.size + 1, s.size + 1, acc ++ [s.extract fr s.size], by go_num, by go_num, by rw [List.length_append, List.length_singleton]; omega, Nat.le_refl _, Or.inr ⟨rfl, HN.out⟩, ho', (hbel.alloc hsz _).trans hb'⟩
        case measure => simp [intOf]
    · have HST := Lib.hid hst; clear hst
      have hk1 : ¬ (k : Int) ≤ (s.size : Int) := by omega
      go_wp2
      go_ret
      exact ⟨_, rfl, by rw [← HST.out]; exact ho, hbel, hsz⟩
end Go.Proofs.YtcbbefibebkfgaaGreatDoor
