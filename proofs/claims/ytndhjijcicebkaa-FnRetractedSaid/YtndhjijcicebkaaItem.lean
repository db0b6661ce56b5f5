/- Items and stores: what a slice of items reads as, and the laws' helpers on them. Each answers what the plain function says and makes at most new blocks. No condition but lengths. -/
import Derived.Test.YtndhjijcicebkaaFact
import Derived.Test.YtndhjijcicebkaaStep
import Derived.Test.YtndhjijcicebkaaBox
namespace Go.Proofs.Ytndhjijcicebkaa
open Go.RowKit
set_option maxRecDepth 100000
set_option maxHeartbeats 2000000

structure It where
  id : Int
  f : Ft
deriving DecidableEq
/-- an item with the place where its fields lie -/
structure IR where
  id : Int
  kd : ByteArray
  A : Option Addr
  c : Nat
  fs : List Vl
def itOf (r : IR) : It := ⟨r.id, ⟨r.kd, r.fs⟩⟩
def irC (r : IR) : List Value := [.int .i64 r.id, .string r.kd, .slice r.A r.fs.length r.c]
theorem irC_sz : Sz irC 3 := fun _ => rfl
def RdI (w : World) (B : Nat) (A : Option Addr) (n : Nat) (rs : List IR) : Prop := RdS irC 3 w B A n rs ∧ ∀ r ∈ rs, RdS vC 3 w B r.A r.fs.length r.fs
section
variable {w w' : World} {B n : Nat} {A : Option Addr} {rs : List IR}
theorem RdI.len (h : RdI w B A n rs) : rs.length = n := h.1.len
theorem RdI.kept (h : RdI w B A n rs) (hb : Below w.heap.size w w') : RdI w' B A n rs := ⟨h.1.kept hb, fun r hr => (h.2 r hr).kept hb⟩
theorem RdI.alloc (h : RdI w B A n rs) (o : Obj) : RdI (w.alloc o) B A n rs := ⟨h.1.alloc o, fun r hr => (h.2 r hr).alloc o⟩
theorem RdI.drew (h : RdI w B A n rs) : RdI w.drew B A n rs := h
theorem RdI.drewN (h : RdI w B A n rs) (k : Nat) : RdI (w.drewN k) B A n rs := h
theorem RdI.belowB (h : RdI w B A n rs) (hb : Below B w w') : RdI w' B A n rs := ⟨h.1.belowB hb, fun r hr => (h.2 r hr).belowB hb⟩
theorem RdI.at_ (h : RdI w B A n rs) (hn : 0 < n) :
    ∃ b o, A = some ⟨b, o, none⟩ ∧ b < B ∧ ∀ k (hk : k < n), ∃ id kd A c fs, rs[k]'(by rw [h.len]; exact hk) = ⟨id, kd, A, c, fs⟩ ∧ w.cell? ⟨b, o + k * 3, none⟩ = some (.int .i64 id) ∧ w.cell? ⟨b, o + k * 3 + 1, none⟩ = some (.string kd) ∧ w.cell? ⟨b, o + k * 3 + 2, none⟩ = some (.slice A fs.length c) ∧ RdS vC 3 w B A fs.length fs := by
  obtain ⟨b, o, e, hb, hc⟩ := h.1.2.at_ irC_sz hn
  exact ⟨b, o, e, hb, fun k hk => ⟨_, _, _, _, _, rfl, hc k hk 0 _ (by omega) rfl, hc k hk 1 _ (by omega) rfl, hc k hk 2 _ (by omega) rfl, h.2 _ (List.getElem_mem _)⟩⟩
end
def goodI (r : IR) : Prop := r.kd.size ≤ 9223372036854775807 ∧ r.fs.length ≤ 9223372036854775807 ∧ ∀ x ∈ r.fs, x.s.size ≤ 9223372036854775807
def szIt (r : IR) : Nat := totF ⟨r.kd, r.fs⟩
def totI (rs : List IR) : Nat := rs.length + sumF szIt rs
theorem totI_mem {rs : List IR} {r : IR} (h : r ∈ rs) : szIt r ≤ totI rs := by
  have := sumF_mem szIt rs r h
  unfold totI; omega
/-- a row of items of the call's own, each with fields of its own -/
def ownV (r : IR) : Value := .slice r.A r.fs.length r.c
def OwnI (w : World) (base : Nat) (v : Value) (rs : List IR) : Prop :=
  OwnT irC 3 w base 55 v rs ∧ (∀ r ∈ rs, OwnT vC 3 w base 90 (ownV r) r.fs) ∧ rs.Pairwise fun r q => ∀ b, (ownV r).ownBlock = some b → (ownV q).ownBlock ≠ some b
theorem OwnI.kept {w w' : World} {base : Nat} {v : Value} {rs : List IR} (h : OwnI w base v rs) (hb : Below w.heap.size w w') : OwnI w' base v rs := ⟨h.1.kept hb, fun r hr => (h.2.1 r hr).kept hb, h.2.2⟩
theorem OwnI.lower {w : World} {base b2 : Nat} {v : Value} {rs : List IR} (h : OwnI w base v rs) (hb : b2 ≤ base) : OwnI w b2 v rs := ⟨h.1.lower hb, fun r hr => (h.2.1 r hr).lower hb, h.2.2⟩
theorem OwnI.low {w : World} {base : Nat} {v : Value} {rs : List IR} (h : OwnI w base v rs) {p : Addr} (hp : p.block < base) (u : Value) : OwnI (w.setCell p u) base v rs := ⟨h.1.low hp u, fun r hr => (h.2.1 r hr).low hp u, h.2.2⟩
theorem OwnI.rd {w : World} {base : Nat} {v : Value} {rs : List IR} (h : OwnI w base v rs) : ∃ A c, v = .slice A rs.length c ∧ rs.length ≤ c ∧ RdI w w.heap.size A rs.length rs := by
  obtain ⟨A, c, e, h1, h2⟩ := h.1.rd
  exact ⟨A, c, e, h1, h2, fun r hr => OwnT.rdO (h.2.1 r hr)⟩
theorem OwnI.rdO {w : World} {base : Nat} {A : Option Addr} {c : Nat} {rs : List IR} (h : OwnI w base (.slice A rs.length c) rs) : RdI w w.heap.size A rs.length rs := ⟨h.1.rdO, fun r hr => OwnT.rdO (h.2.1 r hr)⟩
theorem agree_app {α : Type} {f : α → List Value} {z : Nat} (hf : Sz f z) {ys : List Value} {rs : List α} {k : Nat} (hl : rs.length = k) (r : α) (h : Agree ys (fl f rs) (k * z)) : Agree ys (fl f (rs ++ [r])) (k * z) := fun i hi => by
  rw [h i hi, fl_append, List.getElem?_append_left (by rw [fl_len hf, hl]; exact hi)]
theorem szItem_any (id : Int) (kd : ByteArray) (A : Option Addr) (n c : Nat) (left : Int) (xs : List Vl) (w : World) (B : Nat) (hr : RdS vC 3 w B A n xs) (hn : n ≤ 9223372036854775807) (hk : kd.size ≤ 9223372036854775807) (hs : ∀ x ∈ xs, x.s.size ≤ 9223372036854775807) (h0 : 0 ≤ left) (h1 : left ≤ 1048576) :
    Calls Try.prog 60 #[.agg #[.int .i64 id, .string kd, .slice A n c], .int .i64 left] w fun e w' => e = .returned (.int .i64 (szR left (totF ⟨kd, xs⟩))) ∧ Below w.heap.size w w' := by
  have HS := Lib.hid hs; clear hs
  by_cases hfit : (totF ⟨kd, xs⟩ : Int) ≤ left
  · have HV := Lib.hid (szR_fit hfit)
    go_enter Try.func60, Try.ntmps60
    go_wp2_with (go_at_call 9; refine (szFact_any kd A n c _ xs _ B (hr.alloc _) hn hk HS.out h0 h1).mono ?_; rw [HV.out]; rintro e w' ⟨rfl, hb1⟩)
    go_ret
    exact ⟨ret_int HV.out.symm, (by repeat (first | with_reducible exact bel_refl _ | with_reducible assumption | with_reducible refine bel_set ?_ (by first | (simp; done) | (simp; omega) | omega) _ | with_reducible refine bel_alloc ?_ _ | with_reducible refine bel_drew ?_ | with_reducible refine bel_drewN ?_ _ | with_reducible refine bel_trans ?_ (by assumption)))⟩
  · have HV := Lib.hid (szR_big (left := left) (t := totF ⟨kd, xs⟩) (by omega))
    go_enter Try.func60, Try.ntmps60
    go_wp2_with (go_at_call 9; refine (szFact_any kd A n c _ xs _ B (hr.alloc _) hn hk HS.out h0 h1).mono ?_; rw [HV.out]; rintro e w' ⟨rfl, hb1⟩)
    go_ret
    exact ⟨ret_int HV.out.symm, (by repeat (first | with_reducible exact bel_refl _ | with_reducible assumption | with_reducible refine bel_set ?_ (by first | (simp; done) | (simp; omega) | omega) _ | with_reducible refine bel_alloc ?_ _ | with_reducible refine bel_drew ?_ | with_reducible refine bel_drewN ?_ _ | with_reducible refine bel_trans ?_ (by assumption)))⟩
theorem szItemS_any (A : Option Addr) (n c : Nat) (left : Int) (rs : List IR) (w : World) (B : Nat) (hr : RdI w B A n rs) (hn : n ≤ 9223372036854775807) (hs : ∀ r ∈ rs, goodI r) (h0 : 0 ≤ left) (h1 : left ≤ 1048576) :
    Calls Try.prog 33 #[.slice A n c, .int .i64 left] w fun e w' => e = .returned (.int .i64 (szR left (totI rs))) ∧ Below w.heap.size w w' := by
  have HL := Lib.hid hr.len
  have HS := Lib.hid hs; clear hs
  by_cases hbig : left < (n : Int)
  · have HR := Lib.hid (szR_big (left := left) (t := totI rs) (by unfold totI; rw [HL.out]; omega))
    go_enter Try.func33, Try.ntmps33
    go_wp2
    go_ret
    exact ⟨ret_int HR.out.symm, bel_refl _⟩
  · go_enter Try.func33, Try.ntmps33
    go_wp2
    go_loopw [1, 5] (fun l i wr => ∃ k t : Nat, i = .int .i64 k ∧ k ≤ n ∧ l = .int .i64 (left - n - t) ∧ (t : Int) ≤ left - n ∧ sumF szIt (rs.take k) = t ∧ Below w.heap.size w wr) (fun _ i _ => n - (intOf i).toNat)
    case atStart => exact ⟨0, 0, rfl, by omega, by go_num, by omega, rfl, bel_refl _⟩
    case round =>
      obtain ⟨k, t, rfl, hk, rfl, ht, hsum, hbel⟩ := hrel
      have HT := Lib.hid hsum; clear hsum
      by_cases hlt : k < n
      · obtain ⟨b, o, rfl, hb, hc⟩ := (hr.kept hbel).at_ (by omega)
        obtain ⟨id, kd, Ai, ci, fs, he, c0, c1, c2, hri⟩ := hc k hlt
        clear hc
        obtain ⟨q1, q2, q3⟩ : kd.size ≤ 9223372036854775807 ∧ fs.length ≤ 9223372036854775807 ∧ ∀ x ∈ fs, x.s.size ≤ 9223372036854775807 := by
          have := HS.out (rs[k]'(by rw [HL.out]; exact hlt)) (List.getElem_mem _)
          rw [he] at this; exact this
        have Q3 := Lib.hid q3; clear q3
        have hsn : sumF szIt (rs.take (k + 1)) = t + totF ⟨kd, fs⟩ := by rw [sumF_snoc _ _ _ (by rw [HL.out]; exact hlt), HT.out, he]; rfl
        have HN := Lib.hid hsn; clear hsn he
        by_cases hfit : ((totF ⟨kd, fs⟩ : Nat) : Int) ≤ left - n - t
        · have HF := Lib.hid (szR_fit hfit)
          go_wp2_with (go_at_call 60; refine (szItem_any id kd Ai _ ci _ fs _ _ hri q2 q1 Q3.out (by omega) (by omega)).mono ?_; rw [HF.out]; rintro e w' ⟨rfl, hb1⟩)
          go_roundw
          case rel => exact ⟨k + 1, t + totF ⟨kd, fs⟩, by go_num, by omega, by go_num, by omega, HN.out, bel_trans hbel hb1⟩
          case measure => simp [intOf]; omega
        · have HF := Lib.hid (szR_big (left := left - n - t) (t := totF ⟨kd, fs⟩) (by omega))
          have HR := Lib.hid (szR_big (left := left) (t := totI rs) (by have := sumF_take_le szIt rs (k + 1); rw [HN.out] at this; unfold totI; rw [HL.out]; omega))
          go_wp2_with (go_at_call 60; refine (szItem_any id kd Ai _ ci _ fs _ _ hri q2 q1 Q3.out (by omega) (by omega)).mono ?_; rw [HF.out]; rintro e w' ⟨rfl, hb1⟩)
          go_ret
          exact ⟨ret_int HR.out.symm, bel_trans hbel hb1⟩
      · have hk' : sumF szIt rs = t := by rw [← HT.out, sumF_full _ _ _ (by rw [HL.out]; omega)]
        have HR := Lib.hid (szR_fit (left := left) (t := totI rs) (by unfold totI; rw [HL.out, hk']; omega))
        have HK := Lib.hid hk'; clear hk'
        go_wp2
        go_ret
        exact ⟨ret_int (by rw [HR.out]; unfold totI; rw [HL.out, HK.out]; omega), hbel⟩
theorem toItem_any (id : Int) (kd : ByteArray) (A : Option Addr) (n c : Nat) (xs : List Vl) (w : World) (B : Nat) (hr : RdS vC 3 w B A n xs) (hn : n ≤ 1048576) :
    Calls Try.prog 65 #[.agg #[.int .i64 id, .string kd, .slice A n c]] w fun e w' => ∃ A' c', e = .returned (.agg #[.int .i64 id, .string kd, .slice A' xs.length c']) ∧ OwnT vC 3 w' w.heap.size 90 (.slice A' xs.length c') xs ∧ Below w.heap.size w w' := by
  go_enter Try.func65, Try.ntmps65
  go_wp2_with fail
  refine (toFact_any kd A n c xs _ B (((hr.alloc _).alloc _).alloc _) hn).mono ?_
  rintro e w' ⟨v', rfl, ho, hb⟩
  obtain ⟨A', c', rfl, hc', _⟩ := ho.form
  obtain ⟨hc, hf, hq⟩ := bcell3 hb
  have hz := hb.size
  simp at hz
  have e0 := old_cell hb (b := w.heap.size + 1) (o := 0) (v := .int .i64 0) (by go_simp)
  have e1 := old_cell hb (b := w.heap.size + 1) (o := 1) (v := .string ⟨#[]⟩) (by go_simp)
  have e2 := old_cell hb (b := w.heap.size + 1) (o := 2) (v := .slice none 0 0) (by go_simp)
  go_wp2
  refine bodyPost_ret (v := .agg #[.int .i64 id, .string kd, .slice A' xs.length c']) (by simp [results, Try.results65, go_sem, e0, e1, e2]) rfl ⟨A', c', rfl, ?_, (by repeat (first | with_reducible exact bel_refl _ | with_reducible assumption | with_reducible refine bel_set ?_ (by first | (simp; done) | (simp; omega) | omega) _ | with_reducible refine bel_alloc ?_ _ | with_reducible refine bel_drew ?_ | with_reducible refine bel_drewN ?_ _ | with_reducible refine bel_trans ?_ (by assumption)))⟩
  exact (((((ho.low (by simp) _).low (by simp) _).low (by simp) _).low (by simp) _).low (by simp) _).lower (by simp; omega)
theorem infoItem : (Try.prog.info? 55).map (fun i => (i.zero, i.size, i.bytes)) = some (some (.agg #[.int .i64 0, .string ⟨#[]⟩, .slice none 0 0]), 3, 48) := by kernel_rfl
theorem toItemS_any (A : Option Addr) (n c : Nat) (rs : List IR) (w : World) (B : Nat) (hr : RdI w B A n rs) (hn : n ≤ 1048576) (hs : ∀ r ∈ rs, r.fs.length ≤ 1048576) :
    Calls Try.prog 38 #[.slice A n c] w fun e w' => ∃ v' rs', e = .returned v' ∧ rs'.map itOf = rs.map itOf ∧ OwnI w' w.heap.size v' rs' ∧ Below w.heap.size w w' := by
  obtain ⟨i0, hi, hz0, hz1, hz2⟩ := info_parts infoItem
  have HL := Lib.hid hr.len
  have HI := Lib.hid hi; clear hi
  have HS := Lib.hid hs; clear hs
  go_enter Try.func38, Try.ntmps38
  go_wp2_with (at_make; refine wpList_make_full w rfl (.tmp 6) (.tmp 6) _ rfl w.heap.size 55 i0 _ 3 Try.underlying30 HI.out hz0 hz1 .i64 .i64 n n n rfl rfl rfl rfl (by rw [hz2]; omega) (by simp only [maxLen]; omega) (Nat.le_refl _) ?_; intro w1 ho1 hg1)
  have hb1 : Below w.heap.size w w1 := (Below.refl _ _).grown hg1 (Nat.le_refl _) (by simp)
  have hs1 := hg1.size
  go_loopw [4] (fun i wr => ∃ (k : Nat) (ys : List Value) (rs' : List IR), i = .int .i64 k ∧ k ≤ n ∧ wr.ownsRow w.heap.size 55 3 (.slice (some ⟨w.heap.size, 0, none⟩) n n) n ys ∧ rs'.length = k ∧ rs'.map itOf = (rs.take k).map itOf ∧ Agree ys (fl irC rs') (k * 3) ∧ (∀ r ∈ rs', OwnT vC 3 wr (w.heap.size + 1) 90 (ownV r) r.fs) ∧ (rs'.Pairwise fun r q => ∀ b, (ownV r).ownBlock = some b → (ownV q).ownBlock ≠ some b) ∧ Below w.heap.size w wr ∧ w.heap.size + 1 ≤ wr.heap.size) (fun i _ => n - (intOf i).toNat)
  case atStart => exact ⟨0, _, [], rfl, by omega, ho1, rfl, rfl, Agree.zero _ _, fun r h => (by cases h), List.Pairwise.nil, hb1, (ho1.lt w.heap.size rfl).2⟩
  case round =>
    obtain ⟨k, ys, rs', rfl, hk, hown, hrl, hmap, hx, hf, hp, hbel, hsz⟩ := hrel
    have HX := Lib.hid hx; clear hx
    have HOW := Lib.hid hown; clear hown
    have HRL := Lib.hid hrl; clear hrl
    have HM := Lib.hid hmap; clear hmap
    have HF := Lib.hid hf; clear hf
    have HP := Lib.hid hp; clear hp
    by_cases hlt : k < n
    · obtain ⟨b, o, rfl, hb, hc⟩ := (hr.kept hbel).at_ (by omega)
      obtain ⟨id, kd, Ai, ci, fs, he, c0, c1, c2, hri⟩ := hc k hlt
      clear hc
      have hkl : k < rs.length := by rw [HL.out]; exact hlt
      have hfl : fs.length ≤ 1048576 := by
        have := HS.out (rs[k]'hkl) (List.getElem_mem _)
        rw [he] at this; exact this
      have HE := Lib.hid he; clear he
      go_wp2_with (go_at_call 65; refine (toItem_any id kd Ai _ ci fs _ _ hri hfl).mono ?_; rintro e w2 ⟨A', c', rfl, ho', hb2⟩; have HO2 := Lib.hid (own_kept HOW.out hb2); obtain ⟨⟨d0, e0⟩, f0⟩ := own_there HO2.out (k * 3) (by omega); obtain ⟨⟨d1, e1⟩, f1⟩ := own_there HO2.out (k * 3 + 1) (by omega); obtain ⟨⟨d2, e2⟩, f2⟩ := own_there HO2.out (k * 3 + 2) (by omega))
      go_roundw
      case rel =>
        have q1 := HO2.out.stored (k * 3) (.int .i64 id)
        have q2 := q1.1.stored (k * 3 + 1) (.string kd)
        have q3 := q2.1.stored (k * 3 + 2) (.slice A' fs.length c')
        have hs2 := hb2.size
        refine ⟨k + 1, _, rs' ++ [⟨id, kd, A', c', fs⟩], by go_num, by omega, q3.1, by simp [HRL.out], ?_, ?_, ?_, ?_, ((((bel_trans hbel hb2).setCell (by simp) _).setCell (by simp) _).setCell (by simp) _), by simp; omega⟩
        · rw [List.take_succ_eq_append_getElem hkl, List.map_append, List.map_append, HM.out, HE.out]; rfl
        · have h0 : Agree ys (fl irC (rs' ++ [(⟨id, kd, A', c', fs⟩ : IR)])) (k * 3) := agree_app irC_sz HRL.out _ HX.out
          have hk3 : k < (rs' ++ [(⟨id, kd, A', c', fs⟩ : IR)]).length := by simp [HRL.out]
          have hget : (rs' ++ [(⟨id, kd, A', c', fs⟩ : IR)])[k] = ⟨id, kd, A', c', fs⟩ := by rw [List.getElem_append_right (by rw [HRL.out]; exact Nat.le_refl _)]; simp [HRL.out]
          have a1 := h0.set (u := .int .i64 id) (by rw [HO2.out.1]; omega) (by have := fl_get irC_sz _ k 0 hk3 (by omega); rw [Nat.add_zero] at this; rw [this, hget]; rfl)
          have a2 := a1.set (u := .string kd) (by rw [List.length_set, HO2.out.1]; omega) (by rw [fl_get irC_sz _ k 1 hk3 (by omega), hget]; rfl)
          have a3 := a2.set (u := .slice A' fs.length c') (by rw [List.length_set, List.length_set, HO2.out.1]; omega) (by rw [show k * 3 + 1 + 1 = k * 3 + 2 by omega, fl_get irC_sz _ k 2 hk3 (by omega), hget]; rfl)
          rw [show (k + 1) * 3 = k * 3 + 1 + 1 + 1 by omega]
          exact a3
        · intro r hr'
          rcases List.mem_append.1 hr' with h | h
          · exact ((((HF.out r h).kept hb2).low (p := ⟨w.heap.size, k * 3, none⟩) (by simp) _).low (p := ⟨w.heap.size, k * 3 + 1, none⟩) (by simp) _).low (p := ⟨w.heap.size, k * 3 + 2, none⟩) (by simp) _
          · rw [List.mem_singleton] at h
            subst h
            exact (((ho'.lower (b2 := w.heap.size + 1) hsz).low (p := ⟨w.heap.size, k * 3, none⟩) (by simp) _).low (p := ⟨w.heap.size, k * 3 + 1, none⟩) (by simp) _).low (p := ⟨w.heap.size, k * 3 + 2, none⟩) (by simp) _
        · rw [List.pairwise_append]
          refine ⟨HP.out, List.pairwise_singleton _ _, fun r hr' q hq b hb' hb'' => ?_⟩
          rw [List.mem_singleton] at hq
          subst hq
          have h1 := (World.ownsRow.lt (HF.out r hr') b hb').2
          have h2 := (World.ownsRow.lt ho' b hb'').1
          omega
      case measure => simp [intOf]; omega
    · go_wp2
      go_ret
      have hkn : k = n := by omega
      subst hkn
      have hys : ys = fl irC rs' := HX.out.full HOW.out.1 (by rw [fl_len irC_sz, HRL.out])
      refine ⟨_, rs', rfl, by rw [HM.out, List.take_of_length_le (by rw [HL.out]; exact Nat.le_refl _)], ⟨?_, fun r h => (HF.out r h).lower (by omega), HP.out⟩, hbel⟩
      unfold OwnT
      rw [← hys, HRL.out]
      exact HOW.out
end Go.Proofs.Ytndhjijcicebkaa
