/- Marking and holding items and stores. No condition but lengths. -/
import Derived.Test.YtndhjijcicebkaaItem
import Derived.Test.YtndhjijcicebkaaIn
import Derived.Test.YtndhjijcicebkaaValM
namespace Go.Proofs.Ytndhjijcicebkaa
open Go.RowKit
set_option maxRecDepth 100000
set_option maxHeartbeats 4000000

/-- all rows of a row of items lie in blocks lo .. hi - 1 -/
def InI (v : Value) (rs : List IR) (lo hi : Nat) : Prop := InB v lo hi ∧ ∀ r ∈ rs, InB (ownV r) lo hi
theorem OwnI.inL {w : World} {base lo : Nat} {v : Value} {rs : List IR} (h : OwnI w base v rs) (hl : lo ≤ base) : InI v rs lo w.heap.size := ⟨h.1.inL hl, fun r hr => (h.2.1 r hr).inL hl⟩
theorem OwnI.inn {w w' : World} {base : Nat} {v : Value} {rs : List IR} {l1 h1 lo hi : Nat} (h : OwnI w base v rs) (hg : GrIn w w' lo hi) (hv : InI v rs l1 h1) (hd : h1 ≤ lo ∨ hi ≤ l1) : OwnI w' base v rs :=
  ⟨h.1.inn hg hv.1 hd, fun r hr => (h.2.1 r hr).inn hg (hv.2 r hr) hd, h.2.2⟩
def mkItem (r : IR) (k : Nat) : IR := ⟨(k : Int), mtxt (k + 1), r.A, r.c, marksVal (k + 2) r.fs.length⟩
def mkItems : List IR → Nat → List IR
  | [], _ => []
  | r :: l, k => mkItem r k :: mkItems l (k + 2 + 3 * r.fs.length)
def markEnd : List IR → Nat → Nat
  | [], k => k
  | r :: l, k => markEnd l (k + 2 + 3 * r.fs.length)
theorem mkItems_len : ∀ (rs : List IR) (k : Nat), (mkItems rs k).length = rs.length
  | [], _ => rfl
  | r :: l, k => by simp [mkItems, mkItems_len l]
theorem mkItems_mem : ∀ (rs : List IR) (k : Nat) (q : IR), q ∈ mkItems rs k → ∃ r ∈ rs, ∃ j, q = mkItem r j
  | [], _, _, h => by cases h
  | r :: l, k, q, h => by
    rcases List.mem_cons.1 h with rfl | h
    · exact ⟨r, List.mem_cons_self, k, rfl⟩
    · obtain ⟨r', h1, j, h2⟩ := mkItems_mem l _ q h
      exact ⟨r', List.mem_cons_of_mem _ h1, j, h2⟩
theorem mkItem_ownV (r : IR) (k : Nat) : ownV (mkItem r k) = ownV r := by simp [ownV, mkItem, marksVal_len]
theorem inI_mk {v : Value} {rs : List IR} {lo hi : Nat} (k : Nat) (h : InI v rs lo hi) : InI v (mkItems rs k) lo hi := ⟨h.1, fun q hq => by
  obtain ⟨r, hr, j, rfl⟩ := mkItems_mem rs k q hq
  rw [mkItem_ownV]
  exact h.2 r hr⟩
/-- the number at which element k begins -/
def markAt (rs : List IR) (k0 k : Nat) : Nat := markEnd (rs.take k) k0
theorem markEnd_app : ∀ (a b : List IR) (k : Nat), markEnd (a ++ b) k = markEnd b (markEnd a k)
  | [], b, k => rfl
  | r :: l, b, k => by simp [markEnd, markEnd_app l]
theorem mkItems_app : ∀ (a b : List IR) (k : Nat), mkItems (a ++ b) k = mkItems a k ++ mkItems b (markEnd a k)
  | [], b, k => rfl
  | r :: l, b, k => by simp [mkItems, markEnd, mkItems_app l]
theorem markAt_succ {rs : List IR} {k0 k : Nat} (h : k < rs.length) : markAt rs k0 (k + 1) = markAt rs k0 k + 2 + 3 * rs[k].fs.length := by
  unfold markAt
  rw [List.take_succ_eq_append_getElem h, markEnd_app]
  rfl
theorem markAt_full {rs : List IR} {k0 k : Nat} (h : rs.length ≤ k) : markAt rs k0 k = markEnd rs k0 := by unfold markAt; rw [List.take_of_length_le h]
theorem mkItems_get : ∀ (rs : List IR) (k0 k : Nat) (h : k < rs.length), (mkItems rs k0)[k]'(by rw [mkItems_len]; exact h) = mkItem rs[k] (markAt rs k0 k)
  | r :: l, k0, 0, _ => rfl
  | r :: l, k0, k + 1, h => by
    simp only [mkItems, List.getElem_cons_succ]
    rw [mkItems_get l _ k (by simpa using h)]
    rfl
theorem markEnd_le : ∀ (rs : List IR) (k : Nat), markEnd rs k ≤ k + 2 * rs.length + 3 * sumF (fun r => r.fs.length) rs
  | [], k => by simp [markEnd]
  | r :: l, k => by
    have := markEnd_le l (k + 2 + 3 * r.fs.length)
    have e : sumF (fun r : IR => r.fs.length) (r :: l) = r.fs.length + sumF (fun r : IR => r.fs.length) l := by simp [sumF]
    simp only [markEnd, List.length_cons]
    omega
theorem markAt_le (rs : List IR) (k0 k : Nat) : k0 ≤ markAt rs k0 k ∧ markAt rs k0 k ≤ markEnd rs k0 := by
  have mono : ∀ (l : List IR) (j : Nat), j ≤ markEnd l j := by
    intro l
    induction l with
    | nil => intro j; exact Nat.le_refl _
    | cons r l ih => intro j; have := ih (j + 2 + 3 * r.fs.length); simp only [markEnd]; omega
  refine ⟨mono _ _, ?_⟩
  have : markEnd rs k0 = markEnd (rs.drop k) (markEnd (rs.take k) k0) := by rw [← markEnd_app, List.take_append_drop]
  rw [this]
  exact mono _ _
/-- a mix: the first k are marked -/
def mixI (rs : List IR) (k0 k : Nat) : List IR := (mkItems rs k0).take k ++ rs.drop k
theorem mixI_len (rs : List IR) (k0 k : Nat) (h : k ≤ rs.length) : (mixI rs k0 k).length = rs.length := by simp [mixI, mkItems_len]; omega
theorem mixI_full (rs : List IR) (k0 k : Nat) (h : rs.length ≤ k) : mixI rs k0 k = mkItems rs k0 := by
  unfold mixI
  rw [List.take_of_length_le (by rw [mkItems_len]; exact h), List.drop_eq_nil_of_le h, List.append_nil]
theorem mixI_get {rs : List IR} {k0 k : Nat} (h : k < rs.length) : (mixI rs k0 k)[k]? = some rs[k] := by
  unfold mixI
  rw [List.getElem?_append_right (by simp; omega), List.length_take, mkItems_len, Nat.min_eq_left (by omega), Nat.sub_self, List.getElem?_drop, Nat.add_zero, List.getElem?_eq_getElem h]
theorem mixI_set {rs : List IR} {k0 k : Nat} (h : k < rs.length) : (mixI rs k0 k).set k (mkItem rs[k] (markAt rs k0 k)) = mixI rs k0 (k + 1) := by
  unfold mixI
  have hl : ((mkItems rs k0).take k).length = k := by rw [List.length_take, mkItems_len, Nat.min_eq_left (by omega)]
  rw [List.set_append_right _ _ (by omega), hl, Nat.sub_self, List.drop_eq_getElem_cons h, List.set_cons_zero]
  rw [List.take_succ_eq_append_getElem (by rw [mkItems_len]; exact h), mkItems_get rs k0 k h]
  simp
theorem pairwise_set {rs : List IR} {k : Nat} {q : IR} (h : k < rs.length) (hq : ownV q = ownV rs[k]) (hp : rs.Pairwise fun r q => ∀ b, (ownV r).ownBlock = some b → (ownV q).ownBlock ≠ some b) : (rs.set k q).Pairwise fun r q => ∀ b, (ownV r).ownBlock = some b → (ownV q).ownBlock ≠ some b := by
  rw [List.pairwise_iff_getElem] at hp ⊢
  intro i j hi hj hij
  rw [List.length_set] at hi hj
  have hg : ∀ i (hi : i < rs.length), ownV ((rs.set k q)[i]'(by rw [List.length_set]; exact hi)) = ownV rs[i] := by
    intro i hi
    rw [List.getElem_set]
    split
    · next e => subst e; exact hq
    · rfl
  rw [hg i hi, hg j hj]
  exact hp i j hi hj hij
theorem own_ne {w : World} {base b2 : Nat} {e e2 : TypeId} {s1 s2 n1 n2 : Nat} {v u : Value} {xs ys : List Value} (h : w.ownsRow base e s1 v n1 xs) (k : w.ownsRow b2 e2 s2 u n2 ys) (hne : e ≠ e2) : v.ownBlock = none ∨ v.ownBlock ≠ u.ownBlock := by
  rcases h.2 with ⟨rfl, _⟩ | ⟨g, cap, cur, rfl, _, hg, _⟩
  · exact .inl rfl
  · refine .inr fun he => ?_
    rcases k.2 with ⟨rfl, _⟩ | ⟨g2, cap2, cur2, rfl, _, hg2, _⟩
    · simp [Value.ownBlock] at he
    · simp [Value.ownBlock] at he
      subst he
      rw [hg] at hg2
      simp at hg2
      exact hne hg2.2
theorem fl_item : ∀ (L : List IR) (k : Nat) (r q : IR), L[k]? = some r → q.A = r.A → q.c = r.c → q.fs.length = r.fs.length → ((fl irC L).set (k * 3) (.int .i64 q.id)).set (k * 3 + 1) (.string q.kd) = fl irC (L.set k q)
  | [], k, r, q, h, _, _, _ => by simp at h
  | a :: l, 0, r, q, h, h1, h2, h3 => by
    simp at h
    subst h
    simp [fl, irC, h1, h2, h3]
  | a :: l, k + 1, r, q, h, h1, h2, h3 => by
    have ih := fl_item l k r q (by simpa using h) h1 h2 h3
    have e : ∀ l : List IR, ∀ a : IR, fl irC (a :: l) = irC a ++ fl irC l := fun l a => by simp [fl]
    rw [List.set_cons_succ, e, e, ← ih, List.set_append_right _ _ (by simp [irC]; omega), List.set_append_right _ _ (by simp [irC]; omega)]
    have e1 : (k + 1) * 3 - (irC a).length = k * 3 := by simp [irC]; omega
    have e2 : (k + 1) * 3 + 1 - (irC a).length = k * 3 + 1 := by simp [irC]; omega
    rw [e1, e2]
theorem OwnT.other {α : Type} {f : α → List Value} {z : Nat} {w : World} {base : Nat} {e : TypeId} {v : Value} {xs : List α} (h : OwnT f z w base e v xs) {g i : Nat} (hne : v.ownBlock = none ∨ v.ownBlock ≠ some g) (u : Value) : OwnT f z (w.setCell ⟨g, i, none⟩ u) base e v xs :=
  World.ownsRow.kept h (row := some g) ⟨rfl, rfl, rfl, by simp, fun k _ hk => heap_setCell_other w ⟨g, i, none⟩ k u (fun e => hk (by rw [e]))⟩ hne
theorem ownI_step {w w2 w4 : World} {base g c n k m : Nat} {L : List IR} {r : IR} (ho : OwnI w base (.slice (some ⟨g, 0, none⟩) n c) L) (hl : L.length = n) (hr : L[k]? = some r)
    (h2 : Below (w.setCell ⟨g, k * 3, none⟩ (.int .i64 (m : Int))).heap.size (w.setCell ⟨g, k * 3, none⟩ (.int .i64 (m : Int))) w2) (h4 : (w2.setCell ⟨g, k * 3 + 1, none⟩ (.string (mtxt (m + 1)))).grownBy w4 (ownV r).ownBlock)
    (h5 : OwnT vC 3 w4 base 90 (ownV r) (marksVal (m + 2) r.fs.length)) : OwnI w4 base (.slice (some ⟨g, 0, none⟩) n c) (L.set k (mkItem r m)) := by
  obtain ⟨hm, hv, hp⟩ := ho
  have hk : k < L.length := (List.getElem?_eq_some_iff.1 hr).1
  have hrk : L[k] = r := (List.getElem?_eq_some_iff.1 hr).2
  have hne : ∀ q ∈ L, (ownV q).ownBlock = none ∨ (ownV q).ownBlock ≠ some g := fun q hq => own_ne (hv q hq) hm (by decide)
  have hmr : (Value.slice (some ⟨g, 0, none⟩) n c).ownBlock = none ∨ (Value.slice (some ⟨g, 0, none⟩) n c).ownBlock ≠ (ownV r).ownBlock := own_ne hm (hv r (by rw [← hrk]; exact List.getElem_mem _)) (by decide)
  refine ⟨?_, ?_, ?_⟩
  · unfold OwnT at hm ⊢
    rw [hl] at hm
    rw [List.length_set, hl, ← fl_item L k r (mkItem r m) hr rfl rfl (by simp [mkItem, marksVal_len])]
    refine World.ownsRow.kept ?_ h4 hmr
    exact ((own_kept (hm.stored (k * 3) _).1 h2).stored (k * 3 + 1) _).1
  · intro q hq
    obtain ⟨j, hj, rfl⟩ := List.getElem_of_mem hq
    rw [List.length_set] at hj
    by_cases e : k = j
    · subst e
      have hg : (L.set k (mkItem r m))[k]'(by rw [List.length_set]; exact hj) = mkItem r m := List.getElem_set_self _
      rw [hg, mkItem_ownV]
      exact h5
    · have hg : (L.set k (mkItem r m))[j]'(by rw [List.length_set]; exact hj) = L[j] := List.getElem_set_ne e _
      rw [hg]
      have hd : ∀ b, (ownV L[j]).ownBlock = some b → (ownV r).ownBlock ≠ some b := fun b hb hb2 => by
        rw [List.pairwise_iff_getElem] at hp
        rcases Nat.lt_or_gt_of_ne e with h | h
        · exact hp k j hk hj h b (by rw [hrk]; exact hb2) hb
        · exact hp j k hj hk h b hb (by rw [hrk]; exact hb2)
      have hj2 := List.getElem_mem hj
      refine World.ownsRow.kept ?_ h4 ?_
      · exact OwnT.other (((hv _ hj2).other (hne _ hj2) _).kept h2) (hne _ hj2) _
      · cases hb : (ownV L[j]).ownBlock with
        | none => exact .inl rfl
        | some b => exact .inr fun e => hd b hb e.symm
  · exact pairwise_set hk (by rw [hrk]; exact mkItem_ownV r m) hp
theorem markItemS_any (A : Option Addr) (n c : Nat) (rs : List IR) (K : Int) (k0 : Nat) (w : World) (base lo hi : Nat) (ho : OwnI w base (.slice A n c) rs) (hl : rs.length = n) (hin : InI (.slice A n c) rs lo hi) (hK : K = k0) (hs : ∀ r ∈ rs, r.fs.length ≤ 1048576) (hn : n ≤ 1048576) (hk0 : markEnd rs k0 ≤ 70368744177) :
    Calls Try.prog 45 #[.slice A n c, .int .i64 K] w fun e w' => e = .returned (.int .i64 ((markEnd rs k0 : Nat) : Int)) ∧ OwnI w' base (.slice A n c) (mkItems rs k0) ∧ GrIn w w' lo hi := by
  subst hK
  have HL := Lib.hid hl; clear hl
  have HS := Lib.hid hs; clear hs
  have HIN := Lib.hid hin; clear hin
  go_enter Try.func45, Try.ntmps45
  go_wp2
  go_loopw [1, 5] (fun kk i wr => ∃ (k m : Nat) (L : List IR), i = .int .i64 k ∧ kk = .int .i64 (m : Int) ∧ k ≤ n ∧ markAt rs k0 k = m ∧ mixI rs k0 k = L ∧ OwnI wr base (.slice A n c) L ∧ GrIn w wr lo hi) (fun _ i _ => n - (intOf i).toNat)
  case atStart => exact ⟨0, k0, rs, rfl, rfl, by omega, rfl, by simp [mixI], ho, GrIn.refl _ _ _⟩
  case round =>
    obtain ⟨k, m, L, rfl, rfl, hk, hm, hL, hown, hg⟩ := hrel
    by_cases hlt : k < n
    · have hkl : k < rs.length := by rw [HL.out]; exact hlt
      obtain ⟨r, hr⟩ : ∃ r, rs[k] = r := ⟨_, rfl⟩
      have hget : L[k]? = some r := by rw [← hL, ← hr]; exact mixI_get hkl
      have hlen : L.length = n := by rw [← hL, mixI_len rs k0 k (by omega), HL.out]
      have hset : L.set k (mkItem r m) = mixI rs k0 (k + 1) := by rw [← hL, ← hm, ← hr]; exact mixI_set hkl
      have hmn : markAt rs k0 (k + 1) = m + 2 + 3 * r.fs.length := by rw [markAt_succ hkl, hm, hr]
      have hml := (markAt_le rs k0 (k + 1)).2
      rw [hmn] at hml
      have hfl : r.fs.length ≤ 1048576 := HS.out r (by rw [← hr]; exact List.getElem_mem _)
      have hri : InB (ownV r) lo hi := HIN.out.2 r (by rw [← hr]; exact List.getElem_mem _)
      have HSET := Lib.hid hset; clear hset
      have HMN := Lib.hid hmn; clear hmn
      clear hL hm
      have hm' := hown.1
      unfold OwnT at hm'
      rw [hlen] at hm'
      obtain ⟨g, cap, hv, hbg, hglt⟩ := hm'.form (by omega)
      have hA : A = some ⟨g, 0, none⟩ := by injection hv
      subst hA
      clear hv
      have hgi : lo ≤ g ∧ g < hi := HIN.out.1 g rfl
      have hrow : OwnT vC 3 wr base 90 (ownV r) r.fs := hown.2.1 r (List.mem_of_getElem? hget)
      have H0 := Lib.hid hm'; clear hm'
      have HOW := Lib.hid hown; clear hown
      have HGET := Lib.hid hget; clear hget
      obtain ⟨⟨d0, e0⟩, f0⟩ := own_there H0.out (k * 3) (by omega)
      have hne : (ownV r).ownBlock = none ∨ (ownV r).ownBlock ≠ some g := own_ne hrow H0.out (by decide)
      have d2 : wr.cell? ⟨g, k * 3 + 2, none⟩ = some (.slice r.A r.fs.length r.c) := by
        rw [H0.out.cellAt (k * 3 + 2) (by omega)]
        have hkL : k < L.length := (List.getElem?_eq_some_iff.1 HGET.out).1
        have hrL : L[k] = r := (List.getElem?_eq_some_iff.1 HGET.out).2
        rw [fl_get irC_sz L k 2 hkL (by omega), hrL]; rfl
      go_wp2_with fail
      refine (markText_any _ (m + 1) (by simp) _ (by omega)).mono ?_
      rintro e w2 ⟨rfl, hb⟩
      have H1 := Lib.hid (own_kept (H0.out.stored (k * 3) (.int .i64 (m : Int))).1 hb)
      obtain ⟨⟨d1, e1⟩, f1⟩ := own_there H1.out (k * 3 + 1) (by omega)
      have d2' : w2.cell? ⟨g, k * 3 + 2, none⟩ = some (.slice r.A r.fs.length r.c) := old_cell hb (by go_simp)
      have hrow2 := (((hrow.other (i := k * 3) hne (.int .i64 (m : Int))).kept hb).other (i := k * 3 + 1) hne (.string (mtxt (m + 1))))
      have hg2 := ((hg.set (p := ⟨g, k * 3, none⟩) hgi (.int .i64 (m : Int))).below hb).set (p := ⟨g, k * 3 + 1, none⟩) hgi (.string (mtxt (m + 1)))
      go_wp2_with fail
      refine (markValS_any r.A r.fs.length r.c r.fs _ (m + 2) _ base hrow2 rfl (by simp <;> omega) hfl (by omega)).mono ?_
      rintro e w4 ⟨rfl, ho4, hg4⟩
      have HST := Lib.hid (ownI_step HOW.out hlen HGET.out hb hg4 ho4)
      go_wp2
      go_roundw
      case rel => exact ⟨k + 1, m + 2 + 3 * r.fs.length, _, by go_num, by go_num, by omega, HMN.out, rfl, by rw [← HSET.out]; exact HST.out, hg2.trans (GrIn.grown hg4 hri)⟩
      case measure => simp [intOf]; omega
    · have hfull : mkItems rs k0 = L := by rw [← hL, mixI_full rs k0 k (by rw [HL.out]; omega)]
      have hend : markEnd rs k0 = m := by rw [← hm, markAt_full (by rw [HL.out]; omega)]
      have HF := Lib.hid hfull; clear hfull hL
      have HE := Lib.hid hend; clear hend hm
      go_wp2
      go_ret
      exact ⟨ret_int (by rw [HE.out]), by rw [HF.out]; exact hown, hg⟩
theorem heldItemS_any (A : Option Addr) (n c : Nat) (rs : List IR) (K : Int) (k0 : Nat) (w : World) (B : Nat) (hr : RdI w B A n (mkItems rs k0)) (hl : rs.length = n) (hK : K = k0) (hs : ∀ r ∈ rs, r.fs.length ≤ 1048576) (hn : n ≤ 1048576) (hk0 : markEnd rs k0 ≤ 70368744177) :
    Calls Try.prog 47 #[.slice A n c, .int .i64 K] w fun e w' => e = .returned (.int .i64 ((markEnd rs k0 : Nat) : Int)) ∧ Below w.heap.size w w' := by
  subst hK
  have HL := Lib.hid hl; clear hl
  have HS := Lib.hid hs; clear hs
  go_enter Try.func47, Try.ntmps47
  go_wp2
  go_loopw [1, 5] (fun kk i wr => ∃ (k m : Nat), i = .int .i64 k ∧ kk = .int .i64 (m : Int) ∧ k ≤ n ∧ markAt rs k0 k = m ∧ Below w.heap.size w wr) (fun _ i _ => n - (intOf i).toNat)
  case atStart => exact ⟨0, k0, rfl, rfl, by omega, rfl, bel_refl _⟩
  case round =>
    obtain ⟨k, m, rfl, rfl, hk, hm, hbel⟩ := hrel
    by_cases hlt : k < n
    · have hkl : k < rs.length := by rw [HL.out]; exact hlt
      obtain ⟨b, o, rfl, hb0, hc⟩ := (hr.kept hbel).at_ (by omega)
      obtain ⟨id, kd, Ai, ci, fs, he, p0, p1, p2, hri⟩ := hc k hlt
      clear hc
      have hget := mkItems_get rs k0 k hkl
      rw [he, hm] at hget
      have hmn : markAt rs k0 (k + 1) = m + 2 + 3 * rs[k].fs.length := by rw [markAt_succ hkl, hm]
      have hml := (markAt_le rs k0 (k + 1)).2
      rw [hmn] at hml
      have hfl : rs[k].fs.length ≤ 1048576 := HS.out rs[k] (List.getElem_mem _)
      obtain ⟨q, hq⟩ : ∃ q, rs[k].fs.length = q := ⟨_, rfl⟩
      simp only [mkItem, IR.mk.injEq] at hget
      obtain ⟨rfl, rfl, hx1, hx2, rfl⟩ := hget
      clear hx1 hx2
      rw [hq] at hmn hml hfl hri p2
      rw [marksVal_len] at hri p2
      have HMN := Lib.hid hmn; clear hmn he hq hm
      have hk0' : (0:Int) ≤ (k : Int) := by omega
      have hk1' : (k:Int) < (n : Int) := by omega
      go_wp2_with fail
      go_region_held3 (fun w' => Below wr.heap.size wr w' ∧ w'.cell? ⟨b, o + k * 3 + 1, none⟩ = some (.string (mtxt (m + 1)))) (((refine (fun hB => ⟨hB, old_cell hB p1⟩ : Below wr.heap.size wr _ → _) ?_); (repeat (first | exact bel_refl _ | exact bel_drew (bel_refl _) | exact bel_trans (And.left (by assumption)) (by assumption) | assumption))))
        ((go_at_call 71; refine (markText_any _ (m + 1) (by simp <;> omega) _ (by omega)).mono ?_; rintro e v2 ⟨rfl, hb⟩))
      rename_i hHeld
      obtain ⟨hB, _⟩ := hHeld
      replace hbel := bel_trans hbel hB
      replace p2 := old_cell hB p2
      replace hri := hri.kept hB
      clear hB p0 p1
      go_wp2_with fail
      refine (heldValS_any Ai ci q _ (m + 2) _ _ hri (by simp <;> omega) hfl (by omega)).mono ?_
      rintro e w4 ⟨rfl, hb4⟩
      go_wp2
      go_roundw
      case rel => exact ⟨k + 1, m + 2 + 3 * q, by go_num, by go_num, by omega, HMN.out, bel_trans hbel hb4⟩
      case measure => simp [intOf]; omega
    · have hend : markEnd rs k0 = m := by rw [← hm, markAt_full (by rw [HL.out]; omega)]
      have HE := Lib.hid hend; clear hend hm
      go_wp2
      go_ret
      exact ⟨ret_int (by rw [HE.out]), hbel⟩
theorem markStore_any (A : Option Addr) (n c : Nat) (rs : List IR) (nx : Int) (K : Int) (k0 : Nat) (w : World) (base lo hi : Nat) (ho : OwnI w base (.slice A n c) rs) (hin : InI (.slice A n c) rs lo hi) (hK : K = k0) (hl : rs.length = n) (hs : ∀ r ∈ rs, r.fs.length ≤ 1048576) (hn : n ≤ 1048576) (hk0 : markEnd rs k0 ≤ 70368744177) :
    Calls Try.prog 16 #[.agg #[.slice A n c, .int .i64 nx], .int .i64 K] w fun e w' => e = .returned (.int .i64 ((markEnd rs k0 : Nat) : Int)) ∧ OwnI w' base (.slice A n c) (mkItems rs k0) ∧ GrIn w w' lo hi := by
  subst hK
  go_enter Try.func16, Try.ntmps16
  go_wp2_with fail
  refine (markItemS_any A n c rs _ k0 _ base lo hi (ho.kept (bel_alloc (bel_refl _) _)) hl hin rfl hs hn hk0).mono ?_
  rintro e w' ⟨rfl, ho', hg⟩
  go_wp2
  go_ret
  exact ⟨ret_int rfl, ho', ((GrIn.refl w lo hi).alloc _).trans hg⟩
theorem heldStore_any (A : Option Addr) (n c : Nat) (rs : List IR) (nx : Int) (K : Int) (k0 : Nat) (w : World) (B : Nat) (hr : RdI w B A n (mkItems rs k0)) (hl : rs.length = n) (hK : K = k0) (hs : ∀ r ∈ rs, r.fs.length ≤ 1048576) (hn : n ≤ 1048576) (hk0 : markEnd rs k0 ≤ 70368744177) :
    Calls Try.prog 18 #[.agg #[.slice A n c, .int .i64 nx], .int .i64 K] w fun e w' => e = .returned (.int .i64 ((markEnd rs k0 : Nat) : Int)) ∧ Below w.heap.size w w' := by
  subst hK
  have HE := Lib.hid (rfl : markEnd rs k0 = markEnd rs k0)
  go_enter Try.func18, Try.ntmps18
  go_wp2_with fail
  refine (heldItemS_any A n c rs _ k0 _ _ (hr.alloc _) hl rfl hs hn hk0).mono ?_
  rintro e w' ⟨rfl, hb⟩
  go_wp2
  go_ret
  exact ⟨ret_int rfl, (by repeat (first | with_reducible exact bel_refl _ | with_reducible assumption | with_reducible refine bel_set ?_ (by first | (simp; done) | (simp; omega) | omega) _ | with_reducible refine bel_alloc ?_ _ | with_reducible refine bel_drew ?_ | with_reducible refine bel_drewN ?_ _ | with_reducible refine bel_trans ?_ (by assumption)))⟩
end Go.Proofs.Ytndhjijcicebkaa
