import Derived.Test.YtcbbefibebkfgaaGreatDoorPutVal
import Derived.Test.YtcbbefibebkfgaaGreatDoorPkFact
import Derived.Test.YtcbbefibebkfgaaGreatDoorStep
import Derived.Test.YtcbbefibebkfgaaGreatDoorHeld
/- PutFact of the program and of the reference: a slice of its own that holds what the plain function says. No condition but lengths. -/
namespace Go.Proofs.YtcbbefibebkfgaaGreatDoor
open Go.RowKit
set_option maxRecDepth 100000
set_option maxHeartbeats 4000000

def putVs (xs : List Vl) : List UInt8 := xs.flatMap putV
def putF (f : Ft) : List UInt8 := putN f.kd.size ++ f.kd.data.toList ++ putN f.fs.length ++ putVs f.fs
theorem putVs_snoc {xs : List Vl} {k : Nat} (h : k < xs.length) : putVs (xs.take (k + 1)) = putVs (xs.take k) ++ putV xs[k] := by
  unfold putVs
  rw [List.take_succ_eq_append_getElem h, List.flatMap_append]
  simp
theorem putVs_len : ∀ xs : List Vl, (putVs xs).length ≤ 10 * xs.length + sumF szOf xs
  | [] => by simp [putVs]
  | a :: l => by
    have h1 := putVs_len l
    have h2 := putV_len a
    have e1 : putVs (a :: l) = putV a ++ putVs l := by simp [putVs]
    have e2 : sumF szOf (a :: l) = szOf a + sumF szOf l := by simp [sumF]
    have e3 : szOf a = a.s.size := rfl
    rw [e1, e2, e3, List.length_append, List.length_cons]
    omega
theorem putVs_le (xs : List Vl) (k : Nat) : (putVs (xs.take k)).length ≤ (putVs xs).length := by
  have e : putVs xs = putVs (xs.take k) ++ putVs (xs.drop k) := by unfold putVs; rw [← List.flatMap_append, List.take_append_drop]
  rw [e, List.length_append]; omega
theorem totF_le {f : Ft} (h : (totF f : Int) ≤ 1048576) : totF f ≤ 1048576 := by omega
theorem putF_len {f : Ft} (h : totF f ≤ 1048576) : (putF f).length ≤ 10485770 := by
  have h1 := putVs_len f.fs
  have h2 := putN_len f.kd.size
  have h3 := putN_len f.fs.length
  have h4 : f.kd.data.toList.length = f.kd.size := by rw [size_data]
  unfold totF totV at h
  unfold putF
  simp only [List.length_append]
  omega
theorem vals_bound {kd : ByteArray} {xs : List Vl} (h : totF ⟨kd, xs⟩ ≤ 1048576) : kd.size ≤ 1048576 ∧ xs.length ≤ 1048576 ∧ (putVs xs).length ≤ 10485760 ∧ ∀ x ∈ xs, x.s.size ≤ 1048576 := by
  have h1 := putVs_len xs
  unfold totF totV at h
  simp only at h
  refine ⟨by omega, by omega, by omega, fun x hx => ?_⟩
  have h2 := sumF_mem szOf xs x hx
  have e3 : szOf x = x.s.size := rfl
  omega
theorem own_ne_new {w : World} {base : Nat} {e : TypeId} {v : Value} {bs : List UInt8} (h : OwnB w base e v bs) : v.ownBlock ≠ some w.heap.size := fun he => by
  have := (World.ownsRow.lt h _ he).2
  omega
theorem kin_ne {w : World} {v v' : Value} {b : Nat} (h : Kin w v v') (hv : v.ownBlock ≠ some b) (hb : b < w.heap.size) : v'.ownBlock ≠ some b := fun he => by
  rcases h b he with h1 | h1
  · exact hv h1
  · omega
theorem putFact_any (v : Value) (bs : List UInt8) (kd : ByteArray) (A : Option Addr) (n c : Nat) (xs : List Vl) (w : World) (base B : Nat) (ho : OwnB w base 5 v bs) (hb : base ≤ w.heap.size) (hr : RdS vC 3 w B A n xs) (hBb : B ≤ base) (hl : bs.length ≤ 1048576) (ht : totF ⟨kd, xs⟩ ≤ 1048576) :
    Calls Tryz.prog 28 #[v, .agg #[.string kd, .slice A n c]] w fun e w' => ∃ v', e = .returned v' ∧ OwnB w' base 5 v' (bs ++ putF ⟨kd, xs⟩) ∧ Below base w w' ∧ w.heap.size ≤ w'.heap.size := by
  obtain ⟨hkd, hxl, hpl, hxs⟩ := vals_bound ht
  have HL := Lib.hid hr.len
  have hn : n ≤ 1048576 := by rw [← HL.out]; exact hxl
  have HXS := Lib.hid hxs; clear hxs
  have hnl := putN_len n
  have hkl := putN_len kd.size
  have hk4 : kd.data.toList.length = kd.size := by rw [size_data]
  obtain ⟨hs, hhs⟩ : ∃ hs, bs ++ putN kd.size ++ kd.data.toList = hs := ⟨_, rfl⟩
  obtain ⟨ts, hts⟩ : ∃ ts, hs ++ putN n = ts := ⟨_, rfl⟩
  have hhl : hs.length ≤ 2097200 := by rw [← hhs]; simp only [List.length_append]; omega
  have htl : ts.length ≤ 2097210 := by rw [← hts]; simp only [List.length_append]; omega
  have HHS := Lib.hid hhs; clear hhs
  have HTS := Lib.hid hts; clear hts
  have HK4 := Lib.hid hk4; clear hk4 hnl hkl
  have HFIN := Lib.hid (show bs ++ putF ⟨kd, xs⟩ = ts ++ putVs xs by rw [← HTS.out, ← HHS.out, ← HL.out]; unfold putF; simp only [List.append_assoc])
  have hne0 := own_ne_new ho
  have ho0 := ho.alloc (.cells #[.string kd, .slice A n c] 26)
  have hr0 := hr.alloc (.cells #[.string kd, .slice A n c] 26)
  go_enter Tryz.func28, Tryz.ntmps28
  go_wp2_with fail
  have x0 : (w.alloc (.cells #[.string kd, .slice A n c] 26)).cell? ⟨w.heap.size, 0, none⟩ = some (.string kd) := by go_simp
  have x1 : (w.alloc (.cells #[.string kd, .slice A n c] 26)).cell? ⟨w.heap.size, 1, none⟩ = some (.slice A n c) := by go_simp
  have hsz0 : (w.alloc (.cells #[.string kd, .slice A n c] 26)).heap.size = w.heap.size + 1 := by simp
  have gw : Below base w (w.alloc (.cells #[.string kd, .slice A n c] 26)) := (Below.refl base w).alloc hb _
  generalize hw0 : w.alloc (.cells #[.string kd, .slice A n c] 26) = w0 at x0 x1 ho0 hr0 hsz0 gw ⊢
  clear hw0
  refine wp_region_held_drew (S := (fun w' => w'.cell? ⟨w.heap.size, 0, none⟩ = some (.string kd) ∧ w'.cell? ⟨w.heap.size, 1, none⟩ = some (.slice A n c))) (by kernel_rfl) ?_ (fun hHeld => ?_)
  · try dsimp only
    first | exact ⟨x0, x1⟩ | exact ⟨hf1.cell hne0 hHeld.1, hf1.cell hne0 hHeld.2⟩ | exact ⟨hf2.cell hne1 hHeld.1, hf2.cell hne1 hHeld.2⟩
  refine h_take 0 (some 7) (?_) rfl rfl (by kernel_rfl) (by kernel_rfl) (by kernel_rfl) (fun _ _ _ h => h) (by kernel_rfl) ?_ (by assumption) ?_
  rotate_left
  · intro w hSw; (try dsimp only at hSw); go_simp
    all_goals first | with_reducible rfl | omega | (simp; omega)
  try simp only [Act.put, List.setIfInBounds_toArray, List.set_cons_zero, List.set_cons_succ]
  refine h_take 1 (some 8) (?_) rfl rfl (by kernel_rfl) (by kernel_rfl) (by kernel_rfl) (fun _ _ _ h => h) (by kernel_rfl) ?_ (by assumption) ?_
  rotate_left
  · intro w hSw; (try dsimp only at hSw); go_simp
    all_goals first | with_reducible rfl | omega | (simp; omega)
  try simp only [Act.put, List.setIfInBounds_toArray, List.set_cons_zero, List.set_cons_succ]
  refine h_take 2 (some 9) (?_) rfl rfl (by kernel_rfl) (by kernel_rfl) (by kernel_rfl) (fun _ _ _ h => h) (by kernel_rfl) ?_ (by assumption) ?_
  rotate_left
  · intro w hSw; (try dsimp only at hSw); go_simp
    all_goals first | with_reducible rfl | omega | (simp; omega)
  try simp only [Act.put, List.setIfInBounds_toArray, List.set_cons_zero, List.set_cons_succ]
  refine h_take 4 (some 11) (?_) rfl rfl (by kernel_rfl) (by kernel_rfl) (by kernel_rfl) (fun _ _ _ h => h) (by kernel_rfl) ?_ (by assumption) ?_
  rotate_left
  · intro w hSw; (try dsimp only at hSw); go_simp
    all_goals first | with_reducible rfl | omega | (simp; omega)
  try simp only [Act.put, List.setIfInBounds_toArray, List.set_cons_zero, List.set_cons_succ]
  refine h_take 5 (some 12) (?_) rfl rfl (by kernel_rfl) (by kernel_rfl) (by kernel_rfl) (fun _ _ _ h => h) (by kernel_rfl) ?_ (by assumption) ?_
  rotate_left
  · intro w hSw; (try dsimp only at hSw); go_simp
    all_goals first | with_reducible rfl | omega | (simp; omega)
  try simp only [Act.put, List.setIfInBounds_toArray, List.set_cons_zero, List.set_cons_succ]
  refine h_take 6 (some 13) (?_) rfl rfl (by kernel_rfl) (by kernel_rfl) (by kernel_rfl) (fun _ _ _ h => h) (by kernel_rfl) ?_ (by assumption) ?_
  rotate_left
  · intro w hSw; (try dsimp only at hSw); go_simp
    all_goals first | with_reducible rfl | omega | (simp; omega)
  try simp only [Act.put, List.setIfInBounds_toArray, List.set_cons_zero, List.set_cons_succ]
  refine h_call 3 (by kernel_rfl) rfl (by kernel_rfl) (fun K hK => ?_)
  go_simp
  refine (putTextF v bs kd _ base (OwnB.drew ho0) (by simp; omega) (by omega) (by omega)).mono ?_
  rw [HHS.out]
  rintro e w1 ⟨v1, rfl, ho1, hf1, hk1⟩
  have hne1 : v1.ownBlock ≠ some w.heap.size := kin_ne hk1 hne0 (by simp; omega)
  try dsimp only
  refine hK.out _ _ ?_ (fun hHeld => ?_)
  · try dsimp only
    first | exact ⟨x0, x1⟩ | exact ⟨hf1.cell hne0 hHeld.1, hf1.cell hne0 hHeld.2⟩ | exact ⟨hf2.cell hne1 hHeld.1, hf2.cell hne1 hHeld.2⟩
  clear hK K
  try simp only [Act.put, List.setIfInBounds_toArray, List.set_cons_zero, List.set_cons_succ]
  refine h_call 7 (by kernel_rfl) rfl (by kernel_rfl) (fun K hK => ?_)
  go_simp
  refine (putNumF v1 hs n _ base ho1 (by have := hf1.size; simp at this; omega) (by omega)).mono ?_
  rw [HTS.out]
  rintro e w2 ⟨v2, rfl, ho2, hf2, hk2⟩
  try dsimp only
  refine hK.out _ _ ?_ (fun hHeld => ?_)
  · try dsimp only
    first | exact ⟨x0, x1⟩ | exact ⟨hf1.cell hne0 hHeld.1, hf1.cell hne0 hHeld.2⟩ | exact ⟨hf2.cell hne1 hHeld.1, hf2.cell hne1 hHeld.2⟩
  clear hK K
  try simp only [Act.put, List.setIfInBounds_toArray, List.set_cons_zero, List.set_cons_succ]
  refine h_take 8 (some 0) (?_) rfl rfl (by kernel_rfl) (by kernel_rfl) (by kernel_rfl) (fun _ _ _ h => h) (by kernel_rfl) ?_ (by assumption) ?_
  rotate_left
  · intro w hSw; (try dsimp only at hSw); go_simp
    all_goals first | with_reducible rfl | omega | (simp; omega)
  try simp only [Act.put, List.setIfInBounds_toArray, List.set_cons_zero]
  refine wpAnyH_done (by kernel_rfl) ?_ _
  obtain ⟨y0, y1⟩ := hHeld
  have gf := hf1.trans hk1 hf2
  have gb : Below base w w2 := gw.drew.trans (gf.below (fun k hk => (World.ownsRow.lt ho0 k hk).1) (by simp; omega))
  have hsz2 := gf.size
  simp at hsz2
  go_wp2
  go_loopw [0, 18] (fun u i wr => ∃ k : Nat, k ≤ n ∧ i = .int .i64 k ∧ OwnB wr base 5 u (ts ++ putVs (xs.take k)) ∧ Below base w wr ∧ base ≤ wr.heap.size) (fun _ i _ => n - (intOf i).toNat)
  case atStart => exact ⟨0, Nat.zero_le _, rfl, by rw [show putVs (xs.take 0) = [] from rfl, List.append_nil]; exact ho2, gb, by omega⟩
  case round =>
    obtain ⟨k, hk, rfl, hok, hbel, hbs⟩ := hrel
    have hpk := putVs_le xs k
    by_cases hlt : k < n
    · obtain ⟨b, o, rfl, hb0, hc⟩ := (hr.belowB (hbel.mono hBb)).2.val (by omega)
      obtain ⟨x, y, s, he, p0, p1, p2⟩ := hc k hlt
      clear hc
      have hkl : k < xs.length := by rw [HL.out]; exact hlt
      have hss : s.size ≤ 1048576 := by
        have := HXS.out (xs[k]'hkl) (List.getElem_mem _)
        rw [he] at this; exact this
      have hst := putVs_snoc hkl
      rw [he] at hst
      have hj0 : (0:Int) ≤ (k : Int) := by omega
      have hj1 : (k:Int) < (n : Int) := by omega
      obtain ⟨qs, hqs⟩ : ∃ qs, ts ++ putVs (xs.take k) = qs := ⟨_, rfl⟩
      have hql : qs.length ≤ 16777216 := by rw [← hqs, List.length_append]; omega
      rw [hqs] at hok
      have HN := Lib.hid (show ts ++ putVs (xs.take (k + 1)) = qs ++ putV ⟨x, y, s⟩ by rw [hst, ← List.append_assoc, hqs])
      clear hst he hqs hpk
      have hok0 := hok.alloc (.cells #[.int .i64 x, .int .i64 y, .string s] 47)
      go_wp2_with fail
      refine (putValF _ qs x y s _ base hok0 (by simp; omega) (by omega) (by omega)).mono ?_
      rintro e w3 ⟨v3, rfl, ho3, hf3, hk3⟩
      have g3 := (hbel.alloc hbs _).trans (hf3.below (fun k hk => (World.ownsRow.lt hok0 k hk).1) (by simp; omega))
      have hs3 := hf3.size
      simp at hs3
      go_wp2
      go_roundw
      case rel => exact ⟨k + 1, by omega, by go_num, by rw [HN.out]; exact ho3, g3, by omega⟩
      case measure => simp [intOf]; omega
    · have hfull : ts ++ putVs (xs.take k) = ts ++ putVs xs := by rw [List.take_of_length_le (by rw [HL.out]; omega)]
      rw [hfull] at hok
      have HO := Lib.hid hok; clear hok hfull hpk
      go_wp2
      go_ret
      exact ⟨_, rfl, by rw [HFIN.out]; exact HO.out, hbel, hbel.size⟩
theorem implPutFact_any (A : Option Addr) (n c : Nat) (bs : List UInt8) (kd : ByteArray) (A2 : Option Addr) (n2 c2 : Nat) (xs : List Vl) (w : World) (B B2 : Nat) (hr : RdB w B A n bs) (hB : B ≤ w.heap.size) (hr2 : RdS vC 3 w B2 A2 n2 xs) (hn : n ≤ 1048576) (ht : totF ⟨kd, xs⟩ ≤ 1048576) :
    Calls Tryz.prog 10 #[.slice A n c, .agg #[.string kd, .slice A2 n2 c2]] w fun e w' => ∃ v', e = .returned v' ∧ OwnB w' w.heap.size 5 v' (bs ++ putF ⟨kd, xs⟩) ∧ Below w.heap.size w w' ∧ w.heap.size ≤ w'.heap.size := by
  have HL := Lib.hid hr.len
  have hbl : bs.length ≤ 1048576 := by rw [HL.out]; exact hn
  have HT := Lib.hid ht; clear ht
  have hry : RdY w B A n bs := ⟨hB, hr⟩
  have hry0 := hry.alloc (.cells #[.string kd, .slice A2 n2 c2] 26)
  have hr20 := hr2.alloc (.cells #[.string kd, .slice A2 n2 c2] 26)
  go_enter Tryz.func10, Tryz.ntmps10
  go_wp2_with fail
  have x0 : (w.alloc (.cells #[.string kd, .slice A2 n2 c2] 26)).cell? ⟨w.heap.size, 0, none⟩ = some (.string kd) := by go_simp
  have x1 : (w.alloc (.cells #[.string kd, .slice A2 n2 c2] 26)).cell? ⟨w.heap.size, 1, none⟩ = some (.slice A2 n2 c2) := by go_simp
  have hsz0 : (w.alloc (.cells #[.string kd, .slice A2 n2 c2] 26)).heap.size = w.heap.size + 1 := by simp
  have gw : Below w.heap.size w (w.alloc (.cells #[.string kd, .slice A2 n2 c2] 26)) := bel_alloc (bel_refl w) _
  generalize hw0 : w.alloc (.cells #[.string kd, .slice A2 n2 c2] 26) = w0 at x0 x1 hry0 hr20 hsz0 gw ⊢
  clear hw0
  have hr21 : RdS vC 3 w0.drew B2 A2 n2 xs := hr20
  refine wp_region_held_drew (S := (fun w' => w'.cell? ⟨w.heap.size, 0, none⟩ = some (.string kd) ∧ w'.cell? ⟨w.heap.size, 1, none⟩ = some (.slice A2 n2 c2))) (by kernel_rfl) ?_ (fun hHeld => ?_)
  · try dsimp only
    first | exact ⟨x0, x1⟩ | exact ⟨old_cell hb1 hHeld.1, old_cell hb1 hHeld.2⟩ | exact ⟨(hb2.cell (p := ⟨w.heap.size, 0, none⟩) (by simp; omega)).trans hHeld.1, (hb2.cell (p := ⟨w.heap.size, 1, none⟩) (by simp; omega)).trans hHeld.2⟩
  refine h_take 0 (some 5) (?_) rfl rfl (by kernel_rfl) (by kernel_rfl) (by kernel_rfl) (fun _ _ _ h => h) (by kernel_rfl) ?_ (by assumption) ?_
  rotate_left
  · intro w hSw; (try dsimp only at hSw); go_simp
    all_goals first | with_reducible rfl | omega | (simp; omega)
  try simp only [Act.put, List.setIfInBounds_toArray, List.set_cons_zero, List.set_cons_succ]
  refine h_take 2 (some 7) (?_) rfl rfl (by kernel_rfl) (by kernel_rfl) (by kernel_rfl) (fun _ _ _ h => h) (by kernel_rfl) ?_ (by assumption) ?_
  rotate_left
  · intro w hSw; (try dsimp only at hSw); go_simp
    all_goals first | with_reducible rfl | omega | (simp; omega)
  try simp only [Act.put, List.setIfInBounds_toArray, List.set_cons_zero, List.set_cons_succ]
  refine h_call 1 (by kernel_rfl) rfl (by kernel_rfl) (fun K hK => ?_)
  go_simp
  refine (clone_any A n c bs _ B (RdY.drew hry0).b (RdY.drew hry0).le (by omega)).mono ?_
  rintro e w1 ⟨v1, rfl, ho1, hb1, hs1⟩
  try dsimp only
  refine hK.out _ _ ?_ (fun hHeld => ?_)
  · try dsimp only
    first | exact ⟨x0, x1⟩ | exact ⟨old_cell hb1 hHeld.1, old_cell hb1 hHeld.2⟩ | exact ⟨(hb2.cell (p := ⟨w.heap.size, 0, none⟩) (by simp; omega)).trans hHeld.1, (hb2.cell (p := ⟨w.heap.size, 1, none⟩) (by simp; omega)).trans hHeld.2⟩
  clear hK K
  try simp only [Act.put, List.setIfInBounds_toArray, List.set_cons_zero, List.set_cons_succ]
  refine h_call 3 (by kernel_rfl) rfl (by kernel_rfl) (fun K hK => ?_)
  go_simp
  refine (putFact_any v1 bs kd A2 n2 c2 xs _ w0.heap.size B2 ho1 hs1 (hr21.kept hb1) hr20.1 hbl HT.out).mono ?_
  rintro e w2 ⟨v2, rfl, ho2, hb2, hs2⟩
  try dsimp only
  refine hK.out _ _ ?_ (fun hHeld => ?_)
  · try dsimp only
    first | exact ⟨x0, x1⟩ | exact ⟨old_cell hb1 hHeld.1, old_cell hb1 hHeld.2⟩ | exact ⟨(hb2.cell (p := ⟨w.heap.size, 0, none⟩) (by simp; omega)).trans hHeld.1, (hb2.cell (p := ⟨w.heap.size, 1, none⟩) (by simp; omega)).trans hHeld.2⟩
  clear hK K
  try simp only [Act.put, List.setIfInBounds_toArray, List.set_cons_zero, List.set_cons_succ]
  refine h_take 4 (some 4) (?_) rfl rfl (by kernel_rfl) (by kernel_rfl) (by kernel_rfl) (fun _ _ _ h => h) (by kernel_rfl) ?_ (by assumption) ?_
  rotate_left
  · intro w hSw; (try dsimp only at hSw); go_simp
    all_goals first | with_reducible rfl | omega | (simp; omega)
  try simp only [Act.put, List.setIfInBounds_toArray, List.set_cons_zero, List.set_cons_succ]
  refine wpAnyH_done (by kernel_rfl) ?_ _
  simp at hs1
  go_wp2
  go_ret
  exact ⟨_, rfl, ho2.lower (by omega), (bel_drew gw).trans ((hb1.trans hb2).mono (by simp; omega)), by omega⟩
theorem l3PutVals_any (A : Option Addr) (n c : Nat) (bs : List UInt8) (A2 : Option Addr) (n2 c2 : Nat) (xs : List Vl) (w : World) (B B2 : Nat) (hr : RdB w B A n bs) (hB : B ≤ w.heap.size) (hr2 : RdS vC 3 w B2 A2 n2 xs) (hn : n ≤ 2097200) (hpl : (putVs xs).length ≤ 10485760) (hxs : ∀ x ∈ xs, x.s.size ≤ 1048576) (hn2 : n2 ≤ 1048576) :
    Calls Tryz.prog 74 #[.slice A n c, .slice A2 n2 c2] w fun e w' => ∃ v', e = .returned v' ∧ OwnB w' w.heap.size 5 v' (bs ++ putN n2 ++ putVs xs) ∧ Below w.heap.size w w' ∧ w.heap.size ≤ w'.heap.size := by
  have HL := Lib.hid hr.len
  have HL2 := Lib.hid hr2.len
  have HXS := Lib.hid hxs; clear hxs
  have hnl := putN_len n2
  obtain ⟨ts, hts⟩ : ∃ ts, bs ++ putN n2 = ts := ⟨_, rfl⟩
  have htl : ts.length ≤ 2097210 := by rw [← hts]; simp only [List.length_append]; rw [HL.out]; omega
  rw [hts]
  have HTS := Lib.hid hts; clear hts hnl
  go_enter Tryz.func74, Tryz.ntmps74
  go_wp2_with fail
  refine (specPutNum_any A n c bs n2 w B hr hB (by omega)).mono ?_
  rw [HTS.out]
  rintro e w1 ⟨v1, rfl, ho1, hb1, hs1⟩
  go_wp2
  go_loopw [0, 5] (fun u i wr => ∃ k : Nat, k ≤ n2 ∧ i = .int .i64 k ∧ OwnB wr w.heap.size 5 u (ts ++ putVs (xs.take k)) ∧ Below w.heap.size w wr) (fun _ i _ => n2 - (intOf i).toNat)
  case atStart => exact ⟨0, Nat.zero_le _, rfl, by rw [show putVs (xs.take 0) = [] from rfl, List.append_nil]; exact ho1, hb1⟩
  case round =>
    obtain ⟨k, hk, rfl, hok, hbel⟩ := hrel
    have hpk := putVs_le xs k
    have hbs := hbel.size
    by_cases hlt : k < n2
    · obtain ⟨b, o, rfl, hb0, hc⟩ := (hr2.kept hbel).2.val (by omega)
      obtain ⟨x, y, s, he, p0, p1, p2⟩ := hc k hlt
      clear hc
      have hkl : k < xs.length := by rw [HL2.out]; exact hlt
      have hss : s.size ≤ 1048576 := by
        have := HXS.out (xs[k]'hkl) (List.getElem_mem _)
        rw [he] at this; exact this
      have hst := putVs_snoc hkl
      rw [he] at hst
      have hj0 : (0:Int) ≤ (k : Int) := by omega
      have hj1 : (k:Int) < (n2 : Int) := by omega
      obtain ⟨qs, hqs⟩ : ∃ qs, ts ++ putVs (xs.take k) = qs := ⟨_, rfl⟩
      have hql : qs.length ≤ 16777216 := by rw [← hqs, List.length_append]; omega
      rw [hqs] at hok
      have HN := Lib.hid (show ts ++ putVs (xs.take (k + 1)) = qs ++ putV ⟨x, y, s⟩ by rw [hst, ← List.append_assoc, hqs])
      clear hst he hqs hpk
      obtain ⟨A1, c1, rfl, hc1, _⟩ := hok.form
      have hrk := hok.rdO
      go_wp2_with fail
      refine (specPutVal_any A1 _ c1 qs x y s _ _ hrk.b hrk.le (by omega) (by omega)).mono ?_
      rintro e w3 ⟨v3, rfl, ho3, hb3, hs3⟩
      go_wp2
      go_roundw
      case rel => exact ⟨k + 1, by omega, by go_num, by rw [HN.out]; exact ho3.lower hbs, bel_trans hbel hb3⟩
      case measure => simp [intOf]; omega
    · have hfull : ts ++ putVs (xs.take k) = ts ++ putVs xs := by rw [List.take_of_length_le (by rw [HL2.out]; omega)]
      rw [hfull] at hok
      have HO := Lib.hid hok; clear hok hfull hpk
      go_wp2
      go_ret
      exact ⟨_, rfl, HO.out, hbel, hbs⟩
theorem specPutFact_any (A : Option Addr) (n c : Nat) (bs : List UInt8) (kd : ByteArray) (A2 : Option Addr) (n2 c2 : Nat) (xs : List Vl) (w : World) (B B2 : Nat) (hr : RdB w B A n bs) (hB : B ≤ w.heap.size) (hr2 : RdS vC 3 w B2 A2 n2 xs) (hn : n ≤ 1048576) (ht : totF ⟨kd, xs⟩ ≤ 1048576) :
    Calls Tryz.prog 45 #[.slice A n c, .agg #[.string kd, .slice A2 n2 c2]] w fun e w' => ∃ v', e = .returned v' ∧ OwnB w' w.heap.size 5 v' (bs ++ putF ⟨kd, xs⟩) ∧ Below w.heap.size w w' ∧ w.heap.size ≤ w'.heap.size := by
  obtain ⟨hkd, hxl, hpl, hxs⟩ := vals_bound ht
  have HL := Lib.hid hr.len
  have HL2 := Lib.hid hr2.len
  have hn2 : n2 ≤ 1048576 := by rw [← HL2.out]; exact hxl
  have HXS := Lib.hid hxs; clear hxs
  have hkl := putN_len kd.size
  have hk4 : kd.data.toList.length = kd.size := by rw [size_data]
  obtain ⟨hs, hhs⟩ : ∃ hs, bs ++ putN kd.size ++ kd.data.toList = hs := ⟨_, rfl⟩
  have hhl : hs.length ≤ 2097200 := by rw [← hhs]; simp only [List.length_append]; rw [HL.out]; omega
  have HHS := Lib.hid hhs; clear hhs
  have HK4 := Lib.hid hk4; clear hk4 hkl
  have HFIN := Lib.hid (show bs ++ putF ⟨kd, xs⟩ = hs ++ putN n2 ++ putVs xs by rw [← HHS.out, ← HL2.out]; unfold putF; simp only [List.append_assoc])
  have hry : RdY w B A n bs := ⟨hB, hr⟩
  have hry0 := hry.alloc (.cells #[.string kd, .slice A2 n2 c2] 26)
  have hr20 := hr2.alloc (.cells #[.string kd, .slice A2 n2 c2] 26)
  go_enter Tryz.func45, Tryz.ntmps45
  go_wp2_with fail
  have x0 : (w.alloc (.cells #[.string kd, .slice A2 n2 c2] 26)).cell? ⟨w.heap.size, 0, none⟩ = some (.string kd) := by go_simp
  have x1 : (w.alloc (.cells #[.string kd, .slice A2 n2 c2] 26)).cell? ⟨w.heap.size, 1, none⟩ = some (.slice A2 n2 c2) := by go_simp
  have hsz0 : (w.alloc (.cells #[.string kd, .slice A2 n2 c2] 26)).heap.size = w.heap.size + 1 := by simp
  have gw : Below w.heap.size w (w.alloc (.cells #[.string kd, .slice A2 n2 c2] 26)) := bel_alloc (bel_refl w) _
  generalize hw0 : w.alloc (.cells #[.string kd, .slice A2 n2 c2] 26) = w0 at x0 x1 hry0 hr20 hsz0 gw ⊢
  clear hw0
  have hr21 : RdS vC 3 w0.drew B2 A2 n2 xs := hr20
  refine wp_region_held_drew (S := (fun w' => w'.cell? ⟨w.heap.size, 0, none⟩ = some (.string kd) ∧ w'.cell? ⟨w.heap.size, 1, none⟩ = some (.slice A2 n2 c2))) (by kernel_rfl) ?_ (fun hHeld => ?_)
  · try dsimp only
    first | exact ⟨x0, x1⟩ | exact ⟨old_cell hb1 hHeld.1, old_cell hb1 hHeld.2⟩ | exact ⟨old_cell hb2 hHeld.1, old_cell hb2 hHeld.2⟩
  refine h_take 0 (some 5) (?_) rfl rfl (by kernel_rfl) (by kernel_rfl) (by kernel_rfl) (fun _ _ _ h => h) (by kernel_rfl) ?_ (by assumption) ?_
  rotate_left
  · intro w hSw; (try dsimp only at hSw); go_simp
    all_goals first | with_reducible rfl | omega | (simp; omega)
  try simp only [Act.put, List.setIfInBounds_toArray, List.set_cons_zero, List.set_cons_succ]
  refine h_take 1 (some 6) (?_) rfl rfl (by kernel_rfl) (by kernel_rfl) (by kernel_rfl) (fun _ _ _ h => h) (by kernel_rfl) ?_ (by assumption) ?_
  rotate_left
  · intro w hSw; (try dsimp only at hSw); go_simp
    all_goals first | with_reducible rfl | omega | (simp; omega)
  try simp only [Act.put, List.setIfInBounds_toArray, List.set_cons_zero, List.set_cons_succ]
  refine h_take 2 (some 7) (?_) rfl rfl (by kernel_rfl) (by kernel_rfl) (by kernel_rfl) (fun _ _ _ h => h) (by kernel_rfl) ?_ (by assumption) ?_
  rotate_left
  · intro w hSw; (try dsimp only at hSw); go_simp
    all_goals first | with_reducible rfl | omega | (simp; omega)
  try simp only [Act.put, List.setIfInBounds_toArray, List.set_cons_zero, List.set_cons_succ]
  refine h_take 4 (some 9) (?_) rfl rfl (by kernel_rfl) (by kernel_rfl) (by kernel_rfl) (fun _ _ _ h => h) (by kernel_rfl) ?_ (by assumption) ?_
  rotate_left
  · intro w hSw; (try dsimp only at hSw); go_simp
    all_goals first | with_reducible rfl | omega | (simp; omega)
  try simp only [Act.put, List.setIfInBounds_toArray, List.set_cons_zero, List.set_cons_succ]
  refine h_take 5 (some 10) (?_) rfl rfl (by kernel_rfl) (by kernel_rfl) (by kernel_rfl) (fun _ _ _ h => h) (by kernel_rfl) ?_ (by assumption) ?_
  rotate_left
  · intro w hSw; (try dsimp only at hSw); go_simp
    all_goals first | with_reducible rfl | omega | (simp; omega)
  try simp only [Act.put, List.setIfInBounds_toArray, List.set_cons_zero, List.set_cons_succ]
  refine h_call 3 (by kernel_rfl) rfl (by kernel_rfl) (fun K hK => ?_)
  go_simp
  refine (specPutText_any A n c bs kd _ B (RdY.drew hry0).b (RdY.drew hry0).le (by omega) (by omega)).mono ?_
  rw [HHS.out]
  rintro e w1 ⟨v1, rfl, ho1, hb1, hs1⟩
  obtain ⟨A1, c1, rfl, hc1, _⟩ := ho1.form
  have hrk := ho1.rdO
  try dsimp only
  refine hK.out _ _ ?_ (fun hHeld => ?_)
  · try dsimp only
    first | exact ⟨x0, x1⟩ | exact ⟨old_cell hb1 hHeld.1, old_cell hb1 hHeld.2⟩ | exact ⟨old_cell hb2 hHeld.1, old_cell hb2 hHeld.2⟩
  clear hK K
  try simp only [Act.put, List.setIfInBounds_toArray, List.set_cons_zero, List.set_cons_succ]
  refine h_call 6 (by kernel_rfl) rfl (by kernel_rfl) (fun K hK => ?_)
  go_simp
  refine (l3PutVals_any A1 _ c1 hs A2 n2 c2 xs _ _ _ hrk.b hrk.le (hr21.kept hb1) (by omega) hpl HXS.out hn2).mono ?_
  rintro e w2 ⟨v2, rfl, ho2, hb2, hs2⟩
  try dsimp only
  refine hK.out _ _ ?_ (fun hHeld => ?_)
  · try dsimp only
    first | exact ⟨x0, x1⟩ | exact ⟨old_cell hb1 hHeld.1, old_cell hb1 hHeld.2⟩ | exact ⟨old_cell hb2 hHeld.1, old_cell hb2 hHeld.2⟩
  clear hK K
  try simp only [Act.put, List.setIfInBounds_toArray, List.set_cons_zero, List.set_cons_succ]
  refine h_take 7 (some 4) (?_) rfl rfl (by kernel_rfl) (by kernel_rfl) (by kernel_rfl) (fun _ _ _ h => h) (by kernel_rfl) ?_ (by assumption) ?_
  rotate_left
  · intro w hSw; (try dsimp only at hSw); go_simp
    all_goals first | with_reducible rfl | omega | (simp; omega)
  try simp only [Act.put, List.setIfInBounds_toArray, List.set_cons_zero, List.set_cons_succ]
  refine wpAnyH_done (by kernel_rfl) ?_ _
  go_wp2
  go_ret
  have hs1' := hs1
  simp at hs1'
  exact ⟨_, rfl, by rw [HFIN.out]; exact ho2.lower (by omega), (bel_drew gw).trans ((hb1.trans (hb2.mono hs1)).mono (by simp; omega)), by simp at hs1; omega⟩
end Go.Proofs.YtcbbefibebkfgaaGreatDoor
