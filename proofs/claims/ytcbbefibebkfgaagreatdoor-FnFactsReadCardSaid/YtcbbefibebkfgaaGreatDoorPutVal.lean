/- PutVal of the program and of the reference: each answers a slice of its own that holds what the plain function says. No condition but lengths. -/
import Derived.Test.YtcbbefibebkfgaaGreatDoorPut3
import Derived.Test.YtcbbefibebkfgaaGreatDoorVal
import Derived.Test.YtcbbefibebkfgaaGreatDoorFar
namespace Go.Proofs.YtcbbefibebkfgaaGreatDoor
open Go.RowKit
set_option maxRecDepth 100000
set_option maxHeartbeats 2000000

def putV (v : Vl) : List UInt8 := putN v.k ++ (if v.k = 1 then putN v.n else putN v.s.size ++ v.s.data.toList)
theorem putV_len (v : Vl) : (putV v).length ≤ 10 + v.s.size := by
  unfold putV
  have h1 := putN_len v.k
  have h2 := putN_len v.n
  have h3 := putN_len v.s.size
  have h4 := size_data v.s
  split
  all_goals
    simp only [List.length_append]
    omega
theorem putValF (v : Value) (bs : List UInt8) (k n : Int) (s : ByteArray) (w : World) (base : Nat) (ho : OwnB w base 5 v bs) (hb : base ≤ w.heap.size) (hl : bs.length ≤ 70368744177000) (hs : s.size ≤ 70368744177664) :
    Calls Tryz.prog 64 #[v, .agg #[.int .i64 k, .int .i64 n, .string s]] w fun e w' => ∃ v', e = .returned v' ∧ OwnB w' base 5 v' (bs ++ putV ⟨k, n, s⟩) ∧ Far w w' v ∧ Kin w v v' := by
  have hp := putN_len k
  have hne : v.ownBlock ≠ some w.heap.size := fun h => Nat.lt_irrefl _ (World.ownsRow.lt ho _ h).2
  obtain ⟨ps, hps⟩ : ∃ ps, putN k = ps := ⟨_, rfl⟩
  rw [hps] at hp
  have hV : putV ⟨k, n, s⟩ = ps ++ (if k = 1 then putN n else putN s.size ++ s.data.toList) := by unfold putV; rw [hps]
  have HV := Lib.hid hV; clear hV
  have HP := Lib.hid hps; clear hps
  have ho' := own_kept ho (bel_alloc (bel_refl w) (.cells #[.int .i64 k, .int .i64 n, .string s] 47))
  go_enter Tryz.func64, Tryz.ntmps64
  go_wp2_with fail
  refine (putNumF v bs k _ base ho' (by simp; omega) (by omega)).mono ?_
  rw [HP.out]
  rintro e w1 ⟨v1, rfl, ho1, hf1, hk1⟩
  have hs1 := hf1.size
  simp at hs1
  have c0 : w1.cell? ⟨w.heap.size, 0, none⟩ = some (.int .i64 k) := hf1.cell hne (by go_simp)
  have c1 : w1.cell? ⟨w.heap.size, 1, none⟩ = some (.int .i64 n) := hf1.cell hne (by go_simp)
  have c2 : w1.cell? ⟨w.heap.size, 2, none⟩ = some (.string s) := hf1.cell hne (by go_simp)
  have hf1 := hf1.old
  have hk1 := hk1.old
  by_cases h1 : k = 1
  · have ht : (k == 1) = true := by simpa using h1
    go_wp2_with fail
    refine (putNumF v1 (bs ++ ps) n w1 base ho1 (by omega) (by simp; omega)).mono ?_
    rintro e w2 ⟨v2, rfl, ho2, hf2, hk2⟩
    go_wp2
    go_ret
    refine ⟨_, rfl, ?_, hf1.trans hk1 hf2, hk1.trans (by omega) hk2⟩
    rw [HV.out, if_pos h1, ← List.append_assoc]
    exact ho2
  · have ht : (k == 1) = false := by simpa using h1
    go_wp2_with fail
    refine (putTextF v1 (bs ++ ps) s w1 base ho1 (by omega) (by simp; omega) hs).mono ?_
    rintro e w2 ⟨v2, rfl, ho2, hf2, hk2⟩
    go_wp2
    go_ret
    refine ⟨_, rfl, ?_, hf1.trans hk1 hf2, hk1.trans (by omega) hk2⟩
    rw [HV.out, if_neg h1, ← List.append_assoc, ← List.append_assoc]
    exact ho2
theorem specPutVal_any (A : Option Addr) (nn c : Nat) (bs : List UInt8) (k n : Int) (s : ByteArray) (w : World) (B : Nat) (hr : RdB w B A nn bs) (hB : B ≤ w.heap.size) (hn : nn ≤ 70368744177000) (hs : s.size ≤ 70368744177664) :
    Calls Tryz.prog 92 #[.slice A nn c, .agg #[.int .i64 k, .int .i64 n, .string s]] w fun e w' => ∃ v', e = .returned v' ∧ OwnB w' w.heap.size 5 v' (bs ++ putV ⟨k, n, s⟩) ∧ Below w.heap.size w w' ∧ w.heap.size ≤ w'.heap.size := by
  have hl := hr.len
  have HL := Lib.hid hl; clear hl
  have hp := putN_len k
  obtain ⟨ps, hps⟩ : ∃ ps, putN k = ps := ⟨_, rfl⟩
  rw [hps] at hp
  have hV : putV ⟨k, n, s⟩ = ps ++ (if k = 1 then putN n else putN s.size ++ s.data.toList) := by unfold putV; rw [hps]
  have HV := Lib.hid hV; clear hV
  have HP := Lib.hid hps; clear hps
  have hr' := hr.below ((Below.refl B w).alloc hB (.cells #[.int .i64 k, .int .i64 n, .string s] 47))
  go_enter Tryz.func92, Tryz.ntmps92
  go_wp2_with fail
  refine (specPutNum_any A nn c bs k _ B hr' (by simp; omega) (by omega)).mono ?_
  rw [HP.out]
  rintro e w1 ⟨v1, rfl, ho1, hb1, hs1⟩
  have c0 := old_cell hb1 (b := w.heap.size) (o := 0) (v := .int .i64 k) (by go_simp)
  have c1 := old_cell hb1 (b := w.heap.size) (o := 1) (v := .int .i64 n) (by go_simp)
  have c2 := old_cell hb1 (b := w.heap.size) (o := 2) (v := .string s) (by go_simp)
  have g1 := bel_trans (bel_alloc (bel_refl w) _) hb1
  obtain ⟨qs, hqs⟩ : ∃ qs, bs ++ ps = qs := ⟨_, rfl⟩
  have hql : qs.length ≤ 70368744177100 := by rw [← hqs]; simp only [List.length_append, HL.out]; omega
  rw [hqs] at ho1
  have HQ := Lib.hid hqs; clear hqs
  obtain ⟨A1, cc1, rfl, hc1, hr1⟩ := ho1.form
  simp at hs1
  have hbase : w.heap.size ≤ w1.heap.size := by omega
  by_cases h1 : k = 1
  · have ht : (k == 1) = true := by simpa using h1
    go_wp2_with (go_at_call 91; refine (specPutNum_any A1 _ cc1 qs n _ _ hr1 (Nat.le_refl _) (by omega)).mono ?_; rintro e w2 ⟨v2, rfl, ho2, hb2, hs2⟩)
    go_ret
    refine ⟨_, rfl, ?_, bel_trans g1 hb2, by omega⟩
    rw [HV.out, if_pos h1, ← List.append_assoc, HQ.out]
    exact own_more ho2 hbase
  · have ht : (k == 1) = false := by simpa using h1
    go_wp2_with (go_at_call 75; refine (specPutText_any A1 _ cc1 qs s _ _ hr1 (Nat.le_refl _) (by omega) hs).mono ?_; rintro e w2 ⟨v2, rfl, ho2, hb2, hs2⟩)
    go_ret
    refine ⟨_, rfl, ?_, bel_trans g1 hb2, by omega⟩
    rw [HV.out, if_neg h1, ← List.append_assoc, ← List.append_assoc, HQ.out]
    exact own_more ho2 hbase
end Go.Proofs.YtcbbefibebkfgaaGreatDoor
