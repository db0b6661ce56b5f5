/- The laws' helpers on the struct Cond. Each answers what the plain function says and makes at most new blocks. No condition but lengths. -/
import Derived.Test.YtnncdibojclhnaaDoorArg
import Derived.Test.YtnncdibojclhnaaDoorRow
namespace Go.Proofs.YtnncdibojclhnaaDoor
open Go.RowKit
set_option maxRecDepth 100000
set_option maxHeartbeats 2000000

structure Cd where
  op : Int
  l : Ag
  r : Ag
deriving DecidableEq
def cC (a : Cd) : List Value := [.int .i64 a.op, .int .i64 a.l.k, .string a.l.s, .int .i64 a.l.v.k, .int .i64 a.l.v.n, .string a.l.v.s, .int .i64 a.r.k, .string a.r.s, .int .i64 a.r.v.k, .int .i64 a.r.v.n, .string a.r.v.s]
theorem cC_sz : Sz cC 11 := fun _ => rfl
def szC (a : Cd) : Nat := szA a.l + szA a.r
def goodC (a : Cd) : Prop := a.l.s.size ≤ 9223372036854775807 ∧ a.l.v.s.size ≤ 9223372036854775807 ∧ a.r.s.size ≤ 9223372036854775807 ∧ a.r.v.s.size ≤ 9223372036854775807
def cC_0 : Cd := ⟨0, ⟨0, ByteArray.empty, ⟨0, 0, ByteArray.empty⟩⟩, ⟨0, ByteArray.empty, ⟨0, 0, ByteArray.empty⟩⟩⟩
theorem szCond_any (op : Int) (lk : Int) (ls : ByteArray) (lvk : Int) (lvn : Int) (lvs : ByteArray) (rk : Int) (rs : ByteArray) (rvk : Int) (rvn : Int) (rvs : ByteArray) (left : Int) (w : World) (hls : ls.size ≤ 9223372036854775807) (hlvs : lvs.size ≤ 9223372036854775807) (hrs : rs.size ≤ 9223372036854775807) (hrvs : rvs.size ≤ 9223372036854775807) (h0 : 0 ≤ left) (h1 : left ≤ 1048576) :
    Calls Tryd.prog 17 #[.agg #[.int .i64 op, .int .i64 lk, .string ls, .int .i64 lvk, .int .i64 lvn, .string lvs, .int .i64 rk, .string rs, .int .i64 rvk, .int .i64 rvn, .string rvs], .int .i64 left] w fun e w' => e = .returned (.int .i64 (szR left (szC ⟨op, ⟨lk, ls, ⟨lvk, lvn, lvs⟩⟩, ⟨rk, rs, ⟨rvk, rvn, rvs⟩⟩⟩))) ∧ Below w.heap.size w w' := by
  by_cases b0 : left < (((szA ⟨lk, ls, ⟨lvk, lvn, lvs⟩⟩) : Nat) : Int)
  · have HR := Lib.hid (szR_big (left := left) (t := szC ⟨op, ⟨lk, ls, ⟨lvk, lvn, lvs⟩⟩, ⟨rk, rs, ⟨rvk, rvn, rvs⟩⟩⟩) (by simp only [szC]; omega))
    have HV0 := Lib.hid (szR_big (left := left) (t := szA ⟨lk, ls, ⟨lvk, lvn, lvs⟩⟩) (by first | exact b0 | omega))
    go_enter Tryd.func17, Tryd.ntmps17
    go_wp2_with (first | (go_at_call 43; (with_reducible refine (szArg_any lk ls lvk lvn lvs _ _ hls hlvs (by omega) (by omega)).mono ?_); rw [HV0.out]; rintro e w' ⟨rfl, hb0⟩; obtain ⟨hc0, hf0⟩ := bcell hb0))
    go_ret
    exact ⟨ret_int HR.out.symm, (by repeat (first | with_reducible exact bel_refl _ | with_reducible assumption | with_reducible refine bel_set ?_ (by first | (simp; done) | (simp; omega) | omega) _ | with_reducible refine bel_alloc ?_ _ | with_reducible refine bel_drew ?_ | with_reducible refine bel_drewN ?_ _ | with_reducible refine bel_trans ?_ (by assumption)))⟩
  by_cases b1 : left - ((szA ⟨lk, ls, ⟨lvk, lvn, lvs⟩⟩) : Nat) < (((szA ⟨rk, rs, ⟨rvk, rvn, rvs⟩⟩) : Nat) : Int)
  · have HR := Lib.hid (szR_big (left := left) (t := szC ⟨op, ⟨lk, ls, ⟨lvk, lvn, lvs⟩⟩, ⟨rk, rs, ⟨rvk, rvn, rvs⟩⟩⟩) (by simp only [szC]; omega))
    have HV0 := Lib.hid (szR_fit (left := left) (t := szA ⟨lk, ls, ⟨lvk, lvn, lvs⟩⟩) (by first | exact b0 | omega))
    have HV1 := Lib.hid (szR_big (left := left - ((szA ⟨lk, ls, ⟨lvk, lvn, lvs⟩⟩) : Nat)) (t := szA ⟨rk, rs, ⟨rvk, rvn, rvs⟩⟩) (by first | exact b1 | omega))
    go_enter Tryd.func17, Tryd.ntmps17
    go_wp2_with (first | (go_at_call 43; (with_reducible refine (szArg_any lk ls lvk lvn lvs _ _ hls hlvs (by omega) (by omega)).mono ?_); rw [HV0.out]; rintro e w' ⟨rfl, hb0⟩; obtain ⟨hc0, hf0⟩ := bcell hb0) | (go_at_call 43; (with_reducible refine (szArg_any rk rs rvk rvn rvs _ _ hrs hrvs (by omega) (by omega)).mono ?_); rw [HV1.out]; rintro e w' ⟨rfl, hb1⟩; obtain ⟨hc1, hf1⟩ := bcell hb1))
    go_ret
    exact ⟨ret_int HR.out.symm, (by repeat (first | with_reducible exact bel_refl _ | with_reducible assumption | with_reducible refine bel_set ?_ (by first | (simp; done) | (simp; omega) | omega) _ | with_reducible refine bel_alloc ?_ _ | with_reducible refine bel_drew ?_ | with_reducible refine bel_drewN ?_ _ | with_reducible refine bel_trans ?_ (by assumption)))⟩
  have HR := Lib.hid (szR_fit (left := left) (t := szC ⟨op, ⟨lk, ls, ⟨lvk, lvn, lvs⟩⟩, ⟨rk, rs, ⟨rvk, rvn, rvs⟩⟩⟩) (by simp only [szC]; omega))
  have HV0 := Lib.hid (szR_fit (left := left) (t := szA ⟨lk, ls, ⟨lvk, lvn, lvs⟩⟩) (by first | exact b0 | omega))
  have HV1 := Lib.hid (szR_fit (left := left - ((szA ⟨lk, ls, ⟨lvk, lvn, lvs⟩⟩) : Nat)) (t := szA ⟨rk, rs, ⟨rvk, rvn, rvs⟩⟩) (by first | exact b1 | omega))
  go_enter Tryd.func17, Tryd.ntmps17
  go_wp2_with (first | (go_at_call 43; (with_reducible refine (szArg_any lk ls lvk lvn lvs _ _ hls hlvs (by omega) (by omega)).mono ?_); rw [HV0.out]; rintro e w' ⟨rfl, hb0⟩; obtain ⟨hc0, hf0⟩ := bcell hb0) | (go_at_call 43; (with_reducible refine (szArg_any rk rs rvk rvn rvs _ _ hrs hrvs (by omega) (by omega)).mono ?_); rw [HV1.out]; rintro e w' ⟨rfl, hb1⟩; obtain ⟨hc1, hf1⟩ := bcell hb1))
  go_ret
  exact ⟨ret_int (by rw [HR.out]; simp only [szC]; omega), (by repeat (first | with_reducible exact bel_refl _ | with_reducible assumption | with_reducible refine bel_set ?_ (by first | (simp; done) | (simp; omega) | omega) _ | with_reducible refine bel_alloc ?_ _ | with_reducible refine bel_drew ?_ | with_reducible refine bel_drewN ?_ _ | with_reducible refine bel_trans ?_ (by assumption)))⟩
theorem toCond_any (op : Int) (lk : Int) (ls : ByteArray) (lvk : Int) (lvn : Int) (lvs : ByteArray) (rk : Int) (rs : ByteArray) (rvk : Int) (rvn : Int) (rvs : ByteArray) (w : World) :
    Calls Tryd.prog 19 #[.agg #[.int .i64 op, .int .i64 lk, .string ls, .int .i64 lvk, .int .i64 lvn, .string lvs, .int .i64 rk, .string rs, .int .i64 rvk, .int .i64 rvn, .string rvs]] w fun e w' => e = .returned (.agg #[.int .i64 op, .int .i64 lk, .string ls, .int .i64 lvk, .int .i64 lvn, .string lvs, .int .i64 rk, .string rs, .int .i64 rvk, .int .i64 rvn, .string rvs]) ∧ Below w.heap.size w w' := by
  go_enter Tryd.func19, Tryd.ntmps19
  go_wp2_with fail
  refine (toArg_any lk ls lvk lvn lvs _).mono ?_
  rintro e w0 ⟨rfl, hb⟩
  have hW : Below w.heap.size w w0 := (by repeat (first | with_reducible exact bel_refl _ | with_reducible assumption | with_reducible refine bel_set ?_ (by first | (simp; done) | (simp; omega) | omega) _ | with_reducible refine bel_alloc ?_ _ | with_reducible refine bel_drew ?_ | with_reducible refine bel_drewN ?_ _ | with_reducible refine bel_trans ?_ (by assumption)))
  have HP := (((Blk.new w 38 #[.int .i64 op, .int .i64 lk, .string ls, .int .i64 lvk, .int .i64 lvn, .string lvs, .int .i64 rk, .string rs, .int .i64 rvk, .int .i64 rvn, .string rvs]).alloc _).alloc _).kept hb
  have HR := ((Blk.new (w.alloc _) 44 #[.int .i64 0, .int .i64 0, .string ⟨#[]⟩, .int .i64 0, .int .i64 0, .string ⟨#[]⟩, .int .i64 0, .string ⟨#[]⟩, .int .i64 0, .int .i64 0, .string ⟨#[]⟩]).alloc _).kept hb
  have HO := (Blk.new ((w.alloc _).alloc _) 44 #[.int .i64 op, .int .i64 0, .string ⟨#[]⟩, .int .i64 0, .int .i64 0, .string ⟨#[]⟩, .int .i64 0, .string ⟨#[]⟩, .int .i64 0, .int .i64 0, .string ⟨#[]⟩]).kept hb
  simp at HR HO
  clear hb
  have p0 := HP.cell 0; have o0 := HO.cell 0
  have p1 := HP.cell 1; have o1 := HO.cell 1
  have p2 := HP.cell 2; have o2 := HO.cell 2
  have p3 := HP.cell 3; have o3 := HO.cell 3
  have p4 := HP.cell 4; have o4 := HO.cell 4
  have p5 := HP.cell 5; have o5 := HO.cell 5
  have p6 := HP.cell 6; have o6 := HO.cell 6
  have p7 := HP.cell 7; have o7 := HO.cell 7
  have p8 := HP.cell 8; have o8 := HO.cell 8
  have p9 := HP.cell 9; have o9 := HO.cell 9
  have p10 := HP.cell 10; have o10 := HO.cell 10
  simp at p0 p1 p2 p3 p4 p5 p6 p7 p8 p9 p10 o0 o1 o2 o3 o4 o5 o6 o7 o8 o9 o10
  have fo : ∀ i, w0.frozen? ⟨w.heap.size + 1 + 1, i, none⟩ = false := HO.frozen
  have lP := HP.lt; have lR := HR.lt; have lO := HO.lt
  go_wp2_with fail
  refine (toArg_any rk rs rvk rvn rvs _).mono ?_
  rintro e w1 ⟨rfl, hb⟩
  replace HR := Blk.kept ((((((HR).far (by simp <;> omega) _).far (by simp <;> omega) _).far (by simp <;> omega) _).far (by simp <;> omega) _).far (by simp <;> omega) _) hb
  replace HP := Blk.kept ((((((HP).far (by simp <;> omega) _).far (by simp <;> omega) _).far (by simp <;> omega) _).far (by simp <;> omega) _).far (by simp <;> omega) _) hb
  replace HO := Blk.kept ((((((HO).set_ 1 (.int .i64 lk)).set_ 2 (.string ls)).set_ 3 (.int .i64 lvk)).set_ 4 (.int .i64 lvn)).set_ 5 (.string lvs)) hb
  simp at HO
  clear p0 p1 p2 p3 p4 p5 p6 p7 p8 p9 p10 o0 o1 o2 o3 o4 o5 o6 o7 o8 o9 o10 fo lP lR lO
  have hW : Below w.heap.size w w1 := (by repeat (first | with_reducible exact bel_refl _ | with_reducible assumption | with_reducible refine bel_set ?_ (by first | (simp; done) | (simp; omega) | omega) _ | with_reducible refine bel_alloc ?_ _ | with_reducible refine bel_drew ?_ | with_reducible refine bel_drewN ?_ _ | with_reducible refine bel_trans ?_ (by assumption)))
  clear hb
  have p0 := HP.cell 0; have o0 := HO.cell 0
  have p1 := HP.cell 1; have o1 := HO.cell 1
  have p2 := HP.cell 2; have o2 := HO.cell 2
  have p3 := HP.cell 3; have o3 := HO.cell 3
  have p4 := HP.cell 4; have o4 := HO.cell 4
  have p5 := HP.cell 5; have o5 := HO.cell 5
  have p6 := HP.cell 6; have o6 := HO.cell 6
  have p7 := HP.cell 7; have o7 := HO.cell 7
  have p8 := HP.cell 8; have o8 := HO.cell 8
  have p9 := HP.cell 9; have o9 := HO.cell 9
  have p10 := HP.cell 10; have o10 := HO.cell 10
  simp at p0 p1 p2 p3 p4 p5 p6 p7 p8 p9 p10 o0 o1 o2 o3 o4 o5 o6 o7 o8 o9 o10
  have fo : ∀ i, w1.frozen? ⟨w.heap.size + 1 + 1, i, none⟩ = false := HO.frozen
  have lP := HP.lt; have lR := HR.lt; have lO := HO.lt
  have HO2 := (((((HO).set_ 6 (.int .i64 rk)).set_ 7 (.string rs)).set_ 8 (.int .i64 rvk)).set_ 9 (.int .i64 rvn)).set_ 10 (.string rvs)
  simp at HO2
  have HR2 := (Blk.far (p := ⟨w.heap.size + 1 + 1, 10, none⟩) (Blk.far (p := ⟨w.heap.size + 1 + 1, 9, none⟩) (Blk.far (p := ⟨w.heap.size + 1 + 1, 8, none⟩) (Blk.far (p := ⟨w.heap.size + 1 + 1, 7, none⟩) (Blk.far (p := ⟨w.heap.size + 1 + 1, 6, none⟩) HR (by simp <;> omega) (.int .i64 rk)) (by simp <;> omega) (.string rs)) (by simp <;> omega) (.int .i64 rvk)) (by simp <;> omega) (.int .i64 rvn)) (by simp <;> omega) (.string rvs))
  have hld := Blk.range (cs := [.int .i64 op, .int .i64 lk, .string ls, .int .i64 lvk, .int .i64 lvn, .string lvs, .int .i64 rk, .string rs, .int .i64 rvk, .int .i64 rvn, .string rvs]) HO2
  clear p0 p1 p2 p3 p4 p5 p6 p7 p8 p9 p10
  go_upto_region 5 with fail
  refine wp_region_lit ?_
  refine wpList_load_mid (by rfl) 44 (.tmp 3) (by rfl) _ 0 (by rfl) _ _ hld Tryd.underlying44 (by rfl) (by kernel_rfl) ?_
  refine wpList_store_blk (by rfl) 44 (.tmp 2) (.tmp 15) (by rfl) _ [.int .i64 op, .int .i64 lk, .string ls, .int .i64 lvk, .int .i64 lvn, .string lvs, .int .i64 rk, .string rs, .int .i64 rvk, .int .i64 rvn, .string rvs] (by rfl) (by rfl) HR2 (by rfl) (by kernel_rfl) (by simp [Value.oneCell']) w (by repeat (first | with_reducible exact bel_refl _ | with_reducible assumption | with_reducible refine bel_set ?_ (by first | (simp; done) | (simp; omega) | omega) _ | with_reducible refine bel_alloc ?_ _ | with_reducible refine bel_drew ?_ | with_reducible refine bel_drewN ?_ _ | with_reducible refine bel_trans ?_ (by assumption))) (by omega) ?_
  intro W' hres hbl
  go_wp2
  exact ret_row (cs := [.int .i64 op, .int .i64 lk, .string ls, .int .i64 lvk, .int .i64 lvn, .string lvs, .int .i64 rk, .string rs, .int .i64 rvk, .int .i64 rvn, .string rvs]) (by rfl) (by rfl) hres Tryd.underlying44 (by rfl) (by kernel_rfl) (by rfl) ⟨rfl, hbl⟩
end Go.Proofs.YtnncdibojclhnaaDoor
