/- Appending to a row of the call's own: which blocks are left alone, and where the new row lies. -/
import Derived.Test.YtcbbefibebkfgaaGreatDoorPut2
namespace Go.Proofs.YtcbbefibebkfgaaGreatDoor
open Go.RowKit
set_option maxRecDepth 100000
set_option maxHeartbeats 2000000

theorem own_more {w : World} {base b2 : Nat} {e : TypeId} {size n : Nat} {v : Value} {xs : List Value} (h : w.ownsRow b2 e size v n xs) (hb : base ≤ b2) : w.ownsRow base e size v n xs := by
  refine ⟨h.1, ?_⟩
  rcases h.2 with hn | ⟨g, cap, cur, rfl, hb', rest⟩
  · exact .inl hn
  · exact .inr ⟨g, cap, cur, rfl, Nat.le_trans hb hb', rest⟩
/-- the new row lies where the old one lay, or in a new block -/
def Kin (w : World) (v v' : Value) : Prop := ∀ k, v'.ownBlock = some k → v.ownBlock = some k ∨ w.heap.size ≤ k
theorem Kin.refl (w : World) (v : Value) : Kin w v v := fun _ h => .inl h
theorem Kin.trans {w w1 : World} {v v1 v2 : Value} (h : Kin w v v1) (hs : w.heap.size ≤ w1.heap.size) (k : Kin w1 v1 v2) : Kin w v v2 := fun j hj => by
  rcases k j hj with h1 | h1
  · exact h j h1
  · exact .inr (by omega)
/-- what of the old world is left alone -/
def Far (w w' : World) (v : Value) : Prop := w.grownBy w' v.ownBlock
theorem Far.refl (w : World) (v : Value) : Far w w v := World.grownBy.refl w _
theorem Far.trans {w w1 w2 : World} {v v1 : Value} (h : Far w w1 v) (k : Kin w v v1) (h2 : Far w1 w2 v1) : Far w w2 v :=
  ⟨h2.os.trans h.os, h2.tape.trans h.tape, h2.output.trans h.output, Nat.le_trans h.size h2.size, fun i hi hne =>
    (h2.block i (Nat.lt_of_lt_of_le hi h.size) (fun e => by
      rcases k i e.symm with h3 | h3
      · exact hne h3.symm
      · omega)).trans (h.block i hi hne)⟩
theorem Far.alloc {w w' : World} {v : Value} (h : Far w w' v) (o : Obj) : Far w (w'.alloc o) v :=
  ⟨h.os, h.tape, h.output, by have := h.size; simp; omega, fun i hi hne => (heap_alloc_old w' o (Nat.lt_of_lt_of_le hi h.size)).trans (h.block i hi hne)⟩
theorem Far.old {w w1 : World} {o : Obj} {v : Value} (h : Far (w.alloc o) w1 v) : Far w w1 v :=
  ⟨h.os, h.tape, h.output, by have := h.size; simp at this; omega, fun i hi hne => (h.block i (by simp; omega) hne).trans (heap_alloc_old w o hi)⟩
theorem Kin.old {w : World} {o : Obj} {v v1 : Value} (h : Kin (w.alloc o) v v1) : Kin w v v1 := fun j hj => by
  rcases h j hj with h1 | h1
  · exact .inl h1
  · exact .inr (by simp at h1; omega)
theorem Far.below {w w' : World} {base : Nat} {v : Value} (h : Far w w' v) (hv : ∀ k, v.ownBlock = some k → base ≤ k) (hb : base ≤ w.heap.size) : Below base w w' :=
  (Below.refl base w).grown h hb hv
theorem Far.cell {w w' : World} {v : Value} {b o : Nat} {x : Value} (h : Far w w' v) (hv : v.ownBlock ≠ some b) (hc : w.cell? ⟨b, o, none⟩ = some x) : w'.cell? ⟨b, o, none⟩ = some x :=
  (World.cell?_of_block (a := ⟨b, o, none⟩) (h.block b (cell_lt hc) (fun e => hv e.symm))).trans hc
theorem kin_of {w : World} {v v' : Value} {g : Nat} (h : v'.ownBlock = some g) (hg : v.ownBlock = some g ∨ w.heap.size ≤ g) : Kin w v v' := fun k hk => by
  rw [h] at hk; injection hk with hk; subst hk; exact hg

theorem run_append_kin {P : Program} (w : World) (base : Nat) (t ty e : TypeId) (i : TypeInfo) (z : Value) (size bytes : Nat) (ht : P.underlying t = some (.slice e)) (hi : P.info? e = some i) (hz : i.zero = some z)
    (hsize : i.size = size) (hby : i.bytes = bytes)
    (v : Value) (n : Nat) (xs : List Value) (hown : w.ownsRow base e size v n xs)
    (B : Nat) (A : Option Addr) (m c : Nat) (news : List Value) (hr : Rd w B size A m news) (h1 : ∀ u ∈ news, u.oneCell' = true)
    (h63 : n + m ≤ maxLen) (hbytes : (n + m) * bytes ≤ 140737488355328)
    (v' : Value) (w' : World) (hrun : (Builtin.append_ #[t, t] ty #[v, .slice A m c]).run P w = .ok v' w') (hg' : w.grownBy w' v.ownBlock) : Kin w v v' := by
  have hsmall : n + m ≤ 9223372036854775807 := by simp only [maxLen] at h63; omega
  rcases A with _ | ad
  · have hm : m = 0 := by
      rcases Nat.eq_zero_or_pos m with h0 | h0
      · exact h0
      · obtain ⟨_, _, h, _⟩ := hr.2 h0
        cases h
    subst hm
    have : v' = v := by
      rcases hown.2 with ⟨rfl, rfl⟩ | ⟨g, cap, cur, rfl, _, _, hnc, _⟩
      · simp [Builtin.append_, run_underlying ht, sizeOf, typeInfo, hi, Builtin.lenOf, Builtin.firstCells] at hrun
        exact hrun.1.symm
      · simp [Builtin.append_, run_underlying ht, sizeOf, typeInfo, hi, Builtin.lenOf, Builtin.firstCells, hnc, storeCells] at hrun
        exact hrun.1.symm
    rw [this]
    exact Kin.refl w v
  · have hcells : ∀ j u, news[j]? = some u → w.cell? (ad.add j) = some u := by
      intro j u hu
      rcases Nat.eq_zero_or_pos m with h0 | h0
      · subst h0
        have hn : news = [] := List.eq_nil_of_length_eq_zero (by simpa using hr.1)
        subst hn
        simp at hu
      · obtain ⟨b, o, h, _, hc⟩ := hr.2 h0
        injection h with h
        subst h
        rw [add_lit']
        exact hc j u hu
    have hl : news.length = m * i.size := by rw [hsize]; exact hr.1
    rcases hown.2 with ⟨rfl, rfl⟩ | ⟨g, cap, cur, rfl, hbg, hg, hnc, hcm, hcs, htake⟩
    · by_cases hm : m = 0
      · subst hm
        have hn : news = [] := List.eq_nil_of_length_eq_zero (by simpa using hl)
        subst hn
        have : (Builtin.append_ #[t, t] ty #[.slice none 0 0, .slice (some ad) 0 c]).run P w = .ok (.slice none 0 0) w := by
          simp [Builtin.append_, run_underlying ht, sizeOf, typeInfo, hi, Builtin.lenOf, Builtin.firstCells, loadCells, loadCellsFrom]
        rw [this] at hrun
        injection hrun with h1 _
        rw [← h1]
        exact Kin.refl w _
      · have hr' := run_append_nil (P := P) w t ty e i z ht hi hz ad m c news hl hcells (by omega) (by omega) (by rw [hby]; simp only [Nat.zero_add] at hbytes; omega)
        rw [hr'] at hrun
        injection hrun with h1 _
        rw [← h1]
        exact kin_of rfl (.inr (Nat.le_refl _))
    · by_cases hroom : n + m ≤ cap
      · have hfit : n * i.size + news.length ≤ cur.size := by rw [hl, hcs, ← hsize, ← Nat.add_mul]; exact Nat.mul_le_mul_right _ hroom
        have hr' := run_append_room (P := P) w t ty e i ht hi g n cap cur hg ad m c news hl hcells h1 hroom hfit
        rw [hr'] at hrun
        injection hrun with h1 _
        rw [← h1]
        exact kin_of rfl (.inl rfl)
      · have holds : ∀ j u, xs[j]? = some u → w.cell? ((⟨g, 0, none⟩ : Addr).add j) = some u := hown.cells (g := g) rfl
        have hr' := run_append_grow (P := P) w t ty e i z ht hi hz ⟨g, 0, none⟩ n cap xs (by rw [hsize]; exact hown.1) holds ad m c news hl hcells (by omega) (by omega) (growslice_fits (by omega) (by rw [hby]; exact hbytes))
        rw [hr'] at hrun
        injection hrun with h1 _
        rw [← h1]
        exact kin_of rfl (.inr (Nat.le_refl _))
/-- append of whatever row to a row of the call's own, with where it lies -/
theorem wp_append_kin {P : Program} {w : World} {o : Oper} {a : Act} {K : Act → World → Prop} {Q : Exit → Act → World → Prop} (s x : Operand) (t : TypeId)
    (ho : o.op = .call { callee := .builtin .append, args := #[s, x], argTypes := #[t, t] })
    (base : Nat) (e : TypeId) (i : TypeInfo) (z : Value) (size bytes : Nat) (ht : P.underlying t = some (.slice e)) (hi : P.info? e = some i) (hz : i.zero = some z)
    (hsize : i.size = size) (hby : i.bytes = bytes) (hzs : z.cells.size = size) (hsz : 0 < size)
    (v : Value) (n : Nat) (xs : List Value) (hs : a.eval s = v) (hown : w.ownsRow base e size v n xs)
    (B : Nat) (A : Option Addr) (m c : Nat) (news : List Value) (hx : a.eval x = .slice A m c) (hr : Rd w B size A m news) (h1 : ∀ u ∈ news, u.oneCell' = true)
    (h63 : n + m ≤ maxLen) (hbytes : (n + m) * bytes ≤ 140737488355328) (hbase : base ≤ w.heap.size)
    (h : ∀ v' w', w'.ownsRow base e size v' (n + m) (xs ++ news) → Far w w' v → Kin w v v' → K (a.put o.dst v') w') : o.wp P a w K Q := by
  obtain ⟨v', w', hrun, h2, h3⟩ := run_append_any (P := P) w base t o.type e i z size bytes ht hi hz hsize hby hzs hsz v n xs hown B A m c news hr h1 h63 hbytes hbase
  have hk := run_append_kin (P := P) w base t o.type e i z size bytes ht hi hz hsize hby v n xs hown B A m c news hr h1 h63 hbytes v' w' hrun h3
  unfold Oper.wp execOp
  simp only [ho, resolve, invoke, builtin, Sem.run_bind, Sem.run_pure, Result.andThen_ok, List.map_toArray, List.map_cons, List.map_nil, hs, hx, hrun]
  exact h v' w' h2 h3 hk
theorem wpList_append_kin {P : Program} {w : World} {ops : Array Oper} {rest : List Oper} {o : Oper} {a : Act} {Q : Exit → Act → World → Prop} (hgd : o.guard = none) (s x : Operand) (t : TypeId)
    (ho : o.op = .call { callee := .builtin .append, args := #[s, x], argTypes := #[t, t] })
    (base : Nat) (e : TypeId) (i : TypeInfo) (z : Value) (size bytes : Nat) (ht : P.underlying t = some (.slice e)) (hi : P.info? e = some i) (hz : i.zero = some z)
    (hsize : i.size = size) (hby : i.bytes = bytes) (hzs : z.cells.size = size) (hsz : 0 < size)
    (v : Value) (n : Nat) (xs : List Value) (hs : a.eval s = v) (hown : w.ownsRow base e size v n xs)
    (B : Nat) (A : Option Addr) (m c : Nat) (news : List Value) (hx : a.eval x = .slice A m c) (hr : Rd w B size A m news) (h1 : ∀ u ∈ news, u.oneCell' = true)
    (h63 : n + m ≤ maxLen) (hbytes : (n + m) * bytes ≤ 140737488355328) (hbase : base ≤ w.heap.size)
    (h : ∀ v' w', w'.ownsRow base e size v' (n + m) (xs ++ news) → Far w w' v → Kin w v v' → wpList P ops Q rest (a.put o.dst v') w') : wpList P ops Q (o :: rest) a w :=
  wpList_plain hgd fun _ hK => wp_append_kin s x t ho base e i z size bytes ht hi hz hsize hby hzs hsz v n xs hs hown B A m c news hx hr h1 h63 hbytes hbase fun v' w' h2 h3 h4 => hK _ _ (h v' w' h2 h3 h4)
theorem far_byte {P : Program} {w : World} {ops : Array Oper} {rest : List Oper} {o : Oper} {a : Act} {Q : Exit → Act → World → Prop} (hgd : o.guard = none) (s x : Operand) (t : TypeId)
    (ho : o.op = .call { callee := .builtin .append, args := #[s, x], argTypes := #[t, t] })
    (base : Nat) (e : TypeId) (i : TypeInfo) (ht : P.underlying t = some (.slice e)) (hi : P.info? e = some i) (hz : i.zero = some (.int .u8 0)) (hsize : i.size = 1) (hby : i.bytes = 1)
    (v : Value) (bs : List UInt8) (hs : a.eval s = v) (hown : OwnB w base e v bs) (A : Option Addr) (m c : Nat) (news : List UInt8) (B : Nat) (hx : a.eval x = .slice A m c) (hr : RdB w B A m news)
    (h63 : bs.length + m ≤ 140737488355328) (hbase : base ≤ w.heap.size)
    (h : ∀ v' w', OwnB w' base e v' (bs ++ news) → Far w w' v → Kin w v v' → wpList P ops Q rest (a.put o.dst v') w') : wpList P ops Q (o :: rest) a w := by
  have hl := hr.len
  refine wpList_append_kin hgd s x t ho base e i _ 1 1 ht hi hz hsize hby rfl (by omega) v bs.length _ hs hown B A m c _ hx hr (bv_one _) (by simp only [maxLen]; omega) (by omega) hbase fun v' w' h1 h2 h3 => ?_
  refine h v' w' ?_ h2 h3
  unfold OwnB
  rw [List.map_append, List.length_append, hl]
  exact h1

theorem run_append_string_kin {P : Program} (w : World) (base : Nat) (t u ty e : TypeId) (i : TypeInfo) (ht : P.underlying t = some (.slice e)) (hu : P.underlying u = some .string) (hi : P.info? e = some i) (hz : i.zero = some (.int .u8 0))
    (hsize : i.size = 1) (hby : i.bytes = 1)
    (v : Value) (n : Nat) (xs : List Value) (hown : w.ownsRow base e 1 v n xs) (s : ByteArray)
    (h63 : n + s.size ≤ maxLen) (hbytes : n + s.size ≤ 140737488355328)
    (v' : Value) (w' : World) (hrun : (Builtin.append_ #[t, u] ty #[v, .string s]).run P w = .ok v' w') : Kin w v v' := by
  have hsmall : n + s.size ≤ 9223372036854775807 := by simp only [maxLen] at h63; omega
  have hxl : xs.length = n := by simpa using hown.1
  rcases hown.2 with ⟨rfl, rfl⟩ | ⟨g, cap, cur, rfl, hbg, hg, hnc, hcm, hcs, htake⟩
  · by_cases hm : s.size = 0
    · have hf := Lib.run_firstCells_string (P := P) w 1 s
      rw [hm] at hf
      have : (Builtin.append_ #[t, u] ty #[.slice none 0 0, .string s]).run P w = .ok (.slice none 0 0) w := by
        simp [Builtin.append_, run_underlying ht, run_underlying hu, sizeOf, typeInfo, hi, hsize, Builtin.lenOf, hm, hf]
      rw [this] at hrun
      injection hrun with h1 _
      rw [← h1]
      exact Kin.refl w _
    · have hr := run_append_nil_string (P := P) w t u ty e i (.int .u8 0) ht hu hi hz s (by omega) (by omega) (by rw [hby]; omega)
      rw [hr] at hrun
      injection hrun with h1 _
      rw [← h1]
      exact kin_of rfl (.inr (Nat.le_refl _))
  · by_cases hroom : n + s.size ≤ cap
    · have hcs' : cur.size = cap := by simpa using hcs
      have hr := Lib.run_append_room_string (P := P) w t u ty e i ht hu hi hsize g n cap cur hg s hroom (by omega)
      rw [hr] at hrun
      injection hrun with h1 _
      rw [← h1]
      exact kin_of rfl (.inl rfl)
    · have holds : ∀ j u, xs[j]? = some u → w.cell? ((⟨g, 0, none⟩ : Addr).add j) = some u := hown.cells (g := g) rfl
      have hr := Lib.run_append_grow_string (P := P) w t u ty e i (.int .u8 0) ht hu hi hz ⟨g, 0, none⟩ n cap xs (by rw [hsize]; simpa using hxl) holds s (by omega) (by omega) (by rw [hby]; exact growslice_fits (by omega) (by omega))
      rw [hr] at hrun
      injection hrun with h1 _
      rw [← h1]
      exact kin_of rfl (.inr (Nat.le_refl _))
theorem far_str {P : Program} {w : World} {ops : Array Oper} {rest : List Oper} {o : Oper} {a : Act} {Q : Exit → Act → World → Prop} (hgd : o.guard = none) (sl x : Operand) (t u : TypeId)
    (ho : o.op = .call { callee := .builtin .append, args := #[sl, x], argTypes := #[t, u] })
    (base : Nat) (e : TypeId) (i : TypeInfo) (ht : P.underlying t = some (.slice e)) (hu : P.underlying u = some .string) (hi : P.info? e = some i) (hz : i.zero = some (.int .u8 0)) (hsize : i.size = 1) (hby : i.bytes = 1)
    (v : Value) (bs : List UInt8) (hs : a.eval sl = v) (hown : OwnB w base e v bs) (s : ByteArray) (hx : a.eval x = .string s)
    (h63 : bs.length + s.size ≤ 140737488355328) (hbase : base ≤ w.heap.size)
    (h : ∀ v' w', OwnB w' base e v' (bs ++ s.data.toList) → Far w w' v → Kin w v v' → wpList P ops Q rest (a.put o.dst v') w') : wpList P ops Q (o :: rest) a w :=
  wpList_plain hgd fun K hK => by
    obtain ⟨v', w', hrun, h2, h3, _⟩ := Lib.run_append_own_string (P := P) w base t u o.type e i ht hu hi hz hsize hby v bs.length _ hown s (by simp only [maxLen]; omega) h63 hbase
    have hk := run_append_string_kin (P := P) w base t u o.type e i ht hu hi hz hsize hby v bs.length _ hown s (by simp only [maxLen]; omega) h63 v' w' hrun
    unfold Oper.wp execOp
    simp only [ho, resolve, invoke, builtin, Sem.run_bind, Sem.run_pure, Result.andThen_ok, List.map_toArray, List.map_cons, List.map_nil, hs, hx, hrun]
    refine hK _ _ (h v' w' ?_ h3 hk)
    unfold OwnB
    rw [List.map_append, List.length_append, size_data]
    exact h2
theorem putNumF (v : Value) (bs : List UInt8) (n : Int) (w : World) (base : Nat) (ho : OwnB w base 5 v bs) (hb : base ≤ w.heap.size) (hl : bs.length ≤ 70368744177664) :
    Calls Tryz.prog 62 #[v, .int .i64 n] w fun e w' => ∃ v', e = .returned v' ∧ OwnB w' base 5 v' (bs ++ putN n) ∧ Far w w' v ∧ Kin w v v' := by
  obtain ⟨i0, hi, hz0, hz1, hz2⟩ := info_parts info8
  have hlt := encN_lt n
  have HO := Lib.hid ho; clear ho
  have HI := Lib.hid hi; clear hi
  rcases enc_cases n with ⟨h1, he⟩ | ⟨h1, h2, he⟩ | ⟨h1, h2, he⟩ | ⟨h1, he⟩
  all_goals
    have HE := Lib.hid he; clear he
    go_enter Tryz.func62, Tryz.ntmps62
    go_wp2
    go_loopw [0, 5] (fun u m wr => ∃ (ys : List UInt8) (k f : Nat), m = .int .i64 k ∧ OwnB wr base 5 u (bs ++ ys) ∧ ys ++ numB f k = numB 5 (encN n) ∧ k < 128 ^ f ∧ k ≤ 2000000000 ∧ 0 < f ∧ ys.length + f ≤ 5 ∧ Far w wr v ∧ Kin w v u) (fun _ m _ => (intOf m).toNat)
    case atStart => exact ⟨[], encN n, 5, by rw [HE.out], by simpa using HO.out, rfl, Nat.lt_of_le_of_lt hlt (by decide), hlt, by omega, by simp, Far.refl _ _, Kin.refl _ _⟩
    case round =>
      obtain ⟨ys, k, f, rfl, hown, hy, hk, hk2, hf, hyl, hfar, hkin⟩ := hrel
      have hsz := hfar.size
      have HY := Lib.hid hy; clear hy
      have HK := Lib.hid hk; clear hk
      have HOW := Lib.hid hown; clear hown
      obtain ⟨f, rfl⟩ : ∃ f', f = f' + 1 := ⟨f - 1, by omega⟩
      by_cases h128 : 127 < k
      · go_wp2_with (at_builtin; refine far_byte rfl (.tmp 18) (.tmp 23) _ rfl base 5 i0 Tryz.underlying22 HI.out hz0 hz1 hz2 _ _ rfl (HOW.out.kept ((Below.refl _ _).alloc (Nat.le_refl _) _)) _ 1 1 _ _ rfl (RdB.one wr 5 (128 + (k : Int) % 128) (by omega) (by omega)) (by simp; omega) (by simp; omega) ?_; intro v' w' ho' hf' hk'; have hbel' : Far w w' v := hfar.trans hkin hf'.old; have hsz' : Kin w v v' := hkin.trans hsz hk'.old)
        go_round
        case rel => exact ⟨ys ++ [UInt8.ofNat (128 + k % 128)], k / 128, f, by go_num, by rw [← List.append_assoc]; exact own_eq ho' (ofN (by omega)), by rw [List.append_assoc, ← HY.out]; rw [numB, if_pos h128]; rfl, div_lt HK.out, by omega, pos_of_lt HK.out h128, by simp; omega, hbel', hsz'⟩
        case measure => simp [intOf]; omega
      · go_wp2_with (at_builtin; refine far_byte rfl (.tmp 27) (.tmp 30) _ rfl base 5 i0 Tryz.underlying22 HI.out hz0 hz1 hz2 _ _ rfl (HOW.out.kept ((Below.refl _ _).alloc (Nat.le_refl _) _)) _ 1 1 _ _ rfl (RdB.one wr 5 (k : Int) (by omega) (by omega)) (by simp; omega) (by simp; omega) ?_; intro v' w' ho' hf' hk'; have hbel' : Far w w' v := hfar.trans hkin hf'.old; have hsz' : Kin w v v' := hkin.trans hsz hk'.old)
        go_ret
        refine ⟨_, rfl, ?_, hbel', hsz'⟩
        unfold putN
        rw [← HY.out, numB, if_neg h128, ← List.append_assoc]
        exact own_eq ho' (ofN rfl)
theorem putTextF (v : Value) (bs : List UInt8) (s : ByteArray) (w : World) (base : Nat) (ho : OwnB w base 5 v bs) (hb : base ≤ w.heap.size) (hl : bs.length ≤ 70368744177600) (hs : s.size ≤ 70368744177664) :
    Calls Tryz.prog 63 #[v, .string s] w fun e w' => ∃ v', e = .returned v' ∧ OwnB w' base 5 v' (bs ++ putN s.size ++ s.data.toList) ∧ Far w w' v ∧ Kin w v v' := by
  obtain ⟨i0, hi, hz0, hz1, hz2⟩ := info_parts info8
  have hlp := putN_len s.size
  have HI := Lib.hid hi; clear hi
  go_enter Tryz.func63, Tryz.ntmps63
  go_wp2_with fail
  refine (putNumF v bs s.size w base ho hb (by omega)).mono ?_
  rintro e w1 ⟨v1, rfl, ho1, hf1, hk1⟩
  have hs1 := hf1.size
  go_wp2_with (at_builtin; refine far_str rfl (.tmp 8) (.tmp 9) _ _ rfl base 5 i0 Tryz.underlying22 Tryz.underlying9 HI.out hz0 hz1 hz2 _ _ rfl ho1 s rfl (by simp; omega) (by omega) ?_; intro v2 w2 ho2 hf2 hk2)
  go_ret
  exact ⟨_, rfl, ho2, hf1.trans hk1 hf2, hk1.trans hs1 hk2⟩
end Go.Proofs.YtcbbefibebkfgaaGreatDoor
