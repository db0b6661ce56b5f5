/- An item is taken out of a store, by the program and by the reference. No condition but lengths. -/
import Derived.Test.YtndhjijcicebkaaAssert2
import Derived.Test.YtndhjijcicebkaaLit
namespace Go.Proofs.Ytndhjijcicebkaa
open Go.RowKit
set_option maxRecDepth 100000
set_option maxHeartbeats 4000000
theorem OwnT.front_ {α : Type} {f : α → List Value} {z : Nat} {w : World} {base : Nat} {e : TypeId} {A : Option Addr} {n c : Nat} {xs : List α} (hf : Sz f z) (h : OwnT f z w base e (.slice A n c) xs) (k : Nat) (hk : k ≤ xs.length) : OwnT f z w base e (.slice A k c) (xs.take k) := by
  have hl : (xs.take k).length = k := by rw [List.length_take]; omega
  refine ⟨by rw [fl_len hf, hl], ?_⟩
  rcases h.2 with ⟨hv, h0⟩ | ⟨g, cap, cur, hv, hb, hg, h1, h2, h3, h4⟩
  · left
    injection hv with e1 e2 e3
    subst e1 e3
    obtain rfl : k = 0 := by omega
    exact ⟨rfl, hl⟩
  · right
    injection hv with e1 e2 e3
    subst e1 e3
    refine ⟨g, c, cur, by rw [hl], hb, hg, by omega, h2, h3, ?_⟩
    have e : fl f xs = fl f (xs.take k) ++ fl f (xs.drop k) := by rw [← fl_append, List.take_append_drop]
    have h5 : (fl f xs).take (k * z) = fl f (xs.take k) := by rw [e]; exact List.take_left' (by rw [fl_len hf, hl])
    rw [hl, ← h5, ← h4, List.take_take]
    congr 1
    have : k * z ≤ xs.length * z := Nat.mul_le_mul_right _ hk
    omega
theorem RdT.back {α : Type} {f : α → List Value} {z : Nat} {w : World} {B b o n : Nat} {xs : List α} (hf : Sz f z) (h : RdT f z w B (some ⟨b, o, none⟩) n xs) (k : Nat) (hk : k ≤ n) : RdT f z w B (some ⟨b, o + k * z, none⟩) (n - k) (xs.drop k) := by
  have hl := h.1
  refine ⟨by rw [List.length_drop, hl], by rw [fl_len hf, List.length_drop, hl], fun h0 => ?_⟩
  obtain ⟨b', o', e, hb, hc⟩ := h.2.2 (by omega)
  injection e with e
  injection e with e1 e2
  subst e1 e2
  refine ⟨b, o + k * z, rfl, hb, fun j u hu => ?_⟩
  have e : fl f xs = fl f (xs.take k) ++ fl f (xs.drop k) := by rw [← fl_append, List.take_append_drop]
  have hlt : (fl f (xs.take k)).length = k * z := by rw [fl_len hf, List.length_take, hl, Nat.min_eq_left hk]
  have h5 : (fl f xs)[k * z + j]? = some u := by
    rw [e, List.getElem?_append_right (by omega), hlt, Nat.add_sub_cancel_left]
    exact hu
  have := hc (k * z + j) u h5
  rw [← Nat.add_assoc] at this
  exact this
theorem take_drop_sub : ∀ (l : List IR) (k : Nat), (l.take k ++ l.drop (k + 1)).Sublist l
  | [], _ => by simp
  | a :: l, 0 => by simp
  | a :: l, k + 1 => by
    rw [List.take_succ_cons, List.drop_succ_cons, List.cons_append]
    exact (take_drop_sub l k).cons_cons a
theorem filter_map_it (rs : List IR) (id : Int) : (rs.filter fun r => decide (r.id ≠ id)).map itOf = dropI (rs.map itOf) id := by
  unfold dropI
  rw [List.filter_map]
  rfl
theorem filter_take {rs : List IR} {k : Nat} (p : IR → Bool) (h : k < rs.length) : (rs.take (k + 1)).filter p = (rs.take k).filter p ++ (if p rs[k] then [rs[k]] else []) := by
  rw [List.take_succ_eq_append_getElem h, List.filter_append, List.filter_cons]
  rfl
theorem OwnI.sub {w w' : World} {base : Nat} {v v' : Value} {rs qs : List IR} (h : OwnI w base v rs) (h2 : OwnT irC 3 w' base 55 v' qs) (hsub : qs.Sublist rs) (hk : ∀ r ∈ qs, OwnT vC 3 w' base 90 (ownV r) r.fs) : OwnI w' base v' qs :=
  ⟨h2, hk, h.2.2.sublist hsub⟩
theorem l4Drop_any (g : Nat) (A : Option Addr) (n c : Nat) (rs : List IR) (nx id : Int) (w : World) (base : Nat) (HB : Blk w g 32 #[.slice A n c, .int .i64 nx]) (ho : OwnI w base (.slice A n c) rs) (hl : rs.length = n) (hg : base ≤ g) (hn : n ≤ 1048576) :
    Calls Try.prog 48 #[.pointer (some ⟨g, 0, none⟩), .int .i64 id] w fun e w' => ∃ A' c' qs, e = .returned (.bool (decide ((dropI (rs.map itOf) id).length < n))) ∧ qs.length ≤ c' ∧ qs.map itOf = dropI (rs.map itOf) id ∧ Blk w' g 32 #[.slice A' qs.length c', .int .i64 nx] ∧ OwnI w' base (.slice A' qs.length c') qs ∧ Below base w w' := by
  obtain ⟨i0, hi, hz0, hz1, hz2⟩ := info_parts infoItem
  have HI := Lib.hid hi; clear hi
  have HL := Lib.hid hl; clear hl
  have hgl := HB.lt
  have hbw : base ≤ w.heap.size := by omega
  obtain ⟨p, hp⟩ : ∃ p : IR → Bool, (fun r => decide (r.id ≠ id)) = p := ⟨_, rfl⟩
  have HP := Lib.hid hp; clear hp
  go_enter Try.func48, Try.ntmps48
  go_wp2
  go_loopw [5, 6] (fun u i wr => ∃ (k Q : Nat) (A' : Option Addr) (c' : Nat) (qs : List IR), k ≤ n ∧ i = .int .i64 k ∧ u = .slice A' Q c' ∧ qs.length = Q ∧ Q ≤ c' ∧ qs = (rs.take k).filter p ∧ OwnT irC 3 wr w.heap.size 55 (.slice A' Q c') qs ∧ Below w.heap.size w wr ∧ w.heap.size ≤ wr.heap.size) (fun _ i _ => n - (intOf i).toNat)
  case atStart => exact ⟨0, 0, _, _, [], Nat.zero_le _, rfl, rfl, rfl, Nat.zero_le _, rfl, lit0 w 55, (by repeat (first | with_reducible exact bel_refl _ | with_reducible assumption | with_reducible refine bel_set ?_ (by first | (simp; done) | (simp; omega) | omega) _ | with_reducible refine bel_alloc ?_ _ | with_reducible refine bel_drew ?_ | with_reducible refine bel_drewN ?_ _ | with_reducible refine bel_trans ?_ (by assumption))), by simp⟩
  case round =>
    obtain ⟨k, Q, A', c', qs, hk, rfl, rfl, hQ, hqc, hqs, hq, hbel, hsz⟩ := hrel
    have HQ := Lib.hid hQ; clear hQ
    have HQS := Lib.hid hqs; clear hqs
    have HBr := HB.kept hbel
    obtain ⟨y0, y1, fy0, fy1⟩ := HBr.two
    by_cases hlt : k < n
    · have hri : RdI wr wr.heap.size A n rs := (ho.kept hbel).rdM HL.out
      obtain ⟨b, o, rfl, hb0, hc⟩ := hri.at_ (by omega)
      obtain ⟨rid, kd, Ai, ci, fs, he, p0, p1, p2, _⟩ := hc k hlt
      clear hc
      have hkl : k < rs.length := by rw [HL.out]; exact hlt
      have hft := filter_take p hkl
      rw [he] at hft
      have hj0 : (0:Int) ≤ (k : Int) := by omega
      have hj1 : (k:Int) < (n : Int) := by omega
      have hql : Q ≤ k := by rw [← HQ.out, HQS.out]; exact Nat.le_trans (List.length_filter_le _ _) (by rw [List.length_take]; omega)
      clear he
      by_cases hid : rid = id
      · have hpf : p ⟨rid, kd, Ai, ci, fs⟩ = false := by rw [← HP.out]; simp [hid]
        rw [hpf, if_neg (by decide), List.append_nil] at hft
        have HF := Lib.hid hft; clear hft hpf
        have hidb : (rid == id) = true := by simp; exact hid
        clear hid
        go_wp2
        go_roundw
        case rel => exact ⟨k + 1, Q, A', c', qs, by omega, by go_num, rfl, HQ.out, hqc, by rw [HF.out]; exact HQS.out, hq, hbel, hsz⟩
        case measure => simp [intOf]; omega
      · have hpt : p ⟨rid, kd, Ai, ci, fs⟩ = true := by rw [← HP.out]; simp [hid]
        rw [hpt, if_pos rfl] at hft
        have HF := Lib.hid hft; clear hft hpt
        have hidb : (rid == id) = false := by simp; exact hid
        clear hid
        go_wp2_with (at_builtin; refine appT rfl (.tmp 28) (.tmp 36) _ rfl irC_sz w.heap.size 55 i0 Try.underlying30 HI.out hz0 hz1 hz2 rfl (by omega) _ qs rfl (hq.alloc _) _ 1 1 [⟨rid, kd, Ai, ci, fs⟩] rfl (RdT.new1 irC_sz wr 55 ⟨rid, kd, Ai, ci, fs⟩) (irC_one _) (by have := HQ.out; omega) (by simp; omega) ?_ (by have := HQ.out; omega); intro v' w4 ho4 hb4 hs4; have hl6 : (qs ++ [(⟨rid, kd, Ai, ci, fs⟩ : IR)]).length = Q + 1 := (by rw [List.length_append, HQ.out]; rfl); obtain ⟨A4, c4, hv4, hc4, _⟩ := ho4.form; rw [hl6] at hv4 hc4; subst hv4; have HL6 := Lib.hid hl6; clear hl6)
        simp at hs4
        go_roundw
        case rel => exact ⟨k + 1, Q + 1, A4, c4, qs ++ [⟨rid, kd, Ai, ci, fs⟩], by omega, by go_num, rfl, HL6.out, hc4, by rw [HF.out, ← HQS.out], ho4, (bel_alloc hbel _).trans hb4, by omega⟩
        case measure => simp [intOf]; omega
    · have hkn : k = n := by omega
      have hfin : qs = rs.filter p := by rw [HQS.out, List.take_of_length_le (by rw [HL.out]; omega)]
      have hql : Q = (dropI (rs.map itOf) id).length := by rw [← filter_map_it, HP.out, ← hfin, List.length_map, HQ.out]
      have HFIN := Lib.hid hfin
      have hres : decide ((dropI (rs.map itOf) id).length < n) = decide ((Q : Int) < (n : Int)) := by
        rw [← hql]
        exact decide_eq_decide.2 ⟨fun h => by omega, fun h => by omega⟩
      have HRE := Lib.hid hres
      clear hfin hql HQS hres
      have HB7 : Blk (wr.setCell ⟨g, 0, none⟩ (.slice A' Q c')) g 32 #[.slice A' Q c', .int .i64 nx] := by have := HBr.set_ 0 (.slice A' Q c'); simpa using this
      have hq7 := own_set_ne (hq.lower hbw) (p := ⟨g, 0, none⟩) (own_blk_ne hq HBr (by decide)) (.slice A' Q c')
      have hb7 : Below base w (wr.setCell ⟨g, 0, none⟩ (.slice A' Q c')) := (hbel.mono hbw).setCell hg _
      have hor := ho.kept hbel
      have hks : ∀ r ∈ rs.filter p, OwnT vC 3 (wr.setCell ⟨g, 0, none⟩ (.slice A' Q c')) base 90 (ownV r) r.fs := fun r hr => (hor.setBlk HBr 0 _).2.1 r (List.mem_filter.1 hr).1
      have HKS := Lib.hid hks; have HOR := Lib.hid hor; have HQ7 := Lib.hid hq7
      clear hks hor hq7 hq ho
      by_cases hqn : (Q : Int) < (n : Int)
      all_goals
        go_wp2
        go_ret
        first | refine ⟨A', c', qs, ret_bool (by rw [HRE.out]; first | (rw [decide_eq_true hqn]; done) | (rw [decide_eq_false (by omega)]; done)), by rw [HQ.out]; exact hqc, by rw [← filter_map_it, HP.out, ← HFIN.out], by rw [HQ.out]; exact HB7, ?_, hb7⟩ | refine ⟨ret_bool (by rw [HRE.out]; first | (rw [decide_eq_true hqn]; done) | (rw [decide_eq_false (by omega)]; done)), A', c', qs, by rw [HQ.out]; exact hqc, by rw [← filter_map_it, HP.out, ← HFIN.out], by rw [HQ.out]; exact HB7, ?_, hb7⟩
        have hq7 := HQ7.out
        have hks := HKS.out
        rw [← HFIN.out] at hks
        rw [HQ.out]
        exact OwnI.sub HOR.out hq7 (by rw [HFIN.out]; exact List.filter_sublist) hks
theorem implRetractP_any (g : Nat) (A : Option Addr) (n c : Nat) (rs : List IR) (nx id : Int) (w : World) (base : Nat) (HB : Blk w g 32 #[.slice A n c, .int .i64 nx]) (ho : OwnI w base (.slice A n c) rs) (hl : rs.length = n) (hg : base ≤ g) (hn : n ≤ 1048576) (hp : (rs.map itOf).Pairwise fun a b => a.id < b.id) :
    Calls Try.prog 49 #[.pointer (some ⟨g, 0, none⟩), .int .i64 id] w fun e w' => ∃ A' c' qs, e = .returned (.bool (decide ((dropI (rs.map itOf) id).length < n))) ∧ qs.length ≤ c' ∧ qs.map itOf = dropI (rs.map itOf) id ∧ Blk w' g 32 #[.slice A' qs.length c', .int .i64 nx] ∧ OwnI w' base (.slice A' qs.length c') qs ∧ Below base w w' := by
  obtain ⟨i0, hi, hz0, hz1, hz2⟩ := info_parts infoItem
  have HI := Lib.hid hi; clear hi
  have HL := Lib.hid hl; clear hl
  have HP := Lib.hid hp; clear hp
  have hgl := HB.lt
  have hbw : base ≤ w.heap.size := by omega
  have hnc : n ≤ c := by obtain ⟨_, _, e, h⟩ := ho.form; injection e with _ e1 e2; omega
  obtain ⟨y0, y1, fy0, fy1⟩ := HB.two
  go_enter Try.func49, Try.ntmps49
  go_wp2
  go_loopw [12] (fun i wr => ∃ k : Nat, k ≤ n ∧ i = .int .i64 k ∧ (∀ x ∈ rs.take k, x.id ≠ id) ∧ Below w.heap.size w wr) (fun i _ => n - (intOf i).toNat)
  case atStart => exact ⟨0, Nat.zero_le _, rfl, fun x h => by simp at h, (by repeat (first | with_reducible exact bel_refl _ | with_reducible assumption | with_reducible refine bel_set ?_ (by first | (simp; done) | (simp; omega) | omega) _ | with_reducible refine bel_alloc ?_ _ | with_reducible refine bel_drew ?_ | with_reducible refine bel_drewN ?_ _ | with_reducible refine bel_trans ?_ (by assumption)))⟩
  case round =>
    obtain ⟨k, hk, rfl, hno, hbel⟩ := hrel
    have HNO := Lib.hid hno; clear hno
    have HBr := HB.kept hbel
    have hor := ho.kept hbel
    clear y0 y1 fy0 fy1
    by_cases hlt : k < n
    · have hri : RdI wr wr.heap.size A n rs := hor.rdM HL.out
      have hform := World.ownsRow.form hor.1 (by rw [HL.out]; omega)
      obtain ⟨b, cap, hv, hbb, hbl⟩ := hform
      injection hv with e1 e2 e3
      subst e1
      clear e2 e3
      obtain ⟨b', o', e, hb0, hc⟩ := hri.at_ (by omega)
      injection e with e
      injection e with e1 e2
      subst e1 e2
      obtain ⟨rid, kd, Ai, ci, fs, he, p0, p1, p2, _⟩ := hc k hlt
      clear hc
      simp only [Nat.zero_add] at p0 p1 p2
      have hkl : k < rs.length := by rw [HL.out]; exact hlt
      have HE := Lib.hid he; clear he
      have hj0 : (0:Int) ≤ (k : Int) := by omega
      have hj1 : (k:Int) < (n : Int) := by omega
      have hbg : b ≠ g := fun e => own_blk_ne hor.1 HBr (by decide) (by rw [e]; rfl)
      by_cases hid : rid = id
      · subst hid
        have hrid : (rid == rid) = true := by simp
        have hml : k < (rs.map itOf).length := by rw [List.length_map]; exact hkl
        have hme : (rs.map itOf)[k] = ⟨rid, ⟨kd, fs⟩⟩ := by rw [List.getElem_map, HE.out]; rfl
        have hda := drop_at hml HP.out
        rw [hme] at hda
        have hfin : (rs.take k ++ rs.drop (k + 1)).map itOf = dropI (rs.map itOf) rid := by rw [hda, List.map_append, List.map_take, List.map_drop]
        have hdl : (dropI (rs.map itOf) rid).length = n - 1 := by rw [hda, drop_len hml, List.length_map, HL.out]
        have hres : decide ((dropI (rs.map itOf) rid).length < n) = true := by rw [hdl, decide_eq_true_eq]; omega
        have HRE := Lib.hid hres
        have hln : (rs.take k ++ rs.drop (k + 1)).length = n - 1 := by rw [← List.length_map (f := itOf), hfin, hdl]
        have HFIN := Lib.hid hfin; have HLN := Lib.hid hln
        clear hfin hdl hres hda hme hml hln
        have gv : Below wr.heap.size wr (wr.alloc (.cells #[.int .i64 rid, .string kd, .slice Ai fs.length ci] 55)) := bel_alloc (bel_refl wr) _
        have HB1 := HBr.kept gv
        have ho1 := hor.kept gv
        have hbel1 := bel_trans hbel gv
        have hhs : (rs.take k).length = k := by rw [List.length_take]; omega
        obtain ⟨hd, hhd⟩ : ∃ hd, rs.take k = hd := ⟨_, rfl⟩
        obtain ⟨tl, htl⟩ : ∃ tl, rs.drop (k + 1) = tl := ⟨_, rfl⟩
        have hof := OwnT.front_ irC_sz ho1.1 k (by omega)
        have hrt : RdT irC 3 (wr.alloc (.cells #[.int .i64 rid, .string kd, .slice Ai fs.length ci] 55)) (wr.alloc (.cells #[.int .i64 rid, .string kd, .slice Ai fs.length ci] 55)).heap.size (some ⟨b, 0 + (k + 1) * 3, none⟩) (n - (k + 1)) (rs.drop (k + 1)) := RdT.back irC_sz (ho1.1.rdM HL.out).2 (k + 1) (by omega)
        rw [Nat.zero_add] at hrt
        rw [hhd] at hof hhs HFIN HLN
        rw [htl] at hrt HFIN HLN
        have htls := hrt.len
        have HHD := Lib.hid hhd; have HTL := Lib.hid htl; have HHS := Lib.hid hhs
        clear hhd htl hhs
        obtain ⟨y0, y1, fy0, fy1⟩ := HBr.two
        obtain ⟨AT, hAT⟩ : ∃ AT, (if c = k + 1 then some (⟨b, 0, none⟩ : Addr) else some ⟨b, (k + 1) * 3, none⟩) = AT := ⟨_, rfl⟩
        have hrtA : RdT irC 3 (wr.alloc (.cells #[.int .i64 rid, .string kd, .slice Ai fs.length ci] 55)) (wr.alloc (.cells #[.int .i64 rid, .string kd, .slice Ai fs.length ci] 55)).heap.size AT (n - (k + 1)) tl := by
          rw [← hAT]
          split
          · have h0 : n - (k + 1) = 0 := by omega
            have ht0 : tl = [] := List.eq_nil_of_length_eq_zero (by omega)
            rw [h0, ht0]
            exact RdT.nil_ _ _ _
          · exact hrt
        have HAT := Lib.hid hAT
        clear hAT hrt
        go_upto_region 5 with fail
        generalize hvv : wr.alloc (.cells #[.int .i64 rid, .string kd, .slice Ai fs.length ci] 55) = v at HB1 ho1 hbel1 hof hrtA ⊢
        have hbv : base ≤ v.heap.size := Nat.le_trans hbw hbel1.size
        have hhl := HHS.out
        clear hvv gv y0 y1 fy0 fy1 p0 p1 p2
        obtain ⟨u0, u1, fu0, fu1⟩ := HB1.two
        refine wp_region_held_drew (S := (fun _ => True)) (by kernel_rfl) ?_ (fun hHeld => ?_)
        · (try dsimp only) <;> (trivial)
        refine h_take 0 (some 21) (?_) rfl rfl (by kernel_rfl) (by kernel_rfl) (by kernel_rfl) (fun _ _ _ h => h) (by kernel_rfl) ?_ (by assumption) ?_
        rotate_left
        · intro w hSw; (try dsimp only at hSw); go_simp
          all_goals first | with_reducible rfl | omega | (simp; omega)
        try simp only [Act.put, List.setIfInBounds_toArray, List.set_cons_zero, List.set_cons_succ]
        refine h_take 1 (some 22) (?_) rfl rfl (by kernel_rfl) (by kernel_rfl) (by kernel_rfl) (fun _ _ _ h => h) (by kernel_rfl) ?_ (by assumption) ?_
        rotate_left
        · intro w hSw; (try dsimp only at hSw); go_simp
          all_goals first | with_reducible rfl | omega | (simp; omega)
        try simp only [Act.put, List.setIfInBounds_toArray, List.set_cons_zero, List.set_cons_succ]
        refine h_take 2 (some 23) (?_) rfl rfl (by kernel_rfl) (by kernel_rfl) (by kernel_rfl) (fun _ _ _ h => h) (by kernel_rfl) ?_ (by assumption) ?_
        rotate_left
        · intro w hSw; (try dsimp only at hSw); go_simp
          all_goals first | with_reducible rfl | omega | (simp; omega)
        try simp only [Act.put, List.setIfInBounds_toArray, List.set_cons_zero, List.set_cons_succ]
        refine h_take 3 (some 24) (?_) rfl rfl (by kernel_rfl) (by kernel_rfl) (by kernel_rfl) (fun _ _ _ h => h) (by kernel_rfl) ?_ (by assumption) ?_
        rotate_left
        · intro w hSw; (try dsimp only at hSw); go_simp
          all_goals first | with_reducible rfl | omega | (simp; omega)
        try simp only [Act.put, List.setIfInBounds_toArray, List.set_cons_zero, List.set_cons_succ]
        refine h_take 5 (some 26) (?_) rfl rfl (by kernel_rfl) (by kernel_rfl) (by kernel_rfl) (fun _ _ _ h => h) (by kernel_rfl) ?_ (by assumption) ?_
        rotate_left
        · intro w hSw; (try dsimp only at hSw); go_simp
          all_goals first | with_reducible rfl | omega | (simp; omega)
        try simp only [Act.put, List.setIfInBounds_toArray, List.set_cons_zero, List.set_cons_succ]
        refine h_take 7 (some 28) (?_) rfl rfl (by kernel_rfl) (by kernel_rfl) (by kernel_rfl) (fun _ _ _ h => h) (by kernel_rfl) ?_ (by assumption) ?_
        rotate_left
        · intro w hSw; (try dsimp only at hSw); go_simp
          all_goals first | with_reducible rfl | omega | (simp; omega)
        try simp only [Act.put, List.setIfInBounds_toArray, List.set_cons_zero, List.set_cons_succ]
        refine h_take 8 (some 29) (?_) rfl rfl (by kernel_rfl) (by kernel_rfl) (by kernel_rfl) (fun _ _ _ h => h) (by kernel_rfl) ?_ (by assumption) ?_
        rotate_left
        · intro w hSw; (try dsimp only at hSw); go_simp
          all_goals first | with_reducible rfl | omega | (simp; omega)
        try simp only [Act.put, List.setIfInBounds_toArray, List.set_cons_zero, List.set_cons_succ]
        refine h_take 9 (some 30) (?_) rfl rfl (by kernel_rfl) (by kernel_rfl) (by kernel_rfl) (fun _ _ _ h => h) (by kernel_rfl) ?_ (by assumption) ?_
        rotate_left
        · intro w hSw; (try dsimp only at hSw); go_simp
          all_goals first | with_reducible rfl | omega | (simp; omega)
        try simp only [Act.put, List.setIfInBounds_toArray, List.set_cons_zero, List.set_cons_succ]
        refine h_take 11 (some 32) (?_) rfl rfl (by kernel_rfl) (by kernel_rfl) (by kernel_rfl) (fun _ _ _ h => h) (by kernel_rfl) ?_ (by assumption) ?_
        rotate_left
        · intro w hSw; (try dsimp only at hSw); go_simp
          all_goals first | with_reducible rfl | omega | (simp; omega)
        try simp only [Act.put, List.setIfInBounds_toArray, List.set_cons_zero, List.set_cons_succ]
        refine h_take 12 (some 33) (.int .i64 ((k : Int) + 1)) rfl rfl (by kernel_rfl) (by kernel_rfl) (by kernel_rfl) (fun _ _ _ h => h) (by kernel_rfl) ?_ (by assumption) ?_
        · intro w hSw; (try dsimp only at hSw); go_simp
          all_goals (first | rfl | omega | (simp; omega) | (rw [IntKind.wrap_i64]; omega))
        try simp only [Act.put, List.setIfInBounds_toArray, List.set_cons_zero, List.set_cons_succ]
        refine wpAnyH_ready (rs := [4, 10]) (by kernel_rfl) (by simp) ?_
        refine AllReadyH.cons rfl (fun K hK => ?_) (AllReadyH.cons rfl (fun K hK => ?_) AllReadyH.nil)
        · rw [if_pos (by kernel_rfl)]
          go_simp
          refine hK.out _ _ ?_ (fun hHeld => ?_)
          · (try dsimp only) <;> (trivial)
          clear hK K
          try simp only [Act.put, List.setIfInBounds_toArray, List.set_cons_zero, List.set_cons_succ]
          refine h_take 6 (some 27) (.slice (some ⟨b, 0, none⟩) k c) rfl rfl (by kernel_rfl) (by kernel_rfl) (by kernel_rfl) (fun _ _ _ h => h) (by kernel_rfl) ?_ (by assumption) ?_
          · intro w hSw; (try dsimp only at hSw); go_simp
            all_goals (first | rfl | omega | (simp; omega))
          try simp only [Act.put, List.setIfInBounds_toArray, List.set_cons_zero, List.set_cons_succ]
          refine h_call 10 (by kernel_rfl) rfl (by kernel_rfl) (fun K hK => ?_)
          go_simp
          refine hK.out _ _ ?_ (fun hHeld => ?_)
          · (try dsimp only) <;> (trivial)
          clear hK K
          try simp only [Act.put, List.setIfInBounds_toArray, List.set_cons_zero, List.set_cons_succ]
          refine h_take 13 (some 34) (.slice AT (n - (k + 1)) (c - (k + 1))) rfl rfl (by kernel_rfl) (by kernel_rfl) (by kernel_rfl) (fun _ _ _ h => h) (by kernel_rfl) ?_ (by assumption) ?_
          · intro w hSw; (try dsimp only at hSw); go_simp
            all_goals (rw [if_pos ⟨by omega, by omega⟩, HAT.out])
          try simp only [Act.put, List.setIfInBounds_toArray, List.set_cons_zero, List.set_cons_succ]
          refine h_call 14 (by kernel_rfl) rfl (by kernel_rfl) (fun K hK => ?_)
          refine appG (.tmp 27) (.tmp 34) _ rfl irC_sz base 55 i0 Try.underlying30 HI.out hz0 hz1 hz2 rfl (by omega) _ hd rfl hof.drew _ (n - (k + 1)) _ tl rfl hrtA.drew (irC_one _) (by have := HHS.out; omega) (by simp; omega) ?_ (by have := HHS.out; omega)
          intro v' w6 ho6 hb6 hg6
          obtain ⟨A6, c6, hv6, hc6, _⟩ := ho6.form
          rw [HLN.out] at hv6 hc6
          subst hv6
          have HB6 := Blk.grownR (w := v.drew) HB1 hg6 (own_blk_ne hof HB1 (by decide))
          have hfk : ∀ r ∈ rs, OwnT vC 3 w6 base 90 (ownV r) r.fs := fun r hr => World.ownsRow.kept (w := v.drew) (ho1.2.1 r hr) hg6 (own_ne (ho1.2.1 r hr) hof (by decide))
          have HFK := Lib.hid hfk; clear hfk
          obtain ⟨r0, r1, r2, r3⟩ := HB6.two
          change K (Act.put _ (some 35) _) _
          refine hK.out _ _ ?_ (fun hHeld => ?_)
          · (try dsimp only) <;> (trivial)
          clear hK K
          try simp only [Act.put, List.setIfInBounds_toArray, List.set_cons_zero, List.set_cons_succ]
          refine h_take 15 (some 36) (?_) rfl rfl (by kernel_rfl) (by kernel_rfl) (by kernel_rfl) (fun _ _ _ h => h) (by kernel_rfl) ?_ (by assumption) ?_
          rotate_left
          · intro w hSw; (try dsimp only at hSw); go_simp
            all_goals first | with_reducible rfl | omega | (simp; omega)
          try simp only [Act.put, List.setIfInBounds_toArray, List.set_cons_zero, List.set_cons_succ]
          refine h_take 16 (some 37) (?_) rfl rfl (by kernel_rfl) (by kernel_rfl) (by kernel_rfl) (fun _ _ _ h => h) (by kernel_rfl) ?_ (by assumption) ?_
          rotate_left
          · intro w hSw; (try dsimp only at hSw); go_simp
            all_goals first | with_reducible rfl | omega | (simp; omega)
          try simp only [Act.put, List.setIfInBounds_toArray, List.set_cons_zero, List.set_cons_succ]
          refine h_call 17 (by kernel_rfl) rfl (by kernel_rfl) (fun K hK => ?_)
          go_simp
          refine hK.out _ _ ?_ (fun hHeld => ?_)
          · (try dsimp only) <;> (trivial)
          clear hK K
          try simp only [Act.put, List.setIfInBounds_toArray, List.set_cons_zero, List.set_cons_succ]
          refine wpAnyH_done (by kernel_rfl) ?_ _
          have HB7 : Blk (w6.setCell ⟨g, 0, none⟩ (.slice A6 (n - 1) c6)) g 32 #[.slice A6 (n - 1) c6, .int .i64 nx] := by have := HB6.set_ 0 (.slice A6 (n - 1) c6); simpa using this
          have hq7 := own_set_ne ho6 (p := ⟨g, 0, none⟩) (own_blk_ne ho6 HB6 (by decide)) (.slice A6 (n - 1) c6)
          have hfk7 : ∀ r ∈ rs, OwnT vC 3 (w6.setCell ⟨g, 0, none⟩ (.slice A6 (n - 1) c6)) base 90 (ownV r) r.fs := fun r hr => own_set_ne (HFK.out r hr) (own_blk_ne (HFK.out r hr) HB6 (by decide)) _
          have hb7 : Below base w (w6.setCell ⟨g, 0, none⟩ (.slice A6 (n - 1) c6)) := ((hbel1.mono hbw).trans (((bel_drew (bel_refl v)).mono (Nat.le_trans hbw hbel1.size)).trans hb6)).setCell hg _
          have hrs : OwnI (w6.setCell ⟨g, 0, none⟩ (.slice A6 (n - 1) c6)) base (.slice A6 (n - 1) c6) (hd ++ tl) := ⟨hq7, fun r hr => hfk7 r ((take_drop_sub rs k).subset (by rw [HHD.out, HTL.out]; exact hr)), ho1.2.2.sublist (by rw [← HHD.out, ← HTL.out]; exact take_drop_sub rs k)⟩
          generalize hv7 : w6.setCell ⟨g, 0, none⟩ (.slice A6 (n - 1) c6) = w7 at hHeld HB7 hb7 hrs ⊢
          clear hv7 hHeld HB6 HB1 ho1 ho6 hb6 hg6 hq7 hfk7 u0 u1 fu0 fu1 r0 r1 r2 r3 hof hrtA HFK
          go_wp2
          go_ret
          first | exact ⟨A6, c6, hd ++ tl, ret_bool HRE.out.symm, by rw [HLN.out]; exact hc6, HFIN.out, by rw [HLN.out]; exact HB7, by rw [HLN.out]; exact hrs, hb7⟩ | exact ⟨ret_bool HRE.out.symm, A6, c6, hd ++ tl, by rw [HLN.out]; exact hc6, HFIN.out, by rw [HLN.out]; exact HB7, by rw [HLN.out]; exact hrs, hb7⟩
        · rw [if_pos (by kernel_rfl)]
          go_simp
          refine hK.out _ _ ?_ (fun hHeld => ?_)
          · (try dsimp only) <;> (trivial)
          clear hK K
          try simp only [Act.put, List.setIfInBounds_toArray, List.set_cons_zero, List.set_cons_succ]
          refine h_take 13 (some 34) (.slice AT (n - (k + 1)) (c - (k + 1))) rfl rfl (by kernel_rfl) (by kernel_rfl) (by kernel_rfl) (fun _ _ _ h => h) (by kernel_rfl) ?_ (by assumption) ?_
          · intro w hSw; (try dsimp only at hSw); go_simp
            all_goals (rw [if_pos ⟨by omega, by omega⟩, HAT.out])
          try simp only [Act.put, List.setIfInBounds_toArray, List.set_cons_zero, List.set_cons_succ]
          refine h_call 4 (by kernel_rfl) rfl (by kernel_rfl) (fun K hK => ?_)
          go_simp
          refine hK.out _ _ ?_ (fun hHeld => ?_)
          · (try dsimp only) <;> (trivial)
          clear hK K
          try simp only [Act.put, List.setIfInBounds_toArray, List.set_cons_zero, List.set_cons_succ]
          refine h_take 6 (some 27) (.slice (some ⟨b, 0, none⟩) k c) rfl rfl (by kernel_rfl) (by kernel_rfl) (by kernel_rfl) (fun _ _ _ h => h) (by kernel_rfl) ?_ (by assumption) ?_
          · intro w hSw; (try dsimp only at hSw); go_simp
            all_goals (first | rfl | omega | (simp; omega))
          try simp only [Act.put, List.setIfInBounds_toArray, List.set_cons_zero, List.set_cons_succ]
          refine h_call 14 (by kernel_rfl) rfl (by kernel_rfl) (fun K hK => ?_)
          refine appG (.tmp 27) (.tmp 34) _ rfl irC_sz base 55 i0 Try.underlying30 HI.out hz0 hz1 hz2 rfl (by omega) _ hd rfl hof.drew _ (n - (k + 1)) _ tl rfl hrtA.drew (irC_one _) (by have := HHS.out; omega) (by simp; omega) ?_ (by have := HHS.out; omega)
          intro v' w6 ho6 hb6 hg6
          obtain ⟨A6, c6, hv6, hc6, _⟩ := ho6.form
          rw [HLN.out] at hv6 hc6
          subst hv6
          have HB6 := Blk.grownR (w := v.drew) HB1 hg6 (own_blk_ne hof HB1 (by decide))
          have hfk : ∀ r ∈ rs, OwnT vC 3 w6 base 90 (ownV r) r.fs := fun r hr => World.ownsRow.kept (w := v.drew) (ho1.2.1 r hr) hg6 (own_ne (ho1.2.1 r hr) hof (by decide))
          have HFK := Lib.hid hfk; clear hfk
          obtain ⟨r0, r1, r2, r3⟩ := HB6.two
          change K (Act.put _ (some 35) _) _
          refine hK.out _ _ ?_ (fun hHeld => ?_)
          · (try dsimp only) <;> (trivial)
          clear hK K
          try simp only [Act.put, List.setIfInBounds_toArray, List.set_cons_zero, List.set_cons_succ]
          refine h_take 15 (some 36) (?_) rfl rfl (by kernel_rfl) (by kernel_rfl) (by kernel_rfl) (fun _ _ _ h => h) (by kernel_rfl) ?_ (by assumption) ?_
          rotate_left
          · intro w hSw; (try dsimp only at hSw); go_simp
            all_goals first | with_reducible rfl | omega | (simp; omega)
          try simp only [Act.put, List.setIfInBounds_toArray, List.set_cons_zero, List.set_cons_succ]
          refine h_take 16 (some 37) (?_) rfl rfl (by kernel_rfl) (by kernel_rfl) (by kernel_rfl) (fun _ _ _ h => h) (by kernel_rfl) ?_ (by assumption) ?_
          rotate_left
          · intro w hSw; (try dsimp only at hSw); go_simp
            all_goals first | with_reducible rfl | omega | (simp; omega)
          try simp only [Act.put, List.setIfInBounds_toArray, List.set_cons_zero, List.set_cons_succ]
          refine h_call 17 (by kernel_rfl) rfl (by kernel_rfl) (fun K hK => ?_)
          go_simp
          refine hK.out _ _ ?_ (fun hHeld => ?_)
          · (try dsimp only) <;> (trivial)
          clear hK K
          try simp only [Act.put, List.setIfInBounds_toArray, List.set_cons_zero, List.set_cons_succ]
          refine wpAnyH_done (by kernel_rfl) ?_ _
          have HB7 : Blk (w6.setCell ⟨g, 0, none⟩ (.slice A6 (n - 1) c6)) g 32 #[.slice A6 (n - 1) c6, .int .i64 nx] := by have := HB6.set_ 0 (.slice A6 (n - 1) c6); simpa using this
          have hq7 := own_set_ne ho6 (p := ⟨g, 0, none⟩) (own_blk_ne ho6 HB6 (by decide)) (.slice A6 (n - 1) c6)
          have hfk7 : ∀ r ∈ rs, OwnT vC 3 (w6.setCell ⟨g, 0, none⟩ (.slice A6 (n - 1) c6)) base 90 (ownV r) r.fs := fun r hr => own_set_ne (HFK.out r hr) (own_blk_ne (HFK.out r hr) HB6 (by decide)) _
          have hb7 : Below base w (w6.setCell ⟨g, 0, none⟩ (.slice A6 (n - 1) c6)) := ((hbel1.mono hbw).trans (((bel_drew (bel_refl v)).mono (Nat.le_trans hbw hbel1.size)).trans hb6)).setCell hg _
          have hrs : OwnI (w6.setCell ⟨g, 0, none⟩ (.slice A6 (n - 1) c6)) base (.slice A6 (n - 1) c6) (hd ++ tl) := ⟨hq7, fun r hr => hfk7 r ((take_drop_sub rs k).subset (by rw [HHD.out, HTL.out]; exact hr)), ho1.2.2.sublist (by rw [← HHD.out, ← HTL.out]; exact take_drop_sub rs k)⟩
          generalize hv7 : w6.setCell ⟨g, 0, none⟩ (.slice A6 (n - 1) c6) = w7 at hHeld HB7 hb7 hrs ⊢
          clear hv7 hHeld HB6 HB1 ho1 ho6 hb6 hg6 hq7 hfk7 u0 u1 fu0 fu1 r0 r1 r2 r3 hof hrtA HFK
          go_wp2
          go_ret
          first | exact ⟨A6, c6, hd ++ tl, ret_bool HRE.out.symm, by rw [HLN.out]; exact hc6, HFIN.out, by rw [HLN.out]; exact HB7, by rw [HLN.out]; exact hrs, hb7⟩ | exact ⟨ret_bool HRE.out.symm, A6, c6, hd ++ tl, by rw [HLN.out]; exact hc6, HFIN.out, by rw [HLN.out]; exact HB7, by rw [HLN.out]; exact hrs, hb7⟩
      · have hidb : (rid == id) = false := by simp; exact hid
        obtain ⟨y0, y1, fy0, fy1⟩ := HBr.two
        have HNO2 := Lib.hid (show ∀ x ∈ rs.take (k + 1), x.id ≠ id by
          intro x hx
          rw [List.take_succ_eq_append_getElem hkl] at hx
          rcases List.mem_append.1 hx with h | h
          · exact HNO.out x h
          · rw [List.mem_singleton] at h
            rw [h, HE.out]
            exact hid)
        clear hid
        go_wp2
        go_roundw
        case rel => exact ⟨k + 1, by omega, by go_num, HNO2.out, (by repeat (first | with_reducible exact bel_refl _ | with_reducible assumption | with_reducible refine bel_set ?_ (by first | (simp; done) | (simp; omega) | omega) _ | with_reducible refine bel_alloc ?_ _ | with_reducible refine bel_drew ?_ | with_reducible refine bel_drewN ?_ _ | with_reducible refine bel_trans ?_ (by assumption)))⟩
        case measure => simp [intOf]; omega
    · have hfull : ∀ x ∈ rs, x.id ≠ id := fun x hx => HNO.out x (by rw [List.take_of_length_le (by rw [HL.out]; omega)]; exact hx)
      have hdn : dropI (rs.map itOf) id = rs.map itOf := drop_none fun x hx => by
        obtain ⟨r, hr, rfl⟩ := List.mem_map.1 hx
        exact hfull r hr
      have hres : decide ((dropI (rs.map itOf) id).length < n) = false := by rw [hdn, List.length_map, HL.out, decide_eq_false_iff_not]; omega
      have HRE := Lib.hid hres
      have HDN := Lib.hid hdn
      clear hdn hres hfull
      go_wp2
      go_ret
      first | exact ⟨A, c, rs, ret_bool HRE.out.symm, by rw [HL.out]; exact hnc, by rw [HDN.out], by rw [HL.out]; exact HBr, by rw [HL.out]; exact hor, hbel.mono hbw⟩ | exact ⟨ret_bool HRE.out.symm, A, c, rs, by rw [HL.out]; exact hnc, by rw [HDN.out], by rw [HL.out]; exact HBr, by rw [HL.out]; exact hor, hbel.mono hbw⟩
end Go.Proofs.Ytndhjijcicebkaa
