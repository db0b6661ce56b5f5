import Derived.Test.YtcbbefibebkfgaaGreatDoorName
import Derived.Test.YtcbbefibebkfgaaGreatDoorPlainParse
import Derived.Test.YtcbbefibebkfgaaGreatDoorPkPlainParse2
import Derived.Test.YtcbbefibebkfgaaGreatDoorBox
/- The reference's reading of a whole number. Condition: the text's length. -/
namespace Go.Proofs.YtcbbefibebkfgaaGreatDoor
open Go.RowKit
set_option maxRecDepth 100000
set_option maxHeartbeats 4000000
theorem head_get (s : ByteArray) (h : 0 < s.size) : s.data.toList.head? = some s[0] := by
  rcases s with ⟨⟨l⟩⟩
  cases l with
  | nil => exact absurd h (by simp [ByteArray.size])
  | cons a t => rfl
theorem l2Whole_any (s : ByteArray) (w : World) (hs : s.size ≤ 9223372036854775807) :
    Calls Tryz.prog 73 #[.string s] w fun e w' => e = .returned (.int .i64 (wholeT s.data.toList)) ∧ w = w' := by
  by_cases hsz : 1 ≤ s.size ∧ s.size ≤ 10
  case neg =>
    have HV := Lib.hid (show wholeT s.data.toList = -1 by unfold wholeT; rw [size_data, if_neg (fun h => hsz h.1)])
    have HB := Lib.hid (show inB (s.size : Int) 1 10 = false by
      unfold inB
      rw [Bool.and_eq_false_iff, decide_eq_false_iff_not, decide_eq_false_iff_not]
      omega)
    clear hsz
    go_enter Tryz.func73, Tryz.ntmps73
    go_wp2_with (go_at_call 58; refine (l1In_any _ _ _ _).mono ?_; rw [HB.out]; rintro e w' ⟨rfl, rfl⟩)
    go_ret
    exact ⟨ret_int HV.out.symm, rfl⟩
  have h0 : 0 < s.size := by omega
  have HB := Lib.hid (show inB (s.size : Int) 1 10 = true by
    unfold inB
    rw [Bool.and_eq_true, decide_eq_true_eq, decide_eq_true_eq]
    omega)
  have hh := head_get s h0
  by_cases hz : 1 < s.size ∧ s[0] = 48
  · have HV := Lib.hid (show wholeT s.data.toList = -1 by unfold wholeT; rw [size_data, hh, if_neg (fun h => h.2 ⟨hz.1, by rw [hz.2]⟩)])
    have h1 : (1:Int) < (s.size : Int) := by omega
    have hq : ((s[0].toNat : Int) == 48) = true := by rw [hz.2]; rfl
    clear hh
    obtain ⟨_, _⟩ := hz
    go_enter Tryz.func73, Tryz.ntmps73
    go_wp2_with (go_at_call 58; refine (l1In_any _ _ _ _).mono ?_; rw [HB.out]; rintro e w' ⟨rfl, rfl⟩)
    go_ret
    exact ⟨ret_int HV.out.symm, rfl⟩
  have HOK := Lib.hid (show wholeT s.data.toList = (match Lib.decFrom 0 s.data.toList with | some m => (m : Int) | none => -1) by
    unfold wholeT
    rw [size_data, hh, if_pos ⟨hsz, fun h => hz ⟨h.1, by have := h.2; injection this⟩⟩]
    cases Lib.decFrom 0 s.data.toList <;> rfl)
  have hs10 : s.size ≤ 10 := hsz.2
  clear hh
  have body : ∀ (h1 : (¬ (1:Int) < (s.size : Int)) ∨ ((1:Int) < (s.size : Int) ∧ ((s[0].toNat : Int) == 48) = false)), Calls Tryz.prog 73 #[.string s] w fun e w' => e = .returned (.int .i64 (wholeT s.data.toList)) ∧ w = w' := by
    intro h1
    clear hz hsz
    rcases h1 with h1 | ⟨h1, hq⟩
    all_goals
      go_enter Tryz.func73, Tryz.ntmps73
      go_wp2_with (go_at_call 58; refine (l1In_any _ _ _ _).mono ?_; rw [HB.out]; rintro e w' ⟨rfl, rfl⟩)
      go_loop [3, 4] (fun u i => ∃ k m : Nat, k ≤ s.size ∧ i = .int .i64 k ∧ u = .int .i64 m ∧ Lib.decFrom 0 (s.data.toList.take k) = some m ∧ m < 10 ^ k) (fun _ i => s.size - (intOf i).toNat)
      case atStart => exact ⟨0, 0, Nat.zero_le _, rfl, rfl, rfl, by decide⟩
      case round =>
        obtain ⟨k, m, hk, rfl, rfl, hd, hm⟩ := hrel
        have HD := Lib.hid hd; clear hd
        have HM := Lib.hid hm
        have hm10 : m < 10000000000 := Nat.lt_of_lt_of_le hm (Nat.pow_le_pow_right (n := 10) (by decide) (show k ≤ 10 by omega))
        clear hm
        by_cases hlt : k < s.size
        · have hb := byte_le s[k]
          have HT := Lib.hid (take_snoc s k hlt)
          cases hdv : Lib.digitVal s[k] with
          | none =>
            have hr := Lib.digitVal_none hdv
            have HBB := Lib.hid (show inB (s[k].toNat : Int) 48 57 = false by
              unfold inB
              rw [Bool.and_eq_false_iff, decide_eq_false_iff_not, decide_eq_false_iff_not]
              omega)
            have hnone : Lib.decFrom 0 s.data.toList = none := by
              rw [← List.take_append_drop (k + 1) s.data.toList, decFrom_app, HT.out, decFrom_snoc, HD.out, hdv]
              rfl
            have HN := Lib.hid (show wholeT s.data.toList = -1 by rw [HOK.out, hnone])
            clear hnone hdv hr
            go_wp2_with (go_at_call 58; refine (l1In_any _ _ _ _).mono ?_; rw [HBB.out]; rintro e w' ⟨rfl, rfl⟩)
            go_ret
            exact ⟨ret_int HN.out.symm, rfl⟩
          | some d =>
            obtain ⟨hd9, hbv⟩ := digitVal_of hdv
            have hbn : s[k].toNat = 48 + d := by rw [hbv, UInt8.toNat_ofNat']; omega
            have HBN := Lib.hid hbn
            have hb1 : 48 ≤ s[k].toNat := by omega
            have hb2 : s[k].toNat ≤ 57 := by omega
            have HBB := Lib.hid (show inB (s[k].toNat : Int) 48 57 = true by
              unfold inB
              rw [Bool.and_eq_true, decide_eq_true_eq, decide_eq_true_eq]
              omega)
            have HN := Lib.hid (show Lib.decFrom 0 (s.data.toList.take (k + 1)) = some (m * 10 + d) by rw [HT.out, decFrom_snoc, HD.out, hdv]; rfl)
            clear hbv hbn hdv
            go_wp2_with (go_at_call 58; refine (l1In_any _ _ _ _).mono ?_; rw [HBB.out]; rintro e w' ⟨rfl, rfl⟩)
            go_round
            case rel => exact ⟨k + 1, m * 10 + d, by omega, by go_num, by have := HBN.out; go_num, HN.out, by have := HM.out; rw [Nat.pow_succ]; omega⟩
            case measure => simp [intOf]; omega
        · have hfin : wholeT s.data.toList = (m : Int) := by
            rw [HOK.out]
            have := HD.out
            rw [List.take_of_length_le (by rw [size_data]; omega)] at this
            rw [this]
          have HF := Lib.hid hfin; clear hfin
          go_wp2
          go_ret
          exact ⟨ret_int HF.out.symm, rfl⟩
  by_cases h1 : 1 < s.size
  · refine body (Or.inr ⟨by omega, ?_⟩)
    rw [beq_eq_false_iff_ne]
    intro e
    apply hz
    refine ⟨h1, ?_⟩
    have e2 : s[0].toNat = 48 := by omega
    exact UInt8.toNat_inj.1 e2
  · exact body (Or.inl (by omega))
end Go.Proofs.YtcbbefibebkfgaaGreatDoor

/- Reading a value of its text, by the program and by the reference. Conditions: the text's length; the library's variables are as its text lays them. -/
namespace Go.Proofs.YtcbbefibebkfgaaGreatDoor
open Go.RowKit
set_option maxRecDepth 100000
set_option maxHeartbeats 4000000
theorem digits_bound (m : Nat) : m < 10 ^ (Lib.decDigits m).length := by
  induction m using Nat.strongRecOn with
  | _ m ih =>
  by_cases hs : m < 10
  · rw [dig_small hs]; simpa using hs
  · rw [dig_big hs, List.length_append, List.length_singleton, Nat.pow_succ]
    have := ih (m / 10) (by omega)
    omega
theorem whole_bound (L : List UInt8) : -1 ≤ wholeT L ∧ wholeT L < 10000000000 := by
  rcases Int.lt_or_le (wholeT L) 0 with h | h
  · refine ⟨?_, by omega⟩
    unfold wholeT at h ⊢
    split
    · split <;> omega
    · omega
  · obtain ⟨m, hm, hT, hl⟩ := whole_nonneg h
    refine ⟨by omega, ?_⟩
    rw [hm]
    have := digits_bound m
    rw [← hT] at this
    have h2 : 10 ^ L.length ≤ 10 ^ 10 := Nat.pow_le_pow_right (by decide) hl
    omega
theorem World.alloc_size2 (w : World) (o : Obj) : (w.alloc o).heap.size = w.heap.size + 1 := by simp
theorem VarE.kept {w w' : World} (h : VarE w) (hb : Below w.heap.size w w') : VarE w' := by
  obtain ⟨tp, p, h⟩ := h
  refine ⟨tp, p, ?_⟩
  unfold World.var? at *
  cases hg : Tryz.prog.globalNamed "strconv.ErrSyntax" with
  | none => simp [hg] at h
  | some g =>
    simp only [hg, Option.bind_some] at h ⊢
    have hlt : g < w.heap.size := by
      rcases Nat.lt_or_ge g w.heap.size with h' | h'
      · exact h'
      · rw [Array.getElem?_eq_none h'] at h; simp at h
    rw [hb.block g hlt]
    exact h
theorem implParseVal_any (s : ByteArray) (w : World) (hs : s.size ≤ 1048576) (ht : TabT w) (hv : VarE w) :
    Calls Tryz.prog 37 #[.string s] w fun e w' => e = .returned (tupP (parseV s)) ∧ Below w.heap.size w w' := by
  have HT := Lib.hid ht; have HVV := Lib.hid hv; clear ht hv
  have HZ := Blk.new w 47 #[.int .i64 0, .int .i64 0, .string ⟨#[]⟩]
  by_cases hq : 2 ≤ s.size ∧ s.data.toList.head? = some 39
  · have HC := Lib.hid (show candV s = ⟨2, 0, s.extract 1 (s.size - 1)⟩ by unfold candV midB; rw [if_pos hq])
    have h0 : 0 < s.size := by omega
    have hi : (2:Int) ≤ (s.size : Int) := by omega
    have hqq : ((s[0].toNat : Int) == 39) = true := by have := hq.2; rw [head_get s h0] at this; injection this with this; rw [this]; rfl
    have hme : (s.extract 1 (s.size - 1)).size ≤ 1048576 := by rw [ByteArray.size_extract]; omega
    clear hq
    go_enter Tryz.func37, Tryz.ntmps37
    obtain ⟨r, hr⟩ : ∃ r, valOk ⟨2, 0, s.extract 1 (s.size - 1)⟩ = r := ⟨_, rfl⟩
    have HR := Lib.hid hr; clear hr
    go_wp2_with fail
    refine (implValOk_any 2 0 (s.extract 1 (s.size - 1)) _ (by omega)).mono ?_
    rw [HR.out]
    rintro e w3 ⟨rfl, hb3⟩
    have g3 : Below w.heap.size w w3 := (by repeat (first | with_reducible exact bel_refl _ | with_reducible assumption | with_reducible refine bel_set ?_ (by first | (simp; done) | (simp; omega) | omega) _ | with_reducible refine bel_alloc ?_ _ | with_reducible refine bel_drew ?_ | with_reducible refine bel_drewN ?_ _ | with_reducible refine bel_trans ?_ (by assumption)))
    have c0 := old_cell hb3 (b := w.heap.size + 1) (o := 0) (v := .int .i64 2) (by go_simp)
    have c1 := old_cell hb3 (b := w.heap.size + 1) (o := 1) (v := .int .i64 0) (by go_simp)
    have c2 := old_cell hb3 (b := w.heap.size + 1) (o := 2) (v := .string (s.extract 1 (s.size - 1))) (by go_simp)
    have d0 := old_cell hb3 (b := w.heap.size) (o := 0) (v := .int .i64 0) (by go_simp)
    have d1 := old_cell hb3 (b := w.heap.size) (o := 1) (v := .int .i64 0) (by go_simp)
    have d2 := old_cell hb3 (b := w.heap.size) (o := 2) (v := .string ⟨#[]⟩) (by go_simp)
    have hzl := hb3.size
    have HZ3 : Blk w3 w.heap.size 47 #[.int .i64 0, .int .i64 0, .string ⟨#[]⟩] := by
      exact Blk.kept (w := (w.alloc (.cells #[.int .i64 0, .int .i64 0, .string ⟨#[]⟩] 47)).alloc _) (HZ.alloc _) hb3
    obtain ⟨d0', d1', d2', f0, f1, f2⟩ := HZ3.three
    have zc := cell_lt c0
    dsimp only at zc
    clear hb3 d0' d1' d2'
    cases r
    · have HP := Lib.hid (show parseV s = (z0, false) by unfold parseV; rw [HC.out, if_neg (fun h => by have := h.1; rw [HR.out] at this; cases this)])
      go_wp2
      refine bodyPost_ret (v := tupP (z0, false)) (by simp [results, Tryz.results37, go_sem, tupP, z0, d0, d1, d2]; try rfl) rfl ⟨by rw [HP.out], (by repeat (first | with_reducible exact bel_refl _ | with_reducible assumption | with_reducible refine bel_set ?_ (by first | (simp; done) | (simp; omega) | omega) _ | with_reducible refine bel_alloc ?_ _ | with_reducible refine bel_drew ?_ | with_reducible refine bel_drewN ?_ _ | with_reducible refine bel_trans ?_ (by assumption)))⟩
    · obtain ⟨tx, htx⟩ : ∃ tx, valText ⟨2, 0, s.extract 1 (s.size - 1)⟩ = tx := ⟨_, rfl⟩
      have HX := Lib.hid htx; clear htx
      go_wp2_with fail
      refine (implValText_any 2 0 (s.extract 1 (s.size - 1)) _ (HT.out.kept (by repeat (first | with_reducible exact bel_refl _ | with_reducible assumption | with_reducible refine bel_set ?_ (by first | (simp; done) | (simp; omega) | omega) _ | with_reducible refine bel_alloc ?_ _ | with_reducible refine bel_drew ?_ | with_reducible refine bel_drewN ?_ _ | with_reducible refine bel_trans ?_ (by assumption)))) (by omega)).mono ?_
      rw [HX.out]
      rintro e w4 ⟨rfl, hb4⟩
      have g4 : Below w.heap.size w w4 := bel_trans g3 hb4
      replace HZ3 := HZ3.kept hb4
      obtain ⟨y0, y1, y2, y3, y4, y5⟩ := HZ3.three
      replace c0 := old_cell hb4 c0; replace c1 := old_cell hb4 c1; replace c2 := old_cell hb4 c2
      have zd := HZ3.lt
      have zc := cell_lt c0
      dsimp only at zc
      clear hb4 d0 d1 d2 f0 f1 f2
      by_cases he : tx = s
      · have HP := Lib.hid (show parseV s = (⟨2, 0, s.extract 1 (s.size - 1)⟩, true) by unfold parseV; rw [HC.out, if_pos ⟨HR.out, HX.out.trans he⟩])
        have hee : (tx.toList == s.toList) = true := by rw [str_eq]; exact decide_eq_true he
        clear he
        go_wp2
        refine bodyPost_ret (v := tupP (⟨2, 0, s.extract 1 (s.size - 1)⟩, true)) (by simp [results, Tryz.results37, go_sem, tupP, y0, y1, y2]; try rfl) rfl ⟨by rw [HP.out], (by repeat (first | with_reducible exact bel_refl _ | with_reducible assumption | with_reducible refine bel_set ?_ (by first | (simp; done) | (simp; omega) | omega) _ | with_reducible refine bel_alloc ?_ _ | with_reducible refine bel_drew ?_ | with_reducible refine bel_drewN ?_ _ | with_reducible refine bel_trans ?_ (by assumption)))⟩
      · have HP := Lib.hid (show parseV s = (z0, false) by unfold parseV; rw [HC.out, if_neg (fun h => he (HX.out.symm.trans h.2))])
        have hee : (tx.toList == s.toList) = false := by rw [str_eq]; exact decide_eq_false he
        clear he
        go_wp2
        refine bodyPost_ret (v := tupP (z0, false)) (by simp [results, Tryz.results37, go_sem, tupP, z0, y0, y1, y2]; try rfl) rfl ⟨by rw [HP.out], (by repeat (first | with_reducible exact bel_refl _ | with_reducible assumption | with_reducible refine bel_set ?_ (by first | (simp; done) | (simp; omega) | omega) _ | with_reducible refine bel_alloc ?_ _ | with_reducible refine bel_drew ?_ | with_reducible refine bel_drewN ?_ _ | with_reducible refine bel_trans ?_ (by assumption)))⟩
  have hc := cand_num hq
  have HC := Lib.hid hc; clear hc
  have body : ∀ (h1 : (¬ (2:Int) ≤ (s.size : Int)) ∨ (∃ h0 : 0 < s.size, (2:Int) ≤ (s.size : Int) ∧ ((s[0].toNat : Int) == 39) = false)), Calls Tryz.prog 37 #[.string s] w fun e w' => e = .returned (tupP (parseV s)) ∧ Below w.heap.size w w' := by
    intro h1
    clear hq
    obtain ⟨nn, hnn⟩ : ∃ nn, numOf s.data.toList = nn := ⟨_, rfl⟩
    have HN := Lib.hid hnn
    replace HC := Lib.hid (show candV s = ⟨1, nn, ⟨#[]⟩⟩ by rw [HC.out, hnn])
    have hme : (⟨#[]⟩ : ByteArray).size ≤ 1048576 := by decide
    clear hnn
    rcases h1 with h1 | ⟨h0, h1, hqq⟩
    · go_enter Tryz.func37, Tryz.ntmps37
      go_wp2_with fail
      refine (parseNumber_any s _ (by omega) (HT.out.kept (by repeat (first | with_reducible exact bel_refl _ | with_reducible assumption | with_reducible refine bel_set ?_ (by first | (simp; done) | (simp; omega) | omega) _ | with_reducible refine bel_alloc ?_ _ | with_reducible refine bel_drew ?_ | with_reducible refine bel_drewN ?_ _ | with_reducible refine bel_trans ?_ (by assumption)))) (HVV.out.kept (by repeat (first | with_reducible exact bel_refl _ | with_reducible assumption | with_reducible refine bel_set ?_ (by first | (simp; done) | (simp; omega) | omega) _ | with_reducible refine bel_alloc ?_ _ | with_reducible refine bel_drew ?_ | with_reducible refine bel_drewN ?_ _ | with_reducible refine bel_trans ?_ (by assumption))))).mono ?_
      rw [HN.out]
      rintro e w2 ⟨⟨bb, rfl⟩, hb2⟩
      have HA2 := Blk.kept (w := (w.alloc (.cells #[.int .i64 0, .int .i64 0, .string ⟨#[]⟩] 47)).alloc (.cells #[.int .i64 1, .int .i64 0, .string ⟨#[]⟩] 47)) (HZ.alloc _) hb2
      have HB2 := Blk.kept (Blk.new (w.alloc (.cells #[.int .i64 0, .int .i64 0, .string ⟨#[]⟩] 47)) 47 #[.int .i64 1, .int .i64 0, .string ⟨#[]⟩]) hb2
      simp only [World.alloc_size2] at HB2
      have g2 : Below w.heap.size w w2 := (by repeat (first | with_reducible exact bel_refl _ | with_reducible assumption | with_reducible refine bel_set ?_ (by first | (simp; done) | (simp; omega) | omega) _ | with_reducible refine bel_alloc ?_ _ | with_reducible refine bel_drew ?_ | with_reducible refine bel_drewN ?_ _ | with_reducible refine bel_trans ?_ (by assumption)))
      obtain ⟨v0, v1, v2, v3, v4, v5⟩ := HB2.three
      obtain ⟨u0, u1, u2, u3, u4, u5⟩ := HA2.three
      have zz := HB2.lt
      clear hb2
      have HZ4 := HA2.far (p := ⟨w.heap.size + 1, 1, none⟩) (by simp) (.int .i64 nn)
      have HB4 := HB2.set_ 1 (.int .i64 nn)
      obtain ⟨r, hr⟩ : ∃ r, valOk ⟨1, nn, ⟨#[]⟩⟩ = r := ⟨_, rfl⟩
      have HR := Lib.hid hr; clear hr
      go_wp2_with fail
      refine (implValOk_any 1 nn ⟨#[]⟩ _ (by omega)).mono ?_
      rw [HR.out]
      rintro e w3 ⟨rfl, hb3⟩
      have g3 : Below w.heap.size w w3 := (by repeat (first | with_reducible exact bel_refl _ | with_reducible assumption | with_reducible refine bel_set ?_ (by first | (simp; done) | (simp; omega) | omega) _ | with_reducible refine bel_alloc ?_ _ | with_reducible refine bel_drew ?_ | with_reducible refine bel_drewN ?_ _ | with_reducible refine bel_trans ?_ (by assumption)))
      have c0 := old_cell hb3 (b := w.heap.size + 1) (o := 0) (v := .int .i64 1) (by go_simp)
      have c1 := old_cell hb3 (b := w.heap.size + 1) (o := 1) (v := .int .i64 nn) (by go_simp)
      have c2 := old_cell hb3 (b := w.heap.size + 1) (o := 2) (v := .string ⟨#[]⟩) (by go_simp)
      have d0 := old_cell hb3 (b := w.heap.size) (o := 0) (v := .int .i64 0) (by go_simp)
      have d1 := old_cell hb3 (b := w.heap.size) (o := 1) (v := .int .i64 0) (by go_simp)
      have d2 := old_cell hb3 (b := w.heap.size) (o := 2) (v := .string ⟨#[]⟩) (by go_simp)
      have hzl := hb3.size
      have HZ3 : Blk w3 w.heap.size 47 #[.int .i64 0, .int .i64 0, .string ⟨#[]⟩] := by
        exact Blk.kept HZ4 hb3
      obtain ⟨d0', d1', d2', f0, f1, f2⟩ := HZ3.three
      have zc := cell_lt c0
      dsimp only at zc
      clear hb3 d0' d1' d2'
      cases r
      · have HP := Lib.hid (show parseV s = (z0, false) by unfold parseV; rw [HC.out, if_neg (fun h => by have := h.1; rw [HR.out] at this; cases this)])
        go_wp2
        refine bodyPost_ret (v := tupP (z0, false)) (by simp [results, Tryz.results37, go_sem, tupP, z0, d0, d1, d2]; try rfl) rfl ⟨by rw [HP.out], (by repeat (first | with_reducible exact bel_refl _ | with_reducible assumption | with_reducible refine bel_set ?_ (by first | (simp; done) | (simp; omega) | omega) _ | with_reducible refine bel_alloc ?_ _ | with_reducible refine bel_drew ?_ | with_reducible refine bel_drewN ?_ _ | with_reducible refine bel_trans ?_ (by assumption)))⟩
      · obtain ⟨tx, htx⟩ : ∃ tx, valText ⟨1, nn, ⟨#[]⟩⟩ = tx := ⟨_, rfl⟩
        have HX := Lib.hid htx; clear htx
        go_wp2_with fail
        refine (implValText_any 1 nn ⟨#[]⟩ _ (HT.out.kept (by repeat (first | with_reducible exact bel_refl _ | with_reducible assumption | with_reducible refine bel_set ?_ (by first | (simp; done) | (simp; omega) | omega) _ | with_reducible refine bel_alloc ?_ _ | with_reducible refine bel_drew ?_ | with_reducible refine bel_drewN ?_ _ | with_reducible refine bel_trans ?_ (by assumption)))) (by omega)).mono ?_
        rw [HX.out]
        rintro e w4 ⟨rfl, hb4⟩
        have g4 : Below w.heap.size w w4 := bel_trans g3 hb4
        replace HZ3 := HZ3.kept hb4
        obtain ⟨y0, y1, y2, y3, y4, y5⟩ := HZ3.three
        replace c0 := old_cell hb4 c0; replace c1 := old_cell hb4 c1; replace c2 := old_cell hb4 c2
        have zd := HZ3.lt
        have zc := cell_lt c0
        dsimp only at zc
        clear hb4 d0 d1 d2 f0 f1 f2
        by_cases he : tx = s
        · have HP := Lib.hid (show parseV s = (⟨1, nn, ⟨#[]⟩⟩, true) by unfold parseV; rw [HC.out, if_pos ⟨HR.out, HX.out.trans he⟩])
          have hee : (tx.toList == s.toList) = true := by rw [str_eq]; exact decide_eq_true he
          clear he
          go_wp2
          refine bodyPost_ret (v := tupP (⟨1, nn, ⟨#[]⟩⟩, true)) (by simp [results, Tryz.results37, go_sem, tupP, y0, y1, y2]; try rfl) rfl ⟨by rw [HP.out], (by repeat (first | with_reducible exact bel_refl _ | with_reducible assumption | with_reducible refine bel_set ?_ (by first | (simp; done) | (simp; omega) | omega) _ | with_reducible refine bel_alloc ?_ _ | with_reducible refine bel_drew ?_ | with_reducible refine bel_drewN ?_ _ | with_reducible refine bel_trans ?_ (by assumption)))⟩
        · have HP := Lib.hid (show parseV s = (z0, false) by unfold parseV; rw [HC.out, if_neg (fun h => he (HX.out.symm.trans h.2))])
          have hee : (tx.toList == s.toList) = false := by rw [str_eq]; exact decide_eq_false he
          clear he
          go_wp2
          refine bodyPost_ret (v := tupP (z0, false)) (by simp [results, Tryz.results37, go_sem, tupP, z0, y0, y1, y2]; try rfl) rfl ⟨by rw [HP.out], (by repeat (first | with_reducible exact bel_refl _ | with_reducible assumption | with_reducible refine bel_set ?_ (by first | (simp; done) | (simp; omega) | omega) _ | with_reducible refine bel_alloc ?_ _ | with_reducible refine bel_drew ?_ | with_reducible refine bel_drewN ?_ _ | with_reducible refine bel_trans ?_ (by assumption)))⟩
    · go_enter Tryz.func37, Tryz.ntmps37
      go_wp2_with fail
      refine (parseNumber_any s _ (by omega) (HT.out.kept (by repeat (first | with_reducible exact bel_refl _ | with_reducible assumption | with_reducible refine bel_set ?_ (by first | (simp; done) | (simp; omega) | omega) _ | with_reducible refine bel_alloc ?_ _ | with_reducible refine bel_drew ?_ | with_reducible refine bel_drewN ?_ _ | with_reducible refine bel_trans ?_ (by assumption)))) (HVV.out.kept (by repeat (first | with_reducible exact bel_refl _ | with_reducible assumption | with_reducible refine bel_set ?_ (by first | (simp; done) | (simp; omega) | omega) _ | with_reducible refine bel_alloc ?_ _ | with_reducible refine bel_drew ?_ | with_reducible refine bel_drewN ?_ _ | with_reducible refine bel_trans ?_ (by assumption))))).mono ?_
      rw [HN.out]
      rintro e w2 ⟨⟨bb, rfl⟩, hb2⟩
      have HA2 := Blk.kept (w := (w.alloc (.cells #[.int .i64 0, .int .i64 0, .string ⟨#[]⟩] 47)).alloc (.cells #[.int .i64 1, .int .i64 0, .string ⟨#[]⟩] 47)) (HZ.alloc _) hb2
      have HB2 := Blk.kept (Blk.new (w.alloc (.cells #[.int .i64 0, .int .i64 0, .string ⟨#[]⟩] 47)) 47 #[.int .i64 1, .int .i64 0, .string ⟨#[]⟩]) hb2
      simp only [World.alloc_size2] at HB2
      have g2 : Below w.heap.size w w2 := (by repeat (first | with_reducible exact bel_refl _ | with_reducible assumption | with_reducible refine bel_set ?_ (by first | (simp; done) | (simp; omega) | omega) _ | with_reducible refine bel_alloc ?_ _ | with_reducible refine bel_drew ?_ | with_reducible refine bel_drewN ?_ _ | with_reducible refine bel_trans ?_ (by assumption)))
      obtain ⟨v0, v1, v2, v3, v4, v5⟩ := HB2.three
      obtain ⟨u0, u1, u2, u3, u4, u5⟩ := HA2.three
      have zz := HB2.lt
      clear hb2
      have HZ4 := HA2.far (p := ⟨w.heap.size + 1, 1, none⟩) (by simp) (.int .i64 nn)
      have HB4 := HB2.set_ 1 (.int .i64 nn)
      obtain ⟨r, hr⟩ : ∃ r, valOk ⟨1, nn, ⟨#[]⟩⟩ = r := ⟨_, rfl⟩
      have HR := Lib.hid hr; clear hr
      go_wp2_with fail
      refine (implValOk_any 1 nn ⟨#[]⟩ _ (by omega)).mono ?_
      rw [HR.out]
      rintro e w3 ⟨rfl, hb3⟩
      have g3 : Below w.heap.size w w3 := (by repeat (first | with_reducible exact bel_refl _ | with_reducible assumption | with_reducible refine bel_set ?_ (by first | (simp; done) | (simp; omega) | omega) _ | with_reducible refine bel_alloc ?_ _ | with_reducible refine bel_drew ?_ | with_reducible refine bel_drewN ?_ _ | with_reducible refine bel_trans ?_ (by assumption)))
      have c0 := old_cell hb3 (b := w.heap.size + 1) (o := 0) (v := .int .i64 1) (by go_simp)
      have c1 := old_cell hb3 (b := w.heap.size + 1) (o := 1) (v := .int .i64 nn) (by go_simp)
      have c2 := old_cell hb3 (b := w.heap.size + 1) (o := 2) (v := .string ⟨#[]⟩) (by go_simp)
      have d0 := old_cell hb3 (b := w.heap.size) (o := 0) (v := .int .i64 0) (by go_simp)
      have d1 := old_cell hb3 (b := w.heap.size) (o := 1) (v := .int .i64 0) (by go_simp)
      have d2 := old_cell hb3 (b := w.heap.size) (o := 2) (v := .string ⟨#[]⟩) (by go_simp)
      have hzl := hb3.size
      have HZ3 : Blk w3 w.heap.size 47 #[.int .i64 0, .int .i64 0, .string ⟨#[]⟩] := by
        exact Blk.kept HZ4 hb3
      obtain ⟨d0', d1', d2', f0, f1, f2⟩ := HZ3.three
      have zc := cell_lt c0
      dsimp only at zc
      clear hb3 d0' d1' d2'
      cases r
      · have HP := Lib.hid (show parseV s = (z0, false) by unfold parseV; rw [HC.out, if_neg (fun h => by have := h.1; rw [HR.out] at this; cases this)])
        go_wp2
        refine bodyPost_ret (v := tupP (z0, false)) (by simp [results, Tryz.results37, go_sem, tupP, z0, d0, d1, d2]; try rfl) rfl ⟨by rw [HP.out], (by repeat (first | with_reducible exact bel_refl _ | with_reducible assumption | with_reducible refine bel_set ?_ (by first | (simp; done) | (simp; omega) | omega) _ | with_reducible refine bel_alloc ?_ _ | with_reducible refine bel_drew ?_ | with_reducible refine bel_drewN ?_ _ | with_reducible refine bel_trans ?_ (by assumption)))⟩
      · obtain ⟨tx, htx⟩ : ∃ tx, valText ⟨1, nn, ⟨#[]⟩⟩ = tx := ⟨_, rfl⟩
        have HX := Lib.hid htx; clear htx
        go_wp2_with fail
        refine (implValText_any 1 nn ⟨#[]⟩ _ (HT.out.kept (by repeat (first | with_reducible exact bel_refl _ | with_reducible assumption | with_reducible refine bel_set ?_ (by first | (simp; done) | (simp; omega) | omega) _ | with_reducible refine bel_alloc ?_ _ | with_reducible refine bel_drew ?_ | with_reducible refine bel_drewN ?_ _ | with_reducible refine bel_trans ?_ (by assumption)))) (by omega)).mono ?_
        rw [HX.out]
        rintro e w4 ⟨rfl, hb4⟩
        have g4 : Below w.heap.size w w4 := bel_trans g3 hb4
        replace HZ3 := HZ3.kept hb4
        obtain ⟨y0, y1, y2, y3, y4, y5⟩ := HZ3.three
        replace c0 := old_cell hb4 c0; replace c1 := old_cell hb4 c1; replace c2 := old_cell hb4 c2
        have zd := HZ3.lt
        have zc := cell_lt c0
        dsimp only at zc
        clear hb4 d0 d1 d2 f0 f1 f2
        by_cases he : tx = s
        · have HP := Lib.hid (show parseV s = (⟨1, nn, ⟨#[]⟩⟩, true) by unfold parseV; rw [HC.out, if_pos ⟨HR.out, HX.out.trans he⟩])
          have hee : (tx.toList == s.toList) = true := by rw [str_eq]; exact decide_eq_true he
          clear he
          go_wp2
          refine bodyPost_ret (v := tupP (⟨1, nn, ⟨#[]⟩⟩, true)) (by simp [results, Tryz.results37, go_sem, tupP, y0, y1, y2]; try rfl) rfl ⟨by rw [HP.out], (by repeat (first | with_reducible exact bel_refl _ | with_reducible assumption | with_reducible refine bel_set ?_ (by first | (simp; done) | (simp; omega) | omega) _ | with_reducible refine bel_alloc ?_ _ | with_reducible refine bel_drew ?_ | with_reducible refine bel_drewN ?_ _ | with_reducible refine bel_trans ?_ (by assumption)))⟩
        · have HP := Lib.hid (show parseV s = (z0, false) by unfold parseV; rw [HC.out, if_neg (fun h => he (HX.out.symm.trans h.2))])
          have hee : (tx.toList == s.toList) = false := by rw [str_eq]; exact decide_eq_false he
          clear he
          go_wp2
          refine bodyPost_ret (v := tupP (z0, false)) (by simp [results, Tryz.results37, go_sem, tupP, z0, y0, y1, y2]; try rfl) rfl ⟨by rw [HP.out], (by repeat (first | with_reducible exact bel_refl _ | with_reducible assumption | with_reducible refine bel_set ?_ (by first | (simp; done) | (simp; omega) | omega) _ | with_reducible refine bel_alloc ?_ _ | with_reducible refine bel_drew ?_ | with_reducible refine bel_drewN ?_ _ | with_reducible refine bel_trans ?_ (by assumption)))⟩
  by_cases h2 : 2 ≤ s.size
  · refine body (Or.inr ⟨by omega, by omega, ?_⟩)
    rw [beq_eq_false_iff_ne]
    intro e
    apply hq
    refine ⟨h2, ?_⟩
    rw [head_get s (by omega)]
    have e2 : s[0].toNat = 39 := by omega
    exact congrArg some (UInt8.toNat_inj.1 e2)
  · exact body (Or.inl (by omega))
theorem last_get (s : ByteArray) (h : s.size - 1 < s.size) : s.data.toList.getLast? = some s[s.size - 1] := by
  have h1 : s.data.toList.length = s.size := size_data s
  rw [List.getLast?_eq_getElem?, h1, List.getElem?_eq_getElem (by rw [h1]; exact h)]
  rfl
theorem drop_toList (s : ByteArray) : (s.extract 1 s.size).data.toList = s.data.toList.tail := by
  have h1 : s.data.toList.length = s.size := size_data s
  have e : (s.extract 1 s.size).data.toList = s.data.toList.tail.take (s.size - 1) := by
    simp [ByteArray.data_extract]
  rw [e, List.take_of_length_le (by rw [List.length_tail, h1]; exact Nat.le_refl _)]
theorem specParseVal_any (s : ByteArray) (w : World) (hs : s.size ≤ 1048576) :
    Calls Tryz.prog 44 #[.string s] w fun e w' => e = .returned (tupP (parseV s)) ∧ Below w.heap.size w w' := by
  have HZ := Blk.new w 47 #[.int .i64 0, .int .i64 0, .string ⟨#[]⟩]
  have hme : (⟨#[]⟩ : ByteArray).size ≤ 1048576 := by decide
  by_cases hQ : 2 ≤ s.size ∧ s.data.toList.head? = some 39 ∧ s.data.toList.getLast? = some 39
  · obtain ⟨h2, hh, hl⟩ := hQ
    have hPQ := parse_Q s h2 hh hl
    unfold midB at hPQ
    have h0 : 0 < s.size := by omega
    have hl0 : s.size - 1 < s.size := by omega
    have hi : (1:Int) < (s.size : Int) := by omega
    have hqq : ((s[0].toNat : Int) == 39) = true := by rw [head_get s h0] at hh; injection hh with hh; rw [hh]; rfl
    have hql : ((s[s.size - 1].toNat : Int) == 39) = true := by rw [last_get s hl0] at hl; injection hl with hl; rw [hl]; rfl
    have hme2 : (s.extract 1 (s.size - 1)).size ≤ 1048576 := by rw [ByteArray.size_extract]; omega
    have HPQ := Lib.hid hPQ; clear hPQ hh hl
    cases hv : valOk ⟨2, 0, (s.extract 1 (s.size - 1))⟩
    · have HR := Lib.hid hv; clear hv
      have HP := Lib.hid (show parseV s = (z0, false) by rw [HPQ.out, if_neg (by rw [HR.out]; decide)])
      go_enter Tryz.func44, Tryz.ntmps44
      go_wp2_with fail
      refine (specValOk_any 2 0 (s.extract 1 (s.size - 1)) _ (by omega)).mono ?_
      rw [HR.out]
      rintro e w3 ⟨rfl, hb3⟩
      have g3 : Below w.heap.size w w3 := (by repeat (first | with_reducible exact bel_refl _ | with_reducible assumption | with_reducible refine bel_set ?_ (by first | (simp; done) | (simp; omega) | omega) _ | with_reducible refine bel_alloc ?_ _ | with_reducible refine bel_drew ?_ | with_reducible refine bel_drewN ?_ _ | with_reducible refine bel_trans ?_ (by assumption)))
      have c0 := old_cell hb3 (b := w.heap.size + 1) (o := 0) (v := .int .i64 2) (by go_simp)
      have c1 := old_cell hb3 (b := w.heap.size + 1) (o := 1) (v := .int .i64 0) (by go_simp)
      have c2 := old_cell hb3 (b := w.heap.size + 1) (o := 2) (v := .string (s.extract 1 (s.size - 1))) (by go_simp)
      have HZ3 : Blk w3 w.heap.size 47 #[.int .i64 0, .int .i64 0, .string ⟨#[]⟩] := Blk.kept (w := (w.alloc (.cells #[.int .i64 0, .int .i64 0, .string ⟨#[]⟩] 47)).alloc _) (HZ.alloc _) hb3
      obtain ⟨y0, y1, y2, f0, f1, f2⟩ := HZ3.three
      have zc := cell_lt c0
      dsimp only at zc
      clear hb3
      go_wp2
      refine bodyPost_ret (v := tupP (z0, false)) (by simp [results, Tryz.results44, go_sem, tupP, z0, y0, y1, y2]; try rfl) rfl ⟨by rw [HP.out], (by repeat (first | with_reducible exact bel_refl _ | with_reducible assumption | with_reducible refine bel_set ?_ (by first | (simp; done) | (simp; omega) | omega) _ | with_reducible refine bel_alloc ?_ _ | with_reducible refine bel_drew ?_ | with_reducible refine bel_drewN ?_ _ | with_reducible refine bel_trans ?_ (by assumption)))⟩
    · have HR := Lib.hid hv; clear hv
      have HP := Lib.hid (show parseV s = (⟨2, 0, (s.extract 1 (s.size - 1))⟩, true) by rw [HPQ.out, if_pos HR.out])
      go_enter Tryz.func44, Tryz.ntmps44
      go_wp2_with fail
      refine (specValOk_any 2 0 (s.extract 1 (s.size - 1)) _ (by omega)).mono ?_
      rw [HR.out]
      rintro e w3 ⟨rfl, hb3⟩
      have g3 : Below w.heap.size w w3 := (by repeat (first | with_reducible exact bel_refl _ | with_reducible assumption | with_reducible refine bel_set ?_ (by first | (simp; done) | (simp; omega) | omega) _ | with_reducible refine bel_alloc ?_ _ | with_reducible refine bel_drew ?_ | with_reducible refine bel_drewN ?_ _ | with_reducible refine bel_trans ?_ (by assumption)))
      have c0 := old_cell hb3 (b := w.heap.size + 1) (o := 0) (v := .int .i64 2) (by go_simp)
      have c1 := old_cell hb3 (b := w.heap.size + 1) (o := 1) (v := .int .i64 0) (by go_simp)
      have c2 := old_cell hb3 (b := w.heap.size + 1) (o := 2) (v := .string (s.extract 1 (s.size - 1))) (by go_simp)
      have HZ3 : Blk w3 w.heap.size 47 #[.int .i64 0, .int .i64 0, .string ⟨#[]⟩] := Blk.kept (w := (w.alloc (.cells #[.int .i64 0, .int .i64 0, .string ⟨#[]⟩] 47)).alloc _) (HZ.alloc _) hb3
      obtain ⟨y0, y1, y2, f0, f1, f2⟩ := HZ3.three
      have zc := cell_lt c0
      dsimp only at zc
      clear hb3
      go_wp2
      refine bodyPost_ret (v := tupP (⟨2, 0, (s.extract 1 (s.size - 1))⟩, true)) (by simp [results, Tryz.results44, go_sem, tupP, y0, y1, y2]; try rfl) rfl ⟨by rw [HP.out], (by repeat (first | with_reducible exact bel_refl _ | with_reducible assumption | with_reducible refine bel_set ?_ (by first | (simp; done) | (simp; omega) | omega) _ | with_reducible refine bel_alloc ?_ _ | with_reducible refine bel_drew ?_ | with_reducible refine bel_drewN ?_ _ | with_reducible refine bel_trans ?_ (by assumption)))⟩
  by_cases hM : 2 ≤ s.size ∧ s.data.toList.head? = some 45
  · obtain ⟨h2, hh⟩ := hM
    clear hQ
    obtain ⟨T, hL⟩ : ∃ T, s.data.toList = 45 :: T := by
      cases hd : s.data.toList with
      | nil => rw [hd] at hh; cases hh
      | cons a t => rw [hd] at hh; injection hh with hh; rw [hh]; exact ⟨t, rfl⟩
    have hPM := parse_M s h2 T hL
    have hTT : (s.extract 1 s.size).data.toList = T := by rw [drop_toList, hL]; rfl
    have h0 : 0 < s.size := by omega
    have hi : (1:Int) < (s.size : Int) := by omega
    have hi2 : (1:Int) ≤ (s.size : Int) := by omega
    have hqq : ((s[0].toNat : Int) == 39) = false := by rw [head_get s h0] at hh; injection hh with hh; rw [hh]; rfl
    have hqm : ((s[0].toNat : Int) == 45) = true := by rw [head_get s h0] at hh; injection hh with hh; rw [hh]; rfl
    have hme2 : (s.extract 1 s.size).size ≤ 1048576 := by rw [ByteArray.size_extract]; omega
    have hb := whole_bound T
    obtain ⟨x, hx⟩ : ∃ x, wholeT T = x := ⟨_, rfl⟩
    rw [hx] at hPM hb
    have HX := Lib.hid (show wholeT (s.extract 1 s.size).data.toList = x by rw [hTT, hx])
    have HPM := Lib.hid hPM; clear hPM hh hL hTT hx
    have hw1 : IntKind.i64.wrap (-x) = -x := by rw [IntKind.wrap_i64]; omega
    by_cases hx0 : x ≤ 0
    · have HP := Lib.hid (show parseV s = (z0, false) by rw [HPM.out, if_pos hx0])
      have hx1 : (0:Int) ≤ -x := by omega
      go_enter Tryz.func44, Tryz.ntmps44
      go_wp2_with fail
      refine (l2Whole_any (s.extract 1 s.size) _ (by omega)).mono ?_
      rw [HX.out]
      rintro e w2 ⟨rfl, rfl⟩
      go_wp2
      refine bodyPost_ret (v := tupP (z0, false)) (by simp [results, Tryz.results44, go_sem, tupP, z0]; try rfl) rfl ⟨by rw [HP.out], (by repeat (first | with_reducible exact bel_refl _ | with_reducible assumption | with_reducible refine bel_set ?_ (by first | (simp; done) | (simp; omega) | omega) _ | with_reducible refine bel_alloc ?_ _ | with_reducible refine bel_drew ?_ | with_reducible refine bel_drewN ?_ _ | with_reducible refine bel_trans ?_ (by assumption)))⟩
    · have hx1 : ¬ (0:Int) ≤ -x := by omega
      cases hv : valOk ⟨1, (-x), ⟨#[]⟩⟩
      · have HR := Lib.hid hv; clear hv
        have HP := Lib.hid (show parseV s = (z0, false) by rw [HPM.out, if_neg hx0, if_neg (by rw [HR.out]; decide)])
        go_enter Tryz.func44, Tryz.ntmps44
        go_wp2_with fail
        refine (l2Whole_any (s.extract 1 s.size) _ (by omega)).mono ?_
        rw [HX.out]
        rintro e w2 ⟨rfl, hw2⟩
        subst hw2
        go_wp2_with fail
        refine (specValOk_any 1 (-x) ⟨#[]⟩ _ (by omega)).mono ?_
        rw [HR.out]
        rintro e w3 ⟨rfl, hb3⟩
        have g3 : Below w.heap.size w w3 := (by repeat (first | with_reducible exact bel_refl _ | with_reducible assumption | with_reducible refine bel_set ?_ (by first | (simp; done) | (simp; omega) | omega) _ | with_reducible refine bel_alloc ?_ _ | with_reducible refine bel_drew ?_ | with_reducible refine bel_drewN ?_ _ | with_reducible refine bel_trans ?_ (by assumption)))
        have c0 := old_cell hb3 (b := w.heap.size + 1) (o := 0) (v := .int .i64 1) (by go_simp)
        have c1 := old_cell hb3 (b := w.heap.size + 1) (o := 1) (v := .int .i64 (-x)) (by go_simp)
        have c2 := old_cell hb3 (b := w.heap.size + 1) (o := 2) (v := .string ⟨#[]⟩) (by go_simp)
        have HZ3 : Blk w3 w.heap.size 47 #[.int .i64 0, .int .i64 0, .string ⟨#[]⟩] := Blk.kept (w := (w.alloc (.cells #[.int .i64 0, .int .i64 0, .string ⟨#[]⟩] 47)).alloc _) (HZ.alloc _) hb3
        obtain ⟨y0, y1, y2, f0, f1, f2⟩ := HZ3.three
        have zc := cell_lt c0
        dsimp only at zc
        clear hb3
        go_wp2
        refine bodyPost_ret (v := tupP (z0, false)) (by simp [results, Tryz.results44, go_sem, tupP, z0, y0, y1, y2]; try rfl) rfl ⟨by rw [HP.out], (by repeat (first | with_reducible exact bel_refl _ | with_reducible assumption | with_reducible refine bel_set ?_ (by first | (simp; done) | (simp; omega) | omega) _ | with_reducible refine bel_alloc ?_ _ | with_reducible refine bel_drew ?_ | with_reducible refine bel_drewN ?_ _ | with_reducible refine bel_trans ?_ (by assumption)))⟩
      · have HR := Lib.hid hv; clear hv
        have HP := Lib.hid (show parseV s = (⟨1, (-x), ⟨#[]⟩⟩, true) by rw [HPM.out, if_neg hx0, if_pos HR.out])
        go_enter Tryz.func44, Tryz.ntmps44
        go_wp2_with fail
        refine (l2Whole_any (s.extract 1 s.size) _ (by omega)).mono ?_
        rw [HX.out]
        rintro e w2 ⟨rfl, hw2⟩
        subst hw2
        go_wp2_with fail
        refine (specValOk_any 1 (-x) ⟨#[]⟩ _ (by omega)).mono ?_
        rw [HR.out]
        rintro e w3 ⟨rfl, hb3⟩
        have g3 : Below w.heap.size w w3 := (by repeat (first | with_reducible exact bel_refl _ | with_reducible assumption | with_reducible refine bel_set ?_ (by first | (simp; done) | (simp; omega) | omega) _ | with_reducible refine bel_alloc ?_ _ | with_reducible refine bel_drew ?_ | with_reducible refine bel_drewN ?_ _ | with_reducible refine bel_trans ?_ (by assumption)))
        have c0 := old_cell hb3 (b := w.heap.size + 1) (o := 0) (v := .int .i64 1) (by go_simp)
        have c1 := old_cell hb3 (b := w.heap.size + 1) (o := 1) (v := .int .i64 (-x)) (by go_simp)
        have c2 := old_cell hb3 (b := w.heap.size + 1) (o := 2) (v := .string ⟨#[]⟩) (by go_simp)
        have HZ3 : Blk w3 w.heap.size 47 #[.int .i64 0, .int .i64 0, .string ⟨#[]⟩] := Blk.kept (w := (w.alloc (.cells #[.int .i64 0, .int .i64 0, .string ⟨#[]⟩] 47)).alloc _) (HZ.alloc _) hb3
        obtain ⟨y0, y1, y2, f0, f1, f2⟩ := HZ3.three
        have zc := cell_lt c0
        dsimp only at zc
        clear hb3
        go_wp2
        refine bodyPost_ret (v := tupP (⟨1, (-x), ⟨#[]⟩⟩, true)) (by simp [results, Tryz.results44, go_sem, tupP, y0, y1, y2]; try rfl) rfl ⟨by rw [HP.out], (by repeat (first | with_reducible exact bel_refl _ | with_reducible assumption | with_reducible refine bel_set ?_ (by first | (simp; done) | (simp; omega) | omega) _ | with_reducible refine bel_alloc ?_ _ | with_reducible refine bel_drew ?_ | with_reducible refine bel_drewN ?_ _ | with_reducible refine bel_trans ?_ (by assumption)))⟩
  have hPD := parse_D s hQ hM
  have hb := whole_bound s.data.toList
  obtain ⟨x, hx⟩ : ∃ x, wholeT s.data.toList = x := ⟨_, rfl⟩
  rw [hx] at hPD hb
  have HX := Lib.hid hx; clear hx
  have HPD := Lib.hid hPD; clear hPD
  have body : ∀ (h1 : (¬ (1:Int) < (s.size : Int)) ∨ (∃ (h0 : 0 < s.size) (_ : s.size - 1 < s.size), (1:Int) < (s.size : Int) ∧ ((s[0].toNat : Int) == 45) = false ∧ ((s[0].toNat : Int) == 39) = false) ∨ (∃ (h0 : 0 < s.size) (hl0 : s.size - 1 < s.size), (1:Int) < (s.size : Int) ∧ ((s[0].toNat : Int) == 45) = false ∧ ((s[0].toNat : Int) == 39) = true ∧ ((s[s.size - 1].toNat : Int) == 39) = false)), Calls Tryz.prog 44 #[.string s] w fun e w' => e = .returned (tupP (parseV s)) ∧ Below w.heap.size w w' := by
    intro h1
    clear hQ hM
    rcases h1 with h1 | ⟨h0, hl0, h1, hq1, hq2⟩ | ⟨h0, hl0, h1, hq1, hq2, hq3⟩
    · by_cases hx0 : x < 0
      · have HP := Lib.hid (show parseV s = (z0, false) by rw [HPD.out, if_pos hx0])
        go_enter Tryz.func44, Tryz.ntmps44
        go_wp2_with fail
        refine (l2Whole_any s _ (by omega)).mono ?_
        rw [HX.out]
        rintro e w2 ⟨rfl, rfl⟩
        go_wp2
        refine bodyPost_ret (v := tupP (z0, false)) (by simp [results, Tryz.results44, go_sem, tupP, z0]; try rfl) rfl ⟨by rw [HP.out], (by repeat (first | with_reducible exact bel_refl _ | with_reducible assumption | with_reducible refine bel_set ?_ (by first | (simp; done) | (simp; omega) | omega) _ | with_reducible refine bel_alloc ?_ _ | with_reducible refine bel_drew ?_ | with_reducible refine bel_drewN ?_ _ | with_reducible refine bel_trans ?_ (by assumption)))⟩
      · skip
        cases hv : valOk ⟨1, x, ⟨#[]⟩⟩
        · have HR := Lib.hid hv; clear hv
          have HP := Lib.hid (show parseV s = (z0, false) by rw [HPD.out, if_neg hx0, if_neg (by rw [HR.out]; decide)])
          go_enter Tryz.func44, Tryz.ntmps44
          go_wp2_with fail
          refine (l2Whole_any s _ (by omega)).mono ?_
          rw [HX.out]
          rintro e w2 ⟨rfl, hw2⟩
          subst hw2
          go_wp2_with fail
          refine (specValOk_any 1 x ⟨#[]⟩ _ (by omega)).mono ?_
          rw [HR.out]
          rintro e w3 ⟨rfl, hb3⟩
          have g3 : Below w.heap.size w w3 := (by repeat (first | with_reducible exact bel_refl _ | with_reducible assumption | with_reducible refine bel_set ?_ (by first | (simp; done) | (simp; omega) | omega) _ | with_reducible refine bel_alloc ?_ _ | with_reducible refine bel_drew ?_ | with_reducible refine bel_drewN ?_ _ | with_reducible refine bel_trans ?_ (by assumption)))
          have c0 := old_cell hb3 (b := w.heap.size + 1) (o := 0) (v := .int .i64 1) (by go_simp)
          have c1 := old_cell hb3 (b := w.heap.size + 1) (o := 1) (v := .int .i64 x) (by go_simp)
          have c2 := old_cell hb3 (b := w.heap.size + 1) (o := 2) (v := .string ⟨#[]⟩) (by go_simp)
          have HZ3 : Blk w3 w.heap.size 47 #[.int .i64 0, .int .i64 0, .string ⟨#[]⟩] := Blk.kept (w := (w.alloc (.cells #[.int .i64 0, .int .i64 0, .string ⟨#[]⟩] 47)).alloc _) (HZ.alloc _) hb3
          obtain ⟨y0, y1, y2, f0, f1, f2⟩ := HZ3.three
          have zc := cell_lt c0
          dsimp only at zc
          clear hb3
          go_wp2
          refine bodyPost_ret (v := tupP (z0, false)) (by simp [results, Tryz.results44, go_sem, tupP, z0, y0, y1, y2]; try rfl) rfl ⟨by rw [HP.out], (by repeat (first | with_reducible exact bel_refl _ | with_reducible assumption | with_reducible refine bel_set ?_ (by first | (simp; done) | (simp; omega) | omega) _ | with_reducible refine bel_alloc ?_ _ | with_reducible refine bel_drew ?_ | with_reducible refine bel_drewN ?_ _ | with_reducible refine bel_trans ?_ (by assumption)))⟩
        · have HR := Lib.hid hv; clear hv
          have HP := Lib.hid (show parseV s = (⟨1, x, ⟨#[]⟩⟩, true) by rw [HPD.out, if_neg hx0, if_pos HR.out])
          go_enter Tryz.func44, Tryz.ntmps44
          go_wp2_with fail
          refine (l2Whole_any s _ (by omega)).mono ?_
          rw [HX.out]
          rintro e w2 ⟨rfl, hw2⟩
          subst hw2
          go_wp2_with fail
          refine (specValOk_any 1 x ⟨#[]⟩ _ (by omega)).mono ?_
          rw [HR.out]
          rintro e w3 ⟨rfl, hb3⟩
          have g3 : Below w.heap.size w w3 := (by repeat (first | with_reducible exact bel_refl _ | with_reducible assumption | with_reducible refine bel_set ?_ (by first | (simp; done) | (simp; omega) | omega) _ | with_reducible refine bel_alloc ?_ _ | with_reducible refine bel_drew ?_ | with_reducible refine bel_drewN ?_ _ | with_reducible refine bel_trans ?_ (by assumption)))
          have c0 := old_cell hb3 (b := w.heap.size + 1) (o := 0) (v := .int .i64 1) (by go_simp)
          have c1 := old_cell hb3 (b := w.heap.size + 1) (o := 1) (v := .int .i64 x) (by go_simp)
          have c2 := old_cell hb3 (b := w.heap.size + 1) (o := 2) (v := .string ⟨#[]⟩) (by go_simp)
          have HZ3 : Blk w3 w.heap.size 47 #[.int .i64 0, .int .i64 0, .string ⟨#[]⟩] := Blk.kept (w := (w.alloc (.cells #[.int .i64 0, .int .i64 0, .string ⟨#[]⟩] 47)).alloc _) (HZ.alloc _) hb3
          obtain ⟨y0, y1, y2, f0, f1, f2⟩ := HZ3.three
          have zc := cell_lt c0
          dsimp only at zc
          clear hb3
          go_wp2
          refine bodyPost_ret (v := tupP (⟨1, x, ⟨#[]⟩⟩, true)) (by simp [results, Tryz.results44, go_sem, tupP, y0, y1, y2]; try rfl) rfl ⟨by rw [HP.out], (by repeat (first | with_reducible exact bel_refl _ | with_reducible assumption | with_reducible refine bel_set ?_ (by first | (simp; done) | (simp; omega) | omega) _ | with_reducible refine bel_alloc ?_ _ | with_reducible refine bel_drew ?_ | with_reducible refine bel_drewN ?_ _ | with_reducible refine bel_trans ?_ (by assumption)))⟩
    · by_cases hx0 : x < 0
      · have HP := Lib.hid (show parseV s = (z0, false) by rw [HPD.out, if_pos hx0])
        go_enter Tryz.func44, Tryz.ntmps44
        go_wp2_with fail
        refine (l2Whole_any s _ (by omega)).mono ?_
        rw [HX.out]
        rintro e w2 ⟨rfl, rfl⟩
        go_wp2
        refine bodyPost_ret (v := tupP (z0, false)) (by simp [results, Tryz.results44, go_sem, tupP, z0]; try rfl) rfl ⟨by rw [HP.out], (by repeat (first | with_reducible exact bel_refl _ | with_reducible assumption | with_reducible refine bel_set ?_ (by first | (simp; done) | (simp; omega) | omega) _ | with_reducible refine bel_alloc ?_ _ | with_reducible refine bel_drew ?_ | with_reducible refine bel_drewN ?_ _ | with_reducible refine bel_trans ?_ (by assumption)))⟩
      · skip
        cases hv : valOk ⟨1, x, ⟨#[]⟩⟩
        · have HR := Lib.hid hv; clear hv
          have HP := Lib.hid (show parseV s = (z0, false) by rw [HPD.out, if_neg hx0, if_neg (by rw [HR.out]; decide)])
          go_enter Tryz.func44, Tryz.ntmps44
          go_wp2_with fail
          refine (l2Whole_any s _ (by omega)).mono ?_
          rw [HX.out]
          rintro e w2 ⟨rfl, hw2⟩
          subst hw2
          go_wp2_with fail
          refine (specValOk_any 1 x ⟨#[]⟩ _ (by omega)).mono ?_
          rw [HR.out]
          rintro e w3 ⟨rfl, hb3⟩
          have g3 : Below w.heap.size w w3 := (by repeat (first | with_reducible exact bel_refl _ | with_reducible assumption | with_reducible refine bel_set ?_ (by first | (simp; done) | (simp; omega) | omega) _ | with_reducible refine bel_alloc ?_ _ | with_reducible refine bel_drew ?_ | with_reducible refine bel_drewN ?_ _ | with_reducible refine bel_trans ?_ (by assumption)))
          have c0 := old_cell hb3 (b := w.heap.size + 1) (o := 0) (v := .int .i64 1) (by go_simp)
          have c1 := old_cell hb3 (b := w.heap.size + 1) (o := 1) (v := .int .i64 x) (by go_simp)
          have c2 := old_cell hb3 (b := w.heap.size + 1) (o := 2) (v := .string ⟨#[]⟩) (by go_simp)
          have HZ3 : Blk w3 w.heap.size 47 #[.int .i64 0, .int .i64 0, .string ⟨#[]⟩] := Blk.kept (w := (w.alloc (.cells #[.int .i64 0, .int .i64 0, .string ⟨#[]⟩] 47)).alloc _) (HZ.alloc _) hb3
          obtain ⟨y0, y1, y2, f0, f1, f2⟩ := HZ3.three
          have zc := cell_lt c0
          dsimp only at zc
          clear hb3
          go_wp2
          refine bodyPost_ret (v := tupP (z0, false)) (by simp [results, Tryz.results44, go_sem, tupP, z0, y0, y1, y2]; try rfl) rfl ⟨by rw [HP.out], (by repeat (first | with_reducible exact bel_refl _ | with_reducible assumption | with_reducible refine bel_set ?_ (by first | (simp; done) | (simp; omega) | omega) _ | with_reducible refine bel_alloc ?_ _ | with_reducible refine bel_drew ?_ | with_reducible refine bel_drewN ?_ _ | with_reducible refine bel_trans ?_ (by assumption)))⟩
        · have HR := Lib.hid hv; clear hv
          have HP := Lib.hid (show parseV s = (⟨1, x, ⟨#[]⟩⟩, true) by rw [HPD.out, if_neg hx0, if_pos HR.out])
          go_enter Tryz.func44, Tryz.ntmps44
          go_wp2_with fail
          refine (l2Whole_any s _ (by omega)).mono ?_
          rw [HX.out]
          rintro e w2 ⟨rfl, hw2⟩
          subst hw2
          go_wp2_with fail
          refine (specValOk_any 1 x ⟨#[]⟩ _ (by omega)).mono ?_
          rw [HR.out]
          rintro e w3 ⟨rfl, hb3⟩
          have g3 : Below w.heap.size w w3 := (by repeat (first | with_reducible exact bel_refl _ | with_reducible assumption | with_reducible refine bel_set ?_ (by first | (simp; done) | (simp; omega) | omega) _ | with_reducible refine bel_alloc ?_ _ | with_reducible refine bel_drew ?_ | with_reducible refine bel_drewN ?_ _ | with_reducible refine bel_trans ?_ (by assumption)))
          have c0 := old_cell hb3 (b := w.heap.size + 1) (o := 0) (v := .int .i64 1) (by go_simp)
          have c1 := old_cell hb3 (b := w.heap.size + 1) (o := 1) (v := .int .i64 x) (by go_simp)
          have c2 := old_cell hb3 (b := w.heap.size + 1) (o := 2) (v := .string ⟨#[]⟩) (by go_simp)
          have HZ3 : Blk w3 w.heap.size 47 #[.int .i64 0, .int .i64 0, .string ⟨#[]⟩] := Blk.kept (w := (w.alloc (.cells #[.int .i64 0, .int .i64 0, .string ⟨#[]⟩] 47)).alloc _) (HZ.alloc _) hb3
          obtain ⟨y0, y1, y2, f0, f1, f2⟩ := HZ3.three
          have zc := cell_lt c0
          dsimp only at zc
          clear hb3
          go_wp2
          refine bodyPost_ret (v := tupP (⟨1, x, ⟨#[]⟩⟩, true)) (by simp [results, Tryz.results44, go_sem, tupP, y0, y1, y2]; try rfl) rfl ⟨by rw [HP.out], (by repeat (first | with_reducible exact bel_refl _ | with_reducible assumption | with_reducible refine bel_set ?_ (by first | (simp; done) | (simp; omega) | omega) _ | with_reducible refine bel_alloc ?_ _ | with_reducible refine bel_drew ?_ | with_reducible refine bel_drewN ?_ _ | with_reducible refine bel_trans ?_ (by assumption)))⟩
    · by_cases hx0 : x < 0
      · have HP := Lib.hid (show parseV s = (z0, false) by rw [HPD.out, if_pos hx0])
        go_enter Tryz.func44, Tryz.ntmps44
        go_wp2_with fail
        refine (l2Whole_any s _ (by omega)).mono ?_
        rw [HX.out]
        rintro e w2 ⟨rfl, rfl⟩
        go_wp2
        refine bodyPost_ret (v := tupP (z0, false)) (by simp [results, Tryz.results44, go_sem, tupP, z0]; try rfl) rfl ⟨by rw [HP.out], (by repeat (first | with_reducible exact bel_refl _ | with_reducible assumption | with_reducible refine bel_set ?_ (by first | (simp; done) | (simp; omega) | omega) _ | with_reducible refine bel_alloc ?_ _ | with_reducible refine bel_drew ?_ | with_reducible refine bel_drewN ?_ _ | with_reducible refine bel_trans ?_ (by assumption)))⟩
      · skip
        cases hv : valOk ⟨1, x, ⟨#[]⟩⟩
        · have HR := Lib.hid hv; clear hv
          have HP := Lib.hid (show parseV s = (z0, false) by rw [HPD.out, if_neg hx0, if_neg (by rw [HR.out]; decide)])
          go_enter Tryz.func44, Tryz.ntmps44
          go_wp2_with fail
          refine (l2Whole_any s _ (by omega)).mono ?_
          rw [HX.out]
          rintro e w2 ⟨rfl, hw2⟩
          subst hw2
          go_wp2_with fail
          refine (specValOk_any 1 x ⟨#[]⟩ _ (by omega)).mono ?_
          rw [HR.out]
          rintro e w3 ⟨rfl, hb3⟩
          have g3 : Below w.heap.size w w3 := (by repeat (first | with_reducible exact bel_refl _ | with_reducible assumption | with_reducible refine bel_set ?_ (by first | (simp; done) | (simp; omega) | omega) _ | with_reducible refine bel_alloc ?_ _ | with_reducible refine bel_drew ?_ | with_reducible refine bel_drewN ?_ _ | with_reducible refine bel_trans ?_ (by assumption)))
          have c0 := old_cell hb3 (b := w.heap.size + 1) (o := 0) (v := .int .i64 1) (by go_simp)
          have c1 := old_cell hb3 (b := w.heap.size + 1) (o := 1) (v := .int .i64 x) (by go_simp)
          have c2 := old_cell hb3 (b := w.heap.size + 1) (o := 2) (v := .string ⟨#[]⟩) (by go_simp)
          have HZ3 : Blk w3 w.heap.size 47 #[.int .i64 0, .int .i64 0, .string ⟨#[]⟩] := Blk.kept (w := (w.alloc (.cells #[.int .i64 0, .int .i64 0, .string ⟨#[]⟩] 47)).alloc _) (HZ.alloc _) hb3
          obtain ⟨y0, y1, y2, f0, f1, f2⟩ := HZ3.three
          have zc := cell_lt c0
          dsimp only at zc
          clear hb3
          go_wp2
          refine bodyPost_ret (v := tupP (z0, false)) (by simp [results, Tryz.results44, go_sem, tupP, z0, y0, y1, y2]; try rfl) rfl ⟨by rw [HP.out], (by repeat (first | with_reducible exact bel_refl _ | with_reducible assumption | with_reducible refine bel_set ?_ (by first | (simp; done) | (simp; omega) | omega) _ | with_reducible refine bel_alloc ?_ _ | with_reducible refine bel_drew ?_ | with_reducible refine bel_drewN ?_ _ | with_reducible refine bel_trans ?_ (by assumption)))⟩
        · have HR := Lib.hid hv; clear hv
          have HP := Lib.hid (show parseV s = (⟨1, x, ⟨#[]⟩⟩, true) by rw [HPD.out, if_neg hx0, if_pos HR.out])
          go_enter Tryz.func44, Tryz.ntmps44
          go_wp2_with fail
          refine (l2Whole_any s _ (by omega)).mono ?_
          rw [HX.out]
          rintro e w2 ⟨rfl, hw2⟩
          subst hw2
          go_wp2_with fail
          refine (specValOk_any 1 x ⟨#[]⟩ _ (by omega)).mono ?_
          rw [HR.out]
          rintro e w3 ⟨rfl, hb3⟩
          have g3 : Below w.heap.size w w3 := (by repeat (first | with_reducible exact bel_refl _ | with_reducible assumption | with_reducible refine bel_set ?_ (by first | (simp; done) | (simp; omega) | omega) _ | with_reducible refine bel_alloc ?_ _ | with_reducible refine bel_drew ?_ | with_reducible refine bel_drewN ?_ _ | with_reducible refine bel_trans ?_ (by assumption)))
          have c0 := old_cell hb3 (b := w.heap.size + 1) (o := 0) (v := .int .i64 1) (by go_simp)
          have c1 := old_cell hb3 (b := w.heap.size + 1) (o := 1) (v := .int .i64 x) (by go_simp)
          have c2 := old_cell hb3 (b := w.heap.size + 1) (o := 2) (v := .string ⟨#[]⟩) (by go_simp)
          have HZ3 : Blk w3 w.heap.size 47 #[.int .i64 0, .int .i64 0, .string ⟨#[]⟩] := Blk.kept (w := (w.alloc (.cells #[.int .i64 0, .int .i64 0, .string ⟨#[]⟩] 47)).alloc _) (HZ.alloc _) hb3
          obtain ⟨y0, y1, y2, f0, f1, f2⟩ := HZ3.three
          have zc := cell_lt c0
          dsimp only at zc
          clear hb3
          go_wp2
          refine bodyPost_ret (v := tupP (⟨1, x, ⟨#[]⟩⟩, true)) (by simp [results, Tryz.results44, go_sem, tupP, y0, y1, y2]; try rfl) rfl ⟨by rw [HP.out], (by repeat (first | with_reducible exact bel_refl _ | with_reducible assumption | with_reducible refine bel_set ?_ (by first | (simp; done) | (simp; omega) | omega) _ | with_reducible refine bel_alloc ?_ _ | with_reducible refine bel_drew ?_ | with_reducible refine bel_drewN ?_ _ | with_reducible refine bel_trans ?_ (by assumption)))⟩
  by_cases h2 : 2 ≤ s.size
  · have h0 : 0 < s.size := by omega
    have hl0 : s.size - 1 < s.size := by omega
    have n45 : ((s[0].toNat : Int) == 45) = false := by
      rw [beq_eq_false_iff_ne]
      intro e
      apply hM
      refine ⟨h2, ?_⟩
      rw [head_get s h0]
      have e2 : s[0].toNat = 45 := by omega
      exact congrArg some (UInt8.toNat_inj.1 e2)
    cases h39 : ((s[0].toNat : Int) == 39)
    · exact body (Or.inr (Or.inl ⟨h0, hl0, by omega, n45, h39⟩))
    · refine body (Or.inr (Or.inr ⟨h0, hl0, by omega, n45, h39, ?_⟩))
      rw [beq_eq_false_iff_ne]
      intro e
      apply hQ
      have e1 : s[0].toNat = 39 := by have := eq_of_beq h39; omega
      have e2 : s[s.size - 1].toNat = 39 := by omega
      exact ⟨h2, by rw [head_get s h0]; exact congrArg some (UInt8.toNat_inj.1 e1), by rw [last_get s hl0]; exact congrArg some (UInt8.toNat_inj.1 e2)⟩
  · exact body (Or.inl (by omega))
end Go.Proofs.YtcbbefibebkfgaaGreatDoor
