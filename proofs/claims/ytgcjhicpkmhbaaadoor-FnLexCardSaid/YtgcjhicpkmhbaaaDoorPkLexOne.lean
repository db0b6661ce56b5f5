import Derived.Test.YtgcjhicpkmhbaaaDoorPkLexP
/- Reading a text as tokens, by the reference: what begins at a place. It answers what the plain function says and makes new blocks. Condition: the length. -/
namespace Go.Proofs.YtgcjhicpkmhbaaaDoor
open Go.RowKit
set_option maxRecDepth 100000
set_option maxHeartbeats 4000000
def tupL (a : Nat) (r : Vl × Nat) : Value := .tuple #[.agg #[.int .i64 r.1.k, .int .i64 r.1.n, .string r.1.s], .int .i64 ((a + r.2 : Nat) : Int)]
theorem ext_take (s : ByteArray) (a n R : Nat) (h : a + n = R) : (s.extract a R) = bytesOf ((s.data.toList.drop a).take n) := by
  apply ByteArray.ext
  apply Array.ext'
  subst h
  simp [bytesOf, ByteArray.data_extract]
theorem ext_list (s : ByteArray) (a n R : Nat) (h : a + n = R) : (s.extract a R).data.toList = (s.data.toList.drop a).take n := by
  rw [ext_take s a n R h]
  rfl
theorem mark_two (s : ByteArray) (a : Nat) (h : a + 1 < s.size) : markOk (s.extract a (a + 2)) = decide (s[a] = 45 ∧ (s.data.toList.drop (a + 1)).head? = some 62) := by
  have e : (s.extract a (a + 2)).toList = [s[a], s[a + 1]] := by
    rw [ByteArray.toList_eq, ext_list s a 2 _ rfl, dropS (by omega : a < s.size), dropS h]
    rfl
  unfold markOk
  rw [e, dropS h, Bool.eq_iff_iff]
  simp [marks1]
theorem l5One_any (s : ByteArray) (at_ : Nat) (r : Vl × Nat) (w : World) (hs : s.size ≤ 1048576) (ha : at_ < s.size) (hR : oneL (s.data.toList.drop at_) = r) :
    Calls Tryd.prog 19 #[.string s, .int .i64 at_] w fun e w' => e = .returned (tupL at_ r) ∧ Below w.heap.size w w' := by
  have hb := byte_le s[at_]
  have hd := dropS ha
  rw [hd] at hR
  have e39 := beq_byte s[at_] 39 39 rfl
  cases hdg : digit s[at_].toNat
  · cases hsm : small s[at_].toNat
    · cases hlg : large s[at_].toNat
      · cases hq : (s[at_] == 39)
        · have HDD := Lib.hid (show inB (s[at_].toNat : Int) 48 57 = false from hdg)
          have HSS := Lib.hid (show inB (s[at_].toNat : Int) 97 122 = false from hsm)
          have HLL := Lib.hid hlg
          rw [hq] at e39
          have h1 : oneL (s[at_] :: s.data.toList.drop (at_ + 1)) = if s[at_] = 45 ∧ (s.data.toList.drop (at_ + 1)).head? = some 62 then (⟨5, 0, ⟨#[45, 62]⟩⟩, 2) else (⟨5, 0, ⟨#[s[at_]]⟩⟩, 1) := by
            rw [oneL, hdg, hsm, hlg, if_neg (by simp), if_neg (by simp), if_neg (by simp), if_neg (by simpa using hq)]
          by_cases hn : at_ + 1 < s.size
          · have hm := mark_two s at_ hn
            by_cases hc : s[at_] = 45 ∧ (s.data.toList.drop (at_ + 1)).head? = some 62
            · have HM := Lib.hid (show markOk (s.extract at_ (at_ + 2)) = true by rw [hm]; exact decide_eq_true hc)
              have hx : s.extract at_ (at_ + 2) = ⟨#[45, 62]⟩ := by
                have h3 := hc.2
                rw [dropS hn, List.head?_cons] at h3
                injection h3 with h3
                rw [ext_take s at_ 2 _ rfl, dropS ha, dropS hn, hc.1, h3]
                rfl
              have HF := Lib.hid (show tupL at_ r = .tuple #[.agg #[.int .i64 5, .int .i64 0, .string (s.extract at_ (at_ + 2))], .int .i64 ((at_ : Int) + 2)] by
                rw [← hR, h1, if_pos hc, hx, tupL, Int.natCast_add]
                rfl)
              clear hdg hsm hlg hR hq hm hc hx h1 hd
              go_enter Tryd.func19, Tryd.ntmps19
              go_wp2_with (first | (go_at_call 39; refine (l1In_any _ _ _ _).mono ?_; (first | rw [HDD.out] | rw [HSS.out]); rintro e w' ⟨rfl, rfl⟩) | (go_at_call 43; refine (l5Large_any _ (by omega) (by omega) _).mono ?_; rw [HLL.out]; rintro e w' ⟨rfl, rfl⟩) | (go_at_call 45; refine (l5MarkOk_any _ _).mono ?_; rw [HM.out]; rintro e w' ⟨rfl, rfl⟩))
              refine bodyPost_ret (v := tupL at_ r) (by rw [HF.out]; simp [results, Tryd.results19, go_sem]) rfl ⟨rfl, (by repeat (first | with_reducible exact bel_refl _ | with_reducible assumption | with_reducible refine bel_set ?_ (by first | (simp; done) | (simp; omega) | omega) _ | with_reducible refine bel_alloc ?_ _ | with_reducible refine bel_drew ?_ | with_reducible refine bel_drewN ?_ _ | with_reducible refine bel_trans ?_ (by assumption)))⟩
            · have HM := Lib.hid (show markOk (s.extract at_ (at_ + 2)) = false by rw [hm]; exact decide_eq_false hc)
              have HF := Lib.hid (show tupL at_ r = .tuple #[.agg #[.int .i64 5, .int .i64 0, .string (s.extract at_ (at_ + 1))], .int .i64 ((at_ : Int) + 1)] by
                rw [← hR, h1, if_neg hc, ext_take s at_ 1 _ rfl, dropS ha, tupL, Int.natCast_add]
                rfl)
              clear hdg hsm hlg hR hq hm hc h1 hd
              go_enter Tryd.func19, Tryd.ntmps19
              go_wp2_with (first | (go_at_call 39; refine (l1In_any _ _ _ _).mono ?_; (first | rw [HDD.out] | rw [HSS.out]); rintro e w' ⟨rfl, rfl⟩) | (go_at_call 43; refine (l5Large_any _ (by omega) (by omega) _).mono ?_; rw [HLL.out]; rintro e w' ⟨rfl, rfl⟩) | (go_at_call 45; refine (l5MarkOk_any _ _).mono ?_; rw [HM.out]; rintro e w' ⟨rfl, rfl⟩))
              refine bodyPost_ret (v := tupL at_ r) (by rw [HF.out]; simp [results, Tryd.results19, go_sem]) rfl ⟨rfl, (by repeat (first | with_reducible exact bel_refl _ | with_reducible assumption | with_reducible refine bel_set ?_ (by first | (simp; done) | (simp; omega) | omega) _ | with_reducible refine bel_alloc ?_ _ | with_reducible refine bel_drew ?_ | with_reducible refine bel_drewN ?_ _ | with_reducible refine bel_trans ?_ (by assumption)))⟩
          · have HF := Lib.hid (show tupL at_ r = .tuple #[.agg #[.int .i64 5, .int .i64 0, .string (s.extract at_ (at_ + 1))], .int .i64 ((at_ : Int) + 1)] by
              rw [← hR, h1, if_neg (by rintro ⟨_, e⟩; rw [List.drop_of_length_le (by rw [size_data]; omega)] at e; cases e), ext_take s at_ 1 _ rfl, dropS ha, tupL, Int.natCast_add]
              rfl)
            clear hdg hsm hlg hR hq h1 hd
            go_enter Tryd.func19, Tryd.ntmps19
            go_wp2_with (first | (go_at_call 39; refine (l1In_any _ _ _ _).mono ?_; (first | rw [HDD.out] | rw [HSS.out]); rintro e w' ⟨rfl, rfl⟩) | (go_at_call 43; refine (l5Large_any _ (by omega) (by omega) _).mono ?_; rw [HLL.out]; rintro e w' ⟨rfl, rfl⟩))
            refine bodyPost_ret (v := tupL at_ r) (by rw [HF.out]; simp [results, Tryd.results19, go_sem]) rfl ⟨rfl, (by repeat (first | with_reducible exact bel_refl _ | with_reducible assumption | with_reducible refine bel_set ?_ (by first | (simp; done) | (simp; omega) | omega) _ | with_reducible refine bel_alloc ?_ _ | with_reducible refine bel_drew ?_ | with_reducible refine bel_drewN ?_ _ | with_reducible refine bel_trans ?_ (by assumption)))⟩
        · have HDD := Lib.hid (show inB (s[at_].toNat : Int) 48 57 = false from hdg)
          have HSS := Lib.hid (show inB (s[at_].toNat : Int) 97 122 = false from hsm)
          have HLL := Lib.hid hlg
          rw [hq] at e39
          have hl : runL noQ (s.data.toList.drop (at_ + 1)) ≤ s.size - (at_ + 1) := run_leS _ _ _
          obtain ⟨R, hRR⟩ : ∃ R, at_ + 1 + runL noQ (s.data.toList.drop (at_ + 1)) = R := ⟨_, rfl⟩
          have h1 : oneL (s[at_] :: s.data.toList.drop (at_ + 1)) = if runL noQ (s.data.toList.drop (at_ + 1)) < (s.data.toList.drop (at_ + 1)).length then (⟨4, 0, bytesOf ((s.data.toList.drop (at_ + 1)).take (runL noQ (s.data.toList.drop (at_ + 1))))⟩, runL noQ (s.data.toList.drop (at_ + 1)) + 2) else (noTok, runL noQ (s.data.toList.drop (at_ + 1)) + 1) := by
            rw [oneL, hdg, hsm, hlg, if_neg (by simp), if_neg (by simp), if_neg (by simp), if_pos (by simpa using hq)]
          rw [List.length_drop, size_data] at h1
          have hle : at_ + 1 ≤ R := by omega
          have hle2 : R ≤ s.size := by omega
          by_cases he : R = s.size
          · have HF := Lib.hid (show tupL at_ r = .tuple #[.agg #[.int .i64 0, .int .i64 0, .string ⟨#[]⟩], .int .i64 R] by
              rw [← hR, h1, if_neg (by omega), tupL, ← hRR, show at_ + (noTok, runL noQ (s.data.toList.drop (at_ + 1)) + 1).2 = at_ + 1 + runL noQ (s.data.toList.drop (at_ + 1)) by dsimp only; omega]
              rfl)
            have HRR := Lib.hid hRR
            clear hdg hsm hlg hR hRR hl hq h1 hd
            go_enter Tryd.func19, Tryd.ntmps19
            go_wp2_with (first | (go_at_call 39; refine (l1In_any _ _ _ _).mono ?_; (first | rw [HDD.out] | rw [HSS.out]); rintro e w' ⟨rfl, rfl⟩) | (go_at_call 43; refine (l5Large_any _ (by omega) (by omega) _).mono ?_; rw [HLL.out]; rintro e w' ⟨rfl, rfl⟩) | (go_at_call 44; refine (l5Quote_any s (at_ + 1) R _ hs (by omega) HRR.out).mono ?_; rintro e w' ⟨rfl, rfl⟩))
            refine bodyPost_ret (v := tupL at_ r) (by rw [HF.out]; simp [results, Tryd.results19, go_sem, he]) rfl ⟨rfl, (by repeat (first | with_reducible exact bel_refl _ | with_reducible assumption | with_reducible refine bel_set ?_ (by first | (simp; done) | (simp; omega) | omega) _ | with_reducible refine bel_alloc ?_ _ | with_reducible refine bel_drew ?_ | with_reducible refine bel_drewN ?_ _ | with_reducible refine bel_trans ?_ (by assumption)))⟩
          · have HF := Lib.hid (show tupL at_ r = .tuple #[.agg #[.int .i64 4, .int .i64 0, .string (s.extract (at_ + 1) R)], .int .i64 ((R : Int) + 1)] by
              rw [← hR, h1, if_pos (by omega), tupL, ext_take s (at_ + 1) _ R hRR]
              dsimp only
              rw [show at_ + (runL noQ (s.data.toList.drop (at_ + 1)) + 2) = R + 1 by omega, Int.natCast_add]
              rfl)
            have HRR := Lib.hid hRR
            clear hdg hsm hlg hR hRR hl hq h1 hd
            go_enter Tryd.func19, Tryd.ntmps19
            go_wp2_with (first | (go_at_call 39; refine (l1In_any _ _ _ _).mono ?_; (first | rw [HDD.out] | rw [HSS.out]); rintro e w' ⟨rfl, rfl⟩) | (go_at_call 43; refine (l5Large_any _ (by omega) (by omega) _).mono ?_; rw [HLL.out]; rintro e w' ⟨rfl, rfl⟩) | (go_at_call 44; refine (l5Quote_any s (at_ + 1) R _ hs (by omega) HRR.out).mono ?_; rintro e w' ⟨rfl, rfl⟩))
            refine bodyPost_ret (v := tupL at_ r) (by rw [HF.out]; simp [results, Tryd.results19, go_sem]) rfl ⟨rfl, (by repeat (first | with_reducible exact bel_refl _ | with_reducible assumption | with_reducible refine bel_set ?_ (by first | (simp; done) | (simp; omega) | omega) _ | with_reducible refine bel_alloc ?_ _ | with_reducible refine bel_drew ?_ | with_reducible refine bel_drewN ?_ _ | with_reducible refine bel_trans ?_ (by assumption)))⟩
      · have HDD := Lib.hid (show inB (s[at_].toNat : Int) 48 57 = false from hdg)
        have HSS := Lib.hid (show inB (s[at_].toNat : Int) 97 122 = false from hsm)
        have HLL := Lib.hid hlg
        have hl : runL larB (s.data.toList.drop at_) ≤ s.size - at_ := run_leS _ _ _
        obtain ⟨R, hRR⟩ : ∃ R, at_ + runL larB (s.data.toList.drop at_) = R := ⟨_, rfl⟩
        have HF := Lib.hid (show tupL at_ r = .tuple #[.agg #[.int .i64 3, .int .i64 0, .string (s.extract at_ R)], .int .i64 R] by
          rw [← hR, oneL, hdg, hsm, hlg, if_neg (by simp), if_neg (by simp), if_pos rfl, ← hd, ext_take s at_ _ R hRR, tupL, hRR])
        have HRR := Lib.hid hRR
        have hle : at_ ≤ R := by omega
        have hle2 : R ≤ s.size := by omega
        clear hdg hsm hlg hR hRR hl e39 hd
        go_enter Tryd.func19, Tryd.ntmps19
        go_wp2_with (first | (go_at_call 39; refine (l1In_any _ _ _ _).mono ?_; (first | rw [HDD.out] | rw [HSS.out]); rintro e w' ⟨rfl, rfl⟩) | (go_at_call 43; refine (l5Large_any _ (by omega) (by omega) _).mono ?_; rw [HLL.out]; rintro e w' ⟨rfl, rfl⟩) | (go_at_call 42; refine (l5RunT_any s at_ R _ hs (by omega) HRR.out).mono ?_; rintro e w' ⟨rfl, rfl⟩))
        refine bodyPost_ret (v := tupL at_ r) (by rw [HF.out]; simp [results, Tryd.results19, go_sem]) rfl ⟨rfl, (by repeat (first | with_reducible exact bel_refl _ | with_reducible assumption | with_reducible refine bel_set ?_ (by first | (simp; done) | (simp; omega) | omega) _ | with_reducible refine bel_alloc ?_ _ | with_reducible refine bel_drew ?_ | with_reducible refine bel_drewN ?_ _ | with_reducible refine bel_trans ?_ (by assumption)))⟩
    · have HDD := Lib.hid (show inB (s[at_].toNat : Int) 48 57 = false from hdg)
      have HSS := Lib.hid (show inB (s[at_].toNat : Int) 97 122 = true from hsm)
      have hl : runL lett (s.data.toList.drop at_) ≤ s.size - at_ := run_leS _ _ _
      obtain ⟨R, hRR⟩ : ∃ R, at_ + runL lett (s.data.toList.drop at_) = R := ⟨_, rfl⟩
      have HF := Lib.hid (show tupL at_ r = .tuple #[.agg #[.int .i64 2, .int .i64 0, .string (s.extract at_ R)], .int .i64 R] by
        rw [← hR, oneL, hdg, hsm, if_neg (by simp), if_pos rfl, ← hd, ext_take s at_ _ R hRR, tupL, hRR])
      have HRR := Lib.hid hRR
      have hle : at_ ≤ R := by omega
      have hle2 : R ≤ s.size := by omega
      clear hdg hsm hR hRR hl e39 hd
      go_enter Tryd.func19, Tryd.ntmps19
      go_wp2_with (first | (go_at_call 39; refine (l1In_any _ _ _ _).mono ?_; (first | rw [HDD.out] | rw [HSS.out]); rintro e w' ⟨rfl, rfl⟩) | (go_at_call 42; refine (l5RunF_any s at_ R _ hs (by omega) HRR.out).mono ?_; rintro e w' ⟨rfl, rfl⟩))
      refine bodyPost_ret (v := tupL at_ r) (by rw [HF.out]; simp [results, Tryd.results19, go_sem]) rfl ⟨rfl, (by repeat (first | with_reducible exact bel_refl _ | with_reducible assumption | with_reducible refine bel_set ?_ (by first | (simp; done) | (simp; omega) | omega) _ | with_reducible refine bel_alloc ?_ _ | with_reducible refine bel_drew ?_ | with_reducible refine bel_drewN ?_ _ | with_reducible refine bel_trans ?_ (by assumption)))⟩
  · have HDD := Lib.hid (show inB (s[at_].toNat : Int) 48 57 = true from hdg)
    have hl : runL digB (s.data.toList.drop at_) ≤ s.size - at_ := run_leS _ _ _
    obtain ⟨R, hRR⟩ : ∃ R, at_ + runL digB (s.data.toList.drop at_) = R := ⟨_, rfl⟩
    have HF := Lib.hid (show tupL at_ r = .tuple #[.agg #[.int .i64 1, .int .i64 (wholeT (s.extract at_ R).data.toList), .string ⟨#[]⟩], .int .i64 R] by
      rw [← hR, oneL, hdg, if_pos rfl, ← hd, ext_list s at_ _ R hRR, tupL, hRR])
    have HRR := Lib.hid hRR
    have hle : at_ ≤ R := by omega
    have hle2 : R ≤ s.size := by omega
    clear hdg hR hRR hl e39 hd
    go_enter Tryd.func19, Tryd.ntmps19
    go_wp2_with (first | (go_at_call 39; refine (l1In_any _ _ _ _).mono ?_; rw [HDD.out]; rintro e w' ⟨rfl, rfl⟩) | (go_at_call 40; refine (l5Digits_any s at_ R _ hs (by omega) HRR.out).mono ?_; rintro e w' ⟨rfl, rfl⟩) | (go_at_call 41; refine (l2Whole_any _ _ (by rw [ByteArray.size_extract]; omega)).mono ?_; rintro e w' ⟨rfl, rfl⟩))
    refine bodyPost_ret (v := tupL at_ r) (by rw [HF.out]; simp [results, Tryd.results19, go_sem]) rfl ⟨rfl, (by repeat (first | with_reducible exact bel_refl _ | with_reducible assumption | with_reducible refine bel_set ?_ (by first | (simp; done) | (simp; omega) | omega) _ | with_reducible refine bel_alloc ?_ _ | with_reducible refine bel_drew ?_ | with_reducible refine bel_drewN ?_ _ | with_reducible refine bel_trans ?_ (by assumption)))⟩
end Go.Proofs.YtgcjhicpkmhbaaaDoor
