import Derived.Test.YtgcjhicpkmhbaaaDoorPkLexS
/- Reading a text as tokens, by the reference: what is passed over. Condition: the length. -/
namespace Go.Proofs.YtgcjhicpkmhbaaaDoor
open Go.RowKit
set_option maxRecDepth 100000
set_option maxHeartbeats 4000000
theorem beq_byte (c n : UInt8) (m : Int) (h : (n.toNat : Int) = m) : ((c.toNat : Int) == m) = (c == n) := by
  subst h
  by_cases e : c = n
  · subst e; simp
  · rw [beq_eq_false_iff_ne.2 e, beq_eq_false_iff_ne]
    intro e2
    exact e (UInt8.toNat_inj.1 (by omega))
section
variable {s : ByteArray} {k : Nat}
theorem dropS (h : k < s.size) : s.data.toList.drop k = s[k] :: s.data.toList.drop (k + 1) := List.drop_eq_getElem_cons (by rw [size_data]; exact h)
theorem pass_blank (h : k < s.size) (hb : blankB s[k] = true) : passM false (s.data.toList.drop k) = passM false (s.data.toList.drop (k + 1)) := by
  rw [dropS h, passM, if_pos hb]
theorem com_step (h : k < s.size) (hb : (s[k] == 10) = false) : passM true (s.data.toList.drop k) = passM true (s.data.toList.drop (k + 1)) := by
  rw [dropS h, passM, if_neg (by simpa using hb)]
theorem com_stop (h : k < s.size) (hb : (s[k] == 10) = true) : passM true (s.data.toList.drop k) = passM false (s.data.toList.drop k) := by
  rw [dropS h, passM, passM, if_pos (by simpa using hb), if_pos (by unfold blankB; simp [hb])]
theorem pass_com (h : k < s.size) (hb : blankB s[k] = false) (hc : (s[k] == 37) = true) : passM false (s.data.toList.drop k) = passM true (s.data.toList.drop k) := by
  have e : s[k] = 37 := by simpa using hc
  rw [dropS h, passM, passM, if_neg (by rw [hb]; simp), if_pos e, if_neg (by rw [e]; decide)]
theorem pass_stop (h : k < s.size) (hb : blankB s[k] = false) (hc : (s[k] == 37) = false) : passM false (s.data.toList.drop k) = s.data.toList.drop k := by
  rw [dropS h, passM, if_neg (by rw [hb]; simp), if_neg (by simpa using hc)]
theorem pass_end (b : Bool) (h : s.size ≤ k) : passM b (s.data.toList.drop k) = [] := by
  rw [List.drop_of_length_le (by rw [size_data]; exact h)]
  cases b <;> rfl
end
theorem l5Pass_any (s : ByteArray) (at_ R : Nat) (w : World) (hs : s.size ≤ 1048576) (ha : at_ ≤ s.size) (hR : (passM false (s.data.toList.drop at_)).length + R = s.size) :
    Calls Tryd.prog 18 #[.string s, .int .i64 at_] w fun e w' => e = .returned (.int .i64 R) ∧ w = w' := by
  have HRR := Lib.hid hR; clear hR
  go_enter Tryd.func18, Tryd.ntmps18
  go_wp2
  go_loop [1] (fun i => ∃ k : Nat, k ≤ s.size ∧ i = .int .i64 k ∧ (passM false (s.data.toList.drop k)).length + R = s.size) (fun i => s.size - (intOf i).toNat)
  case atStart => exact ⟨at_, ha, rfl, HRR.out⟩
  case round =>
    obtain ⟨k, hk, rfl, hr⟩ := hrel
    have HR := Lib.hid hr; clear hr
    by_cases hlt : k < s.size
    · have hb := byte_le s[k]
      have e32 := beq_byte s[k] 32 32 rfl
      have e9 := beq_byte s[k] 9 9 rfl
      have e10 := beq_byte s[k] 10 10 rfl
      have e13 := beq_byte s[k] 13 13 rfl
      have e37 := beq_byte s[k] 37 37 rfl
      cases hbl : blankB s[k]
      · have hh : (s[k] == 32) = false ∧ (s[k] == 9) = false ∧ (s[k] == 10) = false ∧ (s[k] == 13) = false := by
          unfold blankB at hbl
          simpa [and_assoc] using hbl
        rw [hh.1] at e32; rw [hh.2.1] at e9; rw [hh.2.2.1] at e10; rw [hh.2.2.2] at e13
        clear hh
        cases h37 : (s[k] == 37)
        · have HF := Lib.hid (show R = k by have := HR.out; rw [pass_stop hlt hbl h37, List.length_drop, size_data] at this; omega)
          rw [h37] at e37
          clear hbl h37
          go_wp2
          go_ret
          exact ⟨ret_int (by rw [HF.out]), rfl⟩
        · have HF := Lib.hid (show (passM true (s.data.toList.drop k)).length + R = s.size by rw [← pass_com hlt hbl h37]; exact HR.out)
          rw [h37] at e37
          have HN := Lib.hid (show (s[k] == 10) = false by rw [← e10]; exact beq_byte s[k] 10 10 rfl |>.symm)
          clear hbl h37
          go_wp2
          go_loop [1] (fun i => ∃ j : Nat, k ≤ j ∧ j ≤ s.size ∧ i = .int .i64 j ∧ (passM true (s.data.toList.drop j)).length + R = s.size) (fun i => s.size - (intOf i).toNat)
          case atStart => exact ⟨k, by omega, hk, rfl, HF.out⟩
          case round =>
            obtain ⟨j, hkj, hj, rfl, hr⟩ := hrel
            have HJ := Lib.hid hr; clear hr
            by_cases hjl : j < s.size
            · have hb2 := byte_le s[j]
              have f10 := beq_byte s[j] 10 10 rfl
              cases h10 : (s[j] == 10)
              · have HG := Lib.hid (show (passM true (s.data.toList.drop (j + 1))).length + R = s.size by rw [← com_step hjl h10]; exact HJ.out)
                rw [h10] at f10
                clear h10
                go_wp2
                go_round
                case rel => exact ⟨j + 1, by omega, by omega, by go_num, HG.out⟩
                case measure => simp [intOf]; omega
              · have HG := Lib.hid (show (passM false (s.data.toList.drop j)).length + R = s.size by rw [← com_stop hjl h10]; exact HJ.out)
                have hne : k ≠ j := by
                  intro e
                  subst e
                  have := HN.out
                  rw [h10] at this
                  cases this
                rw [h10] at f10
                clear h10
                go_wp2
                go_round
                case rel => exact ⟨j, by omega, rfl, HG.out⟩
                case measure => simp [intOf]; omega
            · have HG := Lib.hid (show (passM false (s.data.toList.drop j)).length + R = s.size by rw [pass_end false (by omega), ← pass_end true (by omega : s.size ≤ j)]; exact HJ.out)
              go_wp2
              go_round
              case rel => exact ⟨j, by omega, rfl, HG.out⟩
              case measure => simp [intOf]; omega
      · have HF := Lib.hid (show (passM false (s.data.toList.drop (k + 1))).length + R = s.size by rw [← pass_blank hlt hbl]; exact HR.out)
        have hh : (s[k] == 32) = true ∨ (s[k] == 32) = false ∧ (s[k] == 9) = true ∨ (s[k] == 32) = false ∧ (s[k] == 9) = false ∧ (s[k] == 10) = true ∨ (s[k] == 32) = false ∧ (s[k] == 9) = false ∧ (s[k] == 10) = false ∧ (s[k] == 13) = true := by
          unfold blankB at hbl
          cases h1 : (s[k] == 32) <;> cases h2 : (s[k] == 9) <;> cases h3 : (s[k] == 10) <;> cases h4 : (s[k] == 13) <;> simp_all
        clear hbl
        rcases hh with h1 | ⟨h1, h2⟩ | ⟨h1, h2, h3⟩ | ⟨h1, h2, h3, h4⟩
        · rw [h1] at e32
          clear h1 e9 e10 e13 e37
          go_wp2
          go_round
          case rel => exact ⟨k + 1, by omega, by go_num, HF.out⟩
          case measure => simp [intOf]; omega
        · rw [h1] at e32; rw [h2] at e9
          clear h1 h2 e10 e13 e37
          go_wp2
          go_round
          case rel => exact ⟨k + 1, by omega, by go_num, HF.out⟩
          case measure => simp [intOf]; omega
        · rw [h1] at e32; rw [h2] at e9; rw [h3] at e10
          clear h1 h2 h3 e13 e37
          go_wp2
          go_round
          case rel => exact ⟨k + 1, by omega, by go_num, HF.out⟩
          case measure => simp [intOf]; omega
        · rw [h1] at e32; rw [h2] at e9; rw [h3] at e10; rw [h4] at e13
          clear h1 h2 h3 h4 e37
          go_wp2
          go_round
          case rel => exact ⟨k + 1, by omega, by go_num, HF.out⟩
          case measure => simp [intOf]; omega
    · have HF := Lib.hid (show R = s.size by have := HR.out; rw [pass_end false (by omega)] at this; simpa using this)
      have hks : k = s.size := by omega
      go_wp2
      go_ret
      exact ⟨ret_int (by rw [HF.out]), rfl⟩
end Go.Proofs.YtgcjhicpkmhbaaaDoor
