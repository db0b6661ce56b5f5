import Derived.Test.YtgcjhicpkmhbaaaDoorPkDraw18
import Derived.Test.YtgcjhicpkmhbaaaDoorPkPlainJoin
/- DrawLex answers a text that is not long. No condition but lengths. -/
namespace Go.Proofs.YtgcjhicpkmhbaaaDoor
open Go.RowKit
set_option maxRecDepth 100000
set_option maxHeartbeats 4000000
theorem DrawLex_any (A : Option Addr) (n c : Nat) (code : List UInt8) (w : World) (B : Nat) (hr : RdB w B A n code) (hB : B ≤ w.heap.size) (hn : n ≤ 70368744177664) :
    Calls Tryd.prog 17 #[.slice A n c] w fun e w' => ∃ s : ByteArray, s.size ≤ 20000 ∧ e = .returned (.string s) ∧ Below w.heap.size w w' := by
  go_enter Tryd.func17, Tryd.ntmps17
  go_wp2_with fail
  refine (l1New_any A n c code _ B hr hB hn).mono ?_
  rintro e w1 ⟨rfl, hc1, hb1⟩
  have hl1 := hc1.lt
  go_wp2_with fail
  refine (l5Tokens_any w.heap.size code 8 _ hc1 (by omega)).mono ?_
  rintro e w2 ⟨A2, c2, l, hl, hf, rfl, ho, hc2, hg2⟩
  have g2 : Below w.heap.size w w2 := hb1.trans (below_grown' hg2 (Nat.le_refl _) (by omega))
  clear hb1 hg2 hc1 hl1
  have hjm := joinTok_most hf
  have r2 := ho.rdO
  clear ho
  go_wp2_with fail
  refine (specJoinTokens_any A2 _ c2 l _ w2.heap.size r2 (by omega) (fun x hx => by have := tok_small (hf x hx); omega)).mono ?_
  obtain ⟨s0, hs0⟩ : ∃ s0, joinTok l = s0 := ⟨_, rfl⟩
  rw [hs0] at hjm ⊢
  clear hs0 hf r2
  rintro e w3 ⟨rfl, hb3⟩
  have hc3 := hc2.below hb3
  have g3 := bel_trans g2 hb3
  have hs3 := g3.size
  have hj2 : s0.size ≤ 500 := by omega
  clear hb3 hc2 g2 hjm
  have hl3 := hc3.lt
  go_wp2_with fail
  refine (l1Below_any w.heap.size code 4 _ hc3 (by omega)).mono ?_
  rintro e w4 ⟨x, hx, rfl, hc4, hg4⟩
  have g4 : Below w.heap.size w w4 := g3.trans (below_grown' hg4 (Nat.le_refl _) (by omega))
  have hs4 := g4.size
  have hl4 := hc4.lt
  clear hg4 g3 hc3 hx
  by_cases b0 : x = 0
  · subst b0
    go_wp2_with fail
    refine (l1Str_any w.heap.size code _ 16 16 [⟨#[32, 48, 49]⟩, ⟨#[255]⟩, ⟨#[32, 39, 97]⟩, ⟨#[32, 39, 65, 39]⟩, ⟨#[32, 37, 32, 101, 110, 100, 10, 32, 120]⟩, ⟨#[37]⟩, ⟨#[45, 62, 45]⟩, ⟨#[32, 49, 48, 48, 48, 48, 48, 48, 48, 48, 49]⟩, ⟨#[32, 57, 57, 57, 57, 57, 57, 57, 57, 57, 57, 57]⟩, ⟨#[97, 66]⟩, ⟨#[65, 32, 98]⟩, ⟨#[32, 116, 104, 105, 114, 116, 101, 101, 110, 98, 121, 116, 101, 115]⟩, ⟨#[9, 13, 10]⟩, ⟨#[95, 97]⟩, ⟨#[62]⟩, ⟨#[39, 39]⟩] _ _ (hc4.alloc _) (Rd.lit w4 9 _ 16 rfl) (by omega) (by omega) (ne_lit hl4)).mono ?_
    rintro e w5 ⟨t, hs, rfl, hc5, hg5⟩
    have hts : t.size ≤ 40 := by
      simp only [List.mem_cons, List.not_mem_nil, or_false] at hs
      rcases hs with rfl | rfl | rfl | rfl | rfl | rfl | rfl | rfl | rfl | rfl | rfl | rfl | rfl | rfl | rfl | rfl <;> decide
    clear hs
    have g5 : Below w.heap.size w w5 := (bel_alloc g4 _).trans (below_grown' hg5 (Nat.le_refl _) (by simp; omega))
    have hs5 := g5.size
    clear hg5
    go_wp2_with fail
    refine (l1Once_any w.heap.size code 300 _ hc5 (by omega)).mono ?_
    rintro e w6 ⟨b, rfl, hc6, hg6⟩
    have g6 : Below w.heap.size w w6 := g5.trans (below_grown' hg6 (Nat.le_refl _) (by first | omega | (simp; omega)))
    have hs6 := g6.size
    clear hg6
    cases b
    · go_wp2
      refine bodyPost_ret (v := .string (s0 ++ t)) (by simp [results, Tryd.results17, go_sem]; try rfl) rfl ⟨s0 ++ t, by first | omega | (simp only [ByteArray.size_append]; omega), rfl, (by repeat (first | with_reducible exact bel_refl _ | with_reducible assumption | with_reducible refine bel_set ?_ (by first | (simp; done) | (simp; omega) | omega) _ | with_reducible refine bel_alloc ?_ _ | with_reducible refine bel_drew ?_ | with_reducible refine bel_drewN ?_ _ | with_reducible refine bel_trans ?_ (by assumption)))⟩
    · go_wp2
      go_loopw [4, 5] (fun u i wr => ∃ (k : Nat) (s : ByteArray), i = .int .i64 k ∧ k ≤ 3001 ∧ s.size ≤ k ∧ u = .string s ∧ Cur wr w.heap.size code ∧ Below w.heap.size w wr) (fun _ i _ => 3001 - (intOf i).toNat)
      case atStart => exact ⟨0, ⟨#[]⟩, rfl, Nat.zero_le _, Nat.le_refl _, rfl, hc6, g6⟩
      case round =>
        obtain ⟨k, s, rfl, hk, hsz, rfl, hck, gk⟩ := hrel
        have hlk := hck.lt
        have hsk := gk.size
        go_wp2_with fail
        refine (l1Below_any w.heap.size code 2 _ hck (by omega)).mono ?_
        rintro e w7 ⟨y, hy, rfl, hc7, hg7⟩
        have hy2 : y ≤ 1 := by omega
        clear hy
        have g7 : Below w.heap.size w w7 := gk.trans (below_grown' hg7 (Nat.le_refl _) (by omega))
        clear hg7
        by_cases hlt : (k : Int) < 3000 + (y : Int)
        · go_wp2
          go_roundw
          case rel => exact ⟨k + 1, s ++ ⟨#[46]⟩, by go_num, by omega, by (rw [ByteArray.size_append, show (⟨#[46]⟩ : ByteArray).size = 1 from rfl]; omega), rfl, hc7, g7⟩
          case measure => simp [intOf]; omega
        · go_wp2
          refine bodyPost_ret (v := .string s) (by simp [results, Tryd.results17, go_sem]; try rfl) rfl ⟨s, by omega, rfl, g7⟩
  have q0 : ((x : Int) == 0) = false := by simp; omega
  by_cases b1 : x = 1
  · subst b1
    go_wp2_with fail
    refine (l1Str_any w.heap.size code _ 4 4 [⟨#[114, 117, 108, 101, 32, 114, 58, 32, 111, 114, 100, 101, 114, 40, 88, 41, 44, 33, 112, 97, 105, 100, 40, 88, 41, 45, 62, 100, 111, 110, 101, 46]⟩, ⟨#[97, 37, 32, 98, 10, 99]⟩, ⟨#[49, 45, 50]⟩, ⟨#[97, 115, 115, 101, 114, 116, 32, 105, 116, 101, 109, 40, 88, 44, 49, 32, 43, 32, 50, 41]⟩] _ _ (hc4.alloc _) (Rd.lit w4 9 _ 4 rfl) (by omega) (by omega) (ne_lit hl4)).mono ?_
    rintro e w5 ⟨t, hs, rfl, hc5, hg5⟩
    have hts : t.size ≤ 40 := by
      simp only [List.mem_cons, List.not_mem_nil, or_false] at hs
      rcases hs with rfl | rfl | rfl | rfl <;> decide
    clear hs
    have g5 : Below w.heap.size w w5 := (bel_alloc g4 _).trans (below_grown' hg5 (Nat.le_refl _) (by simp; omega))
    have hs5 := g5.size
    clear hg5
    go_wp2_with fail
    refine (l1Once_any w.heap.size code 300 _ hc5 (by omega)).mono ?_
    rintro e w6 ⟨b, rfl, hc6, hg6⟩
    have g6 : Below w.heap.size w w6 := g5.trans (below_grown' hg6 (Nat.le_refl _) (by first | omega | (simp; omega)))
    have hs6 := g6.size
    clear hg6
    cases b
    · go_wp2
      refine bodyPost_ret (v := .string (t)) (by simp [results, Tryd.results17, go_sem]; try rfl) rfl ⟨t, by first | omega | (simp only [ByteArray.size_append]; omega), rfl, (by repeat (first | with_reducible exact bel_refl _ | with_reducible assumption | with_reducible refine bel_set ?_ (by first | (simp; done) | (simp; omega) | omega) _ | with_reducible refine bel_alloc ?_ _ | with_reducible refine bel_drew ?_ | with_reducible refine bel_drewN ?_ _ | with_reducible refine bel_trans ?_ (by assumption)))⟩
    · go_wp2
      go_loopw [4, 5] (fun u i wr => ∃ (k : Nat) (s : ByteArray), i = .int .i64 k ∧ k ≤ 3001 ∧ s.size ≤ k ∧ u = .string s ∧ Cur wr w.heap.size code ∧ Below w.heap.size w wr) (fun _ i _ => 3001 - (intOf i).toNat)
      case atStart => exact ⟨0, ⟨#[]⟩, rfl, Nat.zero_le _, Nat.le_refl _, rfl, hc6, g6⟩
      case round =>
        obtain ⟨k, s, rfl, hk, hsz, rfl, hck, gk⟩ := hrel
        have hlk := hck.lt
        have hsk := gk.size
        go_wp2_with fail
        refine (l1Below_any w.heap.size code 2 _ hck (by omega)).mono ?_
        rintro e w7 ⟨y, hy, rfl, hc7, hg7⟩
        have hy2 : y ≤ 1 := by omega
        clear hy
        have g7 : Below w.heap.size w w7 := gk.trans (below_grown' hg7 (Nat.le_refl _) (by omega))
        clear hg7
        by_cases hlt : (k : Int) < 3000 + (y : Int)
        · go_wp2
          go_roundw
          case rel => exact ⟨k + 1, s ++ ⟨#[46]⟩, by go_num, by omega, by (rw [ByteArray.size_append, show (⟨#[46]⟩ : ByteArray).size = 1 from rfl]; omega), rfl, hc7, g7⟩
          case measure => simp [intOf]; omega
        · go_wp2
          refine bodyPost_ret (v := .string s) (by simp [results, Tryd.results17, go_sem]; try rfl) rfl ⟨s, by omega, rfl, g7⟩
  have q1 : ((x : Int) == 1) = false := by simp; omega
  go_wp2_with fail
  refine (l1Once_any w.heap.size code 300 _ hc4 (by omega)).mono ?_
  rintro e w6 ⟨b, rfl, hc6, hg6⟩
  have g6 : Below w.heap.size w w6 := g4.trans (below_grown' hg6 (Nat.le_refl _) (by first | omega | (simp; omega)))
  have hs6 := g6.size
  clear hg6
  cases b
  · go_wp2
    refine bodyPost_ret (v := .string (s0)) (by simp [results, Tryd.results17, go_sem]; try rfl) rfl ⟨s0, by first | omega | (simp only [ByteArray.size_append]; omega), rfl, (by repeat (first | with_reducible exact bel_refl _ | with_reducible assumption | with_reducible refine bel_set ?_ (by first | (simp; done) | (simp; omega) | omega) _ | with_reducible refine bel_alloc ?_ _ | with_reducible refine bel_drew ?_ | with_reducible refine bel_drewN ?_ _ | with_reducible refine bel_trans ?_ (by assumption)))⟩
  · go_wp2
    go_loopw [4, 5] (fun u i wr => ∃ (k : Nat) (s : ByteArray), i = .int .i64 k ∧ k ≤ 3001 ∧ s.size ≤ k ∧ u = .string s ∧ Cur wr w.heap.size code ∧ Below w.heap.size w wr) (fun _ i _ => 3001 - (intOf i).toNat)
    case atStart => exact ⟨0, ⟨#[]⟩, rfl, Nat.zero_le _, Nat.le_refl _, rfl, hc6, g6⟩
    case round =>
      obtain ⟨k, s, rfl, hk, hsz, rfl, hck, gk⟩ := hrel
      have hlk := hck.lt
      have hsk := gk.size
      go_wp2_with fail
      refine (l1Below_any w.heap.size code 2 _ hck (by omega)).mono ?_
      rintro e w7 ⟨y, hy, rfl, hc7, hg7⟩
      have hy2 : y ≤ 1 := by omega
      clear hy
      have g7 : Below w.heap.size w w7 := gk.trans (below_grown' hg7 (Nat.le_refl _) (by omega))
      clear hg7
      by_cases hlt : (k : Int) < 3000 + (y : Int)
      · go_wp2
        go_roundw
        case rel => exact ⟨k + 1, s ++ ⟨#[46]⟩, by go_num, by omega, by (rw [ByteArray.size_append, show (⟨#[46]⟩ : ByteArray).size = 1 from rfl]; omega), rfl, hc7, g7⟩
        case measure => simp [intOf]; omega
      · go_wp2
        refine bodyPost_ret (v := .string s) (by simp [results, Tryd.results17, go_sem]; try rfl) rfl ⟨s, by omega, rfl, g7⟩
end Go.Proofs.YtgcjhicpkmhbaaaDoor
