import Derived.Test.YtgcjhicpkmhbaaaDoorPkCondText
import Derived.Test.YtgcjhicpkmhbaaaDoorPkJoinT
import Derived.Test.YtgcjhicpkmhbaaaDoorApp2
import Derived.Laws.MakeOwn
/- Texts of tokens that are joined, of the program and of the reference. Each answers what the plain function says and makes at most new blocks. Conditions: lengths; the library's table of powers of ten is as its text lays it. -/
namespace Go.Proofs.YtgcjhicpkmhbaaaDoor
open Go.RowKit
set_option maxRecDepth 100000
set_option maxHeartbeats 4000000
def joinTok (l : List Vl) : ByteArray := joinB ⟨#[32]⟩ (l.map tokenText)
theorem nil_cat (s : ByteArray) : (⟨#[]⟩ : ByteArray) ++ s = s := by
  apply ByteArray.ext
  simp
theorem tokenText_len {t : Vl} (h : t.s.size ≤ 1048576) : (tokenText t).size ≤ 1048606 := by
  obtain ⟨k, n, s⟩ := t
  have h' : s.size ≤ 1048576 := h
  unfold tokenText
  split
  · rename_i hok
    split
    · rename_i hk
      have := tokenOk_num hok hk
      have := numT_len this.1 this.2
      show (numT n).size ≤ 1048606
      omega
    · split
      · show ((⟨#[39]⟩ ++ s) ++ ⟨#[39]⟩ : ByteArray).size ≤ 1048606
        rw [ByteArray.size_append, ByteArray.size_append]
        have h1 : (⟨#[39]⟩ : ByteArray).size = 1 := rfl
        omega
      · show s.size ≤ 1048606
        omega
  · exact Nat.zero_le _
theorem joinTok_sz {l : List Vl} (h : ∀ x ∈ l, x.s.size ≤ 1048576) (hl : l.length ≤ 1048576) (k : Nat) : (joinB ⟨#[32]⟩ ((l.map tokenText).take k)).size ≤ 2199023255552 := by
  have h1 := joinB_len (M := 1048606) ⟨#[32]⟩ ((l.map tokenText).take k) (fun x hx => by
    obtain ⟨y, hy, rfl⟩ := List.mem_map.1 (List.mem_of_mem_take hx)
    exact tokenText_len (h y hy))
  have h2 : ((l.map tokenText).take k).length ≤ 1048576 := by rw [List.length_take, List.length_map]; omega
  have h3 : (⟨#[32]⟩ : ByteArray).size = 1 := rfl
  rw [h3] at h1
  omega
theorem implJoinTokens_any (A : Option Addr) (n c : Nat) (xs : List Vl) (w : World) (B : Nat) (ht : TabT w) (hr : RdS vC 3 w B A n xs) (hn : n ≤ 1048576) (hs : ∀ x ∈ xs, x.s.size ≤ 1048576) :
    Calls Tryd.prog 13 #[.slice A n c] w fun e w' => e = .returned (.string (joinTok xs)) ∧ Below w.heap.size w w' := by
  obtain ⟨i0, hi, hz0, hz1, hz2⟩ := info_parts infoString
  obtain ⟨w0, hmk, hown, hgr⟩ := run_make_own (P := Tryd.prog) w w.heap.size 49 9 i0 _ 1 Tryd.underlying49 hi hz0 hz1 .i64 .i64 n (by rw [hz2]; omega) (by simp only [maxLen]; omega) (Nat.le_refl _)
  have HI := Lib.hid hi; clear hi
  have HT := Lib.hid ht; clear ht
  have HL := Lib.hid hr.len
  have HS := Lib.hid hs; clear hs
  have hxl5 : xs.length ≤ 1048576 := by rw [HL.out]; exact hn
  have g0 : Below w.heap.size w w0 := (Below.refl _ _).grown hgr (Nat.le_refl _) (fun k hk => by cases hk)
  have ho0 : OwnT sC 1 w0 w.heap.size 9 (.slice (some ⟨w.heap.size, 0, none⟩) 0 n) [] := hown
  clear hown hgr
  go_enter Tryd.func13, Tryd.ntmps13
  go_wp2
  go_loopw [3, 11] (fun v i wr => ∃ k : Nat, k ≤ n ∧ i = .int .i64 k ∧ OwnT sC 1 wr w.heap.size 9 v ((xs.take k).map tokenText) ∧ Below w.heap.size w wr) (fun _ i _ => n - (intOf i).toNat)
  case atStart => exact ⟨0, Nat.zero_le _, rfl, ho0, g0⟩
  case round =>
    clear hmk ho0
    obtain ⟨k, hk2, rfl, ho, hbel⟩ := hrel
    have hsz := hbel.size
    by_cases hlt : k < n
    · skip
      obtain ⟨b, o, rfl, hb, hc⟩ := (hr.kept hbel).2.val (by omega)
      obtain ⟨x, y, s, he, p0, p1, p2⟩ := hc k hlt
      clear hc
      have hkl2 : k < xs.length := by rw [HL.out]; exact hlt
      have hsl : s.size ≤ 1048576 := by have := HS.out _ (List.getElem_mem hkl2); rw [he] at this; exact this
      obtain ⟨tx, htx⟩ : ∃ tx, tokenText ⟨x, y, s⟩ = tx := ⟨_, rfl⟩
      have HTX := Lib.hid htx; clear htx
      have HN := Lib.hid (show (xs.take (k + 1)).map tokenText = (xs.take k).map tokenText ++ [tx] by rw [List.take_succ_eq_append_getElem hkl2, List.map_append, he, List.map_singleton, HTX.out])
      clear he
      obtain ⟨acc, hacc⟩ : ∃ acc, (xs.take k).map tokenText = acc := ⟨_, rfl⟩
      have hal : acc.length ≤ 1048576 := by rw [← hacc, List.length_map, List.length_take]; omega
      rw [hacc] at ho
      have HAC := Lib.hid hacc; have HO := Lib.hid ho; clear hacc ho
      go_wp2_with (first | (go_at_call 15; refine (implTokenText_any x y s _ (HT.out.kept (by repeat (first | with_reducible exact bel_refl _ | with_reducible assumption | with_reducible refine bel_set ?_ (by first | (simp; done) | (simp; omega) | omega) _ | with_reducible refine bel_alloc ?_ _ | with_reducible refine bel_drew ?_ | with_reducible refine bel_drewN ?_ _ | with_reducible refine bel_trans ?_ (by assumption)))) (by omega)).mono ?_; rw [HTX.out]; rintro e w2 ⟨rfl, hb2⟩) | (at_builtin; refine appT rfl (.tmp 15) (.tmp 18) _ rfl sC_sz w.heap.size 9 i0 Tryd.underlying49 HI.out hz0 hz1 hz2 rfl (by omega) _ acc rfl (((HO.out.alloc _).kept hb2).alloc _) _ 1 1 [tx] rfl (RdT.new1 sC_sz w2 9 tx) (by intro u hu; simp [fl, sC] at hu; subst hu; rfl) (by omega) (by have := hb2.size; simp at this ⊢; omega) ?_; intro v' w' ho' hb' hs'))
      have hq2 := hb2.size
      simp at hq2
      go_roundw
      case rel => exact ⟨k + 1, by omega, by go_num, by rw [HN.out, HAC.out]; exact ho', (bel_alloc (bel_trans (bel_alloc hbel _) hb2) _).trans hb'⟩
      case measure => simp [intOf]; omega
    · skip
      have hful : (xs.take k).map tokenText = xs.map tokenText := by rw [List.take_of_length_le (by rw [HL.out]; omega)]
      have hjl := joinTok_sz HS.out hxl5 (xs.map tokenText).length
      rw [List.take_length] at hjl
      rw [hful] at ho
      have HJJ := Lib.hid (show joinTok xs = joinB ⟨#[32]⟩ (xs.map tokenText) from rfl)
      obtain ⟨ts, hts⟩ : ∃ ts, xs.map tokenText = ts := ⟨_, rfl⟩
      have htl : ts.length ≤ 1048576 := by rw [← hts, List.length_map]; exact hxl5
      rw [hts] at ho hjl
      have HTS := Lib.hid hts; clear hts hful
      obtain ⟨A5, c5, rfl, hc5, _⟩ := ho.rd
      have HO := Lib.hid ho; clear ho
      go_wp2_with fail
      refine (joinB_any A5 c5 ts ⟨#[32]⟩ _ wr.heap.size HO.out.rdO hc5 (by omega) (by omega)).mono ?_
      rintro e wa ⟨rfl, hb⟩
      go_wp2
      go_ret
      exact ⟨ret_str (by rw [HJJ.out, HTS.out]), bel_trans hbel hb⟩
theorem specJoinTokens_any (A : Option Addr) (n c : Nat) (xs : List Vl) (w : World) (B : Nat) (hr : RdS vC 3 w B A n xs) (hn : n ≤ 1048576) (hs : ∀ x ∈ xs, x.s.size ≤ 1048576) :
    Calls Tryd.prog 35 #[.slice A n c] w fun e w' => e = .returned (.string (joinTok xs)) ∧ Below w.heap.size w w' := by
  have HL := Lib.hid hr.len
  have HS := Lib.hid hs; clear hs
  have hxl5 : xs.length ≤ 1048576 := by rw [HL.out]; exact hn
  go_enter Tryd.func35, Tryd.ntmps35
  go_wp2
  go_loopw [3, 4] (fun u i wr => ∃ (k : Nat) (acc : ByteArray), k ≤ n ∧ i = .int .i64 k ∧ u = .string acc ∧ joinB ⟨#[32]⟩ ((xs.map tokenText).take k) = acc ∧ acc.size ≤ 2199023255552 ∧ Below w.heap.size w wr) (fun _ i _ => n - (intOf i).toNat)
  case atStart => exact ⟨0, _, Nat.zero_le _, rfl, rfl, rfl, by decide, bel_refl _⟩
  case round =>
    obtain ⟨k, acc, hk2, rfl, rfl, hacc, hal, hbel⟩ := hrel
    have HAC := Lib.hid hacc; clear hacc
    by_cases hlt : k < n
    · skip
      obtain ⟨b, o, rfl, hb, hc⟩ := (hr.kept hbel).2.val (by omega)
      obtain ⟨x, y, s, he, p0, p1, p2⟩ := hc k hlt
      clear hc
      have hkl2 : k < xs.length := by rw [HL.out]; exact hlt
      have hsl : s.size ≤ 1048576 := by have := HS.out _ (List.getElem_mem hkl2); rw [he] at this; exact this
      have hxl := tokenText_len (t := ⟨x, y, s⟩) hsl
      obtain ⟨tx, htx⟩ : ∃ tx, tokenText ⟨x, y, s⟩ = tx := ⟨_, rfl⟩
      rw [htx] at hxl
      have HTX := Lib.hid htx; clear htx
      have hstep := joinB_step ⟨#[32]⟩ (l := xs.map tokenText) (k := k) (by rw [List.length_map]; exact hkl2)
      have hl2 := joinTok_sz HS.out hxl5 (k + 1)
      rw [List.getElem_map, he, HTX.out] at hstep
      clear he
      by_cases hk0 : k = 0
      · subst hk0
        simp only [Nat.zero_mul, Nat.add_zero] at p0 p1 p2
        rw [if_pos rfl] at hstep
        have hacc0 : (⟨#[]⟩ : ByteArray) = acc := by rw [← HAC.out]; rfl
        have HN := Lib.hid (show joinB ⟨#[32]⟩ ((xs.map tokenText).take (0 + 1)) = acc ++ tx by rw [hstep, ← hacc0, nil_cat])
        rw [HN.out] at hl2
        clear hstep hacc0
        go_wp2_with fail
        refine (specTokenText_any x y s _ (by omega)).mono ?_
        rw [HTX.out]
        rintro e w2 ⟨rfl, hb2⟩
        have hal2 : acc.size + tx.size ≤ 2199023255552 := by rw [ByteArray.size_append] at hl2; exact hl2
        go_wp2
        go_roundw
        case rel => exact ⟨0 + 1, _, by omega, by go_num, rfl, HN.out, hl2, bel_trans hbel hb2⟩
        case measure => simp [intOf]; omega
      · rw [if_neg hk0] at hstep
        have hkp : (0 : Int) < (k : Int) := by omega
        have HN := Lib.hid (show joinB ⟨#[32]⟩ ((xs.map tokenText).take (k + 1)) = (acc ++ ⟨#[32]⟩) ++ tx by rw [hstep, ← HAC.out])
        rw [HN.out] at hl2
        clear hstep
        have hal3 : (acc ++ ⟨#[32]⟩ : ByteArray).size + tx.size ≤ 2199023255552 := by rw [ByteArray.size_append] at hl2; exact hl2
        have e8 : (acc ++ ⟨#[32]⟩ : ByteArray).size = acc.size + 1 := by rw [ByteArray.size_append]; rfl
        have hal2 : acc.size + 1 + tx.size ≤ 2199023255552 := by omega
        clear hal3 e8
        go_wp2_with fail
        refine (specTokenText_any x y s _ (by omega)).mono ?_
        rw [HTX.out]
        rintro e w2 ⟨rfl, hb2⟩
        go_wp2
        go_roundw
        case rel => exact ⟨k + 1, _, by omega, by go_num, rfl, HN.out, hl2, bel_trans hbel hb2⟩
        case measure => simp [intOf]; omega
    · have HU := Lib.hid (show acc = joinTok xs by unfold joinTok; rw [← HAC.out, List.take_of_length_le (by rw [List.length_map, HL.out]; omega)])
      go_wp2
      go_ret
      exact ⟨ret_str (by rw [HU.out]), hbel⟩
end Go.Proofs.YtgcjhicpkmhbaaaDoor
