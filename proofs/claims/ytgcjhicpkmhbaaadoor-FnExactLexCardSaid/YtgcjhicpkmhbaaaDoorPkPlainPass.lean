import Derived.Test.YtgcjhicpkmhbaaaDoorPkRunEnd
/- Remarks are passed over in one step. Names no program. No condition. -/
namespace Go.Proofs.YtgcjhicpkmhbaaaDoor
theorem pass_true : ∀ L : List UInt8, passM true L = passM false (L.drop (runL noNl L))
  | [] => rfl
  | c :: t => by
    by_cases h : c = 10
    · subst h
      rw [passM, if_pos rfl, runL, if_neg (by decide), List.drop_zero, passM, if_pos (by decide)]
    · have hn : noNl c = true := by unfold noNl; simpa using h
      rw [passM, if_neg h, runL, if_pos hn, List.drop_succ_cons]
      exact pass_true t
theorem pass_remS {s : ByteArray} {k R : Nat} (h : k < s.size) (hc : (s[k] == 37) = true) (hR : k + runL noNl (s.data.toList.drop k) = R) : passM false (s.data.toList.drop k) = passM false (s.data.toList.drop R) := by
  have e : s[k] = 37 := by simpa using hc
  rw [run_stepS h (by rw [e]; decide)] at hR
  rw [dropS h, passM, if_neg (by rw [e]; decide), if_pos e, pass_true, List.drop_drop, show k + 1 + runL noNl (s.data.toList.drop (k + 1)) = R by omega]
end Go.Proofs.YtgcjhicpkmhbaaaDoor
