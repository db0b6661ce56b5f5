/-
  No cell of these rows narrows 'for every input' (looked for: loops, veiled, ifaces, maps, wideKeys, modest, calm, conditions, laid).
  DERIVED. THE GIVEN ROWS OF THIS SEAT. 12 by the template 'for every input the law returns true; each argument reads behind the call as it read before'; 0 by the template 'total and deterministic' (their statements: YtjlfllnjbdddaaaTotals.lean).
  GIVEN WITH THE SEED: the statements are not yours to turn. If you find one false, say at which input.
  Laid BY PROGRAM, IN A SANDBOX (cutbox-rows.mjs): the forced cells as the released guide's own fill.sh prints them over the translation 6dbabfea8a340ce6… (all of the seat's roots in one cut). By AI agents, Wed Nov 11 2026. No macro, syntax, notation, axiom, sorry.
-/
import Derived.Test.YtjlfllnjbdddaaaChecked
import GoSem.Claim
import GoSem.ClaimJoined
import GoSem.ClaimMapViews
import Derived.JoinedTies
import Derived.KernelRfl
namespace Go.Proofs.Ytjlfllnjbdddaaa
/- THE CELL 'sum', in the pinned program and in every row, IS THE sha256 OF THE DUMP (.gsa) THAT YtjlfllnjbdddaaaProg.lean LOADS. Nothing in Lean hashes anything: it is a label: what it is worth is what the hold of that sum in a sandbox is worth. -/
noncomputable def Try.pinned : Pinned := { name := "ytjlfllnjbdddaaa", sum := "6dbabfea8a340ce6f88712d4d2a359b1dd6359411d7c529c70ea1c791811f5cd", checked := Try.checked }
namespace Rows
def none {H : Type} : Left H := { results := [], args := [] }

/-- 'laws.FnExactArgOk': WHATEVER THE INPUT: true; the input reads as it did. -/
def fnExactArgOkSpec : ChangeSpec := { name := "fnExactArgOk", fn := fun _ => fun
  | [d] => { results := [.lit (.bool true)], args := [d] }
  | _ => none }
def fnExactArgOkRow : OpenClaim := { program := "ytjlfllnjbdddaaa", sum := "6dbabfea8a340ce6f88712d4d2a359b1dd6359411d7c529c70ea1c791811f5cd", func := "loop.example/g00282/laws.FnExactArgOk", spec := "fnExactArgOk", apart := false }
def FnExactArgOkSaid : Prop := fnExactArgOkRow.holds Try.pinned (OpenSpec.ofChange fnExactArgOkSpec)

/-- ITS FALSE NEIGHBOUR: 'it returns false'. Refute it at one input. -/
def fnExactArgOkWrong : ChangeSpec := { name := "fnExactArgOk", fn := fun _ => fun
  | [d] => { results := [.lit (.bool false)], args := [d] }
  | _ => none }
def FnExactArgOkWrongFalsely : Prop := fnExactArgOkRow.holds Try.pinned (OpenSpec.ofChange fnExactArgOkWrong)

/-- 'laws.FnExactPatOk': WHATEVER THE INPUT: true; the input reads as it did. -/
def fnExactPatOkSpec : ChangeSpec := { name := "fnExactPatOk", fn := fun _ => fun
  | [d] => { results := [.lit (.bool true)], args := [d] }
  | _ => none }
def fnExactPatOkRow : OpenClaim := { program := "ytjlfllnjbdddaaa", sum := "6dbabfea8a340ce6f88712d4d2a359b1dd6359411d7c529c70ea1c791811f5cd", func := "loop.example/g00282/laws.FnExactPatOk", spec := "fnExactPatOk", apart := false }
def FnExactPatOkSaid : Prop := fnExactPatOkRow.holds Try.pinned (OpenSpec.ofChange fnExactPatOkSpec)

/-- ITS FALSE NEIGHBOUR: 'it returns false'. Refute it at one input. -/
def fnExactPatOkWrong : ChangeSpec := { name := "fnExactPatOk", fn := fun _ => fun
  | [d] => { results := [.lit (.bool false)], args := [d] }
  | _ => none }
def FnExactPatOkWrongFalsely : Prop := fnExactPatOkRow.holds Try.pinned (OpenSpec.ofChange fnExactPatOkWrong)

/-- 'laws.FnExactBindOf': WHATEVER THE INPUT: true; the input reads as it did. -/
def fnExactBindOfSpec : ChangeSpec := { name := "fnExactBindOf", fn := fun _ => fun
  | [d1, d2] => { results := [.lit (.bool true)], args := [d1, d2] }
  | _ => none }
def fnExactBindOfRow : OpenClaim := { program := "ytjlfllnjbdddaaa", sum := "6dbabfea8a340ce6f88712d4d2a359b1dd6359411d7c529c70ea1c791811f5cd", func := "loop.example/g00282/laws.FnExactBindOf", spec := "fnExactBindOf", apart := false }
def FnExactBindOfSaid : Prop := fnExactBindOfRow.holds Try.pinned (OpenSpec.ofChange fnExactBindOfSpec)

/-- ITS FALSE NEIGHBOUR: 'it returns false'. Refute it at one input. -/
def fnExactBindOfWrong : ChangeSpec := { name := "fnExactBindOf", fn := fun _ => fun
  | [d1, d2] => { results := [.lit (.bool false)], args := [d1, d2] }
  | _ => none }
def FnExactBindOfWrongFalsely : Prop := fnExactBindOfRow.holds Try.pinned (OpenSpec.ofChange fnExactBindOfWrong)

/-- 'laws.FnExactVarsOf': WHATEVER THE INPUT: true; the input reads as it did. -/
def fnExactVarsOfSpec : ChangeSpec := { name := "fnExactVarsOf", fn := fun _ => fun
  | [d] => { results := [.lit (.bool true)], args := [d] }
  | _ => none }
def fnExactVarsOfRow : OpenClaim := { program := "ytjlfllnjbdddaaa", sum := "6dbabfea8a340ce6f88712d4d2a359b1dd6359411d7c529c70ea1c791811f5cd", func := "loop.example/g00282/laws.FnExactVarsOf", spec := "fnExactVarsOf", apart := false }
def FnExactVarsOfSaid : Prop := fnExactVarsOfRow.holds Try.pinned (OpenSpec.ofChange fnExactVarsOfSpec)

/-- ITS FALSE NEIGHBOUR: 'it returns false'. Refute it at one input. -/
def fnExactVarsOfWrong : ChangeSpec := { name := "fnExactVarsOf", fn := fun _ => fun
  | [d] => { results := [.lit (.bool false)], args := [d] }
  | _ => none }
def FnExactVarsOfWrongFalsely : Prop := fnExactVarsOfRow.holds Try.pinned (OpenSpec.ofChange fnExactVarsOfWrong)

/-- 'laws.FnExactMatchPat': WHATEVER THE INPUT: true; the input reads as it did. -/
def fnExactMatchPatSpec : ChangeSpec := { name := "fnExactMatchPat", fn := fun _ => fun
  | [d1, d2, d3] => { results := [.lit (.bool true)], args := [d1, d2, d3] }
  | _ => none }
def fnExactMatchPatRow : OpenClaim := { program := "ytjlfllnjbdddaaa", sum := "6dbabfea8a340ce6f88712d4d2a359b1dd6359411d7c529c70ea1c791811f5cd", func := "loop.example/g00282/laws.FnExactMatchPat", spec := "fnExactMatchPat", apart := false }
def FnExactMatchPatSaid : Prop := fnExactMatchPatRow.holds Try.pinned (OpenSpec.ofChange fnExactMatchPatSpec)

/-- ITS FALSE NEIGHBOUR: 'it returns false'. Refute it at one input. -/
def fnExactMatchPatWrong : ChangeSpec := { name := "fnExactMatchPat", fn := fun _ => fun
  | [d1, d2, d3] => { results := [.lit (.bool false)], args := [d1, d2, d3] }
  | _ => none }
def FnExactMatchPatWrongFalsely : Prop := fnExactMatchPatRow.holds Try.pinned (OpenSpec.ofChange fnExactMatchPatWrong)

/-- 'laws.FnExactArgVal': WHATEVER THE INPUT: true; the input reads as it did. -/
def fnExactArgValSpec : ChangeSpec := { name := "fnExactArgVal", fn := fun _ => fun
  | [d1, d2] => { results := [.lit (.bool true)], args := [d1, d2] }
  | _ => none }
def fnExactArgValRow : OpenClaim := { program := "ytjlfllnjbdddaaa", sum := "6dbabfea8a340ce6f88712d4d2a359b1dd6359411d7c529c70ea1c791811f5cd", func := "loop.example/g00282/laws.FnExactArgVal", spec := "fnExactArgVal", apart := false }
def FnExactArgValSaid : Prop := fnExactArgValRow.holds Try.pinned (OpenSpec.ofChange fnExactArgValSpec)

/-- ITS FALSE NEIGHBOUR: 'it returns false'. Refute it at one input. -/
def fnExactArgValWrong : ChangeSpec := { name := "fnExactArgVal", fn := fun _ => fun
  | [d1, d2] => { results := [.lit (.bool false)], args := [d1, d2] }
  | _ => none }
def FnExactArgValWrongFalsely : Prop := fnExactArgValRow.holds Try.pinned (OpenSpec.ofChange fnExactArgValWrong)

/-- 'laws.FnExactCondOk': WHATEVER THE INPUT: true; the input reads as it did. -/
def fnExactCondOkSpec : ChangeSpec := { name := "fnExactCondOk", fn := fun _ => fun
  | [d] => { results := [.lit (.bool true)], args := [d] }
  | _ => none }
def fnExactCondOkRow : OpenClaim := { program := "ytjlfllnjbdddaaa", sum := "6dbabfea8a340ce6f88712d4d2a359b1dd6359411d7c529c70ea1c791811f5cd", func := "loop.example/g00282/laws.FnExactCondOk", spec := "fnExactCondOk", apart := false }
def FnExactCondOkSaid : Prop := fnExactCondOkRow.holds Try.pinned (OpenSpec.ofChange fnExactCondOkSpec)

/-- ITS FALSE NEIGHBOUR: 'it returns false'. Refute it at one input. -/
def fnExactCondOkWrong : ChangeSpec := { name := "fnExactCondOk", fn := fun _ => fun
  | [d] => { results := [.lit (.bool false)], args := [d] }
  | _ => none }
def FnExactCondOkWrongFalsely : Prop := fnExactCondOkRow.holds Try.pinned (OpenSpec.ofChange fnExactCondOkWrong)

/-- 'laws.FnExactExprOk': WHATEVER THE INPUT: true; the input reads as it did. -/
def fnExactExprOkSpec : ChangeSpec := { name := "fnExactExprOk", fn := fun _ => fun
  | [d] => { results := [.lit (.bool true)], args := [d] }
  | _ => none }
def fnExactExprOkRow : OpenClaim := { program := "ytjlfllnjbdddaaa", sum := "6dbabfea8a340ce6f88712d4d2a359b1dd6359411d7c529c70ea1c791811f5cd", func := "loop.example/g00282/laws.FnExactExprOk", spec := "fnExactExprOk", apart := false }
def FnExactExprOkSaid : Prop := fnExactExprOkRow.holds Try.pinned (OpenSpec.ofChange fnExactExprOkSpec)

/-- ITS FALSE NEIGHBOUR: 'it returns false'. Refute it at one input. -/
def fnExactExprOkWrong : ChangeSpec := { name := "fnExactExprOk", fn := fun _ => fun
  | [d] => { results := [.lit (.bool false)], args := [d] }
  | _ => none }
def FnExactExprOkWrongFalsely : Prop := fnExactExprOkRow.holds Try.pinned (OpenSpec.ofChange fnExactExprOkWrong)

/-- 'laws.FnExactHolds': WHATEVER THE INPUT: true; the input reads as it did. -/
def fnExactHoldsSpec : ChangeSpec := { name := "fnExactHolds", fn := fun _ => fun
  | [d1, d2] => { results := [.lit (.bool true)], args := [d1, d2] }
  | _ => none }
def fnExactHoldsRow : OpenClaim := { program := "ytjlfllnjbdddaaa", sum := "6dbabfea8a340ce6f88712d4d2a359b1dd6359411d7c529c70ea1c791811f5cd", func := "loop.example/g00282/laws.FnExactHolds", spec := "fnExactHolds", apart := false }
def FnExactHoldsSaid : Prop := fnExactHoldsRow.holds Try.pinned (OpenSpec.ofChange fnExactHoldsSpec)

/-- ITS FALSE NEIGHBOUR: 'it returns false'. Refute it at one input. -/
def fnExactHoldsWrong : ChangeSpec := { name := "fnExactHolds", fn := fun _ => fun
  | [d1, d2] => { results := [.lit (.bool false)], args := [d1, d2] }
  | _ => none }
def FnExactHoldsWrongFalsely : Prop := fnExactHoldsRow.holds Try.pinned (OpenSpec.ofChange fnExactHoldsWrong)

/-- 'laws.FnExactHoldAll': WHATEVER THE INPUT: true; the input reads as it did. -/
def fnExactHoldAllSpec : ChangeSpec := { name := "fnExactHoldAll", fn := fun _ => fun
  | [d1, d2] => { results := [.lit (.bool true)], args := [d1, d2] }
  | _ => none }
def fnExactHoldAllRow : OpenClaim := { program := "ytjlfllnjbdddaaa", sum := "6dbabfea8a340ce6f88712d4d2a359b1dd6359411d7c529c70ea1c791811f5cd", func := "loop.example/g00282/laws.FnExactHoldAll", spec := "fnExactHoldAll", apart := false }
def FnExactHoldAllSaid : Prop := fnExactHoldAllRow.holds Try.pinned (OpenSpec.ofChange fnExactHoldAllSpec)

/-- ITS FALSE NEIGHBOUR: 'it returns false'. Refute it at one input. -/
def fnExactHoldAllWrong : ChangeSpec := { name := "fnExactHoldAll", fn := fun _ => fun
  | [d1, d2] => { results := [.lit (.bool false)], args := [d1, d2] }
  | _ => none }
def FnExactHoldAllWrongFalsely : Prop := fnExactHoldAllRow.holds Try.pinned (OpenSpec.ofChange fnExactHoldAllWrong)

/-- 'laws.FnPats': WHATEVER THE INPUT: true; the input reads as it did. -/
def fnPatsSpec : ChangeSpec := { name := "fnPats", fn := fun _ => fun
  | [d] => { results := [.lit (.bool true)], args := [d] }
  | _ => none }
def fnPatsRow : OpenClaim := { program := "ytjlfllnjbdddaaa", sum := "6dbabfea8a340ce6f88712d4d2a359b1dd6359411d7c529c70ea1c791811f5cd", func := "loop.example/g00282/laws.FnPats", spec := "fnPats", apart := false }
def FnPatsSaid : Prop := fnPatsRow.holds Try.pinned (OpenSpec.ofChange fnPatsSpec)

/-- ITS FALSE NEIGHBOUR: 'it returns false'. Refute it at one input. -/
def fnPatsWrong : ChangeSpec := { name := "fnPats", fn := fun _ => fun
  | [d] => { results := [.lit (.bool false)], args := [d] }
  | _ => none }
def FnPatsWrongFalsely : Prop := fnPatsRow.holds Try.pinned (OpenSpec.ofChange fnPatsWrong)

/-- 'laws.FnConds': WHATEVER THE INPUT: true; the input reads as it did. -/
def fnCondsSpec : ChangeSpec := { name := "fnConds", fn := fun _ => fun
  | [d] => { results := [.lit (.bool true)], args := [d] }
  | _ => none }
def fnCondsRow : OpenClaim := { program := "ytjlfllnjbdddaaa", sum := "6dbabfea8a340ce6f88712d4d2a359b1dd6359411d7c529c70ea1c791811f5cd", func := "loop.example/g00282/laws.FnConds", spec := "fnConds", apart := false }
def FnCondsSaid : Prop := fnCondsRow.holds Try.pinned (OpenSpec.ofChange fnCondsSpec)

/-- ITS FALSE NEIGHBOUR: 'it returns false'. Refute it at one input. -/
def fnCondsWrong : ChangeSpec := { name := "fnConds", fn := fun _ => fun
  | [d] => { results := [.lit (.bool false)], args := [d] }
  | _ => none }
def FnCondsWrongFalsely : Prop := fnCondsRow.holds Try.pinned (OpenSpec.ofChange fnCondsWrong)

/- THE SECOND FORM. 'bulk': how many values and letters a reading holds, each counted each time it is reached (what is shared counts as often as it is met; a slice's spare places count too). A statement '..UptoSaid' is the law's where the arguments, and the package variables that the reading takes, are together of bulk at most 1048576: NARROWER than '..Said'. Prove '..Said' where nothing that the law and all that it calls make is longer than what came in: it says more and counts as full. Else prove '..UptoSaid'. A law counts once. -/
mutual
def uptoBulk {H : Type} : DataW H → Nat
  | .lit (.string bytes) => bytes.length + 1
  | .lit _ => 1
  | .nil => 1
  | .ptr d => uptoBulk d + 1
  | .slice elems spare => uptoBulkAll elems + uptoBulkAll spare + 1
  | .agg parts => uptoBulkAll parts + 1
  | .iface _ d => uptoBulk d + 1
  | .map entries => uptoBulkEntries entries + 1
  | .held _ => 1
def uptoBulkAll {H : Type} : List (DataW H) → Nat
  | [] => 0
  | d :: r => uptoBulk d + uptoBulkAll r
def uptoBulkEntries {H : Type} : List (Lit × DataW H) → Nat
  | [] => 0
  | x :: r => uptoBulkEntry x + uptoBulkEntries r
def uptoBulkEntry {H : Type} : Lit × DataW H → Nat
  | (.string bytes, d) => bytes.length + uptoBulk d + 1
  | (_, d) => uptoBulk d + 1
 end
def uptoSmall : (H : Type) → List (DataW H) → Bool := fun _ ds => decide (uptoBulkAll ds ≤ 1048576)
def OpenSpec.upto (s : _root_.Go.ChangeSpec) : _root_.Go.OpenSpec := { _root_.Go.OpenSpec.ofChange s with cond := some uptoSmall }

/-- 'laws.FnExactArgOk', WHERE WHAT IT READS IS OF BULK AT MOST 1048576: true; the input reads as it did. -/
def fnExactArgOkUptoRow : OpenClaim := { program := "ytjlfllnjbdddaaa", sum := "6dbabfea8a340ce6f88712d4d2a359b1dd6359411d7c529c70ea1c791811f5cd", func := "loop.example/g00282/laws.FnExactArgOk", spec := "fnExactArgOk", apart := false, narrowed := true }
def FnExactArgOkUptoSaid : Prop := fnExactArgOkUptoRow.holds Try.pinned (OpenSpec.upto fnExactArgOkSpec)

/-- 'laws.FnExactPatOk', WHERE WHAT IT READS IS OF BULK AT MOST 1048576: true; the input reads as it did. -/
def fnExactPatOkUptoRow : OpenClaim := { program := "ytjlfllnjbdddaaa", sum := "6dbabfea8a340ce6f88712d4d2a359b1dd6359411d7c529c70ea1c791811f5cd", func := "loop.example/g00282/laws.FnExactPatOk", spec := "fnExactPatOk", apart := false, narrowed := true }
def FnExactPatOkUptoSaid : Prop := fnExactPatOkUptoRow.holds Try.pinned (OpenSpec.upto fnExactPatOkSpec)

/-- 'laws.FnExactBindOf', WHERE WHAT IT READS IS OF BULK AT MOST 1048576: true; the input reads as it did. -/
def fnExactBindOfUptoRow : OpenClaim := { program := "ytjlfllnjbdddaaa", sum := "6dbabfea8a340ce6f88712d4d2a359b1dd6359411d7c529c70ea1c791811f5cd", func := "loop.example/g00282/laws.FnExactBindOf", spec := "fnExactBindOf", apart := false, narrowed := true }
def FnExactBindOfUptoSaid : Prop := fnExactBindOfUptoRow.holds Try.pinned (OpenSpec.upto fnExactBindOfSpec)

/-- 'laws.FnExactVarsOf', WHERE WHAT IT READS IS OF BULK AT MOST 1048576: true; the input reads as it did. -/
def fnExactVarsOfUptoRow : OpenClaim := { program := "ytjlfllnjbdddaaa", sum := "6dbabfea8a340ce6f88712d4d2a359b1dd6359411d7c529c70ea1c791811f5cd", func := "loop.example/g00282/laws.FnExactVarsOf", spec := "fnExactVarsOf", apart := false, narrowed := true }
def FnExactVarsOfUptoSaid : Prop := fnExactVarsOfUptoRow.holds Try.pinned (OpenSpec.upto fnExactVarsOfSpec)

/-- 'laws.FnExactMatchPat', WHERE WHAT IT READS IS OF BULK AT MOST 1048576: true; the input reads as it did. -/
def fnExactMatchPatUptoRow : OpenClaim := { program := "ytjlfllnjbdddaaa", sum := "6dbabfea8a340ce6f88712d4d2a359b1dd6359411d7c529c70ea1c791811f5cd", func := "loop.example/g00282/laws.FnExactMatchPat", spec := "fnExactMatchPat", apart := false, narrowed := true }
def FnExactMatchPatUptoSaid : Prop := fnExactMatchPatUptoRow.holds Try.pinned (OpenSpec.upto fnExactMatchPatSpec)

/-- 'laws.FnExactArgVal', WHERE WHAT IT READS IS OF BULK AT MOST 1048576: true; the input reads as it did. -/
def fnExactArgValUptoRow : OpenClaim := { program := "ytjlfllnjbdddaaa", sum := "6dbabfea8a340ce6f88712d4d2a359b1dd6359411d7c529c70ea1c791811f5cd", func := "loop.example/g00282/laws.FnExactArgVal", spec := "fnExactArgVal", apart := false, narrowed := true }
def FnExactArgValUptoSaid : Prop := fnExactArgValUptoRow.holds Try.pinned (OpenSpec.upto fnExactArgValSpec)

/-- 'laws.FnExactCondOk', WHERE WHAT IT READS IS OF BULK AT MOST 1048576: true; the input reads as it did. -/
def fnExactCondOkUptoRow : OpenClaim := { program := "ytjlfllnjbdddaaa", sum := "6dbabfea8a340ce6f88712d4d2a359b1dd6359411d7c529c70ea1c791811f5cd", func := "loop.example/g00282/laws.FnExactCondOk", spec := "fnExactCondOk", apart := false, narrowed := true }
def FnExactCondOkUptoSaid : Prop := fnExactCondOkUptoRow.holds Try.pinned (OpenSpec.upto fnExactCondOkSpec)

/-- 'laws.FnExactExprOk', WHERE WHAT IT READS IS OF BULK AT MOST 1048576: true; the input reads as it did. -/
def fnExactExprOkUptoRow : OpenClaim := { program := "ytjlfllnjbdddaaa", sum := "6dbabfea8a340ce6f88712d4d2a359b1dd6359411d7c529c70ea1c791811f5cd", func := "loop.example/g00282/laws.FnExactExprOk", spec := "fnExactExprOk", apart := false, narrowed := true }
def FnExactExprOkUptoSaid : Prop := fnExactExprOkUptoRow.holds Try.pinned (OpenSpec.upto fnExactExprOkSpec)

/-- 'laws.FnExactHolds', WHERE WHAT IT READS IS OF BULK AT MOST 1048576: true; the input reads as it did. -/
def fnExactHoldsUptoRow : OpenClaim := { program := "ytjlfllnjbdddaaa", sum := "6dbabfea8a340ce6f88712d4d2a359b1dd6359411d7c529c70ea1c791811f5cd", func := "loop.example/g00282/laws.FnExactHolds", spec := "fnExactHolds", apart := false, narrowed := true }
def FnExactHoldsUptoSaid : Prop := fnExactHoldsUptoRow.holds Try.pinned (OpenSpec.upto fnExactHoldsSpec)

/-- 'laws.FnExactHoldAll', WHERE WHAT IT READS IS OF BULK AT MOST 1048576: true; the input reads as it did. -/
def fnExactHoldAllUptoRow : OpenClaim := { program := "ytjlfllnjbdddaaa", sum := "6dbabfea8a340ce6f88712d4d2a359b1dd6359411d7c529c70ea1c791811f5cd", func := "loop.example/g00282/laws.FnExactHoldAll", spec := "fnExactHoldAll", apart := false, narrowed := true }
def FnExactHoldAllUptoSaid : Prop := fnExactHoldAllUptoRow.holds Try.pinned (OpenSpec.upto fnExactHoldAllSpec)

/-- 'laws.FnPats', WHERE WHAT IT READS IS OF BULK AT MOST 1048576: true; the input reads as it did. -/
def fnPatsUptoRow : OpenClaim := { program := "ytjlfllnjbdddaaa", sum := "6dbabfea8a340ce6f88712d4d2a359b1dd6359411d7c529c70ea1c791811f5cd", func := "loop.example/g00282/laws.FnPats", spec := "fnPats", apart := false, narrowed := true }
def FnPatsUptoSaid : Prop := fnPatsUptoRow.holds Try.pinned (OpenSpec.upto fnPatsSpec)

/-- 'laws.FnConds', WHERE WHAT IT READS IS OF BULK AT MOST 1048576: true; the input reads as it did. -/
def fnCondsUptoRow : OpenClaim := { program := "ytjlfllnjbdddaaa", sum := "6dbabfea8a340ce6f88712d4d2a359b1dd6359411d7c529c70ea1c791811f5cd", func := "loop.example/g00282/laws.FnConds", spec := "fnConds", apart := false, narrowed := true }
def FnCondsUptoSaid : Prop := fnCondsUptoRow.holds Try.pinned (OpenSpec.upto fnCondsSpec)

end Rows
end Go.Proofs.Ytjlfllnjbdddaaa
