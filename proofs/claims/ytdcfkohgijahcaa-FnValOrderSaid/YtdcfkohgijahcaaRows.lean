/-
  No cell of these rows narrows 'for every input' (looked for: loops, veiled, ifaces, maps, wideKeys, modest, calm, conditions, laid).
  DERIVED. THE GIVEN ROWS OF THIS SEAT. 8 by the template 'for every input the law returns true; each argument reads behind the call as it read before'; 0 by the template 'total and deterministic' (their statements: YtdcfkohgijahcaaTotals.lean).
  GIVEN WITH THE SEED: the statements are not yours to turn. If you find one false, say at which input.
  Laid BY PROGRAM, IN A SANDBOX (cutbox-rows.mjs): the forced cells as the released guide's own fill.sh prints them over the translation 72ef6633c94a89f8… (all of the seat's roots in one cut). By AI agents, Wed Nov 11 2026. No macro, syntax, notation, axiom, sorry.
-/
import Derived.Test.YtdcfkohgijahcaaChecked
import GoSem.Claim
import GoSem.ClaimJoined
import GoSem.ClaimMapViews
import Derived.JoinedTies
import Derived.KernelRfl
namespace Go.Proofs.Ytdcfkohgijahcaa
/- THE CELL 'sum', in the pinned program and in every row, IS THE sha256 OF THE DUMP (.gsa) THAT YtdcfkohgijahcaaProg.lean LOADS. Nothing in Lean hashes anything: it is a label: what it is worth is what the hold of that sum in a sandbox is worth. -/
noncomputable def Try.pinned : Pinned := { name := "ytdcfkohgijahcaa", sum := "72ef6633c94a89f8f7ea89e592dfba2faba92f84275c3fbf700d4118b4934780", checked := Try.checked }
namespace Rows
def none {H : Type} : Left H := { results := [], args := [] }

/-- 'laws.FnExactSubVals': WHATEVER THE INPUT: true; the input reads as it did. -/
def fnExactSubValsSpec : ChangeSpec := { name := "fnExactSubVals", fn := fun _ => fun
  | [d1, d2] => { results := [.lit (.bool true)], args := [d1, d2] }
  | _ => none }
def fnExactSubValsRow : OpenClaim := { program := "ytdcfkohgijahcaa", sum := "72ef6633c94a89f8f7ea89e592dfba2faba92f84275c3fbf700d4118b4934780", func := "loop.example/g00282/laws.FnExactSubVals", spec := "fnExactSubVals", apart := false }
def FnExactSubValsSaid : Prop := fnExactSubValsRow.holds Try.pinned (OpenSpec.ofChange fnExactSubValsSpec)

/-- ITS FALSE NEIGHBOUR: 'it returns false'. Refute it at one input. -/
def fnExactSubValsWrong : ChangeSpec := { name := "fnExactSubVals", fn := fun _ => fun
  | [d1, d2] => { results := [.lit (.bool false)], args := [d1, d2] }
  | _ => none }
def FnExactSubValsWrongFalsely : Prop := fnExactSubValsRow.holds Try.pinned (OpenSpec.ofChange fnExactSubValsWrong)

/-- 'laws.FnExactPutVal': WHATEVER THE INPUT: true; the input reads as it did. -/
def fnExactPutValSpec : ChangeSpec := { name := "fnExactPutVal", fn := fun _ => fun
  | [d1, d2] => { results := [.lit (.bool true)], args := [d1, d2] }
  | _ => none }
def fnExactPutValRow : OpenClaim := { program := "ytdcfkohgijahcaa", sum := "72ef6633c94a89f8f7ea89e592dfba2faba92f84275c3fbf700d4118b4934780", func := "loop.example/g00282/laws.FnExactPutVal", spec := "fnExactPutVal", apart := false }
def FnExactPutValSaid : Prop := fnExactPutValRow.holds Try.pinned (OpenSpec.ofChange fnExactPutValSpec)

/-- ITS FALSE NEIGHBOUR: 'it returns false'. Refute it at one input. -/
def fnExactPutValWrong : ChangeSpec := { name := "fnExactPutVal", fn := fun _ => fun
  | [d1, d2] => { results := [.lit (.bool false)], args := [d1, d2] }
  | _ => none }
def FnExactPutValWrongFalsely : Prop := fnExactPutValRow.holds Try.pinned (OpenSpec.ofChange fnExactPutValWrong)

/-- 'laws.FnExactGetVal': WHATEVER THE INPUT: true; the input reads as it did. -/
def fnExactGetValSpec : ChangeSpec := { name := "fnExactGetVal", fn := fun _ => fun
  | [d1, d2] => { results := [.lit (.bool true)], args := [d1, d2] }
  | _ => none }
def fnExactGetValRow : OpenClaim := { program := "ytdcfkohgijahcaa", sum := "72ef6633c94a89f8f7ea89e592dfba2faba92f84275c3fbf700d4118b4934780", func := "loop.example/g00282/laws.FnExactGetVal", spec := "fnExactGetVal", apart := false }
def FnExactGetValSaid : Prop := fnExactGetValRow.holds Try.pinned (OpenSpec.ofChange fnExactGetValSpec)

/-- ITS FALSE NEIGHBOUR: 'it returns false'. Refute it at one input. -/
def fnExactGetValWrong : ChangeSpec := { name := "fnExactGetVal", fn := fun _ => fun
  | [d1, d2] => { results := [.lit (.bool false)], args := [d1, d2] }
  | _ => none }
def FnExactGetValWrongFalsely : Prop := fnExactGetValRow.holds Try.pinned (OpenSpec.ofChange fnExactGetValWrong)

/-- 'laws.FnValOrder': WHATEVER THE INPUT: true; the input reads as it did. -/
def fnValOrderSpec : ChangeSpec := { name := "fnValOrder", fn := fun _ => fun
  | [d] => { results := [.lit (.bool true)], args := [d] }
  | _ => none }
def fnValOrderRow : OpenClaim := { program := "ytdcfkohgijahcaa", sum := "72ef6633c94a89f8f7ea89e592dfba2faba92f84275c3fbf700d4118b4934780", func := "loop.example/g00282/laws.FnValOrder", spec := "fnValOrder", apart := false }
def FnValOrderSaid : Prop := fnValOrderRow.holds Try.pinned (OpenSpec.ofChange fnValOrderSpec)

/-- ITS FALSE NEIGHBOUR: 'it returns false'. Refute it at one input. -/
def fnValOrderWrong : ChangeSpec := { name := "fnValOrder", fn := fun _ => fun
  | [d] => { results := [.lit (.bool false)], args := [d] }
  | _ => none }
def FnValOrderWrongFalsely : Prop := fnValOrderRow.holds Try.pinned (OpenSpec.ofChange fnValOrderWrong)

/-- 'laws.FnAdded': WHATEVER THE INPUT: true; the input reads as it did. -/
def fnAddedSpec : ChangeSpec := { name := "fnAdded", fn := fun _ => fun
  | [d] => { results := [.lit (.bool true)], args := [d] }
  | _ => none }
def fnAddedRow : OpenClaim := { program := "ytdcfkohgijahcaa", sum := "72ef6633c94a89f8f7ea89e592dfba2faba92f84275c3fbf700d4118b4934780", func := "loop.example/g00282/laws.FnAdded", spec := "fnAdded", apart := false }
def FnAddedSaid : Prop := fnAddedRow.holds Try.pinned (OpenSpec.ofChange fnAddedSpec)

/-- ITS FALSE NEIGHBOUR: 'it returns false'. Refute it at one input. -/
def fnAddedWrong : ChangeSpec := { name := "fnAdded", fn := fun _ => fun
  | [d] => { results := [.lit (.bool false)], args := [d] }
  | _ => none }
def FnAddedWrongFalsely : Prop := fnAddedRow.holds Try.pinned (OpenSpec.ofChange fnAddedWrong)

/-- 'laws.FnExactSameFact': WHATEVER THE INPUT: true; the input reads as it did. -/
def fnExactSameFactSpec : ChangeSpec := { name := "fnExactSameFact", fn := fun _ => fun
  | [d1, d2] => { results := [.lit (.bool true)], args := [d1, d2] }
  | _ => none }
def fnExactSameFactRow : OpenClaim := { program := "ytdcfkohgijahcaa", sum := "72ef6633c94a89f8f7ea89e592dfba2faba92f84275c3fbf700d4118b4934780", func := "loop.example/g00282/laws.FnExactSameFact", spec := "fnExactSameFact", apart := false }
def FnExactSameFactSaid : Prop := fnExactSameFactRow.holds Try.pinned (OpenSpec.ofChange fnExactSameFactSpec)

/-- ITS FALSE NEIGHBOUR: 'it returns false'. Refute it at one input. -/
def fnExactSameFactWrong : ChangeSpec := { name := "fnExactSameFact", fn := fun _ => fun
  | [d1, d2] => { results := [.lit (.bool false)], args := [d1, d2] }
  | _ => none }
def FnExactSameFactWrongFalsely : Prop := fnExactSameFactRow.holds Try.pinned (OpenSpec.ofChange fnExactSameFactWrong)

/-- 'laws.FnExactLessFact': WHATEVER THE INPUT: true; the input reads as it did. -/
def fnExactLessFactSpec : ChangeSpec := { name := "fnExactLessFact", fn := fun _ => fun
  | [d1, d2] => { results := [.lit (.bool true)], args := [d1, d2] }
  | _ => none }
def fnExactLessFactRow : OpenClaim := { program := "ytdcfkohgijahcaa", sum := "72ef6633c94a89f8f7ea89e592dfba2faba92f84275c3fbf700d4118b4934780", func := "loop.example/g00282/laws.FnExactLessFact", spec := "fnExactLessFact", unfollowed := true, recurses := true, apart := false }
def FnExactLessFactSaid : Prop := fnExactLessFactRow.holds Try.pinned (OpenSpec.ofChange fnExactLessFactSpec)

/-- ITS FALSE NEIGHBOUR: 'it returns false'. Refute it at one input. -/
def fnExactLessFactWrong : ChangeSpec := { name := "fnExactLessFact", fn := fun _ => fun
  | [d1, d2] => { results := [.lit (.bool false)], args := [d1, d2] }
  | _ => none }
def FnExactLessFactWrongFalsely : Prop := fnExactLessFactRow.holds Try.pinned (OpenSpec.ofChange fnExactLessFactWrong)

/-- 'laws.FnExactFactOk': WHATEVER THE INPUT: true; the input reads as it did. -/
def fnExactFactOkSpec : ChangeSpec := { name := "fnExactFactOk", fn := fun _ => fun
  | [d] => { results := [.lit (.bool true)], args := [d] }
  | _ => none }
def fnExactFactOkRow : OpenClaim := { program := "ytdcfkohgijahcaa", sum := "72ef6633c94a89f8f7ea89e592dfba2faba92f84275c3fbf700d4118b4934780", func := "loop.example/g00282/laws.FnExactFactOk", spec := "fnExactFactOk", apart := false }
def FnExactFactOkSaid : Prop := fnExactFactOkRow.holds Try.pinned (OpenSpec.ofChange fnExactFactOkSpec)

/-- ITS FALSE NEIGHBOUR: 'it returns false'. Refute it at one input. -/
def fnExactFactOkWrong : ChangeSpec := { name := "fnExactFactOk", fn := fun _ => fun
  | [d] => { results := [.lit (.bool false)], args := [d] }
  | _ => none }
def FnExactFactOkWrongFalsely : Prop := fnExactFactOkRow.holds Try.pinned (OpenSpec.ofChange fnExactFactOkWrong)

/- THE SECOND FORM. 'bulk': how many values and letters a reading holds, each counted each time it is reached (what is shared counts as often as it is met; a slice's spare places count too). A statement '..UptoSaid' is the law's where the arguments, and the package variables that the reading takes, are together of bulk at most 1048576: NARROWER than '..Said'. Prove '..Said' where nothing that the law and all that it calls make is longer than what came in: it says more and counts as full. Else prove '..UptoSaid'. A law counts once. -/
mutual
def uptoBulk {H : Type} : DataW H → Nat
  | .lit (.string bytes) => bytes.length + 1
  | .lit _ => 1
  | .nil => 1
  | .ptr d => uptoBulk d + 1
  | .slice elems spare => uptoBulkAll elems + uptoBulkAll spare + 1
  | .agg parts => uptoBulkAll parts + 1
  | .iface _ d => uptoBulk d + 1
  | .map entries => uptoBulkEntries entries + 1
  | .held _ => 1
def uptoBulkAll {H : Type} : List (DataW H) → Nat
  | [] => 0
  | d :: r => uptoBulk d + uptoBulkAll r
def uptoBulkEntries {H : Type} : List (Lit × DataW H) → Nat
  | [] => 0
  | x :: r => uptoBulkEntry x + uptoBulkEntries r
def uptoBulkEntry {H : Type} : Lit × DataW H → Nat
  | (.string bytes, d) => bytes.length + uptoBulk d + 1
  | (_, d) => uptoBulk d + 1
 end
def uptoSmall : (H : Type) → List (DataW H) → Bool := fun _ ds => decide (uptoBulkAll ds ≤ 1048576)
def OpenSpec.upto (s : _root_.Go.ChangeSpec) : _root_.Go.OpenSpec := { _root_.Go.OpenSpec.ofChange s with cond := some uptoSmall }

/-- 'laws.FnExactSubVals', WHERE WHAT IT READS IS OF BULK AT MOST 1048576: true; the input reads as it did. -/
def fnExactSubValsUptoRow : OpenClaim := { program := "ytdcfkohgijahcaa", sum := "72ef6633c94a89f8f7ea89e592dfba2faba92f84275c3fbf700d4118b4934780", func := "loop.example/g00282/laws.FnExactSubVals", spec := "fnExactSubVals", apart := false, narrowed := true }
def FnExactSubValsUptoSaid : Prop := fnExactSubValsUptoRow.holds Try.pinned (OpenSpec.upto fnExactSubValsSpec)

/-- 'laws.FnExactPutVal', WHERE WHAT IT READS IS OF BULK AT MOST 1048576: true; the input reads as it did. -/
def fnExactPutValUptoRow : OpenClaim := { program := "ytdcfkohgijahcaa", sum := "72ef6633c94a89f8f7ea89e592dfba2faba92f84275c3fbf700d4118b4934780", func := "loop.example/g00282/laws.FnExactPutVal", spec := "fnExactPutVal", apart := false, narrowed := true }
def FnExactPutValUptoSaid : Prop := fnExactPutValUptoRow.holds Try.pinned (OpenSpec.upto fnExactPutValSpec)

/-- 'laws.FnExactGetVal', WHERE WHAT IT READS IS OF BULK AT MOST 1048576: true; the input reads as it did. -/
def fnExactGetValUptoRow : OpenClaim := { program := "ytdcfkohgijahcaa", sum := "72ef6633c94a89f8f7ea89e592dfba2faba92f84275c3fbf700d4118b4934780", func := "loop.example/g00282/laws.FnExactGetVal", spec := "fnExactGetVal", apart := false, narrowed := true }
def FnExactGetValUptoSaid : Prop := fnExactGetValUptoRow.holds Try.pinned (OpenSpec.upto fnExactGetValSpec)

/-- 'laws.FnValOrder', WHERE WHAT IT READS IS OF BULK AT MOST 1048576: true; the input reads as it did. -/
def fnValOrderUptoRow : OpenClaim := { program := "ytdcfkohgijahcaa", sum := "72ef6633c94a89f8f7ea89e592dfba2faba92f84275c3fbf700d4118b4934780", func := "loop.example/g00282/laws.FnValOrder", spec := "fnValOrder", apart := false, narrowed := true }
def FnValOrderUptoSaid : Prop := fnValOrderUptoRow.holds Try.pinned (OpenSpec.upto fnValOrderSpec)

/-- 'laws.FnAdded', WHERE WHAT IT READS IS OF BULK AT MOST 1048576: true; the input reads as it did. -/
def fnAddedUptoRow : OpenClaim := { program := "ytdcfkohgijahcaa", sum := "72ef6633c94a89f8f7ea89e592dfba2faba92f84275c3fbf700d4118b4934780", func := "loop.example/g00282/laws.FnAdded", spec := "fnAdded", apart := false, narrowed := true }
def FnAddedUptoSaid : Prop := fnAddedUptoRow.holds Try.pinned (OpenSpec.upto fnAddedSpec)

/-- 'laws.FnExactSameFact', WHERE WHAT IT READS IS OF BULK AT MOST 1048576: true; the input reads as it did. -/
def fnExactSameFactUptoRow : OpenClaim := { program := "ytdcfkohgijahcaa", sum := "72ef6633c94a89f8f7ea89e592dfba2faba92f84275c3fbf700d4118b4934780", func := "loop.example/g00282/laws.FnExactSameFact", spec := "fnExactSameFact", apart := false, narrowed := true }
def FnExactSameFactUptoSaid : Prop := fnExactSameFactUptoRow.holds Try.pinned (OpenSpec.upto fnExactSameFactSpec)

/-- 'laws.FnExactLessFact', WHERE WHAT IT READS IS OF BULK AT MOST 1048576: true; the input reads as it did. -/
def fnExactLessFactUptoRow : OpenClaim := { program := "ytdcfkohgijahcaa", sum := "72ef6633c94a89f8f7ea89e592dfba2faba92f84275c3fbf700d4118b4934780", func := "loop.example/g00282/laws.FnExactLessFact", spec := "fnExactLessFact", unfollowed := true, recurses := true, apart := false, narrowed := true }
def FnExactLessFactUptoSaid : Prop := fnExactLessFactUptoRow.holds Try.pinned (OpenSpec.upto fnExactLessFactSpec)

/-- 'laws.FnExactFactOk', WHERE WHAT IT READS IS OF BULK AT MOST 1048576: true; the input reads as it did. -/
def fnExactFactOkUptoRow : OpenClaim := { program := "ytdcfkohgijahcaa", sum := "72ef6633c94a89f8f7ea89e592dfba2faba92f84275c3fbf700d4118b4934780", func := "loop.example/g00282/laws.FnExactFactOk", spec := "fnExactFactOk", apart := false, narrowed := true }
def FnExactFactOkUptoSaid : Prop := fnExactFactOkUptoRow.holds Try.pinned (OpenSpec.upto fnExactFactOkSpec)

end Rows
end Go.Proofs.Ytdcfkohgijahcaa
