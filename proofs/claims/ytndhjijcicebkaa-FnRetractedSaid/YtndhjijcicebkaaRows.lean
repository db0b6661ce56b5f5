/-
  No cell of these rows narrows 'for every input' (looked for: loops, veiled, ifaces, maps, wideKeys, modest, calm, conditions, laid).
  DERIVED. THE GIVEN ROWS OF THIS SEAT. 5 by the template 'for every input the law returns true; each argument reads behind the call as it read before'; 0 by the template 'total and deterministic' (their statements: YtndhjijcicebkaaTotals.lean).
  GIVEN WITH THE SEED: the statements are not yours to turn. If you find one false, say at which input.
  Laid BY PROGRAM, IN A SANDBOX (cutbox-rows.mjs): the forced cells as the released guide's own fill.sh prints them over the translation 8dc146380887b091… (all of the seat's roots in one cut). By AI agents, Wed Nov 11 2026. No macro, syntax, notation, axiom, sorry.
-/
import Derived.Test.YtndhjijcicebkaaChecked
import GoSem.Claim
import GoSem.ClaimJoined
import GoSem.ClaimMapViews
import Derived.JoinedTies
import Derived.KernelRfl
namespace Go.Proofs.Ytndhjijcicebkaa
/- THE CELL 'sum', in the pinned program and in every row, IS THE sha256 OF THE DUMP (.gsa) THAT YtndhjijcicebkaaProg.lean LOADS. Nothing in Lean hashes anything: it is a label: what it is worth is what the hold of that sum in a sandbox is worth. -/
noncomputable def Try.pinned : Pinned := { name := "ytndhjijcicebkaa", sum := "8dc146380887b09103cdae357a77ea9185ba32f597ee80cc5b581079d1f14e14", checked := Try.checked }
namespace Rows
def none {H : Type} : Left H := { results := [], args := [] }

/-- 'laws.FnExactAssert': WHATEVER THE INPUT: true; the input reads as it did. -/
def fnExactAssertSpec : ChangeSpec := { name := "fnExactAssert", fn := fun _ => fun
  | [d1, d2] => { results := [.lit (.bool true)], args := [d1, d2] }
  | _ => none }
def fnExactAssertRow : OpenClaim := { program := "ytndhjijcicebkaa", sum := "8dc146380887b09103cdae357a77ea9185ba32f597ee80cc5b581079d1f14e14", func := "loop.example/g00282/laws.FnExactAssert", spec := "fnExactAssert", apart := false }
def FnExactAssertSaid : Prop := fnExactAssertRow.holds Try.pinned (OpenSpec.ofChange fnExactAssertSpec)

/-- ITS FALSE NEIGHBOUR: 'it returns false'. Refute it at one input. -/
def fnExactAssertWrong : ChangeSpec := { name := "fnExactAssert", fn := fun _ => fun
  | [d1, d2] => { results := [.lit (.bool false)], args := [d1, d2] }
  | _ => none }
def FnExactAssertWrongFalsely : Prop := fnExactAssertRow.holds Try.pinned (OpenSpec.ofChange fnExactAssertWrong)

/-- 'laws.FnExactRetract': WHATEVER THE INPUT: true; the input reads as it did. -/
def fnExactRetractSpec : ChangeSpec := { name := "fnExactRetract", fn := fun _ => fun
  | [d1, d2] => { results := [.lit (.bool true)], args := [d1, d2] }
  | _ => none }
def fnExactRetractRow : OpenClaim := { program := "ytndhjijcicebkaa", sum := "8dc146380887b09103cdae357a77ea9185ba32f597ee80cc5b581079d1f14e14", func := "loop.example/g00282/laws.FnExactRetract", spec := "fnExactRetract", apart := false }
def FnExactRetractSaid : Prop := fnExactRetractRow.holds Try.pinned (OpenSpec.ofChange fnExactRetractSpec)

/-- ITS FALSE NEIGHBOUR: 'it returns false'. Refute it at one input. -/
def fnExactRetractWrong : ChangeSpec := { name := "fnExactRetract", fn := fun _ => fun
  | [d1, d2] => { results := [.lit (.bool false)], args := [d1, d2] }
  | _ => none }
def FnExactRetractWrongFalsely : Prop := fnExactRetractRow.holds Try.pinned (OpenSpec.ofChange fnExactRetractWrong)

/-- 'laws.FnKinds': WHATEVER THE INPUT: true; the input reads as it did. -/
def fnKindsSpec : ChangeSpec := { name := "fnKinds", fn := fun _ => fun
  | [d] => { results := [.lit (.bool true)], args := [d] }
  | _ => none }
def fnKindsRow : OpenClaim := { program := "ytndhjijcicebkaa", sum := "8dc146380887b09103cdae357a77ea9185ba32f597ee80cc5b581079d1f14e14", func := "loop.example/g00282/laws.FnKinds", spec := "fnKinds", apart := false }
def FnKindsSaid : Prop := fnKindsRow.holds Try.pinned (OpenSpec.ofChange fnKindsSpec)

/-- ITS FALSE NEIGHBOUR: 'it returns false'. Refute it at one input. -/
def fnKindsWrong : ChangeSpec := { name := "fnKinds", fn := fun _ => fun
  | [d] => { results := [.lit (.bool false)], args := [d] }
  | _ => none }
def FnKindsWrongFalsely : Prop := fnKindsRow.holds Try.pinned (OpenSpec.ofChange fnKindsWrong)

/-- 'laws.FnAsserted': WHATEVER THE INPUT: true; the input reads as it did. -/
def fnAssertedSpec : ChangeSpec := { name := "fnAsserted", fn := fun _ => fun
  | [d] => { results := [.lit (.bool true)], args := [d] }
  | _ => none }
def fnAssertedRow : OpenClaim := { program := "ytndhjijcicebkaa", sum := "8dc146380887b09103cdae357a77ea9185ba32f597ee80cc5b581079d1f14e14", func := "loop.example/g00282/laws.FnAsserted", spec := "fnAsserted", apart := false }
def FnAssertedSaid : Prop := fnAssertedRow.holds Try.pinned (OpenSpec.ofChange fnAssertedSpec)

/-- ITS FALSE NEIGHBOUR: 'it returns false'. Refute it at one input. -/
def fnAssertedWrong : ChangeSpec := { name := "fnAsserted", fn := fun _ => fun
  | [d] => { results := [.lit (.bool false)], args := [d] }
  | _ => none }
def FnAssertedWrongFalsely : Prop := fnAssertedRow.holds Try.pinned (OpenSpec.ofChange fnAssertedWrong)

/-- 'laws.FnRetracted': WHATEVER THE INPUT: true; the input reads as it did. -/
def fnRetractedSpec : ChangeSpec := { name := "fnRetracted", fn := fun _ => fun
  | [d] => { results := [.lit (.bool true)], args := [d] }
  | _ => none }
def fnRetractedRow : OpenClaim := { program := "ytndhjijcicebkaa", sum := "8dc146380887b09103cdae357a77ea9185ba32f597ee80cc5b581079d1f14e14", func := "loop.example/g00282/laws.FnRetracted", spec := "fnRetracted", apart := false }
def FnRetractedSaid : Prop := fnRetractedRow.holds Try.pinned (OpenSpec.ofChange fnRetractedSpec)

/-- ITS FALSE NEIGHBOUR: 'it returns false'. Refute it at one input. -/
def fnRetractedWrong : ChangeSpec := { name := "fnRetracted", fn := fun _ => fun
  | [d] => { results := [.lit (.bool false)], args := [d] }
  | _ => none }
def FnRetractedWrongFalsely : Prop := fnRetractedRow.holds Try.pinned (OpenSpec.ofChange fnRetractedWrong)

/- THE SECOND FORM. 'bulk': how many values and letters a reading holds, each counted each time it is reached (what is shared counts as often as it is met; a slice's spare places count too). A statement '..UptoSaid' is the law's where the arguments, and the package variables that the reading takes, are together of bulk at most 1048576: NARROWER than '..Said'. Prove '..Said' where nothing that the law and all that it calls make is longer than what came in: it says more and counts as full. Else prove '..UptoSaid'. A law counts once. -/
mutual
def uptoBulk {H : Type} : DataW H → Nat
  | .lit (.string bytes) => bytes.length + 1
  | .lit _ => 1
  | .nil => 1
  | .ptr d => uptoBulk d + 1
  | .slice elems spare => uptoBulkAll elems + uptoBulkAll spare + 1
  | .agg parts => uptoBulkAll parts + 1
  | .iface _ d => uptoBulk d + 1
  | .map entries => uptoBulkEntries entries + 1
  | .held _ => 1
def uptoBulkAll {H : Type} : List (DataW H) → Nat
  | [] => 0
  | d :: r => uptoBulk d + uptoBulkAll r
def uptoBulkEntries {H : Type} : List (Lit × DataW H) → Nat
  | [] => 0
  | x :: r => uptoBulkEntry x + uptoBulkEntries r
def uptoBulkEntry {H : Type} : Lit × DataW H → Nat
  | (.string bytes, d) => bytes.length + uptoBulk d + 1
  | (_, d) => uptoBulk d + 1
 end
def uptoSmall : (H : Type) → List (DataW H) → Bool := fun _ ds => decide (uptoBulkAll ds ≤ 1048576)
def OpenSpec.upto (s : _root_.Go.ChangeSpec) : _root_.Go.OpenSpec := { _root_.Go.OpenSpec.ofChange s with cond := some uptoSmall }

/-- 'laws.FnExactAssert', WHERE WHAT IT READS IS OF BULK AT MOST 1048576: true; the input reads as it did. -/
def fnExactAssertUptoRow : OpenClaim := { program := "ytndhjijcicebkaa", sum := "8dc146380887b09103cdae357a77ea9185ba32f597ee80cc5b581079d1f14e14", func := "loop.example/g00282/laws.FnExactAssert", spec := "fnExactAssert", apart := false, narrowed := true }
def FnExactAssertUptoSaid : Prop := fnExactAssertUptoRow.holds Try.pinned (OpenSpec.upto fnExactAssertSpec)

/-- 'laws.FnExactRetract', WHERE WHAT IT READS IS OF BULK AT MOST 1048576: true; the input reads as it did. -/
def fnExactRetractUptoRow : OpenClaim := { program := "ytndhjijcicebkaa", sum := "8dc146380887b09103cdae357a77ea9185ba32f597ee80cc5b581079d1f14e14", func := "loop.example/g00282/laws.FnExactRetract", spec := "fnExactRetract", apart := false, narrowed := true }
def FnExactRetractUptoSaid : Prop := fnExactRetractUptoRow.holds Try.pinned (OpenSpec.upto fnExactRetractSpec)

/-- 'laws.FnKinds', WHERE WHAT IT READS IS OF BULK AT MOST 1048576: true; the input reads as it did. -/
def fnKindsUptoRow : OpenClaim := { program := "ytndhjijcicebkaa", sum := "8dc146380887b09103cdae357a77ea9185ba32f597ee80cc5b581079d1f14e14", func := "loop.example/g00282/laws.FnKinds", spec := "fnKinds", apart := false, narrowed := true }
def FnKindsUptoSaid : Prop := fnKindsUptoRow.holds Try.pinned (OpenSpec.upto fnKindsSpec)

/-- 'laws.FnAsserted', WHERE WHAT IT READS IS OF BULK AT MOST 1048576: true; the input reads as it did. -/
def fnAssertedUptoRow : OpenClaim := { program := "ytndhjijcicebkaa", sum := "8dc146380887b09103cdae357a77ea9185ba32f597ee80cc5b581079d1f14e14", func := "loop.example/g00282/laws.FnAsserted", spec := "fnAsserted", apart := false, narrowed := true }
def FnAssertedUptoSaid : Prop := fnAssertedUptoRow.holds Try.pinned (OpenSpec.upto fnAssertedSpec)

/-- 'laws.FnRetracted', WHERE WHAT IT READS IS OF BULK AT MOST 1048576: true; the input reads as it did. -/
def fnRetractedUptoRow : OpenClaim := { program := "ytndhjijcicebkaa", sum := "8dc146380887b09103cdae357a77ea9185ba32f597ee80cc5b581079d1f14e14", func := "loop.example/g00282/laws.FnRetracted", spec := "fnRetracted", apart := false, narrowed := true }
def FnRetractedUptoSaid : Prop := fnRetractedUptoRow.holds Try.pinned (OpenSpec.upto fnRetractedSpec)

end Rows
end Go.Proofs.Ytndhjijcicebkaa
