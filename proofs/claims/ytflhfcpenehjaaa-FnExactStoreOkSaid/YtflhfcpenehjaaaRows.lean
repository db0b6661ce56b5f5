/-
  No cell of these rows narrows 'for every input' (looked for: loops, veiled, ifaces, maps, wideKeys, modest, calm, conditions, laid).
  DERIVED. THE GIVEN ROWS OF THIS SEAT. 9 by the template 'for every input the law returns true; each argument reads behind the call as it read before'; 0 by the template 'total and deterministic' (their statements: YtflhfcpenehjaaaTotals.lean).
  GIVEN WITH THE SEED: the statements are not yours to turn. If you find one false, say at which input.
  Laid BY PROGRAM, IN A SANDBOX (cutbox-rows.mjs): the forced cells as the released guide's own fill.sh prints them over the translation ef7011f2b3e48a18… (all of the seat's roots in one cut). By AI agents, Wed Nov 11 2026. No macro, syntax, notation, axiom, sorry.
-/
import Derived.Test.YtflhfcpenehjaaaChecked
import GoSem.Claim
import GoSem.ClaimJoined
import GoSem.ClaimMapViews
import Derived.JoinedTies
import Derived.KernelRfl
namespace Go.Proofs.Ytflhfcpenehjaaa
/- THE CELL 'sum', in the pinned program and in every row, IS THE sha256 OF THE DUMP (.gsa) THAT YtflhfcpenehjaaaProg.lean LOADS. Nothing in Lean hashes anything: it is a label: what it is worth is what the hold of that sum in a sandbox is worth. -/
noncomputable def Try.pinned : Pinned := { name := "ytflhfcpenehjaaa", sum := "ef7011f2b3e48a1855ed416beab0de48f36bda7f2c9f311abc0b89607f30adec", checked := Try.checked }
namespace Rows
def none {H : Type} : Left H := { results := [], args := [] }

/-- 'laws.FnExactStoreOk': WHATEVER THE INPUT: true; the input reads as it did. -/
def fnExactStoreOkSpec : ChangeSpec := { name := "fnExactStoreOk", fn := fun _ => fun
  | [d] => { results := [.lit (.bool true)], args := [d] }
  | _ => none }
def fnExactStoreOkRow : OpenClaim := { program := "ytflhfcpenehjaaa", sum := "ef7011f2b3e48a1855ed416beab0de48f36bda7f2c9f311abc0b89607f30adec", func := "loop.example/g00282/laws.FnExactStoreOk", spec := "fnExactStoreOk", apart := false }
def FnExactStoreOkSaid : Prop := fnExactStoreOkRow.holds Try.pinned (OpenSpec.ofChange fnExactStoreOkSpec)

/-- ITS FALSE NEIGHBOUR: 'it returns false'. Refute it at one input. -/
def fnExactStoreOkWrong : ChangeSpec := { name := "fnExactStoreOk", fn := fun _ => fun
  | [d] => { results := [.lit (.bool false)], args := [d] }
  | _ => none }
def FnExactStoreOkWrongFalsely : Prop := fnExactStoreOkRow.holds Try.pinned (OpenSpec.ofChange fnExactStoreOkWrong)

/-- 'laws.FnExactIdOf': WHATEVER THE INPUT: true; the input reads as it did. -/
def fnExactIdOfSpec : ChangeSpec := { name := "fnExactIdOf", fn := fun _ => fun
  | [d1, d2] => { results := [.lit (.bool true)], args := [d1, d2] }
  | _ => none }
def fnExactIdOfRow : OpenClaim := { program := "ytflhfcpenehjaaa", sum := "ef7011f2b3e48a1855ed416beab0de48f36bda7f2c9f311abc0b89607f30adec", func := "loop.example/g00282/laws.FnExactIdOf", spec := "fnExactIdOf", apart := false }
def FnExactIdOfSaid : Prop := fnExactIdOfRow.holds Try.pinned (OpenSpec.ofChange fnExactIdOfSpec)

/-- ITS FALSE NEIGHBOUR: 'it returns false'. Refute it at one input. -/
def fnExactIdOfWrong : ChangeSpec := { name := "fnExactIdOf", fn := fun _ => fun
  | [d1, d2] => { results := [.lit (.bool false)], args := [d1, d2] }
  | _ => none }
def FnExactIdOfWrongFalsely : Prop := fnExactIdOfRow.holds Try.pinned (OpenSpec.ofChange fnExactIdOfWrong)

/-- 'laws.FnExactFactOf': WHATEVER THE INPUT: true; the input reads as it did. -/
def fnExactFactOfSpec : ChangeSpec := { name := "fnExactFactOf", fn := fun _ => fun
  | [d1, d2] => { results := [.lit (.bool true)], args := [d1, d2] }
  | _ => none }
def fnExactFactOfRow : OpenClaim := { program := "ytflhfcpenehjaaa", sum := "ef7011f2b3e48a1855ed416beab0de48f36bda7f2c9f311abc0b89607f30adec", func := "loop.example/g00282/laws.FnExactFactOf", spec := "fnExactFactOf", apart := false }
def FnExactFactOfSaid : Prop := fnExactFactOfRow.holds Try.pinned (OpenSpec.ofChange fnExactFactOfSpec)

/-- ITS FALSE NEIGHBOUR: 'it returns false'. Refute it at one input. -/
def fnExactFactOfWrong : ChangeSpec := { name := "fnExactFactOf", fn := fun _ => fun
  | [d1, d2] => { results := [.lit (.bool false)], args := [d1, d2] }
  | _ => none }
def FnExactFactOfWrongFalsely : Prop := fnExactFactOfRow.holds Try.pinned (OpenSpec.ofChange fnExactFactOfWrong)

/-- 'laws.FnExactOfKind': WHATEVER THE INPUT: true; the input reads as it did. -/
def fnExactOfKindSpec : ChangeSpec := { name := "fnExactOfKind", fn := fun _ => fun
  | [d1, d2] => { results := [.lit (.bool true)], args := [d1, d2] }
  | _ => none }
def fnExactOfKindRow : OpenClaim := { program := "ytflhfcpenehjaaa", sum := "ef7011f2b3e48a1855ed416beab0de48f36bda7f2c9f311abc0b89607f30adec", func := "loop.example/g00282/laws.FnExactOfKind", spec := "fnExactOfKind", apart := false }
def FnExactOfKindSaid : Prop := fnExactOfKindRow.holds Try.pinned (OpenSpec.ofChange fnExactOfKindSpec)

/-- ITS FALSE NEIGHBOUR: 'it returns false'. Refute it at one input. -/
def fnExactOfKindWrong : ChangeSpec := { name := "fnExactOfKind", fn := fun _ => fun
  | [d1, d2] => { results := [.lit (.bool false)], args := [d1, d2] }
  | _ => none }
def FnExactOfKindWrongFalsely : Prop := fnExactOfKindRow.holds Try.pinned (OpenSpec.ofChange fnExactOfKindWrong)

/-- 'laws.FnExactAssert': WHATEVER THE INPUT: true; the input reads as it did. -/
def fnExactAssertSpec : ChangeSpec := { name := "fnExactAssert", fn := fun _ => fun
  | [d1, d2] => { results := [.lit (.bool true)], args := [d1, d2] }
  | _ => none }
def fnExactAssertRow : OpenClaim := { program := "ytflhfcpenehjaaa", sum := "ef7011f2b3e48a1855ed416beab0de48f36bda7f2c9f311abc0b89607f30adec", func := "loop.example/g00282/laws.FnExactAssert", spec := "fnExactAssert", apart := false }
def FnExactAssertSaid : Prop := fnExactAssertRow.holds Try.pinned (OpenSpec.ofChange fnExactAssertSpec)

/-- ITS FALSE NEIGHBOUR: 'it returns false'. Refute it at one input. -/
def fnExactAssertWrong : ChangeSpec := { name := "fnExactAssert", fn := fun _ => fun
  | [d1, d2] => { results := [.lit (.bool false)], args := [d1, d2] }
  | _ => none }
def FnExactAssertWrongFalsely : Prop := fnExactAssertRow.holds Try.pinned (OpenSpec.ofChange fnExactAssertWrong)

/-- 'laws.FnExactRetract': WHATEVER THE INPUT: true; the input reads as it did. -/
def fnExactRetractSpec : ChangeSpec := { name := "fnExactRetract", fn := fun _ => fun
  | [d1, d2] => { results := [.lit (.bool true)], args := [d1, d2] }
  | _ => none }
def fnExactRetractRow : OpenClaim := { program := "ytflhfcpenehjaaa", sum := "ef7011f2b3e48a1855ed416beab0de48f36bda7f2c9f311abc0b89607f30adec", func := "loop.example/g00282/laws.FnExactRetract", spec := "fnExactRetract", apart := false }
def FnExactRetractSaid : Prop := fnExactRetractRow.holds Try.pinned (OpenSpec.ofChange fnExactRetractSpec)

/-- ITS FALSE NEIGHBOUR: 'it returns false'. Refute it at one input. -/
def fnExactRetractWrong : ChangeSpec := { name := "fnExactRetract", fn := fun _ => fun
  | [d1, d2] => { results := [.lit (.bool false)], args := [d1, d2] }
  | _ => none }
def FnExactRetractWrongFalsely : Prop := fnExactRetractRow.holds Try.pinned (OpenSpec.ofChange fnExactRetractWrong)

/-- 'laws.FnKinds': WHATEVER THE INPUT: true; the input reads as it did. -/
def fnKindsSpec : ChangeSpec := { name := "fnKinds", fn := fun _ => fun
  | [d] => { results := [.lit (.bool true)], args := [d] }
  | _ => none }
def fnKindsRow : OpenClaim := { program := "ytflhfcpenehjaaa", sum := "ef7011f2b3e48a1855ed416beab0de48f36bda7f2c9f311abc0b89607f30adec", func := "loop.example/g00282/laws.FnKinds", spec := "fnKinds", apart := false }
def FnKindsSaid : Prop := fnKindsRow.holds Try.pinned (OpenSpec.ofChange fnKindsSpec)

/-- ITS FALSE NEIGHBOUR: 'it returns false'. Refute it at one input. -/
def fnKindsWrong : ChangeSpec := { name := "fnKinds", fn := fun _ => fun
  | [d] => { results := [.lit (.bool false)], args := [d] }
  | _ => none }
def FnKindsWrongFalsely : Prop := fnKindsRow.holds Try.pinned (OpenSpec.ofChange fnKindsWrong)

/-- 'laws.FnAsserted': WHATEVER THE INPUT: true; the input reads as it did. -/
def fnAssertedSpec : ChangeSpec := { name := "fnAsserted", fn := fun _ => fun
  | [d] => { results := [.lit (.bool true)], args := [d] }
  | _ => none }
def fnAssertedRow : OpenClaim := { program := "ytflhfcpenehjaaa", sum := "ef7011f2b3e48a1855ed416beab0de48f36bda7f2c9f311abc0b89607f30adec", func := "loop.example/g00282/laws.FnAsserted", spec := "fnAsserted", apart := false }
def FnAssertedSaid : Prop := fnAssertedRow.holds Try.pinned (OpenSpec.ofChange fnAssertedSpec)

/-- ITS FALSE NEIGHBOUR: 'it returns false'. Refute it at one input. -/
def fnAssertedWrong : ChangeSpec := { name := "fnAsserted", fn := fun _ => fun
  | [d] => { results := [.lit (.bool false)], args := [d] }
  | _ => none }
def FnAssertedWrongFalsely : Prop := fnAssertedRow.holds Try.pinned (OpenSpec.ofChange fnAssertedWrong)

/-- 'laws.FnRetracted': WHATEVER THE INPUT: true; the input reads as it did. -/
def fnRetractedSpec : ChangeSpec := { name := "fnRetracted", fn := fun _ => fun
  | [d] => { results := [.lit (.bool true)], args := [d] }
  | _ => none }
def fnRetractedRow : OpenClaim := { program := "ytflhfcpenehjaaa", sum := "ef7011f2b3e48a1855ed416beab0de48f36bda7f2c9f311abc0b89607f30adec", func := "loop.example/g00282/laws.FnRetracted", spec := "fnRetracted", apart := false }
def FnRetractedSaid : Prop := fnRetractedRow.holds Try.pinned (OpenSpec.ofChange fnRetractedSpec)

/-- ITS FALSE NEIGHBOUR: 'it returns false'. Refute it at one input. -/
def fnRetractedWrong : ChangeSpec := { name := "fnRetracted", fn := fun _ => fun
  | [d] => { results := [.lit (.bool false)], args := [d] }
  | _ => none }
def FnRetractedWrongFalsely : Prop := fnRetractedRow.holds Try.pinned (OpenSpec.ofChange fnRetractedWrong)

/- THE SECOND FORM. 'bulk': how many values and letters a reading holds, each counted each time it is reached (what is shared counts as often as it is met; a slice's spare places count too). A statement '..UptoSaid' is the law's where the arguments, and the package variables that the reading takes, are together of bulk at most 1048576: NARROWER than '..Said'. Prove '..Said' where nothing that the law and all that it calls make is longer than what came in: it says more and counts as full. Else prove '..UptoSaid'. A law counts once. -/
mutual
def uptoBulk {H : Type} : DataW H → Nat
  | .lit (.string bytes) => bytes.length + 1
  | .lit _ => 1
  | .nil => 1
  | .ptr d => uptoBulk d + 1
  | .slice elems spare => uptoBulkAll elems + uptoBulkAll spare + 1
  | .agg parts => uptoBulkAll parts + 1
  | .iface _ d => uptoBulk d + 1
  | .map entries => uptoBulkEntries entries + 1
  | .held _ => 1
def uptoBulkAll {H : Type} : List (DataW H) → Nat
  | [] => 0
  | d :: r => uptoBulk d + uptoBulkAll r
def uptoBulkEntries {H : Type} : List (Lit × DataW H) → Nat
  | [] => 0
  | x :: r => uptoBulkEntry x + uptoBulkEntries r
def uptoBulkEntry {H : Type} : Lit × DataW H → Nat
  | (.string bytes, d) => bytes.length + uptoBulk d + 1
  | (_, d) => uptoBulk d + 1
 end
def uptoSmall : (H : Type) → List (DataW H) → Bool := fun _ ds => decide (uptoBulkAll ds ≤ 1048576)
def OpenSpec.upto (s : _root_.Go.ChangeSpec) : _root_.Go.OpenSpec := { _root_.Go.OpenSpec.ofChange s with cond := some uptoSmall }

/-- 'laws.FnExactStoreOk', WHERE WHAT IT READS IS OF BULK AT MOST 1048576: true; the input reads as it did. -/
def fnExactStoreOkUptoRow : OpenClaim := { program := "ytflhfcpenehjaaa", sum := "ef7011f2b3e48a1855ed416beab0de48f36bda7f2c9f311abc0b89607f30adec", func := "loop.example/g00282/laws.FnExactStoreOk", spec := "fnExactStoreOk", apart := false, narrowed := true }
def FnExactStoreOkUptoSaid : Prop := fnExactStoreOkUptoRow.holds Try.pinned (OpenSpec.upto fnExactStoreOkSpec)

/-- 'laws.FnExactIdOf', WHERE WHAT IT READS IS OF BULK AT MOST 1048576: true; the input reads as it did. -/
def fnExactIdOfUptoRow : OpenClaim := { program := "ytflhfcpenehjaaa", sum := "ef7011f2b3e48a1855ed416beab0de48f36bda7f2c9f311abc0b89607f30adec", func := "loop.example/g00282/laws.FnExactIdOf", spec := "fnExactIdOf", apart := false, narrowed := true }
def FnExactIdOfUptoSaid : Prop := fnExactIdOfUptoRow.holds Try.pinned (OpenSpec.upto fnExactIdOfSpec)

/-- 'laws.FnExactFactOf', WHERE WHAT IT READS IS OF BULK AT MOST 1048576: true; the input reads as it did. -/
def fnExactFactOfUptoRow : OpenClaim := { program := "ytflhfcpenehjaaa", sum := "ef7011f2b3e48a1855ed416beab0de48f36bda7f2c9f311abc0b89607f30adec", func := "loop.example/g00282/laws.FnExactFactOf", spec := "fnExactFactOf", apart := false, narrowed := true }
def FnExactFactOfUptoSaid : Prop := fnExactFactOfUptoRow.holds Try.pinned (OpenSpec.upto fnExactFactOfSpec)

/-- 'laws.FnExactOfKind', WHERE WHAT IT READS IS OF BULK AT MOST 1048576: true; the input reads as it did. -/
def fnExactOfKindUptoRow : OpenClaim := { program := "ytflhfcpenehjaaa", sum := "ef7011f2b3e48a1855ed416beab0de48f36bda7f2c9f311abc0b89607f30adec", func := "loop.example/g00282/laws.FnExactOfKind", spec := "fnExactOfKind", apart := false, narrowed := true }
def FnExactOfKindUptoSaid : Prop := fnExactOfKindUptoRow.holds Try.pinned (OpenSpec.upto fnExactOfKindSpec)

/-- 'laws.FnExactAssert', WHERE WHAT IT READS IS OF BULK AT MOST 1048576: true; the input reads as it did. -/
def fnExactAssertUptoRow : OpenClaim := { program := "ytflhfcpenehjaaa", sum := "ef7011f2b3e48a1855ed416beab0de48f36bda7f2c9f311abc0b89607f30adec", func := "loop.example/g00282/laws.FnExactAssert", spec := "fnExactAssert", apart := false, narrowed := true }
def FnExactAssertUptoSaid : Prop := fnExactAssertUptoRow.holds Try.pinned (OpenSpec.upto fnExactAssertSpec)

/-- 'laws.FnExactRetract', WHERE WHAT IT READS IS OF BULK AT MOST 1048576: true; the input reads as it did. -/
def fnExactRetractUptoRow : OpenClaim := { program := "ytflhfcpenehjaaa", sum := "ef7011f2b3e48a1855ed416beab0de48f36bda7f2c9f311abc0b89607f30adec", func := "loop.example/g00282/laws.FnExactRetract", spec := "fnExactRetract", apart := false, narrowed := true }
def FnExactRetractUptoSaid : Prop := fnExactRetractUptoRow.holds Try.pinned (OpenSpec.upto fnExactRetractSpec)

/-- 'laws.FnKinds', WHERE WHAT IT READS IS OF BULK AT MOST 1048576: true; the input reads as it did. -/
def fnKindsUptoRow : OpenClaim := { program := "ytflhfcpenehjaaa", sum := "ef7011f2b3e48a1855ed416beab0de48f36bda7f2c9f311abc0b89607f30adec", func := "loop.example/g00282/laws.FnKinds", spec := "fnKinds", apart := false, narrowed := true }
def FnKindsUptoSaid : Prop := fnKindsUptoRow.holds Try.pinned (OpenSpec.upto fnKindsSpec)

/-- 'laws.FnAsserted', WHERE WHAT IT READS IS OF BULK AT MOST 1048576: true; the input reads as it did. -/
def fnAssertedUptoRow : OpenClaim := { program := "ytflhfcpenehjaaa", sum := "ef7011f2b3e48a1855ed416beab0de48f36bda7f2c9f311abc0b89607f30adec", func := "loop.example/g00282/laws.FnAsserted", spec := "fnAsserted", apart := false, narrowed := true }
def FnAssertedUptoSaid : Prop := fnAssertedUptoRow.holds Try.pinned (OpenSpec.upto fnAssertedSpec)

/-- 'laws.FnRetracted', WHERE WHAT IT READS IS OF BULK AT MOST 1048576: true; the input reads as it did. -/
def fnRetractedUptoRow : OpenClaim := { program := "ytflhfcpenehjaaa", sum := "ef7011f2b3e48a1855ed416beab0de48f36bda7f2c9f311abc0b89607f30adec", func := "loop.example/g00282/laws.FnRetracted", spec := "fnRetracted", apart := false, narrowed := true }
def FnRetractedUptoSaid : Prop := fnRetractedUptoRow.holds Try.pinned (OpenSpec.upto fnRetractedSpec)

end Rows
end Go.Proofs.Ytflhfcpenehjaaa
