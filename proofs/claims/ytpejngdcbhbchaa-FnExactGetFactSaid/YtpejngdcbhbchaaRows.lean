/-
  No cell of these rows narrows 'for every input' (looked for: loops, veiled, ifaces, maps, wideKeys, modest, calm, conditions, laid).
  DERIVED. THE GIVEN ROWS OF THIS SEAT. 4 by the template 'for every input the law returns true; each argument reads behind the call as it read before'; 0 by the template 'total and deterministic' (their statements: YtpejngdcbhbchaaTotals.lean).
  GIVEN WITH THE SEED: the statements are not yours to turn. If you find one false, say at which input.
  Laid BY PROGRAM, IN A SANDBOX (cutbox-rows.mjs): the forced cells as the released guide's own fill.sh prints them over the translation 693348b3321d84cb… (all of the seat's roots in one cut). By AI agents, Wed Nov 11 2026. No macro, syntax, notation, axiom, sorry.
-/
import Derived.Test.YtpejngdcbhbchaaChecked
import GoSem.Claim
import GoSem.ClaimJoined
import GoSem.ClaimMapViews
import Derived.JoinedTies
import Derived.KernelRfl
namespace Go.Proofs.Ytpejngdcbhbchaa
/- THE CELL 'sum', in the pinned program and in every row, IS THE sha256 OF THE DUMP (.gsa) THAT YtpejngdcbhbchaaProg.lean LOADS. Nothing in Lean hashes anything: it is a label: what it is worth is what the hold of that sum in a sandbox is worth. -/
noncomputable def Try.pinned : Pinned := { name := "ytpejngdcbhbchaa", sum := "693348b3321d84cb7a3b55c0fc5ad9691b2dab57e9ee6519eb1ad1ba095c3553", checked := Try.checked }
namespace Rows
def none {H : Type} : Left H := { results := [], args := [] }

/-- 'laws.FnExactPutFact': WHATEVER THE INPUT: true; the input reads as it did. -/
def fnExactPutFactSpec : ChangeSpec := { name := "fnExactPutFact", fn := fun _ => fun
  | [d1, d2] => { results := [.lit (.bool true)], args := [d1, d2] }
  | _ => none }
def fnExactPutFactRow : OpenClaim := { program := "ytpejngdcbhbchaa", sum := "693348b3321d84cb7a3b55c0fc5ad9691b2dab57e9ee6519eb1ad1ba095c3553", func := "loop.example/g00282/laws.FnExactPutFact", spec := "fnExactPutFact", apart := false }
def FnExactPutFactSaid : Prop := fnExactPutFactRow.holds Try.pinned (OpenSpec.ofChange fnExactPutFactSpec)

/-- ITS FALSE NEIGHBOUR: 'it returns false'. Refute it at one input. -/
def fnExactPutFactWrong : ChangeSpec := { name := "fnExactPutFact", fn := fun _ => fun
  | [d1, d2] => { results := [.lit (.bool false)], args := [d1, d2] }
  | _ => none }
def FnExactPutFactWrongFalsely : Prop := fnExactPutFactRow.holds Try.pinned (OpenSpec.ofChange fnExactPutFactWrong)

/-- 'laws.FnExactGetFact': WHATEVER THE INPUT: true; the input reads as it did. -/
def fnExactGetFactSpec : ChangeSpec := { name := "fnExactGetFact", fn := fun _ => fun
  | [d1, d2] => { results := [.lit (.bool true)], args := [d1, d2] }
  | _ => none }
def fnExactGetFactRow : OpenClaim := { program := "ytpejngdcbhbchaa", sum := "693348b3321d84cb7a3b55c0fc5ad9691b2dab57e9ee6519eb1ad1ba095c3553", func := "loop.example/g00282/laws.FnExactGetFact", spec := "fnExactGetFact", apart := false }
def FnExactGetFactSaid : Prop := fnExactGetFactRow.holds Try.pinned (OpenSpec.ofChange fnExactGetFactSpec)

/-- ITS FALSE NEIGHBOUR: 'it returns false'. Refute it at one input. -/
def fnExactGetFactWrong : ChangeSpec := { name := "fnExactGetFact", fn := fun _ => fun
  | [d1, d2] => { results := [.lit (.bool false)], args := [d1, d2] }
  | _ => none }
def FnExactGetFactWrongFalsely : Prop := fnExactGetFactRow.holds Try.pinned (OpenSpec.ofChange fnExactGetFactWrong)

/-- 'laws.FnFactOrder': WHATEVER THE INPUT: true; the input reads as it did. -/
def fnFactOrderSpec : ChangeSpec := { name := "fnFactOrder", fn := fun _ => fun
  | [d] => { results := [.lit (.bool true)], args := [d] }
  | _ => none }
def fnFactOrderRow : OpenClaim := { program := "ytpejngdcbhbchaa", sum := "693348b3321d84cb7a3b55c0fc5ad9691b2dab57e9ee6519eb1ad1ba095c3553", func := "loop.example/g00282/laws.FnFactOrder", spec := "fnFactOrder", unfollowed := true, recurses := true, apart := false }
def FnFactOrderSaid : Prop := fnFactOrderRow.holds Try.pinned (OpenSpec.ofChange fnFactOrderSpec)

/-- ITS FALSE NEIGHBOUR: 'it returns false'. Refute it at one input. -/
def fnFactOrderWrong : ChangeSpec := { name := "fnFactOrder", fn := fun _ => fun
  | [d] => { results := [.lit (.bool false)], args := [d] }
  | _ => none }
def FnFactOrderWrongFalsely : Prop := fnFactOrderRow.holds Try.pinned (OpenSpec.ofChange fnFactOrderWrong)

/-- 'laws.FnExactTokenOk': WHATEVER THE INPUT: true; the input reads as it did. -/
def fnExactTokenOkSpec : ChangeSpec := { name := "fnExactTokenOk", fn := fun _ => fun
  | [d] => { results := [.lit (.bool true)], args := [d] }
  | _ => none }
def fnExactTokenOkRow : OpenClaim := { program := "ytpejngdcbhbchaa", sum := "693348b3321d84cb7a3b55c0fc5ad9691b2dab57e9ee6519eb1ad1ba095c3553", func := "loop.example/g00282/laws.FnExactTokenOk", spec := "fnExactTokenOk", apart := false }
def FnExactTokenOkSaid : Prop := fnExactTokenOkRow.holds Try.pinned (OpenSpec.ofChange fnExactTokenOkSpec)

/-- ITS FALSE NEIGHBOUR: 'it returns false'. Refute it at one input. -/
def fnExactTokenOkWrong : ChangeSpec := { name := "fnExactTokenOk", fn := fun _ => fun
  | [d] => { results := [.lit (.bool false)], args := [d] }
  | _ => none }
def FnExactTokenOkWrongFalsely : Prop := fnExactTokenOkRow.holds Try.pinned (OpenSpec.ofChange fnExactTokenOkWrong)

/- THE SECOND FORM. 'bulk': how many values and letters a reading holds, each counted each time it is reached (what is shared counts as often as it is met; a slice's spare places count too). A statement '..UptoSaid' is the law's where the arguments, and the package variables that the reading takes, are together of bulk at most 1048576: NARROWER than '..Said'. Prove '..Said' where nothing that the law and all that it calls make is longer than what came in: it says more and counts as full. Else prove '..UptoSaid'. A law counts once. -/
mutual
def uptoBulk {H : Type} : DataW H → Nat
  | .lit (.string bytes) => bytes.length + 1
  | .lit _ => 1
  | .nil => 1
  | .ptr d => uptoBulk d + 1
  | .slice elems spare => uptoBulkAll elems + uptoBulkAll spare + 1
  | .agg parts => uptoBulkAll parts + 1
  | .iface _ d => uptoBulk d + 1
  | .map entries => uptoBulkEntries entries + 1
  | .held _ => 1
def uptoBulkAll {H : Type} : List (DataW H) → Nat
  | [] => 0
  | d :: r => uptoBulk d + uptoBulkAll r
def uptoBulkEntries {H : Type} : List (Lit × DataW H) → Nat
  | [] => 0
  | x :: r => uptoBulkEntry x + uptoBulkEntries r
def uptoBulkEntry {H : Type} : Lit × DataW H → Nat
  | (.string bytes, d) => bytes.length + uptoBulk d + 1
  | (_, d) => uptoBulk d + 1
 end
def uptoSmall : (H : Type) → List (DataW H) → Bool := fun _ ds => decide (uptoBulkAll ds ≤ 1048576)
def OpenSpec.upto (s : _root_.Go.ChangeSpec) : _root_.Go.OpenSpec := { _root_.Go.OpenSpec.ofChange s with cond := some uptoSmall }

/-- 'laws.FnExactPutFact', WHERE WHAT IT READS IS OF BULK AT MOST 1048576: true; the input reads as it did. -/
def fnExactPutFactUptoRow : OpenClaim := { program := "ytpejngdcbhbchaa", sum := "693348b3321d84cb7a3b55c0fc5ad9691b2dab57e9ee6519eb1ad1ba095c3553", func := "loop.example/g00282/laws.FnExactPutFact", spec := "fnExactPutFact", apart := false, narrowed := true }
def FnExactPutFactUptoSaid : Prop := fnExactPutFactUptoRow.holds Try.pinned (OpenSpec.upto fnExactPutFactSpec)

/-- 'laws.FnExactGetFact', WHERE WHAT IT READS IS OF BULK AT MOST 1048576: true; the input reads as it did. -/
def fnExactGetFactUptoRow : OpenClaim := { program := "ytpejngdcbhbchaa", sum := "693348b3321d84cb7a3b55c0fc5ad9691b2dab57e9ee6519eb1ad1ba095c3553", func := "loop.example/g00282/laws.FnExactGetFact", spec := "fnExactGetFact", apart := false, narrowed := true }
def FnExactGetFactUptoSaid : Prop := fnExactGetFactUptoRow.holds Try.pinned (OpenSpec.upto fnExactGetFactSpec)

/-- 'laws.FnFactOrder', WHERE WHAT IT READS IS OF BULK AT MOST 1048576: true; the input reads as it did. -/
def fnFactOrderUptoRow : OpenClaim := { program := "ytpejngdcbhbchaa", sum := "693348b3321d84cb7a3b55c0fc5ad9691b2dab57e9ee6519eb1ad1ba095c3553", func := "loop.example/g00282/laws.FnFactOrder", spec := "fnFactOrder", unfollowed := true, recurses := true, apart := false, narrowed := true }
def FnFactOrderUptoSaid : Prop := fnFactOrderUptoRow.holds Try.pinned (OpenSpec.upto fnFactOrderSpec)

/-- 'laws.FnExactTokenOk', WHERE WHAT IT READS IS OF BULK AT MOST 1048576: true; the input reads as it did. -/
def fnExactTokenOkUptoRow : OpenClaim := { program := "ytpejngdcbhbchaa", sum := "693348b3321d84cb7a3b55c0fc5ad9691b2dab57e9ee6519eb1ad1ba095c3553", func := "loop.example/g00282/laws.FnExactTokenOk", spec := "fnExactTokenOk", apart := false, narrowed := true }
def FnExactTokenOkUptoSaid : Prop := fnExactTokenOkUptoRow.holds Try.pinned (OpenSpec.upto fnExactTokenOkSpec)

end Rows
end Go.Proofs.Ytpejngdcbhbchaa
