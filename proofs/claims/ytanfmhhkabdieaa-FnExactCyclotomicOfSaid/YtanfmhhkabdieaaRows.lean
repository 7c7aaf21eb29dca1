/-
  No cell of these rows narrows 'for every input' (looked for: loops, veiled, ifaces, maps, wideKeys, modest, calm, conditions, laid).
  DERIVED. THE GIVEN ROWS OF THIS SEAT. 6 by the template 'for every input the law returns true; each argument reads behind the call as it read before'; 0 by the template 'total and deterministic' (their statements: YtanfmhhkabdieaaTotals.lean).
  GIVEN WITH THE SEED: the statements are not yours to turn. If you find one false, say at which input.
  Laid BY PROGRAM, IN A SANDBOX (cutbox-rows.mjs): the forced cells as the released guide's own fill.sh prints them over the translation 734d3c224ace5dcc… (all of the seat's roots in one cut). By AI agents, Wed Nov 11 2026. No macro, syntax, notation, axiom, sorry.
-/
import Derived.Test.YtanfmhhkabdieaaChecked
import GoSem.Claim
import GoSem.ClaimJoined
import GoSem.ClaimMapViews
import Derived.JoinedTies
import Derived.KernelRfl
namespace Go.Proofs.Ytanfmhhkabdieaa
/- THE CELL 'sum', in the pinned program and in every row, IS THE sha256 OF THE DUMP (.gsa) THAT YtanfmhhkabdieaaProg.lean LOADS. Nothing in Lean hashes anything: it is a label: what it is worth is what the hold of that sum in a sandbox is worth. -/
noncomputable def Try.pinned : Pinned := { name := "ytanfmhhkabdieaa", sum := "734d3c224ace5dcc39f842da72b2ea1d31b8e6c0519cb3a9fcd88cafd9eed517", checked := Try.checked }
namespace Rows
def none {H : Type} : Left H := { results := [], args := [] }

/-- 'laws.FnExactAddWholes': WHATEVER THE INPUT: true; the input reads as it did. -/
def fnExactAddWholesSpec : ChangeSpec := { name := "fnExactAddWholes", fn := fun _ => fun
  | [d1, d2, d3, d4] => { results := [.lit (.bool true)], args := [d1, d2, d3, d4] }
  | _ => none }
def fnExactAddWholesRow : OpenClaim := { program := "ytanfmhhkabdieaa", sum := "734d3c224ace5dcc39f842da72b2ea1d31b8e6c0519cb3a9fcd88cafd9eed517", func := "loop.example/g01358/laws.FnExactAddWholes", spec := "fnExactAddWholes", unfollowed := true, recurses := true, apart := false }
def FnExactAddWholesSaid : Prop := fnExactAddWholesRow.holds Try.pinned (OpenSpec.ofChange fnExactAddWholesSpec)

/-- ITS FALSE NEIGHBOUR: 'it returns false'. Refute it at one input. -/
def fnExactAddWholesWrong : ChangeSpec := { name := "fnExactAddWholes", fn := fun _ => fun
  | [d1, d2, d3, d4] => { results := [.lit (.bool false)], args := [d1, d2, d3, d4] }
  | _ => none }
def FnExactAddWholesWrongFalsely : Prop := fnExactAddWholesRow.holds Try.pinned (OpenSpec.ofChange fnExactAddWholesWrong)

/-- 'laws.FnExactMulWholes': WHATEVER THE INPUT: true; the input reads as it did. -/
def fnExactMulWholesSpec : ChangeSpec := { name := "fnExactMulWholes", fn := fun _ => fun
  | [d1, d2] => { results := [.lit (.bool true)], args := [d1, d2] }
  | _ => none }
def fnExactMulWholesRow : OpenClaim := { program := "ytanfmhhkabdieaa", sum := "734d3c224ace5dcc39f842da72b2ea1d31b8e6c0519cb3a9fcd88cafd9eed517", func := "loop.example/g01358/laws.FnExactMulWholes", spec := "fnExactMulWholes", unfollowed := true, recurses := true, apart := false }
def FnExactMulWholesSaid : Prop := fnExactMulWholesRow.holds Try.pinned (OpenSpec.ofChange fnExactMulWholesSpec)

/-- ITS FALSE NEIGHBOUR: 'it returns false'. Refute it at one input. -/
def fnExactMulWholesWrong : ChangeSpec := { name := "fnExactMulWholes", fn := fun _ => fun
  | [d1, d2] => { results := [.lit (.bool false)], args := [d1, d2] }
  | _ => none }
def FnExactMulWholesWrongFalsely : Prop := fnExactMulWholesRow.holds Try.pinned (OpenSpec.ofChange fnExactMulWholesWrong)

/-- 'laws.FnExactSlopeWhole': WHATEVER THE INPUT: true; the input reads as it did. -/
def fnExactSlopeWholeSpec : ChangeSpec := { name := "fnExactSlopeWhole", fn := fun _ => fun
  | [d] => { results := [.lit (.bool true)], args := [d] }
  | _ => none }
def fnExactSlopeWholeRow : OpenClaim := { program := "ytanfmhhkabdieaa", sum := "734d3c224ace5dcc39f842da72b2ea1d31b8e6c0519cb3a9fcd88cafd9eed517", func := "loop.example/g01358/laws.FnExactSlopeWhole", spec := "fnExactSlopeWhole", unfollowed := true, recurses := true, apart := false }
def FnExactSlopeWholeSaid : Prop := fnExactSlopeWholeRow.holds Try.pinned (OpenSpec.ofChange fnExactSlopeWholeSpec)

/-- ITS FALSE NEIGHBOUR: 'it returns false'. Refute it at one input. -/
def fnExactSlopeWholeWrong : ChangeSpec := { name := "fnExactSlopeWhole", fn := fun _ => fun
  | [d] => { results := [.lit (.bool false)], args := [d] }
  | _ => none }
def FnExactSlopeWholeWrongFalsely : Prop := fnExactSlopeWholeRow.holds Try.pinned (OpenSpec.ofChange fnExactSlopeWholeWrong)

/-- 'laws.FnExactCyclotomicOf': WHATEVER THE INPUT: true; the input reads as it did. -/
def fnExactCyclotomicOfSpec : ChangeSpec := { name := "fnExactCyclotomicOf", fn := fun _ => fun
  | [d] => { results := [.lit (.bool true)], args := [d] }
  | _ => none }
def fnExactCyclotomicOfRow : OpenClaim := { program := "ytanfmhhkabdieaa", sum := "734d3c224ace5dcc39f842da72b2ea1d31b8e6c0519cb3a9fcd88cafd9eed517", func := "loop.example/g01358/laws.FnExactCyclotomicOf", spec := "fnExactCyclotomicOf", unfollowed := true, recurses := true, apart := false }
def FnExactCyclotomicOfSaid : Prop := fnExactCyclotomicOfRow.holds Try.pinned (OpenSpec.ofChange fnExactCyclotomicOfSpec)

/-- ITS FALSE NEIGHBOUR: 'it returns false'. Refute it at one input. -/
def fnExactCyclotomicOfWrong : ChangeSpec := { name := "fnExactCyclotomicOf", fn := fun _ => fun
  | [d] => { results := [.lit (.bool false)], args := [d] }
  | _ => none }
def FnExactCyclotomicOfWrongFalsely : Prop := fnExactCyclotomicOfRow.holds Try.pinned (OpenSpec.ofChange fnExactCyclotomicOfWrong)

/-- 'laws.FnExactPrimitiveOf': WHATEVER THE INPUT: true; the input reads as it did. -/
def fnExactPrimitiveOfSpec : ChangeSpec := { name := "fnExactPrimitiveOf", fn := fun _ => fun
  | [d] => { results := [.lit (.bool true)], args := [d] }
  | _ => none }
def fnExactPrimitiveOfRow : OpenClaim := { program := "ytanfmhhkabdieaa", sum := "734d3c224ace5dcc39f842da72b2ea1d31b8e6c0519cb3a9fcd88cafd9eed517", func := "loop.example/g01358/laws.FnExactPrimitiveOf", spec := "fnExactPrimitiveOf", unfollowed := true, recurses := true, apart := false }
def FnExactPrimitiveOfSaid : Prop := fnExactPrimitiveOfRow.holds Try.pinned (OpenSpec.ofChange fnExactPrimitiveOfSpec)

/-- ITS FALSE NEIGHBOUR: 'it returns false'. Refute it at one input. -/
def fnExactPrimitiveOfWrong : ChangeSpec := { name := "fnExactPrimitiveOf", fn := fun _ => fun
  | [d] => { results := [.lit (.bool false)], args := [d] }
  | _ => none }
def FnExactPrimitiveOfWrongFalsely : Prop := fnExactPrimitiveOfRow.holds Try.pinned (OpenSpec.ofChange fnExactPrimitiveOfWrong)

/-- 'laws.FnExactExactQuotient': WHATEVER THE INPUT: true; the input reads as it did. -/
def fnExactExactQuotientSpec : ChangeSpec := { name := "fnExactExactQuotient", fn := fun _ => fun
  | [d1, d2] => { results := [.lit (.bool true)], args := [d1, d2] }
  | _ => none }
def fnExactExactQuotientRow : OpenClaim := { program := "ytanfmhhkabdieaa", sum := "734d3c224ace5dcc39f842da72b2ea1d31b8e6c0519cb3a9fcd88cafd9eed517", func := "loop.example/g01358/laws.FnExactExactQuotient", spec := "fnExactExactQuotient", unfollowed := true, recurses := true, apart := false }
def FnExactExactQuotientSaid : Prop := fnExactExactQuotientRow.holds Try.pinned (OpenSpec.ofChange fnExactExactQuotientSpec)

/-- ITS FALSE NEIGHBOUR: 'it returns false'. Refute it at one input. -/
def fnExactExactQuotientWrong : ChangeSpec := { name := "fnExactExactQuotient", fn := fun _ => fun
  | [d1, d2] => { results := [.lit (.bool false)], args := [d1, d2] }
  | _ => none }
def FnExactExactQuotientWrongFalsely : Prop := fnExactExactQuotientRow.holds Try.pinned (OpenSpec.ofChange fnExactExactQuotientWrong)

/- THE SECOND FORM. 'bulk': how many values and letters a reading holds, each counted each time it is reached (what is shared counts as often as it is met; a slice's spare places count too). A statement '..UptoSaid' is the law's where the arguments, and the package variables that the reading takes, are together of bulk at most 1048576: NARROWER than '..Said'. Prove '..Said' where nothing that the law and all that it calls make is longer than what came in: it says more and counts as full. Else prove '..UptoSaid'. A law counts once. -/
mutual
def uptoBulk {H : Type} : DataW H → Nat
  | .lit (.string bytes) => bytes.length + 1
  | .lit _ => 1
  | .nil => 1
  | .ptr d => uptoBulk d + 1
  | .slice elems spare => uptoBulkAll elems + uptoBulkAll spare + 1
  | .agg parts => uptoBulkAll parts + 1
  | .iface _ d => uptoBulk d + 1
  | .map entries => uptoBulkEntries entries + 1
  | .held _ => 1
def uptoBulkAll {H : Type} : List (DataW H) → Nat
  | [] => 0
  | d :: r => uptoBulk d + uptoBulkAll r
def uptoBulkEntries {H : Type} : List (Lit × DataW H) → Nat
  | [] => 0
  | x :: r => uptoBulkEntry x + uptoBulkEntries r
def uptoBulkEntry {H : Type} : Lit × DataW H → Nat
  | (.string bytes, d) => bytes.length + uptoBulk d + 1
  | (_, d) => uptoBulk d + 1
 end
def uptoSmall : (H : Type) → List (DataW H) → Bool := fun _ ds => decide (uptoBulkAll ds ≤ 1048576)
def OpenSpec.upto (s : _root_.Go.ChangeSpec) : _root_.Go.OpenSpec := { _root_.Go.OpenSpec.ofChange s with cond := some uptoSmall }

/-- 'laws.FnExactAddWholes', WHERE WHAT IT READS IS OF BULK AT MOST 1048576: true; the input reads as it did. -/
def fnExactAddWholesUptoRow : OpenClaim := { program := "ytanfmhhkabdieaa", sum := "734d3c224ace5dcc39f842da72b2ea1d31b8e6c0519cb3a9fcd88cafd9eed517", func := "loop.example/g01358/laws.FnExactAddWholes", spec := "fnExactAddWholes", unfollowed := true, recurses := true, apart := false, narrowed := true }
def FnExactAddWholesUptoSaid : Prop := fnExactAddWholesUptoRow.holds Try.pinned (OpenSpec.upto fnExactAddWholesSpec)

/-- 'laws.FnExactMulWholes', WHERE WHAT IT READS IS OF BULK AT MOST 1048576: true; the input reads as it did. -/
def fnExactMulWholesUptoRow : OpenClaim := { program := "ytanfmhhkabdieaa", sum := "734d3c224ace5dcc39f842da72b2ea1d31b8e6c0519cb3a9fcd88cafd9eed517", func := "loop.example/g01358/laws.FnExactMulWholes", spec := "fnExactMulWholes", unfollowed := true, recurses := true, apart := false, narrowed := true }
def FnExactMulWholesUptoSaid : Prop := fnExactMulWholesUptoRow.holds Try.pinned (OpenSpec.upto fnExactMulWholesSpec)

/-- 'laws.FnExactSlopeWhole', WHERE WHAT IT READS IS OF BULK AT MOST 1048576: true; the input reads as it did. -/
def fnExactSlopeWholeUptoRow : OpenClaim := { program := "ytanfmhhkabdieaa", sum := "734d3c224ace5dcc39f842da72b2ea1d31b8e6c0519cb3a9fcd88cafd9eed517", func := "loop.example/g01358/laws.FnExactSlopeWhole", spec := "fnExactSlopeWhole", unfollowed := true, recurses := true, apart := false, narrowed := true }
def FnExactSlopeWholeUptoSaid : Prop := fnExactSlopeWholeUptoRow.holds Try.pinned (OpenSpec.upto fnExactSlopeWholeSpec)

/-- 'laws.FnExactCyclotomicOf', WHERE WHAT IT READS IS OF BULK AT MOST 1048576: true; the input reads as it did. -/
def fnExactCyclotomicOfUptoRow : OpenClaim := { program := "ytanfmhhkabdieaa", sum := "734d3c224ace5dcc39f842da72b2ea1d31b8e6c0519cb3a9fcd88cafd9eed517", func := "loop.example/g01358/laws.FnExactCyclotomicOf", spec := "fnExactCyclotomicOf", unfollowed := true, recurses := true, apart := false, narrowed := true }
def FnExactCyclotomicOfUptoSaid : Prop := fnExactCyclotomicOfUptoRow.holds Try.pinned (OpenSpec.upto fnExactCyclotomicOfSpec)

/-- 'laws.FnExactPrimitiveOf', WHERE WHAT IT READS IS OF BULK AT MOST 1048576: true; the input reads as it did. -/
def fnExactPrimitiveOfUptoRow : OpenClaim := { program := "ytanfmhhkabdieaa", sum := "734d3c224ace5dcc39f842da72b2ea1d31b8e6c0519cb3a9fcd88cafd9eed517", func := "loop.example/g01358/laws.FnExactPrimitiveOf", spec := "fnExactPrimitiveOf", unfollowed := true, recurses := true, apart := false, narrowed := true }
def FnExactPrimitiveOfUptoSaid : Prop := fnExactPrimitiveOfUptoRow.holds Try.pinned (OpenSpec.upto fnExactPrimitiveOfSpec)

/-- 'laws.FnExactExactQuotient', WHERE WHAT IT READS IS OF BULK AT MOST 1048576: true; the input reads as it did. -/
def fnExactExactQuotientUptoRow : OpenClaim := { program := "ytanfmhhkabdieaa", sum := "734d3c224ace5dcc39f842da72b2ea1d31b8e6c0519cb3a9fcd88cafd9eed517", func := "loop.example/g01358/laws.FnExactExactQuotient", spec := "fnExactExactQuotient", unfollowed := true, recurses := true, apart := false, narrowed := true }
def FnExactExactQuotientUptoSaid : Prop := fnExactExactQuotientUptoRow.holds Try.pinned (OpenSpec.upto fnExactExactQuotientSpec)

end Rows
end Go.Proofs.Ytanfmhhkabdieaa
