/-
  No cell of these rows narrows 'for every input' (looked for: loops, veiled, ifaces, maps, wideKeys, modest, calm, conditions, laid).
  DERIVED. THE GIVEN ROWS OF THIS SEAT. 5 by the template 'for every input the law returns true; each argument reads behind the call as it read before'; 0 by the template 'total and deterministic' (their statements: YtbapdhpffglieaaTotals.lean).
  GIVEN WITH THE SEED: the statements are not yours to turn. If you find one false, say at which input.
  Laid BY PROGRAM, IN A SANDBOX (cutbox-rows.mjs): the forced cells as the released guide's own fill.sh prints them over the translation 328beedf6c22ea0b… (all of the seat's roots in one cut). By AI agents, Wed Nov 11 2026. No macro, syntax, notation, axiom, sorry.
-/
import Derived.Test.YtbapdhpffglieaaChecked
import GoSem.Claim
import GoSem.ClaimJoined
import GoSem.ClaimMapViews
import Derived.JoinedTies
import Derived.KernelRfl
namespace Go.Proofs.Ytbapdhpffglieaa
/- THE CELL 'sum', in the pinned program and in every row, IS THE sha256 OF THE DUMP (.gsa) THAT YtbapdhpffglieaaProg.lean LOADS. Nothing in Lean hashes anything: it is a label: what it is worth is what the hold of that sum in a sandbox is worth. -/
noncomputable def Try.pinned : Pinned := { name := "ytbapdhpffglieaa", sum := "328beedf6c22ea0b7deb8274c3cd3a10c47949d0b07011a401ecabf669436240", checked := Try.checked }
namespace Rows
def none {H : Type} : Left H := { results := [], args := [] }

/-- 'laws.FnExactValidGap': WHATEVER THE INPUT: true; the input reads as it did. -/
def fnExactValidGapSpec : ChangeSpec := { name := "fnExactValidGap", fn := fun _ => fun
  | [d] => { results := [.lit (.bool true)], args := [d] }
  | _ => none }
def fnExactValidGapRow : OpenClaim := { program := "ytbapdhpffglieaa", sum := "328beedf6c22ea0b7deb8274c3cd3a10c47949d0b07011a401ecabf669436240", func := "loop.example/g01358/laws.FnExactValidGap", spec := "fnExactValidGap", apart := false }
def FnExactValidGapSaid : Prop := fnExactValidGapRow.holds Try.pinned (OpenSpec.ofChange fnExactValidGapSpec)

/-- ITS FALSE NEIGHBOUR: 'it returns false'. Refute it at one input. -/
def fnExactValidGapWrong : ChangeSpec := { name := "fnExactValidGap", fn := fun _ => fun
  | [d] => { results := [.lit (.bool false)], args := [d] }
  | _ => none }
def FnExactValidGapWrongFalsely : Prop := fnExactValidGapRow.holds Try.pinned (OpenSpec.ofChange fnExactValidGapWrong)

/-- 'laws.FnExactCountPrimes': WHATEVER THE INPUT: true; the input reads as it did. -/
def fnExactCountPrimesSpec : ChangeSpec := { name := "fnExactCountPrimes", fn := fun _ => fun
  | [d1, d2] => { results := [.lit (.bool true)], args := [d1, d2] }
  | _ => none }
def fnExactCountPrimesRow : OpenClaim := { program := "ytbapdhpffglieaa", sum := "328beedf6c22ea0b7deb8274c3cd3a10c47949d0b07011a401ecabf669436240", func := "loop.example/g01358/laws.FnExactCountPrimes", spec := "fnExactCountPrimes", apart := false }
def FnExactCountPrimesSaid : Prop := fnExactCountPrimesRow.holds Try.pinned (OpenSpec.ofChange fnExactCountPrimesSpec)

/-- ITS FALSE NEIGHBOUR: 'it returns false'. Refute it at one input. -/
def fnExactCountPrimesWrong : ChangeSpec := { name := "fnExactCountPrimes", fn := fun _ => fun
  | [d1, d2] => { results := [.lit (.bool false)], args := [d1, d2] }
  | _ => none }
def FnExactCountPrimesWrongFalsely : Prop := fnExactCountPrimesRow.holds Try.pinned (OpenSpec.ofChange fnExactCountPrimesWrong)

/-- 'laws.FnExactSameReal': WHATEVER THE INPUT: true; the input reads as it did. -/
def fnExactSameRealSpec : ChangeSpec := { name := "fnExactSameReal", fn := fun _ => fun
  | [d1, d2] => { results := [.lit (.bool true)], args := [d1, d2] }
  | _ => none }
def fnExactSameRealRow : OpenClaim := { program := "ytbapdhpffglieaa", sum := "328beedf6c22ea0b7deb8274c3cd3a10c47949d0b07011a401ecabf669436240", func := "loop.example/g01358/laws.FnExactSameReal", spec := "fnExactSameReal", apart := false }
def FnExactSameRealSaid : Prop := fnExactSameRealRow.holds Try.pinned (OpenSpec.ofChange fnExactSameRealSpec)

/-- ITS FALSE NEIGHBOUR: 'it returns false'. Refute it at one input. -/
def fnExactSameRealWrong : ChangeSpec := { name := "fnExactSameReal", fn := fun _ => fun
  | [d1, d2] => { results := [.lit (.bool false)], args := [d1, d2] }
  | _ => none }
def FnExactSameRealWrongFalsely : Prop := fnExactSameRealRow.holds Try.pinned (OpenSpec.ofChange fnExactSameRealWrong)

/-- 'laws.FnExactSameWhole': WHATEVER THE INPUT: true; the input reads as it did. -/
def fnExactSameWholeSpec : ChangeSpec := { name := "fnExactSameWhole", fn := fun _ => fun
  | [d1, d2] => { results := [.lit (.bool true)], args := [d1, d2] }
  | _ => none }
def fnExactSameWholeRow : OpenClaim := { program := "ytbapdhpffglieaa", sum := "328beedf6c22ea0b7deb8274c3cd3a10c47949d0b07011a401ecabf669436240", func := "loop.example/g01358/laws.FnExactSameWhole", spec := "fnExactSameWhole", apart := false }
def FnExactSameWholeSaid : Prop := fnExactSameWholeRow.holds Try.pinned (OpenSpec.ofChange fnExactSameWholeSpec)

/-- ITS FALSE NEIGHBOUR: 'it returns false'. Refute it at one input. -/
def fnExactSameWholeWrong : ChangeSpec := { name := "fnExactSameWhole", fn := fun _ => fun
  | [d1, d2] => { results := [.lit (.bool false)], args := [d1, d2] }
  | _ => none }
def FnExactSameWholeWrongFalsely : Prop := fnExactSameWholeRow.holds Try.pinned (OpenSpec.ofChange fnExactSameWholeWrong)

/-- 'laws.FnExactValidReal': WHATEVER THE INPUT: true; the input reads as it did. -/
def fnExactValidRealSpec : ChangeSpec := { name := "fnExactValidReal", fn := fun _ => fun
  | [d] => { results := [.lit (.bool true)], args := [d] }
  | _ => none }
def fnExactValidRealRow : OpenClaim := { program := "ytbapdhpffglieaa", sum := "328beedf6c22ea0b7deb8274c3cd3a10c47949d0b07011a401ecabf669436240", func := "loop.example/g01358/laws.FnExactValidReal", spec := "fnExactValidReal", unfollowed := true, recurses := true, apart := false }
def FnExactValidRealSaid : Prop := fnExactValidRealRow.holds Try.pinned (OpenSpec.ofChange fnExactValidRealSpec)

/-- ITS FALSE NEIGHBOUR: 'it returns false'. Refute it at one input. -/
def fnExactValidRealWrong : ChangeSpec := { name := "fnExactValidReal", fn := fun _ => fun
  | [d] => { results := [.lit (.bool false)], args := [d] }
  | _ => none }
def FnExactValidRealWrongFalsely : Prop := fnExactValidRealRow.holds Try.pinned (OpenSpec.ofChange fnExactValidRealWrong)

/- THE SECOND FORM. 'bulk': how many values and letters a reading holds, each counted each time it is reached (what is shared counts as often as it is met; a slice's spare places count too). A statement '..UptoSaid' is the law's where the arguments, and the package variables that the reading takes, are together of bulk at most 1048576: NARROWER than '..Said'. Prove '..Said' where nothing that the law and all that it calls make is longer than what came in: it says more and counts as full. Else prove '..UptoSaid'. A law counts once. -/
mutual
def uptoBulk {H : Type} : DataW H → Nat
  | .lit (.string bytes) => bytes.length + 1
  | .lit _ => 1
  | .nil => 1
  | .ptr d => uptoBulk d + 1
  | .slice elems spare => uptoBulkAll elems + uptoBulkAll spare + 1
  | .agg parts => uptoBulkAll parts + 1
  | .iface _ d => uptoBulk d + 1
  | .map entries => uptoBulkEntries entries + 1
  | .held _ => 1
def uptoBulkAll {H : Type} : List (DataW H) → Nat
  | [] => 0
  | d :: r => uptoBulk d + uptoBulkAll r
def uptoBulkEntries {H : Type} : List (Lit × DataW H) → Nat
  | [] => 0
  | x :: r => uptoBulkEntry x + uptoBulkEntries r
def uptoBulkEntry {H : Type} : Lit × DataW H → Nat
  | (.string bytes, d) => bytes.length + uptoBulk d + 1
  | (_, d) => uptoBulk d + 1
 end
def uptoSmall : (H : Type) → List (DataW H) → Bool := fun _ ds => decide (uptoBulkAll ds ≤ 1048576)
def OpenSpec.upto (s : _root_.Go.ChangeSpec) : _root_.Go.OpenSpec := { _root_.Go.OpenSpec.ofChange s with cond := some uptoSmall }

/-- 'laws.FnExactValidGap', WHERE WHAT IT READS IS OF BULK AT MOST 1048576: true; the input reads as it did. -/
def fnExactValidGapUptoRow : OpenClaim := { program := "ytbapdhpffglieaa", sum := "328beedf6c22ea0b7deb8274c3cd3a10c47949d0b07011a401ecabf669436240", func := "loop.example/g01358/laws.FnExactValidGap", spec := "fnExactValidGap", apart := false, narrowed := true }
def FnExactValidGapUptoSaid : Prop := fnExactValidGapUptoRow.holds Try.pinned (OpenSpec.upto fnExactValidGapSpec)

/-- 'laws.FnExactCountPrimes', WHERE WHAT IT READS IS OF BULK AT MOST 1048576: true; the input reads as it did. -/
def fnExactCountPrimesUptoRow : OpenClaim := { program := "ytbapdhpffglieaa", sum := "328beedf6c22ea0b7deb8274c3cd3a10c47949d0b07011a401ecabf669436240", func := "loop.example/g01358/laws.FnExactCountPrimes", spec := "fnExactCountPrimes", apart := false, narrowed := true }
def FnExactCountPrimesUptoSaid : Prop := fnExactCountPrimesUptoRow.holds Try.pinned (OpenSpec.upto fnExactCountPrimesSpec)

/-- 'laws.FnExactSameReal', WHERE WHAT IT READS IS OF BULK AT MOST 1048576: true; the input reads as it did. -/
def fnExactSameRealUptoRow : OpenClaim := { program := "ytbapdhpffglieaa", sum := "328beedf6c22ea0b7deb8274c3cd3a10c47949d0b07011a401ecabf669436240", func := "loop.example/g01358/laws.FnExactSameReal", spec := "fnExactSameReal", apart := false, narrowed := true }
def FnExactSameRealUptoSaid : Prop := fnExactSameRealUptoRow.holds Try.pinned (OpenSpec.upto fnExactSameRealSpec)

/-- 'laws.FnExactSameWhole', WHERE WHAT IT READS IS OF BULK AT MOST 1048576: true; the input reads as it did. -/
def fnExactSameWholeUptoRow : OpenClaim := { program := "ytbapdhpffglieaa", sum := "328beedf6c22ea0b7deb8274c3cd3a10c47949d0b07011a401ecabf669436240", func := "loop.example/g01358/laws.FnExactSameWhole", spec := "fnExactSameWhole", apart := false, narrowed := true }
def FnExactSameWholeUptoSaid : Prop := fnExactSameWholeUptoRow.holds Try.pinned (OpenSpec.upto fnExactSameWholeSpec)

/-- 'laws.FnExactValidReal', WHERE WHAT IT READS IS OF BULK AT MOST 1048576: true; the input reads as it did. -/
def fnExactValidRealUptoRow : OpenClaim := { program := "ytbapdhpffglieaa", sum := "328beedf6c22ea0b7deb8274c3cd3a10c47949d0b07011a401ecabf669436240", func := "loop.example/g01358/laws.FnExactValidReal", spec := "fnExactValidReal", unfollowed := true, recurses := true, apart := false, narrowed := true }
def FnExactValidRealUptoSaid : Prop := fnExactValidRealUptoRow.holds Try.pinned (OpenSpec.upto fnExactValidRealSpec)

end Rows
end Go.Proofs.Ytbapdhpffglieaa
