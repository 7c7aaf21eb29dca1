/-
  No cell of these rows narrows 'for every input' (looked for: loops, veiled, ifaces, maps, wideKeys, modest, calm, conditions, laid).
  DERIVED. THE GIVEN ROWS OF THIS SEAT. 5 by the template 'for every input the law returns true; each argument reads behind the call as it read before'; 0 by the template 'total and deterministic' (their statements: YtlfjnpioamcbhaaTotals.lean).
  GIVEN WITH THE SEED: the statements are not yours to turn. If you find one false, say at which input.
  Laid BY PROGRAM, IN A SANDBOX (cutbox-rows.mjs): the forced cells as the released guide's own fill.sh prints them over the translation 109b52a353b052b0… (all of the seat's roots in one cut). By AI agents, Wed Nov 11 2026. No macro, syntax, notation, axiom, sorry.
-/
import Derived.Test.YtlfjnpioamcbhaaChecked
import GoSem.Claim
import GoSem.ClaimJoined
import GoSem.ClaimMapViews
import Derived.JoinedTies
import Derived.KernelRfl
namespace Go.Proofs.Ytlfjnpioamcbhaa
/- THE CELL 'sum', in the pinned program and in every row, IS THE sha256 OF THE DUMP (.gsa) THAT YtlfjnpioamcbhaaProg.lean LOADS. Nothing in Lean hashes anything: it is a label: what it is worth is what the hold of that sum in a sandbox is worth. -/
noncomputable def Try.pinned : Pinned := { name := "ytlfjnpioamcbhaa", sum := "109b52a353b052b007fdb3a4263fa5f98856f8913f93fabc0ed36b54c77e5dc3", checked := Try.checked }
namespace Rows
def none {H : Type} : Left H := { results := [], args := [] }

/-- 'laws.FnExactPolyOfReal': WHATEVER THE INPUT: true; the input reads as it did. -/
def fnExactPolyOfRealSpec : ChangeSpec := { name := "fnExactPolyOfReal", fn := fun _ => fun
  | [d] => { results := [.lit (.bool true)], args := [d] }
  | _ => none }
def fnExactPolyOfRealRow : OpenClaim := { program := "ytlfjnpioamcbhaa", sum := "109b52a353b052b007fdb3a4263fa5f98856f8913f93fabc0ed36b54c77e5dc3", func := "loop.example/g01358/laws.FnExactPolyOfReal", spec := "fnExactPolyOfReal", unfollowed := true, recurses := true, apart := false }
def FnExactPolyOfRealSaid : Prop := fnExactPolyOfRealRow.holds Try.pinned (OpenSpec.ofChange fnExactPolyOfRealSpec)

/-- ITS FALSE NEIGHBOUR: 'it returns false'. Refute it at one input. -/
def fnExactPolyOfRealWrong : ChangeSpec := { name := "fnExactPolyOfReal", fn := fun _ => fun
  | [d] => { results := [.lit (.bool false)], args := [d] }
  | _ => none }
def FnExactPolyOfRealWrongFalsely : Prop := fnExactPolyOfRealRow.holds Try.pinned (OpenSpec.ofChange fnExactPolyOfRealWrong)

/-- 'laws.FnExactRootsOver': WHATEVER THE INPUT: true; the input reads as it did. -/
def fnExactRootsOverSpec : ChangeSpec := { name := "fnExactRootsOver", fn := fun _ => fun
  | [d1, d2] => { results := [.lit (.bool true)], args := [d1, d2] }
  | _ => none }
def fnExactRootsOverRow : OpenClaim := { program := "ytlfjnpioamcbhaa", sum := "109b52a353b052b007fdb3a4263fa5f98856f8913f93fabc0ed36b54c77e5dc3", func := "loop.example/g01358/laws.FnExactRootsOver", spec := "fnExactRootsOver", unfollowed := true, recurses := true, apart := false }
def FnExactRootsOverSaid : Prop := fnExactRootsOverRow.holds Try.pinned (OpenSpec.ofChange fnExactRootsOverSpec)

/-- ITS FALSE NEIGHBOUR: 'it returns false'. Refute it at one input. -/
def fnExactRootsOverWrong : ChangeSpec := { name := "fnExactRootsOver", fn := fun _ => fun
  | [d1, d2] => { results := [.lit (.bool false)], args := [d1, d2] }
  | _ => none }
def FnExactRootsOverWrongFalsely : Prop := fnExactRootsOverRow.holds Try.pinned (OpenSpec.ofChange fnExactRootsOverWrong)

/-- 'laws.FnExactOverPrime': WHATEVER THE INPUT: true; the input reads as it did. -/
def fnExactOverPrimeSpec : ChangeSpec := { name := "fnExactOverPrime", fn := fun _ => fun
  | [d1, d2] => { results := [.lit (.bool true)], args := [d1, d2] }
  | _ => none }
def fnExactOverPrimeRow : OpenClaim := { program := "ytlfjnpioamcbhaa", sum := "109b52a353b052b007fdb3a4263fa5f98856f8913f93fabc0ed36b54c77e5dc3", func := "loop.example/g01358/laws.FnExactOverPrime", spec := "fnExactOverPrime", unfollowed := true, recurses := true, apart := false }
def FnExactOverPrimeSaid : Prop := fnExactOverPrimeRow.holds Try.pinned (OpenSpec.ofChange fnExactOverPrimeSpec)

/-- ITS FALSE NEIGHBOUR: 'it returns false'. Refute it at one input. -/
def fnExactOverPrimeWrong : ChangeSpec := { name := "fnExactOverPrime", fn := fun _ => fun
  | [d1, d2] => { results := [.lit (.bool false)], args := [d1, d2] }
  | _ => none }
def FnExactOverPrimeWrongFalsely : Prop := fnExactOverPrimeRow.holds Try.pinned (OpenSpec.ofChange fnExactOverPrimeWrong)

/-- 'laws.FnExactMulOver': WHATEVER THE INPUT: true; the input reads as it did. -/
def fnExactMulOverSpec : ChangeSpec := { name := "fnExactMulOver", fn := fun _ => fun
  | [d1, d2, d3] => { results := [.lit (.bool true)], args := [d1, d2, d3] }
  | _ => none }
def fnExactMulOverRow : OpenClaim := { program := "ytlfjnpioamcbhaa", sum := "109b52a353b052b007fdb3a4263fa5f98856f8913f93fabc0ed36b54c77e5dc3", func := "loop.example/g01358/laws.FnExactMulOver", spec := "fnExactMulOver", unfollowed := true, recurses := true, apart := false }
def FnExactMulOverSaid : Prop := fnExactMulOverRow.holds Try.pinned (OpenSpec.ofChange fnExactMulOverSpec)

/-- ITS FALSE NEIGHBOUR: 'it returns false'. Refute it at one input. -/
def fnExactMulOverWrong : ChangeSpec := { name := "fnExactMulOver", fn := fun _ => fun
  | [d1, d2, d3] => { results := [.lit (.bool false)], args := [d1, d2, d3] }
  | _ => none }
def FnExactMulOverWrongFalsely : Prop := fnExactMulOverRow.holds Try.pinned (OpenSpec.ofChange fnExactMulOverWrong)

/-- 'laws.FnExactDivideOver': WHATEVER THE INPUT: true; the input reads as it did. -/
def fnExactDivideOverSpec : ChangeSpec := { name := "fnExactDivideOver", fn := fun _ => fun
  | [d1, d2, d3] => { results := [.lit (.bool true)], args := [d1, d2, d3] }
  | _ => none }
def fnExactDivideOverRow : OpenClaim := { program := "ytlfjnpioamcbhaa", sum := "109b52a353b052b007fdb3a4263fa5f98856f8913f93fabc0ed36b54c77e5dc3", func := "loop.example/g01358/laws.FnExactDivideOver", spec := "fnExactDivideOver", unfollowed := true, recurses := true, apart := false }
def FnExactDivideOverSaid : Prop := fnExactDivideOverRow.holds Try.pinned (OpenSpec.ofChange fnExactDivideOverSpec)

/-- ITS FALSE NEIGHBOUR: 'it returns false'. Refute it at one input. -/
def fnExactDivideOverWrong : ChangeSpec := { name := "fnExactDivideOver", fn := fun _ => fun
  | [d1, d2, d3] => { results := [.lit (.bool false)], args := [d1, d2, d3] }
  | _ => none }
def FnExactDivideOverWrongFalsely : Prop := fnExactDivideOverRow.holds Try.pinned (OpenSpec.ofChange fnExactDivideOverWrong)

/- THE SECOND FORM. 'bulk': how many values and letters a reading holds, each counted each time it is reached (what is shared counts as often as it is met; a slice's spare places count too). A statement '..UptoSaid' is the law's where the arguments, and the package variables that the reading takes, are together of bulk at most 1048576: NARROWER than '..Said'. Prove '..Said' where nothing that the law and all that it calls make is longer than what came in: it says more and counts as full. Else prove '..UptoSaid'. A law counts once. -/
mutual
def uptoBulk {H : Type} : DataW H → Nat
  | .lit (.string bytes) => bytes.length + 1
  | .lit _ => 1
  | .nil => 1
  | .ptr d => uptoBulk d + 1
  | .slice elems spare => uptoBulkAll elems + uptoBulkAll spare + 1
  | .agg parts => uptoBulkAll parts + 1
  | .iface _ d => uptoBulk d + 1
  | .map entries => uptoBulkEntries entries + 1
  | .held _ => 1
def uptoBulkAll {H : Type} : List (DataW H) → Nat
  | [] => 0
  | d :: r => uptoBulk d + uptoBulkAll r
def uptoBulkEntries {H : Type} : List (Lit × DataW H) → Nat
  | [] => 0
  | x :: r => uptoBulkEntry x + uptoBulkEntries r
def uptoBulkEntry {H : Type} : Lit × DataW H → Nat
  | (.string bytes, d) => bytes.length + uptoBulk d + 1
  | (_, d) => uptoBulk d + 1
 end
def uptoSmall : (H : Type) → List (DataW H) → Bool := fun _ ds => decide (uptoBulkAll ds ≤ 1048576)
def OpenSpec.upto (s : _root_.Go.ChangeSpec) : _root_.Go.OpenSpec := { _root_.Go.OpenSpec.ofChange s with cond := some uptoSmall }

/-- 'laws.FnExactPolyOfReal', WHERE WHAT IT READS IS OF BULK AT MOST 1048576: true; the input reads as it did. -/
def fnExactPolyOfRealUptoRow : OpenClaim := { program := "ytlfjnpioamcbhaa", sum := "109b52a353b052b007fdb3a4263fa5f98856f8913f93fabc0ed36b54c77e5dc3", func := "loop.example/g01358/laws.FnExactPolyOfReal", spec := "fnExactPolyOfReal", unfollowed := true, recurses := true, apart := false, narrowed := true }
def FnExactPolyOfRealUptoSaid : Prop := fnExactPolyOfRealUptoRow.holds Try.pinned (OpenSpec.upto fnExactPolyOfRealSpec)

/-- 'laws.FnExactRootsOver', WHERE WHAT IT READS IS OF BULK AT MOST 1048576: true; the input reads as it did. -/
def fnExactRootsOverUptoRow : OpenClaim := { program := "ytlfjnpioamcbhaa", sum := "109b52a353b052b007fdb3a4263fa5f98856f8913f93fabc0ed36b54c77e5dc3", func := "loop.example/g01358/laws.FnExactRootsOver", spec := "fnExactRootsOver", unfollowed := true, recurses := true, apart := false, narrowed := true }
def FnExactRootsOverUptoSaid : Prop := fnExactRootsOverUptoRow.holds Try.pinned (OpenSpec.upto fnExactRootsOverSpec)

/-- 'laws.FnExactOverPrime', WHERE WHAT IT READS IS OF BULK AT MOST 1048576: true; the input reads as it did. -/
def fnExactOverPrimeUptoRow : OpenClaim := { program := "ytlfjnpioamcbhaa", sum := "109b52a353b052b007fdb3a4263fa5f98856f8913f93fabc0ed36b54c77e5dc3", func := "loop.example/g01358/laws.FnExactOverPrime", spec := "fnExactOverPrime", unfollowed := true, recurses := true, apart := false, narrowed := true }
def FnExactOverPrimeUptoSaid : Prop := fnExactOverPrimeUptoRow.holds Try.pinned (OpenSpec.upto fnExactOverPrimeSpec)

/-- 'laws.FnExactMulOver', WHERE WHAT IT READS IS OF BULK AT MOST 1048576: true; the input reads as it did. -/
def fnExactMulOverUptoRow : OpenClaim := { program := "ytlfjnpioamcbhaa", sum := "109b52a353b052b007fdb3a4263fa5f98856f8913f93fabc0ed36b54c77e5dc3", func := "loop.example/g01358/laws.FnExactMulOver", spec := "fnExactMulOver", unfollowed := true, recurses := true, apart := false, narrowed := true }
def FnExactMulOverUptoSaid : Prop := fnExactMulOverUptoRow.holds Try.pinned (OpenSpec.upto fnExactMulOverSpec)

/-- 'laws.FnExactDivideOver', WHERE WHAT IT READS IS OF BULK AT MOST 1048576: true; the input reads as it did. -/
def fnExactDivideOverUptoRow : OpenClaim := { program := "ytlfjnpioamcbhaa", sum := "109b52a353b052b007fdb3a4263fa5f98856f8913f93fabc0ed36b54c77e5dc3", func := "loop.example/g01358/laws.FnExactDivideOver", spec := "fnExactDivideOver", unfollowed := true, recurses := true, apart := false, narrowed := true }
def FnExactDivideOverUptoSaid : Prop := fnExactDivideOverUptoRow.holds Try.pinned (OpenSpec.upto fnExactDivideOverSpec)

end Rows
end Go.Proofs.Ytlfjnpioamcbhaa
