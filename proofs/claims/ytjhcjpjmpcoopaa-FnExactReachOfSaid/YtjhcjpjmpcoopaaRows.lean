/-
  No cell of these rows narrows 'for every input' (looked for: loops, veiled, ifaces, maps, wideKeys, modest, calm, conditions, laid).
  DERIVED. THE GIVEN ROWS OF THIS SEAT. 6 by the template 'for every input the law returns true; each argument reads behind the call as it read before'; 0 by the template 'total and deterministic' (their statements: YtjhcjpjmpcoopaaTotals.lean).
  GIVEN WITH THE SEED: the statements are not yours to turn. If you find one false, say at which input.
  Laid BY PROGRAM, IN A SANDBOX (cutbox-rows.mjs): the forced cells as the released guide's own fill.sh prints them over the translation 709fecccbf07c308… (all of the seat's roots in one cut). By AI agents, Wed Nov 11 2026. No macro, syntax, notation, axiom, sorry.
-/
import Derived.Test.YtjhcjpjmpcoopaaChecked
import GoSem.Claim
import GoSem.ClaimJoined
import GoSem.ClaimMapViews
import Derived.JoinedTies
import Derived.KernelRfl
namespace Go.Proofs.Ytjhcjpjmpcoopaa
/- THE CELL 'sum', in the pinned program and in every row, IS THE sha256 OF THE DUMP (.gsa) THAT YtjhcjpjmpcoopaaProg.lean LOADS. Nothing in Lean hashes anything: it is a label: what it is worth is what the hold of that sum in a sandbox is worth. -/
noncomputable def Try.pinned : Pinned := { name := "ytjhcjpjmpcoopaa", sum := "709fecccbf07c308a198829ca5859ac0692de4a78a196f029da5ad10159ab533", checked := Try.checked }
namespace Rows
def none {H : Type} : Left H := { results := [], args := [] }

/-- 'laws.FnExactValidWhole': WHATEVER THE INPUT: true; the input reads as it did. -/
def fnExactValidWholeSpec : ChangeSpec := { name := "fnExactValidWhole", fn := fun _ => fun
  | [d] => { results := [.lit (.bool true)], args := [d] }
  | _ => none }
def fnExactValidWholeRow : OpenClaim := { program := "ytjhcjpjmpcoopaa", sum := "709fecccbf07c308a198829ca5859ac0692de4a78a196f029da5ad10159ab533", func := "loop.example/g01358/laws.FnExactValidWhole", spec := "fnExactValidWhole", unfollowed := true, recurses := true, apart := false }
def FnExactValidWholeSaid : Prop := fnExactValidWholeRow.holds Try.pinned (OpenSpec.ofChange fnExactValidWholeSpec)

/-- ITS FALSE NEIGHBOUR: 'it returns false'. Refute it at one input. -/
def fnExactValidWholeWrong : ChangeSpec := { name := "fnExactValidWhole", fn := fun _ => fun
  | [d] => { results := [.lit (.bool false)], args := [d] }
  | _ => none }
def FnExactValidWholeWrongFalsely : Prop := fnExactValidWholeRow.holds Try.pinned (OpenSpec.ofChange fnExactValidWholeWrong)

/-- 'laws.FnExactWholeAt': WHATEVER THE INPUT: true; the input reads as it did. -/
def fnExactWholeAtSpec : ChangeSpec := { name := "fnExactWholeAt", fn := fun _ => fun
  | [d1, d2] => { results := [.lit (.bool true)], args := [d1, d2] }
  | _ => none }
def fnExactWholeAtRow : OpenClaim := { program := "ytjhcjpjmpcoopaa", sum := "709fecccbf07c308a198829ca5859ac0692de4a78a196f029da5ad10159ab533", func := "loop.example/g01358/laws.FnExactWholeAt", spec := "fnExactWholeAt", unfollowed := true, recurses := true, apart := false }
def FnExactWholeAtSaid : Prop := fnExactWholeAtRow.holds Try.pinned (OpenSpec.ofChange fnExactWholeAtSpec)

/-- ITS FALSE NEIGHBOUR: 'it returns false'. Refute it at one input. -/
def fnExactWholeAtWrong : ChangeSpec := { name := "fnExactWholeAt", fn := fun _ => fun
  | [d1, d2] => { results := [.lit (.bool false)], args := [d1, d2] }
  | _ => none }
def FnExactWholeAtWrongFalsely : Prop := fnExactWholeAtRow.holds Try.pinned (OpenSpec.ofChange fnExactWholeAtWrong)

/-- 'laws.FnExactReachOf': WHATEVER THE INPUT: true; the input reads as it did. -/
def fnExactReachOfSpec : ChangeSpec := { name := "fnExactReachOf", fn := fun _ => fun
  | [d] => { results := [.lit (.bool true)], args := [d] }
  | _ => none }
def fnExactReachOfRow : OpenClaim := { program := "ytjhcjpjmpcoopaa", sum := "709fecccbf07c308a198829ca5859ac0692de4a78a196f029da5ad10159ab533", func := "loop.example/g01358/laws.FnExactReachOf", spec := "fnExactReachOf", unfollowed := true, recurses := true, apart := false }
def FnExactReachOfSaid : Prop := fnExactReachOfRow.holds Try.pinned (OpenSpec.ofChange fnExactReachOfSpec)

/-- ITS FALSE NEIGHBOUR: 'it returns false'. Refute it at one input. -/
def fnExactReachOfWrong : ChangeSpec := { name := "fnExactReachOf", fn := fun _ => fun
  | [d] => { results := [.lit (.bool false)], args := [d] }
  | _ => none }
def FnExactReachOfWrongFalsely : Prop := fnExactReachOfRow.holds Try.pinned (OpenSpec.ofChange fnExactReachOfWrong)

/-- 'laws.FnExactContentOf': WHATEVER THE INPUT: true; the input reads as it did. -/
def fnExactContentOfSpec : ChangeSpec := { name := "fnExactContentOf", fn := fun _ => fun
  | [d] => { results := [.lit (.bool true)], args := [d] }
  | _ => none }
def fnExactContentOfRow : OpenClaim := { program := "ytjhcjpjmpcoopaa", sum := "709fecccbf07c308a198829ca5859ac0692de4a78a196f029da5ad10159ab533", func := "loop.example/g01358/laws.FnExactContentOf", spec := "fnExactContentOf", unfollowed := true, recurses := true, apart := false }
def FnExactContentOfSaid : Prop := fnExactContentOfRow.holds Try.pinned (OpenSpec.ofChange fnExactContentOfSpec)

/-- ITS FALSE NEIGHBOUR: 'it returns false'. Refute it at one input. -/
def fnExactContentOfWrong : ChangeSpec := { name := "fnExactContentOf", fn := fun _ => fun
  | [d] => { results := [.lit (.bool false)], args := [d] }
  | _ => none }
def FnExactContentOfWrongFalsely : Prop := fnExactContentOfRow.holds Try.pinned (OpenSpec.ofChange fnExactContentOfWrong)

/-- 'laws.FnExactMirrorReal': WHATEVER THE INPUT: true; the input reads as it did. -/
def fnExactMirrorRealSpec : ChangeSpec := { name := "fnExactMirrorReal", fn := fun _ => fun
  | [d] => { results := [.lit (.bool true)], args := [d] }
  | _ => none }
def fnExactMirrorRealRow : OpenClaim := { program := "ytjhcjpjmpcoopaa", sum := "709fecccbf07c308a198829ca5859ac0692de4a78a196f029da5ad10159ab533", func := "loop.example/g01358/laws.FnExactMirrorReal", spec := "fnExactMirrorReal", unfollowed := true, recurses := true, apart := false }
def FnExactMirrorRealSaid : Prop := fnExactMirrorRealRow.holds Try.pinned (OpenSpec.ofChange fnExactMirrorRealSpec)

/-- ITS FALSE NEIGHBOUR: 'it returns false'. Refute it at one input. -/
def fnExactMirrorRealWrong : ChangeSpec := { name := "fnExactMirrorReal", fn := fun _ => fun
  | [d] => { results := [.lit (.bool false)], args := [d] }
  | _ => none }
def FnExactMirrorRealWrongFalsely : Prop := fnExactMirrorRealRow.holds Try.pinned (OpenSpec.ofChange fnExactMirrorRealWrong)

/-- 'laws.FnExactWholeFrom': WHATEVER THE INPUT: true; the input reads as it did. -/
def fnExactWholeFromSpec : ChangeSpec := { name := "fnExactWholeFrom", fn := fun _ => fun
  | [d] => { results := [.lit (.bool true)], args := [d] }
  | _ => none }
def fnExactWholeFromRow : OpenClaim := { program := "ytjhcjpjmpcoopaa", sum := "709fecccbf07c308a198829ca5859ac0692de4a78a196f029da5ad10159ab533", func := "loop.example/g01358/laws.FnExactWholeFrom", spec := "fnExactWholeFrom", unfollowed := true, recurses := true, apart := false }
def FnExactWholeFromSaid : Prop := fnExactWholeFromRow.holds Try.pinned (OpenSpec.ofChange fnExactWholeFromSpec)

/-- ITS FALSE NEIGHBOUR: 'it returns false'. Refute it at one input. -/
def fnExactWholeFromWrong : ChangeSpec := { name := "fnExactWholeFrom", fn := fun _ => fun
  | [d] => { results := [.lit (.bool false)], args := [d] }
  | _ => none }
def FnExactWholeFromWrongFalsely : Prop := fnExactWholeFromRow.holds Try.pinned (OpenSpec.ofChange fnExactWholeFromWrong)

/- THE SECOND FORM. 'bulk': how many values and letters a reading holds, each counted each time it is reached (what is shared counts as often as it is met; a slice's spare places count too). A statement '..UptoSaid' is the law's where the arguments, and the package variables that the reading takes, are together of bulk at most 1048576: NARROWER than '..Said'. Prove '..Said' where nothing that the law and all that it calls make is longer than what came in: it says more and counts as full. Else prove '..UptoSaid'. A law counts once. -/
mutual
def uptoBulk {H : Type} : DataW H → Nat
  | .lit (.string bytes) => bytes.length + 1
  | .lit _ => 1
  | .nil => 1
  | .ptr d => uptoBulk d + 1
  | .slice elems spare => uptoBulkAll elems + uptoBulkAll spare + 1
  | .agg parts => uptoBulkAll parts + 1
  | .iface _ d => uptoBulk d + 1
  | .map entries => uptoBulkEntries entries + 1
  | .held _ => 1
def uptoBulkAll {H : Type} : List (DataW H) → Nat
  | [] => 0
  | d :: r => uptoBulk d + uptoBulkAll r
def uptoBulkEntries {H : Type} : List (Lit × DataW H) → Nat
  | [] => 0
  | x :: r => uptoBulkEntry x + uptoBulkEntries r
def uptoBulkEntry {H : Type} : Lit × DataW H → Nat
  | (.string bytes, d) => bytes.length + uptoBulk d + 1
  | (_, d) => uptoBulk d + 1
 end
def uptoSmall : (H : Type) → List (DataW H) → Bool := fun _ ds => decide (uptoBulkAll ds ≤ 1048576)
def OpenSpec.upto (s : _root_.Go.ChangeSpec) : _root_.Go.OpenSpec := { _root_.Go.OpenSpec.ofChange s with cond := some uptoSmall }

/-- 'laws.FnExactValidWhole', WHERE WHAT IT READS IS OF BULK AT MOST 1048576: true; the input reads as it did. -/
def fnExactValidWholeUptoRow : OpenClaim := { program := "ytjhcjpjmpcoopaa", sum := "709fecccbf07c308a198829ca5859ac0692de4a78a196f029da5ad10159ab533", func := "loop.example/g01358/laws.FnExactValidWhole", spec := "fnExactValidWhole", unfollowed := true, recurses := true, apart := false, narrowed := true }
def FnExactValidWholeUptoSaid : Prop := fnExactValidWholeUptoRow.holds Try.pinned (OpenSpec.upto fnExactValidWholeSpec)

/-- 'laws.FnExactWholeAt', WHERE WHAT IT READS IS OF BULK AT MOST 1048576: true; the input reads as it did. -/
def fnExactWholeAtUptoRow : OpenClaim := { program := "ytjhcjpjmpcoopaa", sum := "709fecccbf07c308a198829ca5859ac0692de4a78a196f029da5ad10159ab533", func := "loop.example/g01358/laws.FnExactWholeAt", spec := "fnExactWholeAt", unfollowed := true, recurses := true, apart := false, narrowed := true }
def FnExactWholeAtUptoSaid : Prop := fnExactWholeAtUptoRow.holds Try.pinned (OpenSpec.upto fnExactWholeAtSpec)

/-- 'laws.FnExactReachOf', WHERE WHAT IT READS IS OF BULK AT MOST 1048576: true; the input reads as it did. -/
def fnExactReachOfUptoRow : OpenClaim := { program := "ytjhcjpjmpcoopaa", sum := "709fecccbf07c308a198829ca5859ac0692de4a78a196f029da5ad10159ab533", func := "loop.example/g01358/laws.FnExactReachOf", spec := "fnExactReachOf", unfollowed := true, recurses := true, apart := false, narrowed := true }
def FnExactReachOfUptoSaid : Prop := fnExactReachOfUptoRow.holds Try.pinned (OpenSpec.upto fnExactReachOfSpec)

/-- 'laws.FnExactContentOf', WHERE WHAT IT READS IS OF BULK AT MOST 1048576: true; the input reads as it did. -/
def fnExactContentOfUptoRow : OpenClaim := { program := "ytjhcjpjmpcoopaa", sum := "709fecccbf07c308a198829ca5859ac0692de4a78a196f029da5ad10159ab533", func := "loop.example/g01358/laws.FnExactContentOf", spec := "fnExactContentOf", unfollowed := true, recurses := true, apart := false, narrowed := true }
def FnExactContentOfUptoSaid : Prop := fnExactContentOfUptoRow.holds Try.pinned (OpenSpec.upto fnExactContentOfSpec)

/-- 'laws.FnExactMirrorReal', WHERE WHAT IT READS IS OF BULK AT MOST 1048576: true; the input reads as it did. -/
def fnExactMirrorRealUptoRow : OpenClaim := { program := "ytjhcjpjmpcoopaa", sum := "709fecccbf07c308a198829ca5859ac0692de4a78a196f029da5ad10159ab533", func := "loop.example/g01358/laws.FnExactMirrorReal", spec := "fnExactMirrorReal", unfollowed := true, recurses := true, apart := false, narrowed := true }
def FnExactMirrorRealUptoSaid : Prop := fnExactMirrorRealUptoRow.holds Try.pinned (OpenSpec.upto fnExactMirrorRealSpec)

/-- 'laws.FnExactWholeFrom', WHERE WHAT IT READS IS OF BULK AT MOST 1048576: true; the input reads as it did. -/
def fnExactWholeFromUptoRow : OpenClaim := { program := "ytjhcjpjmpcoopaa", sum := "709fecccbf07c308a198829ca5859ac0692de4a78a196f029da5ad10159ab533", func := "loop.example/g01358/laws.FnExactWholeFrom", spec := "fnExactWholeFrom", unfollowed := true, recurses := true, apart := false, narrowed := true }
def FnExactWholeFromUptoSaid : Prop := fnExactWholeFromUptoRow.holds Try.pinned (OpenSpec.upto fnExactWholeFromSpec)

end Rows
end Go.Proofs.Ytjhcjpjmpcoopaa
