/-
  No cell of these rows narrows 'for every input' (looked for: loops, veiled, ifaces, maps, wideKeys, modest, calm, conditions, laid).
  DERIVED. THE GIVEN ROWS OF THIS SEAT. 3 by the template 'for every input the law returns true; each argument reads behind the call as it read before'; 0 by the template 'total and deterministic' (their statements: YtfbekiphlaaieaaTotals.lean).
  GIVEN WITH THE SEED: the statements are not yours to turn. If you find one false, say at which input.
  Laid BY PROGRAM, IN A SANDBOX (cutbox-rows.mjs): the forced cells as the released guide's own fill.sh prints them over the translation 33eff8450c9f0d71… (all of the seat's roots in one cut). By AI agents, Wed Nov 11 2026. No macro, syntax, notation, axiom, sorry.
-/
import Derived.Test.YtfbekiphlaaieaaChecked
import GoSem.Claim
import GoSem.ClaimJoined
import GoSem.ClaimMapViews
import Derived.JoinedTies
import Derived.KernelRfl
namespace Go.Proofs.Ytfbekiphlaaieaa
/- THE CELL 'sum', in the pinned program and in every row, IS THE sha256 OF THE DUMP (.gsa) THAT YtfbekiphlaaieaaProg.lean LOADS. Nothing in Lean hashes anything: it is a label: what it is worth is what the hold of that sum in a sandbox is worth. -/
noncomputable def Try.pinned : Pinned := { name := "ytfbekiphlaaieaa", sum := "33eff8450c9f0d71259e4bc63c40c616c5f2eea973fbac4dd5426f52b76b95df", checked := Try.checked }
namespace Rows
def none {H : Type} : Left H := { results := [], args := [] }

/-- 'laws.FnRooted': WHATEVER THE INPUT: true; the input reads as it did. -/
def fnRootedSpec : ChangeSpec := { name := "fnRooted", fn := fun _ => fun
  | [d1, d2] => { results := [.lit (.bool true)], args := [d1, d2] }
  | _ => none }
def fnRootedRow : OpenClaim := { program := "ytfbekiphlaaieaa", sum := "33eff8450c9f0d71259e4bc63c40c616c5f2eea973fbac4dd5426f52b76b95df", func := "loop.example/g01358/laws.FnRooted", spec := "fnRooted", inPlace := ["math.sqrt", "math.Float64bits"], unfollowed := true, recurses := true, apart := false }
def FnRootedSaid : Prop := fnRootedRow.holds Try.pinned (OpenSpec.ofChange fnRootedSpec)

/-- ITS FALSE NEIGHBOUR: 'it returns false'. Refute it at one input. -/
def fnRootedWrong : ChangeSpec := { name := "fnRooted", fn := fun _ => fun
  | [d1, d2] => { results := [.lit (.bool false)], args := [d1, d2] }
  | _ => none }
def FnRootedWrongFalsely : Prop := fnRootedRow.holds Try.pinned (OpenSpec.ofChange fnRootedWrong)

/-- 'laws.FnPolys': WHATEVER THE INPUT: true; the input reads as it did. -/
def fnPolysSpec : ChangeSpec := { name := "fnPolys", fn := fun _ => fun
  | [d1, d2] => { results := [.lit (.bool true)], args := [d1, d2] }
  | _ => none }
def fnPolysRow : OpenClaim := { program := "ytfbekiphlaaieaa", sum := "33eff8450c9f0d71259e4bc63c40c616c5f2eea973fbac4dd5426f52b76b95df", func := "loop.example/g01358/laws.FnPolys", spec := "fnPolys", inPlace := ["math.sqrt"], unfollowed := true, recurses := true, apart := false }
def FnPolysSaid : Prop := fnPolysRow.holds Try.pinned (OpenSpec.ofChange fnPolysSpec)

/-- ITS FALSE NEIGHBOUR: 'it returns false'. Refute it at one input. -/
def fnPolysWrong : ChangeSpec := { name := "fnPolys", fn := fun _ => fun
  | [d1, d2] => { results := [.lit (.bool false)], args := [d1, d2] }
  | _ => none }
def FnPolysWrongFalsely : Prop := fnPolysRow.holds Try.pinned (OpenSpec.ofChange fnPolysWrong)

/-- 'laws.FnMoves': WHATEVER THE INPUT: true; the input reads as it did. -/
def fnMovesSpec : ChangeSpec := { name := "fnMoves", fn := fun _ => fun
  | [d1, d2] => { results := [.lit (.bool true)], args := [d1, d2] }
  | _ => none }
def fnMovesRow : OpenClaim := { program := "ytfbekiphlaaieaa", sum := "33eff8450c9f0d71259e4bc63c40c616c5f2eea973fbac4dd5426f52b76b95df", func := "loop.example/g01358/laws.FnMoves", spec := "fnMoves", inPlace := ["math.sqrt", "math.Float64bits"], unfollowed := true, recurses := true, apart := false }
def FnMovesSaid : Prop := fnMovesRow.holds Try.pinned (OpenSpec.ofChange fnMovesSpec)

/-- ITS FALSE NEIGHBOUR: 'it returns false'. Refute it at one input. -/
def fnMovesWrong : ChangeSpec := { name := "fnMoves", fn := fun _ => fun
  | [d1, d2] => { results := [.lit (.bool false)], args := [d1, d2] }
  | _ => none }
def FnMovesWrongFalsely : Prop := fnMovesRow.holds Try.pinned (OpenSpec.ofChange fnMovesWrong)

/- THE SECOND FORM. 'bulk': how many values and letters a reading holds, each counted each time it is reached (what is shared counts as often as it is met; a slice's spare places count too). A statement '..UptoSaid' is the law's where the arguments, and the package variables that the reading takes, are together of bulk at most 1048576: NARROWER than '..Said'. Prove '..Said' where nothing that the law and all that it calls make is longer than what came in: it says more and counts as full. Else prove '..UptoSaid'. A law counts once. -/
mutual
def uptoBulk {H : Type} : DataW H → Nat
  | .lit (.string bytes) => bytes.length + 1
  | .lit _ => 1
  | .nil => 1
  | .ptr d => uptoBulk d + 1
  | .slice elems spare => uptoBulkAll elems + uptoBulkAll spare + 1
  | .agg parts => uptoBulkAll parts + 1
  | .iface _ d => uptoBulk d + 1
  | .map entries => uptoBulkEntries entries + 1
  | .held _ => 1
def uptoBulkAll {H : Type} : List (DataW H) → Nat
  | [] => 0
  | d :: r => uptoBulk d + uptoBulkAll r
def uptoBulkEntries {H : Type} : List (Lit × DataW H) → Nat
  | [] => 0
  | x :: r => uptoBulkEntry x + uptoBulkEntries r
def uptoBulkEntry {H : Type} : Lit × DataW H → Nat
  | (.string bytes, d) => bytes.length + uptoBulk d + 1
  | (_, d) => uptoBulk d + 1
 end
def uptoSmall : (H : Type) → List (DataW H) → Bool := fun _ ds => decide (uptoBulkAll ds ≤ 1048576)
def OpenSpec.upto (s : _root_.Go.ChangeSpec) : _root_.Go.OpenSpec := { _root_.Go.OpenSpec.ofChange s with cond := some uptoSmall }

/-- 'laws.FnRooted', WHERE WHAT IT READS IS OF BULK AT MOST 1048576: true; the input reads as it did. -/
def fnRootedUptoRow : OpenClaim := { program := "ytfbekiphlaaieaa", sum := "33eff8450c9f0d71259e4bc63c40c616c5f2eea973fbac4dd5426f52b76b95df", func := "loop.example/g01358/laws.FnRooted", spec := "fnRooted", inPlace := ["math.sqrt", "math.Float64bits"], unfollowed := true, recurses := true, apart := false, narrowed := true }
def FnRootedUptoSaid : Prop := fnRootedUptoRow.holds Try.pinned (OpenSpec.upto fnRootedSpec)

/-- 'laws.FnPolys', WHERE WHAT IT READS IS OF BULK AT MOST 1048576: true; the input reads as it did. -/
def fnPolysUptoRow : OpenClaim := { program := "ytfbekiphlaaieaa", sum := "33eff8450c9f0d71259e4bc63c40c616c5f2eea973fbac4dd5426f52b76b95df", func := "loop.example/g01358/laws.FnPolys", spec := "fnPolys", inPlace := ["math.sqrt"], unfollowed := true, recurses := true, apart := false, narrowed := true }
def FnPolysUptoSaid : Prop := fnPolysUptoRow.holds Try.pinned (OpenSpec.upto fnPolysSpec)

/-- 'laws.FnMoves', WHERE WHAT IT READS IS OF BULK AT MOST 1048576: true; the input reads as it did. -/
def fnMovesUptoRow : OpenClaim := { program := "ytfbekiphlaaieaa", sum := "33eff8450c9f0d71259e4bc63c40c616c5f2eea973fbac4dd5426f52b76b95df", func := "loop.example/g01358/laws.FnMoves", spec := "fnMoves", inPlace := ["math.sqrt", "math.Float64bits"], unfollowed := true, recurses := true, apart := false, narrowed := true }
def FnMovesUptoSaid : Prop := fnMovesUptoRow.holds Try.pinned (OpenSpec.upto fnMovesSpec)

end Rows
end Go.Proofs.Ytfbekiphlaaieaa
