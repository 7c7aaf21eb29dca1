/- Contracts of the law's helpers that lay marks into a struct of one slice and read them again. Condition: at most 1048576 terms. -/
import Derived.Test.YtlfjnpioamcbhaaMark
namespace Go.Proofs.Ytlfjnpioamcbhaa
open Go.RowKit

theorem grown_allocWhole {w w' : World} {row : Option Nat} (o : Obj) (h : (w.alloc o).grownBy w' row) : w.grownBy w' row :=
  grown_trans (World.grownBy_alloc w o row) h

theorem markWhole_any (A : Option Addr) (n c : Nat) (xs : List Int) (k0 : Int) (base : Nat) (w : World) (h : Mine w base A n c xs) (h0 : 0 ≤ k0) (h1 : k0 ≤ 1000000000) (hn : n ≤ 1048576) :
    Calls Try.prog 23 #[.agg #[.slice A n c], .int .i64 k0] w fun e w' => e = .returned (.int .i64 (k0 + n)) ∧ Mine w' base A n c (marks k0 n) ∧ w.grownBy w' (own1 A n) := by
  go_enter Try.func23, Try.ntmps23
  go_wp2_with fail
  refine (markInts A n c xs k0 base _ (h.alloc _) h0 h1 hn).mono ?_
  rintro e w1 ⟨rfl, u1, g1⟩
  have HG := Lib.hid (grown_allocWhole _ g1)
  have HU := Lib.hid u1
  clear g1 u1
  go_wp2_with fail
  go_ret
  exact ⟨rfl, HU.out, HG.out⟩

theorem heldWhole_any (A : Option Addr) (n c : Nat) (k0 : Int) (w : World) (h : Rd w w.heap.size A n c (marks k0 n)) (h0 : 0 ≤ k0) (h1 : k0 ≤ 1000000000) (hn : n ≤ 1048576) :
    Calls Try.prog 28 #[.agg #[.slice A n c], .int .i64 k0] w fun e w' => e = .returned (.int .i64 (k0 + n)) ∧ Below w.heap.size w w' := by
  go_enter Try.func28, Try.ntmps28
  go_wp2_with fail
  refine (heldInts A n c k0 _ (h.in_ (al1 w _)) h0 h1 hn).mono ?_
  rintro e w1 ⟨rfl, rfl⟩
  go_wp2_with fail
  go_ret
  exact ⟨rfl, al1 w _⟩
end Go.Proofs.Ytlfjnpioamcbhaa
