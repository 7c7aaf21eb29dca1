/- Contracts of the law's helpers that lay marks into a struct of one slice and read them again. Condition: at most 1048576 terms. -/
import Derived.Test.YtlfjnpioamcbhaaMark
namespace Go.Proofs.Ytlfjnpioamcbhaa
open Go.RowKit

theorem grown_allocReal {w w' : World} {row : Option Nat} (o : Obj) (h : (w.alloc o).grownBy w' row) : w.grownBy w' row :=
  grown_trans (World.grownBy_alloc w o row) h

theorem markReal_any (A : Option Addr) (n c : Nat) (xs : List Int) (k0 : Int) (base : Nat) (w : World) (h : Mine w base A n c xs) (h0 : 0 ≤ k0) (h1 : k0 ≤ 1000000000) (hn : n ≤ 1048576) :
    Calls Try.prog 14 #[.agg #[.slice A n c], .int .i64 k0] w fun e w' => e = .returned (.int .i64 (k0 + n)) ∧ Mine w' base A n c (marks k0 n) ∧ w.grownBy w' (own1 A n) := by
  go_enter Try.func14, Try.ntmps14
  go_wp2_with fail
  refine (markInts A n c xs k0 base _ (h.alloc _) h0 h1 hn).mono ?_
  rintro e w1 ⟨rfl, u1, g1⟩
  have HG := Lib.hid (grown_allocReal _ g1)
  have HU := Lib.hid u1
  clear g1 u1
  go_wp2_with fail
  go_ret
  exact ⟨rfl, HU.out, HG.out⟩

end Go.Proofs.Ytlfjnpioamcbhaa
