/- FnExactCountPrimes: the walk of the law: whatever the arguments it answers true and leaves all memory of before as it was. No condition. -/
import Derived.Test.YtbapdhpffglieaaCountPrimes
import Derived.Deep.RegionHeld3
import Derived.Deep.DeepCutAuto
namespace Go.Proofs.Ytbapdhpffglieaa
open Go.RowKit

set_option maxHeartbeats 4000000 in
theorem walkCountPrimes (a0 : Int) (a1 : Int) (w : World) (bd0 : -9223372036854775808 ≤ a0 ∧ a0 ≤ 9223372036854775807) (bd1 : -9223372036854775808 ≤ a1 ∧ a1 ≤ 9223372036854775807) :
    Calls Try.prog 4 #[.int .i64 a0, .int .i64 a1] w fun e w' => e = .returned (.bool true) ∧ Below w.heap.size w w' := by
  go_enter Try.func4, Try.ntmps4
  go_wp2_with fail
  refine (count_ref a0 a1 _ bd0 bd1).mono ?_
  rintro e w1 ⟨rfl, b1⟩
  have B1 := bthen (Below.refl w.heap.size w) b1
  clear b1
  go_wp2_with fail
  refine (count_own a0 a1 _ bd0 bd1).mono ?_
  rintro e w2 ⟨rfl, b2⟩
  have B2 := bthen B1 b2
  clear B1 b2
  go_wp2_with fail
  go_ret
  exact ⟨rfl, B2⟩
end Go.Proofs.Ytbapdhpffglieaa
