/- Contracts of the two tests 'n is from lo to hi'. No condition. -/
import Derived.Test.YtlfjnpioamcbhaaBase
import Derived.Test.YtlfjnpioamcbhaaPlain
namespace Go.Proofs.Ytlfjnpioamcbhaa
open Go.RowKit

theorem in_ref (n lo hi : Int) (w : World) :
    Calls Try.prog 58 #[.int .i64 n, .int .i64 lo, .int .i64 hi] w fun e w' => e = .returned (.bool (inB n lo hi)) ∧ w = w' := by
  by_cases h1 : lo ≤ n <;> by_cases h2 : n ≤ hi
  all_goals
    go_enter Try.func58, Try.ntmps58
    go_wp2
    go_ret
    simp [inB, h1, h2]
theorem in_own (n lo hi : Int) (w : World) :
    Calls Try.prog 61 #[.int .i64 n, .int .i64 lo, .int .i64 hi] w fun e w' => e = .returned (.bool (inB n lo hi)) ∧ w = w' := by
  by_cases h1 : lo ≤ n <;> by_cases h2 : n ≤ hi
  all_goals
    go_enter Try.func61, Try.ntmps61
    go_wp2
    go_ret
    simp [inB, h1, h2]
end Go.Proofs.Ytlfjnpioamcbhaa
