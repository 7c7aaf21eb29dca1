/- Contracts of the program's 'last' and 'degree'. Condition: at least one term for 'last'. -/
import Derived.Test.YtlfjnpioamcbhaaValidWhole
namespace Go.Proofs.Ytlfjnpioamcbhaa
open Go.RowKit

theorem last_any (A : Option Addr) (n c : Nat) (xs : List Int) (w : World) (h : Rd w w.heap.size A n c xs) (hn : 0 < n) :
    Calls Try.prog 76 #[.agg #[.slice A n c]] w fun e w' => e = .returned (.int .i64 (lastOf xs)) ∧ Below w.heap.size w w' := by
  have hmax : n ≤ 9223372036854775807 := by have h1 := h.cap; have h2 := h.most; unfold maxLen at h2; omega
  obtain ⟨b, o, rfl, hbl, hc⟩ := h.at_ hn
  have hl := last_cellW h hn
  have hlA : ∀ T, (w.alloc (.cells #[.slice (some ⟨b, o, none⟩) n c] T)).cell? ⟨b, o + (n - 1), none⟩ = some (.int .i64 (lastOf xs)) := fun T => cell_kept (al1 w _) hl
  clear hc hl
  generalize lastOf xs = z at hlA ⊢
  have hz1 : (1 : Int) ≤ (n : Int) := by omega
  go_enter Try.func76, Try.ntmps76
  go_wp2_with fail
  go_ret
  exact ⟨rfl, al1 w _⟩
theorem degree_any (A : Option Addr) (n c : Nat) (w : World) (hn : n ≤ 9223372036854775807) :
    Calls Try.prog 44 #[.agg #[.slice A n c]] w fun e w' => e = .returned (.int .i64 ((n : Int) - 1)) ∧ Below w.heap.size w w' := by
  go_enter Try.func44, Try.ntmps44
  go_wp2_with fail
  go_ret
  exact ⟨rfl, al1 w _⟩

end Go.Proofs.Ytlfjnpioamcbhaa
