/- Contracts of the tests whether a whole is 0. No condition. -/
import Derived.Test.YtanfmhhkabdieaaValidWhole
namespace Go.Proofs.Ytanfmhhkabdieaa
open Go.RowKit

/-- The terms of 0. -/
def zeroB (xs : List Int) : Bool := decide (xs.length = 1) && decide (xs.getD 0 0 = 0)

theorem zero_ref (A : Option Addr) (n c : Nat) (xs : List Int) (w : World) (h : Rd w w.heap.size A n c xs) :
    Calls Try.prog 47 #[.slice A n c] w fun e w' => e = .returned (.bool (zeroB xs)) ∧ w = w' := by
  have hmax : n ≤ 9223372036854775807 := by have h1 := h.cap; have h2 := h.most; unfold maxLen at h2; omega
  have hf : ∀ b : Bool, (decide (n = 1) && decide (xs.getD 0 0 = 0)) = b → zeroB xs = b := by
    intro b hb
    rw [← hb]
    unfold zeroB
    rw [h.len]
  generalize zeroB xs = r at hf ⊢
  have HF := Lib.hid hf
  clear hf
  by_cases h1 : n = 1
  · subst h1
    obtain ⟨b, o, rfl, hbl, hc⟩ := h.at_ (by omega)
    have hx := hc 0 (by omega)
    rw [Nat.add_zero] at hx
    clear hc
    have _tok := True.intro
    generalize xs.getD 0 0 = y at hx HF
    by_cases hy : y = 0
    · subst hy
      go_enter Try.func47, Try.ntmps47
      go_wp2_with fail
      go_ret
      exact ⟨ret_bool (HF.out _ (by simp)).symm, rfl⟩
    · have hne : (y == 0) = false := by simpa using hy
      have HN := Lib.hid hy
      clear hy
      go_enter Try.func47, Try.ntmps47
      go_wp2_with fail
      go_ret
      exact ⟨ret_bool (HF.out _ (by simp [HN.out])).symm, rfl⟩
  · have hne : ((n : Int) == 1) = false := by simp; omega
    go_enter Try.func47, Try.ntmps47
    go_wp2_with fail
    go_ret
    exact ⟨ret_bool (HF.out _ (by simp [h1])).symm, rfl⟩

theorem zero_own (A : Option Addr) (n c : Nat) (xs : List Int) (w : World) (h : Rd w w.heap.size A n c xs) :
    Calls Try.prog 49 #[.agg #[.slice A n c]] w fun e w' => e = .returned (.bool (zeroB xs)) ∧ Below w.heap.size w w' := by
  have hmax : n ≤ 9223372036854775807 := by have h1 := h.cap; have h2 := h.most; unfold maxLen at h2; omega
  have hf : ∀ b : Bool, (decide (n = 1) && decide (xs.getD 0 0 = 0)) = b → zeroB xs = b := by
    intro b hb
    rw [← hb]
    unfold zeroB
    rw [h.len]
  generalize zeroB xs = r at hf ⊢
  have HF := Lib.hid hf
  clear hf
  by_cases h1 : n = 1
  · subst h1
    obtain ⟨b, o, rfl, hbl, hc⟩ := h.at_ (by omega)
    have hx := hc 0 (by omega)
    rw [Nat.add_zero] at hx
    clear hc
    have hxA : ∀ T, (w.alloc (.cells #[.slice (some ⟨b, o, none⟩) 1 c] T)).cell? ⟨b, o, none⟩ = some (.int .i64 (xs.getD 0 0)) := fun T => cell_kept (al1 w _) hx
    clear hx
    generalize xs.getD 0 0 = y at hxA HF
    by_cases hy : y = 0
    · subst hy
      go_enter Try.func49, Try.ntmps49
      go_wp2_with fail
      go_ret
      exact ⟨ret_bool (HF.out _ (by simp)).symm, al1 w _⟩
    · have hne : (y == 0) = false := by simpa using hy
      have HN := Lib.hid hy
      clear hy
      go_enter Try.func49, Try.ntmps49
      go_wp2_with fail
      go_ret
      exact ⟨ret_bool (HF.out _ (by simp [HN.out])).symm, al1 w _⟩
  · have hne : ((n : Int) == 1) = false := by simp; omega
    go_enter Try.func49, Try.ntmps49
    go_wp2_with fail
    go_ret
    exact ⟨ret_bool (HF.out _ (by simp [h1])).symm, al1 w _⟩
end Go.Proofs.Ytanfmhhkabdieaa
