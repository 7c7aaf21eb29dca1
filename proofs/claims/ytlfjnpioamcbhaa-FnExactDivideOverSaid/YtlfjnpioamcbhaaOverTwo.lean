/- The program's test of two wholes over a prime. No condition. -/
import Derived.Test.YtlfjnpioamcbhaaOverTest
namespace Go.Proofs.Ytlfjnpioamcbhaa
open Go.RowKit
theorem overB_bd {xs : List Int} {p : Int} (h : overB xs p = true) (hp : 2 ≤ p ∧ p ≤ 13) (j : Nat) : 0 ≤ xs.getD j 0 ∧ xs.getD j 0 ≤ 12 := by
  unfold overB at h
  rw [Bool.and_eq_true] at h
  by_cases hj : j < xs.length
  · have := inB_true.1 (allIn_iff.1 h.2 j hj)
    omega
  · simp only [List.getD, List.getElem?_eq_none (Nat.le_of_not_lt hj)]; simp
theorem overB_ok {xs : List Int} {p : Int} (h : overB xs p = true) : okW xs = true := by
  unfold overB at h
  rw [Bool.and_eq_true] at h
  exact h.1
theorem over2_own (A : Option Addr) (n c : Nat) (xs : List Int) (A' : Option Addr) (m c' : Nat) (ys : List Int) (p : Int) (bl : Nat) (w : World)
    (h0 : w.cell? ⟨bl, 0, none⟩ = some (.slice A n c)) (h1 : w.cell? ⟨bl, 1, none⟩ = some (.slice A' m c')) (h : Rd w w.heap.size A n c xs) (h' : Rd w w.heap.size A' m c' ys) :
    Calls Try.prog 42 #[.int .i64 p, .slice (some ⟨bl, 0, none⟩) 2 2] w fun e w' => e = .returned (.bool ((primeB p && overB xs p) && (primeB p && overB ys p))) ∧ Below w.heap.size w w' := by
  have hcon := areOver_own [⟨A, n, c, xs⟩, ⟨A', m, c', ys⟩] 2 rfl (by omega) bl p w (fun j s hs => by
    match j, hs with
    | 0, hs => simp at hs; subst hs; exact ⟨h0, h⟩
    | 1, hs => simp at hs; subst hs; exact ⟨h1, h'⟩
    | j + 2, hs => simp at hs)
  have e : (primeB p && !([(⟨A, n, c, xs⟩ : Sl), ⟨A', m, c', ys⟩].any fun s => !overB s.xs p)) = ((primeB p && overB xs p) && (primeB p && overB ys p)) := by
    cases h1 : primeB p <;> cases h2 : overB xs p <;> cases h3 : overB ys p <;> simp [h2, h3]
  rw [e] at hcon
  exact hcon
end Go.Proofs.Ytlfjnpioamcbhaa
