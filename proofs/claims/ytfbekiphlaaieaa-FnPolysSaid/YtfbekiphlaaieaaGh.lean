/- BoundAt at a root: its words, and that its value is small beside the size. Condition: exact values that are small; the last is nought. -/
import Derived.Test.YtfbekiphlaaieaaGg
namespace Go.Proofs.Ytfbekiphlaaieaa

def evF (n : Nat) (xs : List (Nat × Nat)) (z : Nat × Nat) : Nat → Nat
  | 0 => g32 .mul 1056964608 (longF (hv xs n z 0))
  | j + 1 => g32 .add (g32 .mul (longF z) (evF n xs z j)) (longF (hv xs n z (j + 1)))
def Cj : Nat → Rat
  | 0 => 1
  | j + 1 => (Cj j + 1) * (1 + 1 / 10000)
def Uj : Nat → Rat
  | 0 => 1 / 1000000000000000000000000000
  | j + 1 => 9 * Uj j + 1 / 1000000000000000000000000000
theorem Cj_all {j : Nat} (h : j ≤ 5) : 1 ≤ Cj j ∧ Cj j ≤ 7 := by
  have : j = 0 ∨ j = 1 ∨ j = 2 ∨ j = 3 ∨ j = 4 ∨ j = 5 := by omega
  rcases this with rfl | rfl | rfl | rfl | rfl | rfl <;> decide +kernel
theorem Uj_all {j : Nat} (h : j ≤ 5) : 0 ≤ Uj j ∧ Uj j ≤ 1 / 1000000000000 := by
  have : j = 0 ∨ j = 1 ∨ j = 2 ∨ j = 3 ∨ j = 4 ∨ j = 5 := by omega
  rcases this with rfl | rfl | rfl | rfl | rfl | rfl <;> decide +kernel
theorem V_half : V .f32 1056964608 (1 / 2) := ⟨false, 8388608, -24, by decide +kernel, by decide +kernel⟩
theorem V_eight : V .f32 1090519040 8 := ⟨false, 8388608, -20, by decide +kernel, by decide +kernel⟩
theorem V_four : V .f32 1082130432 4 := ⟨false, 8388608, -21, by decide +kernel, by decide +kernel⟩
theorem V_ulp : V .f32 872415232 (1 / 8388608) := ⟨false, 8388608, -46, by decide +kernel, by decide +kernel⟩
/-- What is asked of the sizes of Horner's values. -/
structure Vals (n : Nat) (xs : List (Nat × Nat)) (z : Nat × Nat) (s : Nat → Rat) (ls : Nat → Rat) : Prop where
  long : ∀ j, j ≤ n → LongW (hv xs n z j) (longF (hv xs n z j)) ∧ V .f32 (longF (hv xs n z j)) (ls j) ∧ 0 ≤ ls j ∧ ls j ≤ s j * (1 + 1 / 1000000) ∧ ls j ≤ 67200000
  pos : ∀ j, j ≤ n → 0 ≤ s j ∧ s j ≤ 30000000000000

set_option maxHeartbeats 1000000 in
theorem ev_of {n : Nat} {xs : List (Nat × Nat)} {z : Nat × Nat} {s ls : Nat → Rat} (H : Vals n xs z s ls) (hn : n ≤ 5) {l ξ : Rat} (hl : V .f32 (longF z) l) (hl0 : 0 ≤ l) (hlx : l ≤ ξ * (1 + 1 / 1000000)) (hx0 : 0 ≤ ξ) (hx8 : ξ ≤ 8) (hs : ∀ j, j + 1 ≤ n → s j * ξ ≤ s (j + 1)) (j : Nat) (hj : j ≤ n) :
    ∃ e, V .f32 (evF n xs z j) e ∧ 0 ≤ e ∧ e ≤ Cj j * s j + Uj j ∧ floatBits .mul .f32 1056964608 (longF (hv xs n z 0)) = some (evF n xs z 0) ∧
      (∀ i, i < j → floatBits .mul .f32 (longF z) (evF n xs z i) = some (g32 .mul (longF z) (evF n xs z i)) ∧ floatBits .add .f32 (g32 .mul (longF z) (evF n xs z i)) (longF (hv xs n z (i + 1))) = some (evF n xs z (i + 1))) := by
  induction j with
  | zero =>
    obtain ⟨_, g2, g3, g4, g5⟩ := H.long 0 (by omega)
    have hp := H.pos 0 (by omega)
    obtain ⟨r, ρ, r1, r2⟩ := op_mul V_half g2 (by rw [t60]; unfold ab; grind)
    obtain ⟨n1, n2, n3⟩ := near_pos r2.near (by grind)
    have er : evF n xs z 0 = r := getD_of r1
    refine ⟨ρ, by rw [er]; exact r2.val, n3, ?_, by rw [er]; exact r1, fun i hi => absurd hi (Nat.not_lt_zero _)⟩
    unfold Cj Uj
    grind
  | succ j ih =>
    obtain ⟨e, h1, h2, h3, h4, h5⟩ := ih (by omega)
    obtain ⟨_, g2, g3, g4, g5⟩ := H.long (j + 1) (by omega)
    have hp := H.pos (j + 1) (by omega)
    have hp0 := H.pos j (by omega)
    have hC := Cj_all (show j ≤ 5 by omega)
    have hU := Uj_all (show j ≤ 5 by omega)
    have hle := Rat.mul_nonneg hl0 h2
    have a1 : l * e ≤ ξ * (1 + 1 / 1000000) * e := Rat.mul_le_mul_of_nonneg_right hlx h2
    have a2 : ξ * e ≤ ξ * (Cj j * s j + Uj j) := Rat.mul_le_mul_of_nonneg_left h3 hx0
    have a3 : Cj j * (s j * ξ) ≤ Cj j * s (j + 1) := Rat.mul_le_mul_of_nonneg_left (hs j hj) (by grind)
    have a4 : ξ * Uj j ≤ 8 * Uj j := Rat.mul_le_mul_of_nonneg_right hx8 hU.1
    have a5 : Cj j * s (j + 1) ≤ 7 * s (j + 1) := Rat.mul_le_mul_of_nonneg_right hC.2 hp.1
    have a6 : 0 ≤ Cj j * s (j + 1) := Rat.mul_nonneg (by grind) hp.1
    have a7 : l * e ≤ (Cj j * s (j + 1) + 8 * Uj j) * (1 + 1 / 1000000) := by grind
    obtain ⟨m, μ, m1, m2⟩ := op_mul hl h1 (by rw [t60]; unfold ab; grind)
    obtain ⟨n1, n2, n3⟩ := near_pos m2.near hle
    have em : g32 .mul (longF z) (evF n xs z j) = m := getD_of m1
    obtain ⟨r, ρ, r1, r2⟩ := op_add m2.val g2 (by rw [t60]; unfold ab; grind)
    obtain ⟨q1, q2, q3⟩ := near_pos r2.near (by grind)
    have er : evF n xs z (j + 1) = r := by
      show g32 .add (g32 .mul (longF z) (evF n xs z j)) _ = r
      rw [em]
      exact getD_of r1
    refine ⟨ρ, by rw [er]; exact r2.val, q3, ?_, h4, ?_⟩
    · unfold Cj Uj
      clear a1 a2 a3 a4 m1 m2 r1 r2 h5 h4
      have e1 : (Cj j + 1) * (1 + 1 / 10000) * s (j + 1) = (Cj j * s (j + 1) + s (j + 1)) * (1 + 1 / 10000) := by grind
      rw [e1]
      generalize Cj j * s (j + 1) = X at *
      generalize l * e = Y at *
      grind
    · intro i hi
      by_cases ei : i = j
      · subst ei
        exact ⟨by rw [em]; exact m1, by rw [em, er]; exact r1⟩
      · exact h5 i (by omega)
end Go.Proofs.Ytfbekiphlaaieaa
