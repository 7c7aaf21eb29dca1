/- Floats: the negative, the greater and the less of two words, the quotient of positive numbers, the square root in double precision. Condition: the numbers are less than 2 to the power of 60. -/
import Derived.Test.YtfbekiphlaaieaaFlp
namespace Go.Proofs.Ytfbekiphlaaieaa
open Ieee

theorem sg_not (s : Bool) : sg (!s) = -sg s := by cases s <;> simp [sg]
theorem V_neg {k : FloatKind} {x : Nat} {a : Rat} (hx : V k x a) : V k (Op.negFloat k x) (-a) := by
  obtain ⟨s, m, e, h1, rfl⟩ := hx
  refine ⟨!s, m, e, ?_, by unfold sv; rw [sg_not]; grind⟩
  have hw : k.format.signWeight = 2 ^ (k.format.exponentBits + k.format.fractionBits) := rfl
  have h2 : Op.negFloat k x % k.format.signWeight = x % k.format.signWeight := by
    unfold Op.negFloat
    rw [hw, Nat.xor_mod_two_pow, Nat.mod_self, Nat.xor_zero]
  have h3 : Op.negFloat k x / k.format.signWeight = (x / k.format.signWeight) ^^^ 1 := by
    unfold Op.negFloat
    rw [hw, Nat.xor_div_two_pow, Nat.div_self (Nat.two_pow_pos _)]
  have h4 : (Op.negFloat k x / k.format.signWeight % 2 == 1) = !(x / k.format.signWeight % 2 == 1) := by
    rw [h3]
    generalize x / k.format.signWeight = y
    have h5 : (y ^^^ 1) % 2 = (y % 2) ^^^ 1 := by
      have := Nat.xor_mod_two_pow (a := y) (b := 1) (n := 1)
      simpa using this
    rw [h5]
    rcases Nat.mod_two_eq_zero_or_one y with h | h <;> rw [h] <;> rfl
  show k.format.read _ = _
  have h1' : k.format.read x = .number s m e := h1
  unfold Format.read at h1' ⊢
  simp only [h2, h4]
  simp only at h1'
  split at h1'
  · rename_i h6
    rw [if_pos h6]
    cases h1'
    rfl
  · rename_i h6
    rw [if_neg h6]
    split at h1'
    · rename_i h7
      rw [if_pos h7]
      cases h1'
      rfl
    · split at h1' <;> cases h1'

def rmax (a b : Rat) : Rat := if a < b then b else a
def rmin (a b : Rat) : Rat := if b < a then b else a
/-- The word that 'max' picks. -/
def maxW (k : FloatKind) (x y : Nat) : Nat := if k.format.order x y = some .lt then y else if k.format.order x y = some .gt then x else if (k.decode x).neg then y else x
def minW (k : FloatKind) (x y : Nat) : Nat := if k.format.order x y = some .lt then x else if k.format.order x y = some .gt then y else if (k.decode x).neg then x else y
theorem V_max {k : FloatKind} {x y : Nat} {a b : Rat} (hx : V k x a) (hy : V k y b) : V k (maxW k x y) (rmax a b) := by
  unfold maxW rmax
  rw [order_val hx hy]
  by_cases h1 : a < b
  · simp [h1]; exact hy
  · by_cases h2 : a = b
    · subst h2
      simp only [h1, if_false, if_true]
      simp
      split
      · exact hy
      · exact hx
    · simp [h1, h2]; exact hx
theorem V_min {k : FloatKind} {x y : Nat} {a b : Rat} (hx : V k x a) (hy : V k y b) : V k (minW k x y) (rmin a b) := by
  unfold minW rmin
  rw [order_val hx hy]
  by_cases h1 : a < b
  · have h3 : ¬ b < a := by grind
    simp [h1, h3]; exact hx
  · by_cases h2 : a = b
    · subst h2
      simp only [h1, if_false, if_true]
      simp
      split
      · exact hx
      · exact hy
    · have h3 : b < a := by grind
      simp [h1, h2, h3]; exact hy

theorem root_from (n : Nat) : ∀ (todo root : Nat), root * root ≤ n → n < (root + 2 ^ todo) * (root + 2 ^ todo) → Datum.rootFrom n todo root * Datum.rootFrom n todo root ≤ n ∧ n < (Datum.rootFrom n todo root + 1) * (Datum.rootFrom n todo root + 1) := by
  intro todo
  induction todo with
  | zero => intro root h1 h2; exact ⟨h1, by simpa [Datum.rootFrom] using h2⟩
  | succ t ih =>
    intro root h1 h2
    unfold Datum.rootFrom
    simp only [Nat.one_shiftLeft]
    by_cases h : (root + 2 ^ t) * (root + 2 ^ t) ≤ n
    · rw [if_pos h]
      refine ih _ h ?_
      have e : root + 2 ^ t + 2 ^ t = root + 2 ^ (t + 1) := by rw [Nat.pow_succ]; omega
      rw [e]
      exact h2
    · rw [if_neg h]
      exact ih _ h1 (by omega)
theorem root_of (n : Nat) : Datum.rootFrom n (n.log2 / 2 + 1) 0 * Datum.rootFrom n (n.log2 / 2 + 1) 0 ≤ n ∧ n < (Datum.rootFrom n (n.log2 / 2 + 1) 0 + 1) * (Datum.rootFrom n (n.log2 / 2 + 1) 0 + 1) := by
  refine root_from n _ 0 (by omega) ?_
  have h1 : n < 2 ^ (n.log2 + 1) := Nat.lt_log2_self
  rw [Nat.zero_add, ← Nat.pow_add]
  exact Nat.lt_of_lt_of_le h1 (Nat.pow_le_pow_right (by omega) (by omega))

/-- The root in double precision: its square is the number, nearly. -/
theorem root_val (m : Nat) (i : Int) (hm : 0 < m) : ∃ (M : Nat) (e h : Int) (w : Nat), Datum.root 54 (.number false m i) = some (.number false M e) ∧ (w : Rat) * w * (two h * two h) ≤ (m : Rat) * two i ∧ (m : Rat) * two i < ((w : Rat) + 1) * ((w : Rat) + 1) * (two h * two h) ∧ two 53 ≤ (w : Rat) ∧ (w : Rat) * two h ≤ sv false M e ∧ sv false M e ≤ ((w : Rat) + 1) * two h := by
  have h0 : ¬ m = 0 := by omega
  unfold Datum.root
  dsimp only
  rw [if_neg h0]
  simp only [Bool.false_eq_true, if_false]
  generalize hmore : 2 * 54 - m.log2 + ((i - ((2 * 54 - m.log2 : Nat) : Int)) % 2).toNat = more
  have hpar : (i - (more : Int)) % 2 = 0 := by omega
  have hmore' : 108 ≤ m.log2 + more := by omega
  obtain ⟨h, hh⟩ : ∃ h : Int, i - (more : Int) = h + h := ⟨(i - more) / 2, by omega⟩
  have hh2 : (i - (more : Int)) / 2 = h := by omega
  rw [hh2]
  obtain ⟨r1, r2⟩ := root_of (m <<< more)
  generalize hw : Datum.rootFrom (m <<< more) ((m <<< more).log2 / 2 + 1) 0 = w at r1 r2 ⊢
  have hn : ((m <<< more : Nat) : Rat) * (two h * two h) = (m : Rat) * two i := by
    have e1 : i = (h + h) + (more : Int) := by omega
    rw [e1, two_add, two_add, two_nat, Nat.shiftLeft_eq]
    push_cast
    grind
  have hbig : 2 ^ 108 ≤ m <<< more := by
    rw [Nat.shiftLeft_eq]
    have h2 : 2 ^ m.log2 ≤ m := Nat.log2_self_le (by omega)
    have h3 : 2 ^ (m.log2 + more) ≤ m * 2 ^ more := by rw [Nat.pow_add]; exact Nat.mul_le_mul_right _ h2
    exact Nat.le_trans (Nat.pow_le_pow_right (by omega) hmore') h3
  have hw53 : 2 ^ 53 ≤ w := by
    rcases Nat.lt_or_ge w (2 ^ 53) with hlt | hge
    · exfalso
      have h5 : (w + 1) * (w + 1) ≤ 2 ^ 53 * 2 ^ 53 := Nat.mul_le_mul (by omega) (by omega)
      omega
    · exact hge
  have hpos : 0 < two h * two h := Rat.mul_pos (two_pos h) (two_pos h)
  refine ⟨_, _, h, w, rfl, ?_, ?_, ?_, ?_, ?_⟩
  · rw [← hn]
    have : (w : Rat) * w ≤ ((m <<< more : Nat) : Rat) := by exact_mod_cast r1
    exact Rat.mul_le_mul_of_nonneg_right this (Rat.le_of_lt hpos)
  · rw [← hn]
    have : ((m <<< more : Nat) : Rat) < ((w : Rat) + 1) * ((w : Rat) + 1) := by exact_mod_cast r2
    exact Rat.mul_lt_mul_of_pos_right this hpos
  · have h6 := two_nat 53
    have h7 : two ((53 : Nat) : Int) = two 53 := rfl
    rw [← h7, h6]
    exact_mod_cast hw53
  · have e2 : two h = 2 * two (h - 1) := by
      have e3 : h = 1 + (h - 1) := by omega
      rw [show two h = two (1 + (h - 1)) by rw [← e3], two_add]
      rfl
    unfold sv sg
    have hp := two_pos (h - 1)
    rw [e2]
    simp only [Bool.false_eq_true, if_false]
    push_cast
    cases (w * w != m <<< more)
    · simp; grind
    · simp; grind
  · have e2 : two h = 2 * two (h - 1) := by
      have e3 : h = 1 + (h - 1) := by omega
      rw [show two h = two (1 + (h - 1)) by rw [← e3], two_add]
      rfl
    unfold sv sg
    have hp := two_pos (h - 1)
    rw [e2]
    simp only [Bool.false_eq_true, if_false]
    push_cast
    cases (w * w != m <<< more)
    · simp; grind
    · simp; grind
end Go.Proofs.Ytfbekiphlaaieaa
