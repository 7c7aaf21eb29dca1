/- Floats: sums, differences, products, conversions and comparisons of words that stand for numbers. Condition: the numbers are less than 2 to the power of 60. -/
import Derived.Test.YtfbekiphlaaieaaFlv
namespace Go.Proofs.Ytfbekiphlaaieaa
open Ieee

theorem V.uniq {k : FloatKind} {b : Nat} {q q' : Rat} (h : V k b q) (h' : V k b q') : q = q' := by
  obtain ⟨s, m, e, h1, rfl⟩ := h
  obtain ⟨s', m', e', h2, rfl⟩ := h'
  rw [h1] at h2
  cases h2
  rfl

/-- r stands for q rounded, and for q itself where q has few digits. -/
structure Rounded (k : FloatKind) (q : Rat) (r : Nat) (q' : Rat) : Prop where
  val : V k r q'
  near : Near q q'
  exact_ : ∀ (c : Nat) (p : Int), ab q = (c : Rat) * two p → (c : Rat) < two (digits k) → -149 ≤ p → q' = q

theorem rounded (k : FloatKind) (s : Bool) (m : Nat) (e : Int) (q : Rat) (hq : sv s m e = q) (hb : ab q < two 60) : ∃ q', Rounded k q (k.encode (.number s m e)) q' := by
  obtain ⟨q', h1, h2, h3⟩ := rnd k s m e q hq.symm hb
  exact ⟨q', h1, h2, h3⟩

theorem signed_val (s : Bool) (m : Nat) (i base : Int) (h : base ≤ i) : ((signed s m (i - base).toNat : Int) : Rat) * two base = sv s m i := by
  obtain ⟨d, rfl⟩ : ∃ d : Nat, i = base + d := ⟨(i - base).toNat, by omega⟩
  have e : (base + (d : Int) - base).toNat = d := by omega
  rw [e]
  unfold signed sv sg
  rw [two_add, two_nat, Nat.shiftLeft_eq]
  cases s
  · simp only [Bool.false_eq_true, if_false]
    push_cast
    grind
  · simp only [if_true]
    push_cast
    grind

theorem total_val (t : Int) (z : Bool) (base : Int) : sv (if t = 0 then z else decide (t < 0)) t.natAbs base = (t : Rat) * two base := by
  unfold sv sg
  by_cases h0 : t = 0
  · subst h0
    simp
  · rw [if_neg h0]
    by_cases h1 : t < 0
    · rw [decide_eq_true h1, if_pos rfl]
      have : (t.natAbs : Int) = -t := by omega
      have h2 : ((t.natAbs : Nat) : Rat) = -(t : Rat) := by
        rw [← Rat.intCast_natCast, this]
        push_cast
        rfl
      rw [h2]
      grind
    · rw [decide_eq_false h1, if_neg (by simp)]
      have : (t.natAbs : Int) = t := by omega
      have h2 : ((t.natAbs : Nat) : Rat) = (t : Rat) := by
        rw [← Rat.intCast_natCast, this]
      rw [h2]
      grind

theorem sum_val (s t : Bool) (m n : Nat) (i j : Int) : ∃ z M e, Datum.sum (.number s m i) (.number t n j) = some (.number z M e) ∧ sv z M e = sv s m i + sv t n j := by
  refine ⟨_, _, _, rfl, ?_⟩
  rw [total_val]
  rw [← signed_val s m i (min i j) (by omega), ← signed_val t n j (min i j) (by omega)]
  push_cast
  grind

theorem op_add {k : FloatKind} {x y : Nat} {a b : Rat} (hx : V k x a) (hy : V k y b) (hb : ab (a + b) < two 60) : ∃ r q, floatBits .add k x y = some r ∧ Rounded k (a + b) r q := by
  obtain ⟨s, m, i, h1, rfl⟩ := hx
  obtain ⟨t, n, j, h2, rfl⟩ := hy
  obtain ⟨z, M, e, h3, h4⟩ := sum_val s t m n i j
  obtain ⟨q, hq⟩ := rounded k z M e _ h4 hb
  refine ⟨_, q, ?_, hq⟩
  show Option.map _ (Datum.sum (k.decode x) (k.decode y)) = _
  rw [h1, h2, h3]
  rfl
theorem op_sub {k : FloatKind} {x y : Nat} {a b : Rat} (hx : V k x a) (hy : V k y b) (hb : ab (a - b) < two 60) : ∃ r q, floatBits .sub k x y = some r ∧ Rounded k (a - b) r q := by
  obtain ⟨s, m, i, h1, rfl⟩ := hx
  obtain ⟨t, n, j, h2, rfl⟩ := hy
  obtain ⟨z, M, e, h3, h4⟩ := sum_val s (!t) m n i j
  have h5 : sv (!t) n j = -sv t n j := by unfold sv sg; cases t <;> grind
  rw [h5] at h4
  have h6 : sv s m i + -sv t n j = sv s m i - sv t n j := by grind
  rw [h6] at h4
  obtain ⟨q, hq⟩ := rounded k z M e _ h4 hb
  refine ⟨_, q, ?_, hq⟩
  show Option.map _ (Datum.sum (k.decode x) (k.decode y).opposite) = _
  rw [h1, h2]
  show Option.map _ (Datum.sum (.number s m i) (.number (!t) n j)) = _
  rw [h3]
  rfl
theorem op_mul {k : FloatKind} {x y : Nat} {a b : Rat} (hx : V k x a) (hy : V k y b) (hb : ab (a * b) < two 60) : ∃ r q, floatBits .mul k x y = some r ∧ Rounded k (a * b) r q := by
  obtain ⟨s, m, i, h1, rfl⟩ := hx
  obtain ⟨t, n, j, h2, rfl⟩ := hy
  have h4 : sv (s ^^ t) (m * n) (i + j) = sv s m i * sv t n j := by
    unfold sv sg
    rw [two_add]
    push_cast
    cases s <;> cases t <;> simp <;> grind
  obtain ⟨q, hq⟩ := rounded k (s ^^ t) (m * n) (i + j) _ h4 hb
  refine ⟨_, q, ?_, hq⟩
  show Option.map _ (Datum.product (k.decode x) (k.decode y)) = _
  rw [h1, h2]
  rfl
theorem op_conv {k k' : FloatKind} {x : Nat} {a : Rat} (hx : V k x a) (hne : k ≠ k') (hb : ab a < two 60) : ∃ r q, floatToFloatBits k x k' = some r ∧ Rounded k' a r q := by
  obtain ⟨s, m, i, h1, rfl⟩ := hx
  obtain ⟨q, hq⟩ := rounded k' s m i _ rfl hb
  refine ⟨_, q, ?_, hq⟩
  unfold floatToFloatBits
  rw [if_neg hne, h1]
  obtain ⟨s', m', e', h2, _⟩ := hq.val
  simp only [h2]
  rfl

theorem order_val {k : FloatKind} {x y : Nat} {a b : Rat} (hx : V k x a) (hy : V k y b) : k.format.order x y = some (if a < b then .lt else if a = b then .eq else .gt) := by
  obtain ⟨s, m, i, h1, rfl⟩ := hx
  obtain ⟨t, n, j, h2, rfl⟩ := hy
  show Datum.order (k.decode x) (k.decode y) = _
  rw [h1, h2]
  show some (compare (signed s m (i - min i j).toNat) (signed t n (j - min i j).toNat)) = _
  have e1 := signed_val s m i (min i j) (by omega)
  have e2 := signed_val t n j (min i j) (by omega)
  rw [← e1, ← e2]
  generalize signed s m (i - min i j).toNat = A
  generalize signed t n (j - min i j).toNat = B
  have hp := two_pos (min i j)
  congr 1
  have hlt : (A : Rat) * two (min i j) < (B : Rat) * two (min i j) ↔ A < B := by
    rw [Rat.mul_lt_mul_right hp]
    exact Rat.intCast_lt_intCast
  have heq : (A : Rat) * two (min i j) = (B : Rat) * two (min i j) ↔ A = B := by
    constructor
    · intro h
      have h1 : ¬ A < B := fun h2 => by have := hlt.2 h2; grind
      have hgt : (B : Rat) * two (min i j) < (A : Rat) * two (min i j) ↔ B < A := by
        rw [Rat.mul_lt_mul_right hp]
        exact Rat.intCast_lt_intCast
      have h3 : ¬ B < A := fun h2 => by have := hgt.2 h2; grind
      omega
    · intro h; rw [h]
  rw [Int.compare_eq_ite_lt]
  simp only [hlt, heq]
  by_cases h1 : A < B
  · simp [h1]
  · by_cases h2 : A = B
    · subst h2; simp
    · have : B < A := by omega
      simp [h1, h2, this]
end Go.Proofs.Ytfbekiphlaaieaa
