/- The bounds of Cauchy for a root of a polynomial, over the rational numbers. No condition: plain lemmas. -/
import Derived.Test.YtfbekiphlaaieaaFlr
namespace Go.Proofs.Ytfbekiphlaaieaa

def nq (a : Rat × Rat) : Rat := a.1 * a.1 + a.2 * a.2
def qmul (a b : Rat × Rat) : Rat × Rat := (a.1 * b.1 - a.2 * b.2, a.1 * b.2 + a.2 * b.1)
def qadd (a b : Rat × Rat) : Rat × Rat := (a.1 + b.1, a.2 + b.2)
theorem rsq_nonneg (x : Rat) : 0 ≤ x * x := by
  by_cases h : 0 ≤ x
  · exact Rat.mul_nonneg h h
  · have h1 : 0 ≤ -x := by grind
    have := Rat.mul_nonneg h1 h1
    grind
theorem nq_nonneg (a : Rat × Rat) : 0 ≤ nq a := by
  have h1 := rsq_nonneg a.1
  have h2 := rsq_nonneg a.2
  unfold nq; grind
theorem nq_mul (a b : Rat × Rat) : nq (qmul a b) = nq a * nq b := by unfold nq qmul; grind
theorem key (a c : Rat × Rat) (S m : Rat) (hS : 0 ≤ S) (hm : 0 ≤ m) (h1 : S * ((1 + m) * (1 + m)) ≤ nq a) (h2 : nq c ≤ S * (m * m)) : S ≤ nq (qadd a c) := by
  refine Classical.byContradiction fun hn => ?_
  have hlt : nq (qadd a c) < S := by grind
  obtain ⟨d, hd⟩ : ∃ d, d = qadd a c := ⟨_, rfl⟩
  rw [← hd] at hlt
  have ea : nq a = nq d + nq c - 2 * (d.1 * c.1 + d.2 * c.2) := by rw [hd]; unfold nq qadd; grind
  have cs : (d.1 * c.1 + d.2 * c.2) * (d.1 * c.1 + d.2 * c.2) ≤ nq d * nq c := by
    have h := rsq_nonneg (d.1 * c.2 - d.2 * c.1)
    have e : nq d * nq c = (d.1 * c.1 + d.2 * c.2) * (d.1 * c.1 + d.2 * c.2) + (d.1 * c.2 - d.2 * c.1) * (d.1 * c.2 - d.2 * c.1) := by unfold nq; grind
    grind
  have hSm := Rat.mul_nonneg hS hm
  have h3 : nq d * nq c ≤ (S * m) * (S * m) := by
    have a1 : nq d * nq c ≤ S * nq c := Rat.mul_le_mul_of_nonneg_right (Rat.le_of_lt hlt) (nq_nonneg c)
    have a2 : S * nq c ≤ S * (S * (m * m)) := Rat.mul_le_mul_of_nonneg_left h2 hS
    grind
  have h4 : -(d.1 * c.1 + d.2 * c.2) ≤ S * m := by
    refine sq_anti hSm ?_
    have e1 : -(d.1 * c.1 + d.2 * c.2) * -(d.1 * c.1 + d.2 * c.2) = (d.1 * c.1 + d.2 * c.2) * (d.1 * c.1 + d.2 * c.2) := by grind
    rw [e1]
    grind
  grind

/-- A root is at most 1 more than the greatest term. -/
theorem cauchy_up (n : Nat) (v c : Nat → Rat × Rat) (z : Rat × Rat) (m : Rat) (hm : 0 ≤ m) (hn : 1 ≤ nq (v n)) (hv : ∀ k, k < n → v k = qadd (qmul (v (k + 1)) z) (c k)) (h0 : v 0 = (0, 0)) (hc : ∀ k, k < n → nq (c k) ≤ m * m) : nq z ≤ (1 + m) * (1 + m) := by
  refine Classical.byContradiction fun hz => ?_
  have hz' : (1 + m) * (1 + m) < nq z := by grind
  have h : ∀ j, j ≤ n → 1 ≤ nq (v (n - j)) := by
    intro j
    induction j with
    | zero => intro _; exact hn
    | succ j ih =>
      intro hj
      have h1 := ih (by omega)
      have e : n - (j + 1) + 1 = n - j := by omega
      rw [hv (n - (j + 1)) (by omega), e]
      refine key _ _ 1 m (by decide) hm ?_ ?_
      · rw [nq_mul]
        have h2 := Rat.mul_le_mul_of_nonneg_right h1 (nq_nonneg z)
        grind
      · have := hc (n - (j + 1)) (by omega)
        grind
  have h1 := h n (Nat.le_refl _)
  rw [Nat.sub_self, h0] at h1
  have : nq (0, 0) = 0 := by unfold nq; grind
  rw [this] at h1
  exact absurd h1 (by decide)

/-- .. and at least 1 over 1 more than the greatest term, the last being 1. -/
theorem cauchy_low (n : Nat) (v c : Nat → Rat × Rat) (z : Rat × Rat) (m : Rat) (hm : 0 ≤ m) (hn : 1 ≤ n) (hv : ∀ k, k < n → v k = qadd (qmul (v (k + 1)) z) (c k)) (h0 : v 0 = (0, 0)) (hvn : v n = c n) (hc0 : 0 < nq (c 0)) (hc : ∀ k, 1 ≤ k → k ≤ n → nq (c k) ≤ nq (c 0) * (m * m)) : 1 ≤ nq z * ((1 + m) * (1 + m)) := by
  refine Classical.byContradiction fun hz => ?_
  have hz' : nq z * ((1 + m) * (1 + m)) < 1 := by grind
  obtain ⟨S, hS⟩ : ∃ S, S = nq (c 0) := ⟨_, rfl⟩
  rw [← hS] at hc0 hc
  have hM : 0 ≤ (1 + m) * (1 + m) := rsq_nonneg _
  -- from N(v z) at least S to N(v)
  have up : ∀ k, S ≤ nq (qmul (v k) z) → S * ((1 + m) * (1 + m)) ≤ nq (v k) := by
    intro k hk
    rw [nq_mul] at hk
    refine Classical.byContradiction fun hnn => ?_
    have h1 : nq (v k) < S * ((1 + m) * (1 + m)) := by grind
    have h2 : nq (v k) * nq z ≤ S * ((1 + m) * (1 + m)) * nq z := Rat.mul_le_mul_of_nonneg_right (Rat.le_of_lt h1) (nq_nonneg z)
    have h3 := Rat.mul_lt_mul_of_pos_left hz' hc0
    grind
  have h : ∀ k, 1 ≤ k → k ≤ n → S * ((1 + m) * (1 + m)) ≤ nq (v k) := by
    intro k
    induction k with
    | zero => intro h _; omega
    | succ k ih =>
      intro _ hk
      refine up (k + 1) ?_
      rcases Nat.eq_zero_or_pos k with e | hpos
      · subst e
        have e1 := hv 0 (by omega)
        rw [h0] at e1
        have e2 : nq (qmul (v (0 + 1)) z) = nq (c 0) := by
          have e3 : qmul (v (0 + 1)) z = (-(c 0).1, -(c 0).2) := by
            unfold qadd at e1
            have e4 := congrArg Prod.fst e1
            have e5 := congrArg Prod.snd e1
            simp only at e4 e5
            refine Prod.ext ?_ ?_ <;> simp only <;> grind
          rw [e3]
          unfold nq
          grind
        rw [e2, ← hS]
        grind
      · have h1 := ih hpos (by omega)
        have e1 := hv k (by omega)
        have e2 : qmul (v (k + 1)) z = qadd (v k) (-(c k).1, -(c k).2) := by
          unfold qadd at e1
          have e4 := congrArg Prod.fst e1
          have e5 := congrArg Prod.snd e1
          simp only at e4 e5
          unfold qadd
          refine Prod.ext ?_ ?_ <;> simp only <;> grind
        rw [e2]
        refine key _ _ S m (Rat.le_of_lt hc0) hm h1 ?_
        have h2 := hc k hpos (by omega)
        have e3 : nq (-(c k).1, -(c k).2) = nq (c k) := by unfold nq; grind
        rw [e3]
        exact h2
  have h1 := h n hn (Nat.le_refl _)
  have h2 := hc n hn (Nat.le_refl _)
  rw [hvn] at h1
  have h3 : S * (m * m) < S * ((1 + m) * (1 + m)) := by
    refine Rat.mul_lt_mul_of_pos_left ?_ hc0
    grind
  grind
end Go.Proofs.Ytfbekiphlaaieaa
