/- Whole complex numbers: norms, the polynomial of roots, its quotient by one root. No condition: plain lemmas. -/
import Init
namespace Go.Proofs.Ytfbekiphlaaieaa

abbrev GI := Int × Int
def gmul (a b : GI) : GI := (a.1 * b.1 - a.2 * b.2, a.1 * b.2 + a.2 * b.1)
def gadd (a b : GI) : GI := (a.1 + b.1, a.2 + b.2)
def gsub (a b : GI) : GI := (a.1 - b.1, a.2 - b.2)
def nrm (a : GI) : Int := a.1 * a.1 + a.2 * a.2
theorem sq_nonneg (x : Int) : 0 ≤ x * x := by
  rcases Int.le_total 0 x with h | h
  · exact Int.mul_nonneg h h
  · have := Int.mul_nonneg_of_nonpos_of_nonpos h h; exact this
theorem nrm_nonneg (a : GI) : 0 ≤ nrm a := by
  have h1 := sq_nonneg a.1
  have h2 := sq_nonneg a.2
  unfold nrm; omega
theorem nrm_mul (a b : GI) : nrm (gmul a b) = nrm a * nrm b := by unfold nrm gmul; grind
theorem le_of_sq {x y : Int} (hy : 0 ≤ y) (h : x * x ≤ y * y) : x ≤ y := by
  rcases Int.lt_or_le y x with h1 | h1
  · exfalso
    have h2 : y * y < x * x := by
      have a1 : y * y ≤ y * x := Int.mul_le_mul_of_nonneg_left (by omega) hy
      have a2 : y * x < x * x := Int.mul_lt_mul_of_pos_right h1 (by omega)
      omega
    omega
  · exact h1
theorem part_le {a : GI} {B : Int} (hB : 0 ≤ B) (h : nrm a ≤ B * B) : a.1.natAbs ≤ B.natAbs ∧ a.2.natAbs ≤ B.natAbs := by
  have h1 := sq_nonneg a.1
  have h2 := sq_nonneg a.2
  unfold nrm at h
  have p1 : a.1 ≤ B := le_of_sq hB (by omega)
  have p2 : -a.1 ≤ B := le_of_sq hB (by have : -a.1 * -a.1 = a.1 * a.1 := by grind
                                        omega)
  have p3 : a.2 ≤ B := le_of_sq hB (by omega)
  have p4 : -a.2 ≤ B := le_of_sq hB (by have : -a.2 * -a.2 = a.2 * a.2 := by grind
                                        omega)
  omega
theorem nrm_sub {a b : GI} {α β : Int} (hα : 0 ≤ α) (hβ : 0 ≤ β) (ha : nrm a ≤ α * α) (hb : nrm b ≤ β * β) : nrm (gsub a b) ≤ (α + β) * (α + β) := by
  have cs : (a.1 * b.1 + a.2 * b.2) * (a.1 * b.1 + a.2 * b.2) ≤ nrm a * nrm b := by
    have h := sq_nonneg (a.1 * b.2 - a.2 * b.1)
    have e : nrm a * nrm b = (a.1 * b.1 + a.2 * b.2) * (a.1 * b.1 + a.2 * b.2) + (a.1 * b.2 - a.2 * b.1) * (a.1 * b.2 - a.2 * b.1) := by unfold nrm; grind
    omega
  have h2 : nrm a * nrm b ≤ (α * α) * (β * β) := by
    have h3 : nrm a * nrm b ≤ (α * α) * nrm b := Int.mul_le_mul_of_nonneg_right ha (nrm_nonneg b)
    have h4 : (α * α) * nrm b ≤ (α * α) * (β * β) := Int.mul_le_mul_of_nonneg_left hb (sq_nonneg α)
    omega
  have h5 : -(a.1 * b.1 + a.2 * b.2) ≤ α * β := by
    refine le_of_sq (Int.mul_nonneg hα hβ) ?_
    have e1 : -(a.1 * b.1 + a.2 * b.2) * -(a.1 * b.1 + a.2 * b.2) = (a.1 * b.1 + a.2 * b.2) * (a.1 * b.1 + a.2 * b.2) := by grind
    have e2 : α * β * (α * β) = (α * α) * (β * β) := by grind
    omega
  have e : nrm (gsub a b) = nrm a + nrm b + 2 * -(a.1 * b.1 + a.2 * b.2) := by unfold nrm gsub; grind
  have e3 : (α + β) * (α + β) = α * α + β * β + 2 * (α * β) := by grind
  omega

/-- One root more: (x - z) f. -/
def stepG (z : GI) (f : Nat → GI) (k : Nat) : GI := gsub (if k = 0 then (0, 0) else f (k - 1)) (gmul z (f k))
theorem step_comm (z w : GI) (f : Nat → GI) : stepG z (stepG w f) = stepG w (stepG z f) := by
  funext k
  unfold stepG gsub gmul
  rcases k with _ | _ | k
  · simp; grind
  · simp; grind
  · simp; grind
/-- The terms behind t roots. -/
def coefG (Z : Nat → GI) : Nat → Nat → GI
  | 0 => fun k => if k = 0 then (1, 0) else (0, 0)
  | t + 1 => stepG (Z t) (coefG Z t)
theorem gsub_zero : gsub (0, 0) (gmul (0, 0) (0, 0)) = (0, 0) := rfl
theorem gmul_zero (z : GI) : gmul z (0, 0) = (0, 0) := by unfold gmul; simp
theorem coef_above (Z : Nat → GI) (t k : Nat) (h : t < k) : coefG Z t k = (0, 0) := by
  induction t generalizing k with
  | zero => unfold coefG; rw [if_neg (by omega)]
  | succ t ih =>
    unfold coefG stepG
    rw [if_neg (by omega), ih (k - 1) (by omega), ih k (by omega), gmul_zero]
    rfl
theorem coef_top (Z : Nat → GI) (t : Nat) : coefG Z t t = (1, 0) := by
  induction t with
  | zero => rfl
  | succ t ih =>
    unfold coefG stepG
    rw [if_neg (by omega), coef_above Z t (t + 1) (by omega), gmul_zero, Nat.add_sub_cancel, ih]
    rfl
theorem step_nrm {z : GI} {f : Nat → GI} {B : Int} (hB : 0 ≤ B) (hz : nrm z ≤ 23 * 23) (hf : ∀ k, nrm (f k) ≤ B * B) (k : Nat) : nrm (stepG z f k) ≤ (24 * B) * (24 * B) := by
  unfold stepG
  have h1 : nrm (if k = 0 then (0, 0) else f (k - 1)) ≤ B * B := by
    split
    · have := sq_nonneg B; unfold nrm; simp; omega
    · exact hf _
  have h2 : nrm (gmul z (f k)) ≤ (23 * B) * (23 * B) := by
    rw [nrm_mul]
    have h3 : nrm z * nrm (f k) ≤ (23 * 23) * nrm (f k) := Int.mul_le_mul_of_nonneg_right hz (nrm_nonneg _)
    have h4 : (23 * 23) * nrm (f k) ≤ (23 * 23) * (B * B) := Int.mul_le_mul_of_nonneg_left (hf k) (by omega)
    have e : (23 * B) * (23 * B) = (23 * 23) * (B * B) := by grind
    omega
  have h5 := nrm_sub hB (by omega) h1 h2
  have e : B + 23 * B = 24 * B := by omega
  rwa [e] at h5
theorem coef_nrm {Z : Nat → GI} (t : Nat) (hZ : ∀ j, j < t → nrm (Z j) ≤ 23 * 23) (k : Nat) : nrm (coefG Z t k) ≤ (24 : Int) ^ t * (24 : Int) ^ t := by
  induction t generalizing k with
  | zero => unfold coefG; split <;> simp [nrm]
  | succ t ih =>
    have hp : (0 : Int) ≤ 24 ^ t := Int.pow_nonneg (by omega)
    have h := step_nrm hp (hZ t (by omega)) (fun k => ih (fun j hj => hZ j (by omega)) k) k
    have e : (24 : Int) ^ (t + 1) = 24 * 24 ^ t := by rw [Int.pow_succ]; omega
    rw [e]
    exact h
/-- The polynomial of the roots, divided by (x - Z i). -/
theorem coef_quot {Z : Nat → GI} (t : Nat) (hZ : ∀ j, j < t + 1 → nrm (Z j) ≤ 23 * 23) (i : Nat) (hi : i < t + 1) :
    ∃ D : Nat → GI, coefG Z (t + 1) = stepG (Z i) D ∧ (∀ k, nrm (D k) ≤ (24 : Int) ^ t * (24 : Int) ^ t) ∧ ∀ k, t < k → D k = (0, 0) := by
  induction t generalizing i with
  | zero =>
    obtain rfl : i = 0 := by omega
    exact ⟨coefG Z 0, rfl, fun k => coef_nrm 0 (fun _ h => absurd h (Nat.not_lt_zero _)) k, fun k hk => coef_above Z 0 k hk⟩
  | succ t ih =>
    by_cases h : i = t + 1
    · subst h
      exact ⟨coefG Z (t + 1), rfl, fun k => coef_nrm (t + 1) (fun j hj => hZ j (by omega)) k, fun k hk => coef_above Z (t + 1) k hk⟩
    · obtain ⟨D, h1, h2, h3⟩ := ih (fun j hj => hZ j (by omega)) i (by omega)
      refine ⟨stepG (Z (t + 1)) D, ?_, ?_, ?_⟩
      · show stepG (Z (t + 1)) (coefG Z (t + 1)) = _
        rw [h1, step_comm]
      · intro k
        have hp : (0 : Int) ≤ 24 ^ t := Int.pow_nonneg (by omega)
        have h4 := step_nrm hp (hZ (t + 1) (by omega)) h2 k
        have e : (24 : Int) ^ (t + 1) = 24 * 24 ^ t := by rw [Int.pow_succ]; omega
        rw [e]
        exact h4
      · intro k hk
        unfold stepG
        rw [if_neg (by omega), h3 (k - 1) (by omega), h3 k (by omega), gmul_zero]
        rfl
end Go.Proofs.Ytfbekiphlaaieaa
