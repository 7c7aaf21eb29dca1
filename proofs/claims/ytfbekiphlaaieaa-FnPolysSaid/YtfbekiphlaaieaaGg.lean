/- r8Size of exact terms: its words, and how near its value is to the exact sum. Condition: the terms are small; the point is drawn. -/
import Derived.Test.YtfbekiphlaaieaaGf
namespace Go.Proofs.Ytfbekiphlaaieaa

def long1F (x : Nat × Nat) : Nat := g32 .add (maxW .f32 x.1 (Op.negFloat .f32 x.1)) (maxW .f32 x.2 (Op.negFloat .f32 x.2))
theorem iv2_neg (a p : Int) : -iv2 a p = iv2 (-a) p := by unfold iv2; push_cast; grind
theorem rmax_abs (a p : Int) : rmax (iv2 a p) (-iv2 a p) = iv2 (a.natAbs : Int) p := by
  have hp := two_pos p
  unfold rmax
  by_cases h : a < 0
  · have h1 : (a : Rat) < 0 := by exact_mod_cast h
    have h2 := Rat.mul_lt_mul_of_pos_right h1 hp
    have e : ((a.natAbs : Nat) : Int) = -a := by omega
    rw [if_pos (by unfold iv2; grind), e, iv2_neg]
  · have h1 : 0 ≤ (a : Rat) := by exact_mod_cast (by omega : 0 ≤ a)
    have h2 := Rat.mul_nonneg h1 (Rat.le_of_lt hp)
    have e : ((a.natAbs : Nat) : Int) = a := by omega
    rw [if_neg (by unfold iv2; grind), e]
theorem long1_cv {x : Nat × Nat} {a b p : Int} (h : CV x a b p) (ha : a.natAbs ≤ 7962624) (hb : b.natAbs ≤ 7962624) (hp : -100 ≤ p) (hp' : p ≤ 4) : Long1W x (long1F x) ∧ V .f32 (long1F x) (iv2 ((a.natAbs : Int) + (b.natAbs : Int)) p) := by
  have v1 := V_max h.re (V_neg h.re)
  have v2 := V_max h.im (V_neg h.im)
  rw [rmax_abs] at v1 v2
  have k0 : dgs .f32 = 16777216 := rfl
  obtain ⟨r, e1, e2⟩ := ex_add v1 v2 (by omega) (by omega) hp'
  have e3 : long1F x = r := getD_of e1
  rw [e3]
  exact ⟨⟨h.num, e1⟩, e2⟩
theorem conv_up {x : Nat} {M p : Int} (h : V .f32 x (iv2 M p)) (hM : M.natAbs ≤ 16777215) (hp : -100 ≤ p) (hp' : p ≤ 4) : cv64 x = some (u64w x) ∧ V .f64 (u64w x) (iv2 M p) := by
  have k1 : dgs .f64 = 9007199254740992 := rfl
  obtain ⟨r, e1, e2⟩ := ex_conv h (k' := .f64) (by decide) (by omega) (by omega) hp'
  have e3 : u64w x = r := getD_of e1
  rw [e3]
  exact ⟨e1, e2⟩
theorem iv2_nonneg {M p : Int} (h : 0 ≤ M) : 0 ≤ iv2 M p := Rat.mul_nonneg (by exact_mod_cast h) (Rat.le_of_lt (two_pos p))
theorem iv2_le {M p : Int} (h : 0 ≤ M) (hb : M ≤ 16777215) (hp : p ≤ 0) : iv2 M p ≤ 16777215 := by
  have h1 := two_le hp
  rw [two_zero] at h1
  have h2 : 0 ≤ (M : Rat) := by exact_mod_cast h
  have h3 : (M : Rat) ≤ 16777215 := by
    have : (M : Rat) ≤ ((16777215 : Int) : Rat) := Rat.intCast_le_intCast.2 hb
    simpa using this
  have h4 := Rat.mul_le_mul_of_nonneg_left h1 h2
  unfold iv2
  grind
/-- The sizes of the terms, exactly, and their sum at x. -/
def W1 (c : Nat → GI) (p : Nat → Int) (k : Nat) : Rat := iv2 (((c k).1.natAbs : Int) + ((c k).2.natAbs : Int)) (p k)
def sx (n : Nat) (w : Nat → Rat) (x : Rat) : Nat → Rat
  | 0 => 0
  | j + 1 => sx n w x j * x + w (n - j)
def szF (n : Nat) (xs : List (Nat × Nat)) (x : Nat) : Nat → Nat
  | 0 => 0
  | j + 1 => g64 .add (g64 .mul (szF n xs x j) x) (u64w (long1F (xs.getD (n - j) (0, 0))))
def pmF (n : Nat) (xs : List (Nat × Nat)) (x : Nat) (j : Nat) : Nat := g64 .mul (szF n xs x j) x
/-- How the errors grow. -/
def Fj : Nat → Rat
  | 0 => 1
  | j + 1 => Fj j * (1 - 1 / 1000000)
def Tj : Nat → Rat
  | 0 => 0
  | j + 1 => 9 * Tj j + 1 / 1000000000000000000000000000
def Hj : Nat → Rat
  | 0 => 0
  | j + 1 => 9 * Hj j + 40000000
theorem Fj_all {j : Nat} (h : j ≤ 6) : 999 / 1000 ≤ Fj j ∧ Fj j ≤ 1 := by
  have : j = 0 ∨ j = 1 ∨ j = 2 ∨ j = 3 ∨ j = 4 ∨ j = 5 ∨ j = 6 := by omega
  rcases this with rfl | rfl | rfl | rfl | rfl | rfl | rfl <;> decide +kernel
theorem Tj_all {j : Nat} (h : j ≤ 6) : 0 ≤ Tj j ∧ Tj j ≤ 1 / 1000000000000 := by
  have : j = 0 ∨ j = 1 ∨ j = 2 ∨ j = 3 ∨ j = 4 ∨ j = 5 ∨ j = 6 := by omega
  rcases this with rfl | rfl | rfl | rfl | rfl | rfl | rfl <;> decide +kernel
theorem Hj_all {j : Nat} (h : j ≤ 6) : 0 ≤ Hj j ∧ Hj j ≤ 30000000000000 := by
  have : j = 0 ∨ j = 1 ∨ j = 2 ∨ j = 3 ∨ j = 4 ∨ j = 5 ∨ j = 6 := by omega
  rcases this with rfl | rfl | rfl | rfl | rfl | rfl | rfl <;> decide +kernel

set_option maxHeartbeats 1000000 in
theorem size_of {n : Nat} {xs : List (Nat × Nat)} {c : Nat → GI} {p : Nat → Int} (T : Terms n xs c p) (hn : n ≤ 5) {x : Nat} {ξ : Rat} (hx : V .f64 x ξ) (hx0 : 0 ≤ ξ) (hx8 : ξ ≤ 8) (j : Nat) (hj : j ≤ n + 1) :
    ∃ σ, V .f64 (szF n xs x j) σ ∧ 0 ≤ σ ∧ σ ≤ Hj j ∧ Fj j * sx n (W1 c p) ξ j ≤ σ + Tj j ∧ 0 ≤ sx n (W1 c p) ξ j ∧ sx n (W1 c p) ξ j ≤ Hj j ∧
      (∀ i, i < j → floatBits .mul .f64 (szF n xs x i) x = some (pmF n xs x i) ∧ Long1W (xs.getD (n - i) (0, 0)) (long1F (xs.getD (n - i) (0, 0))) ∧ cv64 (long1F (xs.getD (n - i) (0, 0))) = some (u64w (long1F (xs.getD (n - i) (0, 0)))) ∧ floatBits .add .f64 (pmF n xs x i) (u64w (long1F (xs.getD (n - i) (0, 0)))) = some (szF n xs x (i + 1))) := by
  induction j with
  | zero => exact ⟨0, V_zero .f64 false 0, by decide, by decide, by unfold sx Tj; grind, by unfold sx; exact Rat.le_refl, by unfold sx; decide, fun i hi => absurd hi (Nat.not_lt_zero _)⟩
  | succ j ih =>
    obtain ⟨σ, h1, h2, h3, h4, h5, h5b, h6⟩ := ih (by omega)
    have hH := Hj_all (show j ≤ 6 by omega)
    have hT := Tj_all (show j ≤ 6 by omega)
    have hF := Fj_all (show j ≤ 6 by omega)
    have hsm := T.sm (n - j) (by omega)
    have hlo := T.lo (n - j) (by omega)
    obtain ⟨l1, l2⟩ := long1_cv (T.cv (n - j) (by omega)) hsm.1 hsm.2 (by omega) (by omega)
    obtain ⟨c1, c2⟩ := conv_up l2 (by omega) (by omega) (by omega)
    have hw0 : 0 ≤ W1 c p (n - j) := iv2_nonneg (by omega)
    have hwb : W1 c p (n - j) ≤ 16777215 := iv2_le (by omega) (by omega) (by omega)
    have c2' : V .f64 (u64w (long1F (xs.getD (n - j) (0, 0)))) (W1 c p (n - j)) := c2
    have hσx := Rat.mul_nonneg h2 hx0
    have hσ8 : σ * ξ ≤ σ * 8 := Rat.mul_le_mul_of_nonneg_left hx8 h2
    obtain ⟨m, π, m1, m2⟩ := op_mul h1 hx (by rw [t60]; unfold ab; grind)
    obtain ⟨n1, n2, n3⟩ := near_pos m2.near hσx
    have em : pmF n xs x j = m := getD_of m1
    obtain ⟨r, ρ, r1, r2⟩ := op_add m2.val c2' (by rw [t60]; unfold ab; grind)
    obtain ⟨q1, q2, q3⟩ := near_pos r2.near (by grind)
    have er : szF n xs x (j + 1) = r := by
      show g64 .add (pmF n xs x j) _ = r
      rw [em]
      exact getD_of r1
    have esx : sx n (W1 c p) ξ (j + 1) = sx n (W1 c p) ξ j * ξ + W1 c p (n - j) := rfl
    have hsx0 := Rat.mul_nonneg h5 hx0
    have hsx8 : sx n (W1 c p) ξ j * ξ ≤ sx n (W1 c p) ξ j * 8 := Rat.mul_le_mul_of_nonneg_left hx8 h5
    have hFs : Fj j * sx n (W1 c p) ξ j * ξ ≤ (σ + Tj j) * ξ := Rat.mul_le_mul_of_nonneg_right h4 hx0
    have hT8 : Tj j * ξ ≤ Tj j * 8 := Rat.mul_le_mul_of_nonneg_left hx8 hT.1
    have hFw : Fj j * W1 c p (n - j) ≤ 1 * W1 c p (n - j) := Rat.mul_le_mul_of_nonneg_right hF.2 hw0
    refine ⟨ρ, by rw [er]; exact r2.val, q3, ?_, ?_, ?_, ?_, ?_⟩
    · unfold Hj; grind
    · rw [esx]
      unfold Fj Tj
      have e1 : Fj j * (1 - 1 / 1000000) * (sx n (W1 c p) ξ j * ξ + W1 c p (n - j)) = (Fj j * sx n (W1 c p) ξ j * ξ + Fj j * W1 c p (n - j)) * (1 - 1 / 1000000) := by grind
      rw [e1]
      generalize Fj j * sx n (W1 c p) ξ j * ξ = X at *
      generalize Fj j * W1 c p (n - j) = Y at *
      generalize W1 c p (n - j) = w at *
      have e2 : (σ + Tj j) * ξ = σ * ξ + Tj j * ξ := by grind
      rw [e2] at hFs
      generalize σ * ξ = sξ at *
      generalize Tj j * ξ = tξ at *
      grind
    · rw [esx]; grind
    · rw [esx]; unfold Hj; grind
    · intro i hi
      by_cases e : i = j
      · subst e
        exact ⟨by rw [em]; exact m1, l1, c1, by rw [em, er]; exact r1⟩
      · exact h6 i (by omega)
end Go.Proofs.Ytfbekiphlaaieaa
