/- Floats: the square root and the quotient of positive numbers, within a millionth. Condition: the numbers are less than 2 to the power of 60. -/
import Derived.Test.YtfbekiphlaaieaaFlq
namespace Go.Proofs.Ytfbekiphlaaieaa
open Ieee

theorem t23 : two (-23) = 1 / 8388608 := by decide +kernel
theorem t60 : two 60 = 1152921504606846976 := by decide +kernel
theorem t140 : two (-140) ≤ 1 / 1000000000000000000000000000000 := by decide +kernel
/-- The square of l is a, within a millionth. -/
structure Sq (l a : Rat) : Prop where
  pos : 0 ≤ l
  low : l * l * (1 - 1 / 1000000) ≤ a
  high : a ≤ l * l * (1 + 1 / 1000000)
theorem sq_mono {a b : Rat} (h0 : 0 ≤ a) (h : a ≤ b) : a * a ≤ b * b := by
  have h1 := Rat.mul_le_mul_of_nonneg_left h h0
  have h2 := Rat.mul_le_mul_of_nonneg_right h (show 0 ≤ b by grind)
  grind
theorem sq_anti {a b : Rat} (h0 : 0 ≤ b) (h : a * a ≤ b * b) : a ≤ b := by
  refine Classical.byContradiction fun hn => ?_
  have hlt : b < a := by grind
  have h1 := Rat.mul_lt_mul_of_pos_right hlt (show 0 < a by grind)
  have h2 := Rat.mul_le_mul_of_nonneg_left (Rat.le_of_lt hlt) h0
  grind
theorem near_pos {q q' : Rat} (h : Near q q') (h0 : 0 ≤ q) : q - (q * (1 / 8388608) + 1 / 1000000000000000000000000000000) ≤ q' ∧ q' ≤ q + (q * (1 / 8388608) + 1 / 1000000000000000000000000000000) ∧ 0 ≤ q' := by
  have h1 := h.far
  have h2 := t140
  rw [t23] at h1
  have h3 : ab q = q := by unfold ab; grind
  rw [h3] at h1
  have h4 := h.pos h0
  unfold ab at h1
  refine ⟨?_, ?_, h4⟩ <;> split at h1 <;> grind

theorem op_sqrt {x : Nat} {a : Rat} (hx : V .f64 x a) (h0 : 0 ≤ a) (hb : a < 1125899906842624) (hs : a = 0 ∨ 1 / 1000000000000 ≤ a) :
    ∃ r q, FloatKind.f64.format.sqrt x = some r ∧ V .f64 r q ∧ 0 ≤ q ∧ q ≤ 67108864 ∧ q * q * (1 - 3 / 8388608) ≤ a ∧ a ≤ q * q * (1 + 3 / 8388608) := by
  obtain ⟨s, m, i, h1, rfl⟩ := hx
  rcases Nat.eq_zero_or_pos m with hm0 | hm
  · subst hm0
    refine ⟨FloatKind.f64.encode (.number s 0 i), 0, ?_, V_zero _ _ _, by decide, by decide, ?_, ?_⟩
    · show Option.map _ (Datum.root 54 (FloatKind.f64.decode x)) = _
      rw [h1]
      rfl
    · unfold sv; grind
    · unfold sv; grind
  · have hmr : 0 < (m : Rat) := by exact_mod_cast hm
    have hval := Rat.mul_pos hmr (two_pos i)
    have hsf : s = false := by
      cases s
      · rfl
      · exfalso
        unfold sv sg at h0
        simp only [if_true] at h0
        grind
    subst hsf
    have hav : sv false m i = (m : Rat) * two i := by unfold sv sg; simp
    rw [hav] at h0 hb hs ⊢
    obtain ⟨M, e, h, w, g1, g2, g3, g4, g5, g6⟩ := root_val m i hm
    generalize (m : Rat) * two i = A at *
    have hA : 1 / 1000000000000 ≤ A := by grind
    have hu := two_pos h
    have e53 : two 53 = 9007199254740992 := by decide +kernel
    rw [e53] at g4
    generalize two h = u at *
    generalize (w : Rat) = W at *
    generalize hS : sv false M e = S at *
    have hWu : 9007199254740992 * u ≤ W * u := Rat.mul_le_mul_of_nonneg_right g4 (Rat.le_of_lt hu)
    have g2' : (W * u) * (W * u) ≤ A := by grind
    have g3' : A < (W * u + u) * (W * u + u) := by grind
    have g6' : S ≤ W * u + u := by grind
    generalize W * u = Y at *
    have hY0 : 0 ≤ Y := by grind
    have hYb : Y ≤ 33554432 := sq_anti (by grind) (by grind)
    have hYl : 1 / 2000000 ≤ Y + u := by
      refine sq_anti (by grind) ?_
      grind
    have hub : u ≤ Y * (1 / 9007199254740992) := by grind
    have hS0 : 0 ≤ S := by grind
    obtain ⟨q, hq⟩ := rounded .f64 false M e S hS (by rw [t60]; unfold ab; grind)
    obtain ⟨n1, n2, n3⟩ := near_pos hq.near hS0
    refine ⟨_, q, ?_, hq.val, n3, by grind, ?_, ?_⟩
    · show Option.map _ (Datum.root 54 (FloatKind.f64.decode x)) = _
      rw [h1, g1]
      rfl
    · have hqY : q ≤ Y * (1 + 5 / 4 * (1 / 8388608)) := by grind
      have := sq_mono n3 hqY
      generalize q * q = Q at *
      have hYY : Y * Y ≤ A := g2'
      have hYY0 := Rat.mul_nonneg hY0 hY0
      grind
    · have hYq : Y + u ≤ q * (1 + 5 / 4 * (1 / 8388608)) := by grind
      have := sq_mono (show 0 ≤ Y + u by grind) hYq
      have hqq := Rat.mul_nonneg n3 n3
      grind

/-- The quotient of numbers that are not negative, within a millionth. -/
theorem op_div {x y : Nat} {a b : Rat} (hx : V .f32 x a) (hy : V .f32 y b) (h0 : 0 ≤ a) (hb : 0 < b) (hq : a < b * 1125899906842624) (hs : a = 0 ∨ b ≤ a * 1000000000000) :
    ∃ r q, floatBits .quo .f32 x y = some r ∧ V .f32 r q ∧ 0 ≤ q ∧ a * (1 - 1 / 1000000) ≤ q * b ∧ q * b ≤ a * (1 + 1 / 1000000) := by
  obtain ⟨s, m, i, h1, rfl⟩ := hx
  obtain ⟨t, n, j, h2, rfl⟩ := hy
  have hn : 0 < n := by
    rcases Nat.eq_zero_or_pos n with h | h
    · subst h; unfold sv at hb; grind
    · exact h
  have hnr : 0 < (n : Rat) := by exact_mod_cast hn
  have hnj := Rat.mul_pos hnr (two_pos j)
  have htf : t = false := by
    cases t
    · rfl
    · exfalso; unfold sv sg at hb; simp only [if_true] at hb; grind
  subst htf
  have hbv : sv false n j = (n : Rat) * two j := by unfold sv sg; simp
  have hquo : FloatKind.f32.format.div x y = Option.map FloatKind.f32.format.write (Datum.quotient 25 (.number s m i) (.number false n j)) := by
    show Option.map _ (Datum.quotient 25 (FloatKind.f32.decode x) (FloatKind.f32.decode y)) = _
    rw [h1, h2]
  have hfb : floatBits .quo .f32 x y = FloatKind.f32.format.div x y := rfl
  rw [hfb, hquo]
  unfold Datum.quotient
  dsimp only
  rw [if_neg (by omega)]
  generalize hmore : 25 + n.log2 - m.log2 = more
  have hD := Nat.div_add_mod (m <<< more) n
  have hR := Nat.mod_lt (m <<< more) hn
  generalize hqq : m <<< more / n = Q at hD ⊢
  generalize hrr : m <<< more % n = R at hD hR ⊢
  rcases Nat.eq_zero_or_pos m with hm0 | hm
  · subst hm0
    have hz : 0 <<< more = 0 := by simp
    rw [hz] at hD
    have hQ0 : Q = 0 := by
      rcases Nat.eq_zero_or_pos Q with h | h
      · exact h
      · have := Nat.mul_pos hn h; omega
    have hR0 : R = 0 := by omega
    subst hQ0 hR0
    refine ⟨_, 0, rfl, V_zero _ _ _, by decide, ?_, ?_⟩
    · unfold sv; grind
    · unfold sv; grind
  · have hmr : 0 < (m : Rat) := by exact_mod_cast hm
    have hmi := Rat.mul_pos hmr (two_pos i)
    have hsf : s = false := by
      cases s
      · rfl
      · exfalso; unfold sv sg at h0; simp only [if_true] at h0; grind
    subst hsf
    have hav : sv false m i = (m : Rat) * two i := by unfold sv sg; simp
    rw [hav] at h0 hq hs ⊢
    rw [hbv] at hb hq hs ⊢
    replace hs := hs.resolve_left (by grind)
    -- the quotient has 25 digits at least
    have hbig : 2 ^ 24 ≤ Q := by
      have h3 : 2 ^ m.log2 ≤ m := Nat.log2_self_le (by omega)
      have h4 : n < 2 ^ (n.log2 + 1) := Nat.lt_log2_self
      have h5 : 2 ^ (25 + n.log2) ≤ m <<< more := by
        rw [Nat.shiftLeft_eq]
        have : 2 ^ (m.log2 + more) ≤ m * 2 ^ more := by rw [Nat.pow_add]; exact Nat.mul_le_mul_right _ h3
        exact Nat.le_trans (Nat.pow_le_pow_right (by omega) (by omega)) this
      have h6 : 2 ^ 24 * n ≤ m <<< more := by
        have : 2 ^ 24 * n ≤ 2 ^ 24 * 2 ^ (n.log2 + 1) := Nat.mul_le_mul_left _ (by omega)
        rw [← Nat.pow_add] at this
        have e : 24 + (n.log2 + 1) = 25 + n.log2 := by omega
        rw [e] at this
        omega
      rw [← hqq]
      exact (Nat.le_div_iff_mul_le hn).2 h6
    have hDr : (n : Rat) * (Q : Rat) + (R : Rat) = (m : Rat) * ((2 ^ more : Nat) : Rat) := by
      have : n * Q + R = m * 2 ^ more := by rw [hD, Nat.shiftLeft_eq]
      exact_mod_cast this
    have hRr : (R : Rat) < (n : Rat) := by exact_mod_cast hR
    have hR0 : 0 ≤ (R : Rat) := by exact_mod_cast Nat.zero_le R
    have hQr : 16777216 ≤ (Q : Rat) := by exact_mod_cast hbig
    generalize hσ : (R != 0).toNat = σ
    have hσr : 0 ≤ (σ : Rat) ∧ (σ : Rat) ≤ 1 := by
      have : σ ≤ 1 := by rw [← hσ]; cases (R != 0) <;> simp
      exact ⟨by exact_mod_cast Nat.zero_le σ, by exact_mod_cast this⟩
    -- u is the unit of the quotient
    obtain ⟨h, hh⟩ : ∃ h : Int, i - j - (more : Int) - 1 = h := ⟨_, rfl⟩
    have hi : i = j + 1 + h + (more : Int) := by omega
    have hu := two_pos h
    have hA : (m : Rat) * two i = ((n : Rat) * (Q : Rat) + (R : Rat)) * (2 * two h) * two j := by
      rw [hDr, hi, two_add, two_add, two_add, two_nat]
      have : two 1 = 2 := by decide +kernel
      rw [this]
      grind
    have hSv : sv (false ^^ false) (2 * Q + σ) h = (2 * (Q : Rat) + (σ : Rat)) * two h := by
      unfold sv sg
      push_cast
      simp
    rw [hh]
    -- divide by b
    have hjp := two_pos j
    generalize hS : sv (false ^^ false) (2 * Q + σ) h = S at *
    generalize hAA : (m : Rat) * two i = A at *
    generalize hBB : (n : Rat) * two j = B at *
    have hSB : S * B = (2 * (Q : Rat) + (σ : Rat)) * two h * (n : Rat) * two j := by rw [hSv, ← hBB]; grind
    have hRn : (R : Rat) * (two h * two j) ≤ (n : Rat) * (two h * two j) := Rat.mul_le_mul_of_nonneg_right (Rat.le_of_lt hRr) (Rat.le_of_lt (Rat.mul_pos hu hjp))
    have hR2 : 0 ≤ (R : Rat) * (two h * two j) := Rat.mul_nonneg hR0 (Rat.le_of_lt (Rat.mul_pos hu hjp))
    have hns : 0 ≤ (σ : Rat) * ((n : Rat) * (two h * two j)) := Rat.mul_nonneg hσr.1 (Rat.le_of_lt (Rat.mul_pos hnr (Rat.mul_pos hu hjp)))
    have hns1 : (σ : Rat) * ((n : Rat) * (two h * two j)) ≤ (n : Rat) * (two h * two j) := by
      have := Rat.mul_le_mul_of_nonneg_right hσr.2 (Rat.le_of_lt (Rat.mul_pos hnr (Rat.mul_pos hu hjp)))
      grind
    have hQn : 16777216 * ((n : Rat) * (two h * two j)) ≤ (Q : Rat) * ((n : Rat) * (two h * two j)) := Rat.mul_le_mul_of_nonneg_right hQr (Rat.le_of_lt (Rat.mul_pos hnr (Rat.mul_pos hu hjp)))
    have hA2 : A = 2 * ((Q : Rat) * ((n : Rat) * (two h * two j))) + 2 * ((R : Rat) * (two h * two j)) := by rw [hA]; grind
    have hSB2 : S * B = 2 * ((Q : Rat) * ((n : Rat) * (two h * two j))) + (σ : Rat) * ((n : Rat) * (two h * two j)) := by rw [hSB]; grind
    have hS0 : 0 ≤ S := by
      rw [hSv]
      exact Rat.mul_nonneg (by grind) (Rat.le_of_lt hu)
    clear hA hSB hDr hav hbv hnj hmi hSv hi hD hqq hrr hfb hquo h1 h2
    generalize (Q : Rat) * ((n : Rat) * (two h * two j)) = X1 at *
    generalize (R : Rat) * (two h * two j) = X2 at *
    generalize (σ : Rat) * ((n : Rat) * (two h * two j)) = X3 at *
    generalize (n : Rat) * (two h * two j) = X4 at *
    have hlow : A * (1 - 1 / 8000000) ≤ S * B := by grind
    have hhigh : S * B ≤ A * (1 + 1 / 8000000) := by grind
    have hSb : S < 1152921504606846976 := by
      refine Classical.byContradiction fun hn => ?_
      have : 1152921504606846976 * B ≤ S * B := Rat.mul_le_mul_of_nonneg_right (by grind) (Rat.le_of_lt hb)
      grind
    have hSl : 1 / 2000000000000 ≤ S := by
      refine Classical.byContradiction fun hn => ?_
      have : S * B ≤ 1 / 2000000000000 * B := Rat.mul_le_mul_of_nonneg_right (by grind) (Rat.le_of_lt hb)
      grind
    obtain ⟨q, hq'⟩ := rounded .f32 (false ^^ false) (2 * Q + σ) h S hS (by rw [t60]; unfold ab; grind)
    obtain ⟨n1, n2, n3⟩ := near_pos hq'.near hS0
    refine ⟨_, q, rfl, hq'.val, n3, ?_, ?_⟩
    · have h9 : S * (1 - 5 / 4 * (1 / 8388608)) ≤ q := by grind
      have := Rat.mul_le_mul_of_nonneg_right h9 (Rat.le_of_lt hb)
      grind
    · have h9 : q ≤ S * (1 + 5 / 4 * (1 / 8388608)) := by grind
      have := Rat.mul_le_mul_of_nonneg_right h9 (Rat.le_of_lt hb)
      grind
end Go.Proofs.Ytfbekiphlaaieaa
