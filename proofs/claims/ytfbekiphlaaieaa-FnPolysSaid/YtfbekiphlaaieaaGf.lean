/- RootsWithin of exact terms: its words, and what its value bounds. Condition: the terms are small and the last is not nought. -/
import Derived.Test.YtfbekiphlaaieaaGe
namespace Go.Proofs.Ytfbekiphlaaieaa

def quoF (a b : Nat) : Nat := (floatBits .quo .f32 a b).getD 0
def moF (qs : Nat → Nat) : Nat → Nat
  | 0 => 0
  | k + 1 => if k = 0 ∨ (FloatKind.f32.format.order (qs k) (moF qs k) == some .gt) = true then qs k else moF qs k
/-- The terms of a list: exact, small. -/
structure Terms (n : Nat) (xs : List (Nat × Nat)) (c : Nat → GI) (p : Nat → Int) : Prop where
  len : xs.length = n + 1
  cv : ∀ k, k ≤ n → CV (xs.getD k (0, 0)) (c k).1 (c k).2 (p k)
  sm : ∀ k, k ≤ n → (c k).1.natAbs ≤ 7962624 ∧ (c k).2.natAbs ≤ 7962624
  lo : ∀ k, k ≤ n → -10 ≤ p k ∧ p k ≤ 0
theorem V_one : V .f32 1065353216 1 := ⟨false, 8388608, -23, by decide +kernel, by decide +kernel⟩
theorem V_nil : V .f32 0 0 := V_zero .f32 false 0
theorem cq_zero_of {a b p : Int} (h : nq (cq a b p) = 0) : a = 0 ∧ b = 0 := by
  rw [nq_cq] at h
  unfold iv2 at h
  have hp := two_pos (p + p)
  have h1 : ((a * a + b * b : Int) : Rat) = 0 := by
    refine Classical.byContradiction fun hne => ?_
    have h0 : ((a * a + b * b : Int) : Rat) < 0 ∨ 0 < ((a * a + b * b : Int) : Rat) := by grind
    rcases h0 with h2 | h2
    · have := Rat.mul_lt_mul_of_pos_right h2 hp; grind
    · have := Rat.mul_lt_mul_of_pos_right h2 hp; grind
  have h2 : a * a + b * b = 0 := by exact_mod_cast h1
  have s1 := sq_nonneg a
  have s2 := sq_nonneg b
  have e1 : a * a = 0 := by omega
  have e2 : b * b = 0 := by omega
  exact ⟨(Int.mul_eq_zero.1 e1).elim id id, (Int.mul_eq_zero.1 e2).elim id id⟩

set_option maxHeartbeats 1000000 in
theorem within_of {n : Nat} {xs : List (Nat × Nat)} {c : Nat → GI} {p : Nat → Int} (T : Terms n xs c p) (hc : c n ≠ (0, 0)) :
    ∃ μ ρ : Rat, WithinW xs (fun k => longF (xs.getD k (0, 0))) (fun k => quoF (longF (xs.getD k (0, 0))) (longF (xs.getD n (0, 0)))) (moF (fun k => quoF (longF (xs.getD k (0, 0))) (longF (xs.getD n (0, 0))))) (longF (xs.getD n (0, 0))) (g32 .add 1065353216 (moF (fun k => quoF (longF (xs.getD k (0, 0))) (longF (xs.getD n (0, 0)))) n)) ∧
      V .f32 (g32 .add 1065353216 (moF (fun k => quoF (longF (xs.getD k (0, 0))) (longF (xs.getD n (0, 0)))) n)) ρ ∧ 0 ≤ μ ∧ μ ≤ 200000000000 ∧ (1 + μ) * (1 - 1 / 8000000) ≤ ρ ∧ ρ ≤ (1 + μ) * (1 + 1 / 8000000) ∧
      ∀ k, k < n → nq (cq (c k).1 (c k).2 (p k)) ≤ nq (cq (c n).1 (c n).2 (p n)) * ((μ * (1 + 1 / 100000)) * (μ * (1 + 1 / 100000))) := by
  have hlong : ∀ k, k ≤ n → LongW (xs.getD k (0, 0)) (longF (xs.getD k (0, 0))) ∧ ∃ l, V .f32 (longF (xs.getD k (0, 0))) l ∧ Sq l (nq (cq (c k).1 (c k).2 (p k))) ∧ l ≤ 67200000 ∧ (l = 0 ∨ 1 / 2048 ≤ l) := fun k hk =>
    long_cv (T.cv k hk) (by have := (T.sm k hk).1; omega) (by have := (T.sm k hk).2; omega) (T.lo k hk).1 (T.lo k hk).2
  obtain ⟨hL, l, vl, sl, hl1, hl2⟩ := hlong n (Nat.le_refl _)
  have hl : 1 / 2048 ≤ l := by
    rcases hl2 with h | h
    · exfalso
      subst h
      have h1 := sl.high
      have h2 := nq_nonneg (cq (c n).1 (c n).2 (p n))
      have h3 : nq (cq (c n).1 (c n).2 (p n)) = 0 := by grind
      have h4 := cq_zero_of h3
      exact hc (Prod.ext h4.1 h4.2)
    · exact h
  generalize hLn : longF (xs.getD n (0, 0)) = L at *
  have hq : ∀ k, k < n → floatBits .quo .f32 (longF (xs.getD k (0, 0))) L = some (quoF (longF (xs.getD k (0, 0))) L) ∧ ∃ lk q, V .f32 (quoF (longF (xs.getD k (0, 0))) L) q ∧ 0 ≤ q ∧ q ≤ 200000000000 ∧ lk * (1 - 1 / 1000000) ≤ q * l ∧ Sq lk (nq (cq (c k).1 (c k).2 (p k))) := by
    intro k hk
    obtain ⟨_, lk, vk, sk, hk1, hk2⟩ := hlong k (by omega)
    obtain ⟨r, q, e1, e2, e3, e4, e5⟩ := op_div vk vl sk.pos (by grind) (by grind) (by rcases hk2 with h | h; exact .inl h; exact .inr (by grind))
    have e6 : quoF (longF (xs.getD k (0, 0))) L = r := getD_of e1
    rw [e6]
    refine ⟨e1, lk, q, e2, e3, ?_, e4, sk⟩
    refine Classical.byContradiction fun hn => ?_
    have h1 : 200000000000 < q := by grind
    have h2 : 200000000000 * l ≤ q * l := Rat.mul_le_mul_of_nonneg_right (Rat.le_of_lt h1) (by grind)
    grind
  generalize hqs : (fun k => quoF (longF (xs.getD k (0, 0))) L) = qs at *
  have hqk : ∀ k, quoF (longF (xs.getD k (0, 0))) L = qs k := fun k => by rw [← hqs]
  have hm : ∀ k, k ≤ n → ∃ μ, V .f32 (moF qs k) μ ∧ 0 ≤ μ ∧ μ ≤ 200000000000 ∧ ∀ j, j < k → ∃ lj q, q ≤ μ ∧ 0 ≤ q ∧ lj * (1 - 1 / 1000000) ≤ q * l ∧ Sq lj (nq (cq (c j).1 (c j).2 (p j))) := by
    intro k
    induction k with
    | zero => intro _; exact ⟨0, V_nil, by decide, by decide, fun j hj => absurd hj (Nat.not_lt_zero _)⟩
    | succ k ih =>
      intro hk
      obtain ⟨μ, m1, m2, m3, m4⟩ := ih (by omega)
      obtain ⟨q1, lk, q, q2, q3, q4, q5, q6⟩ := hq k (by omega)
      rw [hqk] at q2
      have ho := order_val q2 m1
      unfold moF
      by_cases hcond : k = 0 ∨ (FloatKind.f32.format.order (qs k) (moF qs k) == some .gt) = true
      · rw [if_pos hcond]
        refine ⟨q, q2, q3, q4, fun j hj => ?_⟩
        by_cases ej : j = k
        · subst ej
          exact ⟨lk, q, Rat.le_refl, q3, q5, q6⟩
        · rcases hcond with h | h
          · omega
          · obtain ⟨lj, qj, a1, a2, a3, a4⟩ := m4 j (by omega)
            rw [ho] at h
            have : μ < q := by
              by_cases c1 : q < μ
              · simp [c1] at h
              · by_cases c2 : q = μ
                · simp [c2] at h
                · grind
            exact ⟨lj, qj, by grind, a2, a3, a4⟩
      · rw [if_neg hcond]
        have hle : q ≤ μ := by
          have h : ¬ (FloatKind.f32.format.order (qs k) (moF qs k) == some .gt) = true := fun h => hcond (.inr h)
          rw [ho] at h
          by_cases c1 : q < μ
          · grind
          · by_cases c2 : q = μ
            · grind
            · simp [c1, c2] at h
        refine ⟨μ, m1, m2, m3, fun j hj => ?_⟩
        by_cases ej : j = k
        · subst ej
          exact ⟨lk, q, hle, q3, q5, q6⟩
        · exact m4 j (by omega)
  obtain ⟨μ, m1, m2, m3, m4⟩ := hm n (Nat.le_refl _)
  obtain ⟨r, ρ, r1, r2⟩ := op_add V_one m1 (by rw [t60]; unfold ab; grind)
  have er : g32 .add 1065353216 (moF qs n) = r := getD_of r1
  obtain ⟨n1, n2, n3⟩ := near_pos r2.near (by grind)
  rw [er]
  refine ⟨μ, ρ, ⟨?_, ?_, ?_, ?_, rfl, ?_, ?_, ⟨ρ, r2.val⟩⟩, r2.val, m2, m3, by grind, by grind, ?_⟩
  · have e : xs.length - 1 = n := by have := T.len; omega
    rw [e]; exact hL
  · intro k hk
    have := T.len
    exact (hlong k (by omega)).1
  · intro k hk
    have := T.len
    have h := (hq k (by omega)).1
    rw [hqk] at h
    exact h
  · intro k hk
    have := T.len
    obtain ⟨_, _, q, h, _⟩ := hq k (by omega)
    rw [hqk] at h
    exact ⟨q, h⟩
  · intro k _
    rw [moF]
  · have e : xs.length - 1 = n := by have := T.len; omega
    rw [e]; exact r1
  · intro k hk
    obtain ⟨lk, q, a1, a2, a3, a4⟩ := m4 k hk
    have hl0 : 0 ≤ l := sl.pos
    have h1 : q * l ≤ μ * l := Rat.mul_le_mul_of_nonneg_right a1 hl0
    have hml := Rat.mul_nonneg m2 hl0
    have h2 : lk ≤ (μ * l) * (1 + 2 / 1000000) := by grind
    have h3 := sq_mono a4.pos h2
    have h4 := a4.high
    have h5 := sl.low
    have hll := Rat.mul_nonneg hl0 hl0
    have hmm := Rat.mul_nonneg m2 m2
    have h6 : (μ * μ) * (l * l * (1 - 1 / 1000000)) ≤ (μ * μ) * nq (cq (c n).1 (c n).2 (p n)) := Rat.mul_le_mul_of_nonneg_left h5 hmm
    have hM := Rat.mul_nonneg hmm hll
    have e1 : μ * l * (1 + 2 / 1000000) * (μ * l * (1 + 2 / 1000000)) = (μ * μ) * (l * l) * ((1 + 2 / 1000000) * (1 + 2 / 1000000)) := by grind
    rw [e1] at h3
    generalize nq (cq (c n).1 (c n).2 (p n)) = W at *
    generalize nq (cq (c k).1 (c k).2 (p k)) = U at *
    generalize lk * lk = LL at *
    have e2 : W * ((μ * (1 + 1 / 100000)) * (μ * (1 + 1 / 100000))) = (μ * μ) * W * ((1 + 1 / 100000) * (1 + 1 / 100000)) := by grind
    have e3 : (μ * μ) * (l * l * (1 - 1 / 1000000)) = (μ * μ) * (l * l) * (1 - 1 / 1000000) := by grind
    rw [e2]
    rw [e3] at h6
    generalize (μ * μ) * (l * l) = X at *
    generalize (μ * μ) * W = Y at *
    grind
end Go.Proofs.Ytfbekiphlaaieaa
