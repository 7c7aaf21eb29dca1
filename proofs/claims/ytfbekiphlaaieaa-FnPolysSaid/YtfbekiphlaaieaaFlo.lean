/- Floats: what 'nearest' gives, read back. No condition: plain lemmas over formats. -/
import Derived.Laws.ComplexArith
namespace Go.Proofs.Ytfbekiphlaaieaa
open Ieee
theorem cut_near (neg : Bool) (n drop : Nat) (hn : 0 < n) : 2 * (Toward.even.cut neg n drop * 2 ^ drop) ≤ 2 * n + 2 ^ drop ∧ 2 * n ≤ 2 * (Toward.even.cut neg n drop * 2 ^ drop) + 2 ^ drop ∧ (∀ c, n = c * 2 ^ drop → Toward.even.cut neg n drop = c) := by
  have h1 : n < 2 ^ (n.log2 + 1) := Nat.lt_log2_self
  unfold Toward.cut
  simp only [Nat.one_shiftLeft]
  rcases Nat.le_total drop (n.log2 + 2) with hd | hd
  · rw [Nat.min_eq_left hd]
    have hg : 0 < 2 ^ drop := Nat.two_pow_pos _
    generalize 2 ^ drop = g at hg ⊢
    have e := Nat.div_add_mod n g
    have hr := Nat.mod_lt n hg
    generalize hlow : n / g = low at e ⊢
    generalize hrest : n % g = rest at e hr ⊢
    have hc : low * g = g * low := Nat.mul_comm _ _
    have hc1 : (low + 1) * g = g * low + g := by rw [Nat.add_mul, hc]; omega
    by_cases hm : (decide (g < 2 * rest) || (g == 2 * rest && low % 2 == 1)) = true
    · simp only [hm, Bool.toNat_true]
      have hge : g ≤ 2 * rest := by
        simp only [Bool.or_eq_true, decide_eq_true_eq, Bool.and_eq_true, beq_iff_eq] at hm
        omega
      refine ⟨by omega, by omega, fun c hcn => ?_⟩
      exfalso
      have : rest = 0 := by rw [← hrest, hcn]; exact Nat.mul_mod_left _ _
      omega
    · have hm' := Bool.eq_false_iff.2 hm
      simp only [hm', Bool.toNat_false, Nat.add_zero]
      have hle : 2 * rest ≤ g := by
        simp only [Bool.or_eq_true, decide_eq_true_eq, not_or] at hm
        omega
      refine ⟨by omega, by omega, fun c hcn => ?_⟩
      rw [← hlow, hcn, Nat.mul_div_cancel _ hg]
  · rw [Nat.min_eq_right hd]
    have hg : 2 * n < 2 ^ (n.log2 + 2) := by rw [Nat.pow_succ]; omega
    have hgd : 2 ^ (n.log2 + 2) ≤ 2 ^ drop := Nat.pow_le_pow_right (by omega) hd
    generalize 2 ^ drop = g at hgd ⊢
    generalize 2 ^ (n.log2 + 2) = g0 at hg hgd ⊢
    have hlow : n / g0 = 0 := Nat.div_eq_of_lt (by omega)
    have hrest : n % g0 = n := Nat.mod_eq_of_lt (by omega)
    rw [hlow, hrest]
    have hm : (decide (g0 < 2 * n) || (g0 == 2 * n && 0 % 2 == 1)) = false := by simp; omega
    simp only [hm, Bool.toNat_false, Nat.add_zero, Nat.zero_mul]
    refine ⟨by omega, by omega, fun c hcn => ?_⟩
    rcases Nat.eq_zero_or_pos c with h0 | h0
    · subst h0; omega
    · have : g ≤ c * g := Nat.le_mul_of_pos_left _ h0
      omega
/-- The place of the last digit that is kept. -/
def lastOfN (f : Format) (m : Nat) (e : Int) : Int := max (e + m.log2 - f.fractionBits) f.leastPlace
def keptOf (f : Format) (s : Bool) (m : Nat) (e : Int) : Nat :=
  Toward.even.cut s (m <<< (e - lastOfN f m e).toNat) (lastOfN f m e - e).toNat

theorem kept_bounds (f : Format) (s : Bool) (m : Nat) (e : Int) (hm : 0 < m) :
    keptOf f s m e ≤ 2 ^ (f.fractionBits + 1) ∧ (f.leastPlace < lastOfN f m e → 2 ^ f.fractionBits ≤ keptOf f s m e) := by
  have h1 : m < 2 ^ (m.log2 + 1) := Nat.lt_log2_self
  have h2 : 2 ^ m.log2 ≤ m := Nat.log2_self_le (by omega)
  unfold keptOf
  generalize hl : lastOfN f m e = last
  have hlast : last = max (e + m.log2 - f.fractionBits) f.leastPlace := hl.symm
  rcases Int.le_total last e with hc | hc
  · have e0 : (last - e).toNat = 0 := by omega
    rw [e0]
    obtain ⟨d, hd⟩ : ∃ d : Nat, (e - last).toNat = d := ⟨_, rfl⟩
    rw [hd]
    have hn : 0 < m <<< d := by rw [Nat.shiftLeft_eq]; exact Nat.mul_pos hm (Nat.two_pow_pos _)
    have hk := (cut_near s (m <<< d) 0 hn).2.2 (m <<< d) (by simp)
    rw [hk, Nat.shiftLeft_eq]
    have hP : m.log2 + d ≤ f.fractionBits := by omega
    constructor
    · have : 2 ^ (m.log2 + 1) * 2 ^ d ≤ 2 ^ (f.fractionBits + 1) := by
        rw [← Nat.pow_add]; exact Nat.pow_le_pow_right (by omega) (by omega)
      have : m * 2 ^ d ≤ 2 ^ (m.log2 + 1) * 2 ^ d := Nat.mul_le_mul_right _ (by omega)
      omega
    · intro hL
      have hPe : m.log2 + d = f.fractionBits := by omega
      rw [← hPe, Nat.pow_add]
      exact Nat.mul_le_mul_right _ h2
  · have e0 : (e - last).toNat = 0 := by omega
    rw [e0]
    obtain ⟨d, hd⟩ : ∃ d : Nat, (last - e).toNat = d := ⟨_, rfl⟩
    rw [hd, Nat.shiftLeft_zero]
    obtain ⟨k1, k2, _⟩ := cut_near s m d hm
    generalize Toward.even.cut s m d = k at k1 k2 ⊢
    have hdp : m.log2 ≤ f.fractionBits + d := by omega
    have hmb : m < 2 ^ (f.fractionBits + 1) * 2 ^ d := by
      rw [← Nat.pow_add]
      exact Nat.lt_of_lt_of_le h1 (Nat.pow_le_pow_right (by omega) (by omega))
    have hg : 0 < 2 ^ d := Nat.two_pow_pos _
    constructor
    · have : 2 * (k * 2 ^ d) < (2 * 2 ^ (f.fractionBits + 1) + 1) * 2 ^ d := by
        rw [Nat.add_mul, Nat.mul_assoc]; omega
      have : (2 * k) * 2 ^ d < (2 * 2 ^ (f.fractionBits + 1) + 1) * 2 ^ d := by rw [Nat.mul_assoc]; exact this
      have := Nat.lt_of_mul_lt_mul_right this
      omega
    · intro hL
      have hPe : m.log2 = f.fractionBits + d := by omega
      rw [hPe, Nat.pow_add] at h2
      have : (2 * 2 ^ f.fractionBits) * 2 ^ d ≤ (2 * k + 1) * 2 ^ d := by
        rw [Nat.add_mul, Nat.mul_assoc, Nat.mul_assoc]; omega
      have := Nat.le_of_mul_le_mul_right this hg
      omega

theorem nearest_read (f : Format) (s : Bool) (m : Nat) (e : Int) (hm : 0 < m) (hinf : lastOfN f m e - f.leastPlace + 3 < 2 ^ f.exponentBits) :
    ∃ m' e', f.read (f.nearest s m e) = .number s m' e' ∧ (m' : Rat) * (2 : Rat) ^ e' = (keptOf f s m e : Rat) * (2 : Rat) ^ (lastOfN f m e) := by
  obtain ⟨k1, k2⟩ := kept_bounds f s m e hm
  have hnear : f.nearest s m e = f.word s (min ((lastOfN f m e - f.leastPlace).toNat * f.binade + keptOf f s m e) f.infRung) := by
    unfold Format.nearest keptOf lastOfN
    rw [if_neg (by omega)]
  have hL : f.leastPlace ≤ lastOfN f m e := by unfold lastOfN; omega
  rw [hnear]
  generalize keptOf f s m e = k at k1 k2 ⊢
  generalize lastOfN f m e = last at k2 hinf hL ⊢
  obtain ⟨a, ha⟩ : ∃ a : Nat, last = f.leastPlace + a := ⟨(last - f.leastPlace).toNat, by omega⟩
  subst ha
  have ea : (f.leastPlace + (a : Int) - f.leastPlace).toNat = a := by omega
  rw [ea]
  have hE : (a : Int) + 3 < 2 ^ f.exponentBits := by omega
  have hE' : a + 3 < 2 ^ f.exponentBits := by exact_mod_cast hE
  have hb : f.binade = 2 ^ f.fractionBits := rfl
  have hB0 : 0 < f.binade := Nat.two_pow_pos _
  have hk1 : k ≤ 2 * f.binade := by rw [hb]; rw [Nat.pow_succ] at k1; omega
  have hk2 : 0 < a → f.binade ≤ k := fun h => k2 (by omega)
  have hir : f.infRung = (2 ^ f.exponentBits - 1) * f.binade := rfl
  have hlt : a * f.binade + k < f.infRung := by
    rw [hir]
    have h3 : (a + 3) * f.binade ≤ (2 ^ f.exponentBits - 1) * f.binade := Nat.mul_le_mul_right _ (by omega)
    rw [Nat.add_mul] at h3
    omega
  rw [Nat.min_eq_left (by omega)]
  have hsw := f.infRung_lt
  have hw : f.word s (a * f.binade + k) / f.signWeight % 2 = s.toNat ∧ f.word s (a * f.binade + k) % f.signWeight = a * f.binade + k := by
    unfold Format.word
    cases s
    · simp only [Bool.false_eq_true, if_false, Bool.toNat_false]
      exact ⟨by rw [Nat.div_eq_of_lt (by omega)], Nat.mod_eq_of_lt (by omega)⟩
    · simp only [if_true, Bool.toNat_true]
      constructor
      · rw [Nat.add_div_left _ (by omega), Nat.div_eq_of_lt (by omega)]
      · rw [Nat.add_mod_left, Nat.mod_eq_of_lt (by omega)]
  unfold Format.read
  simp only [hw.1, hw.2]
  have hs : (s.toNat == 1) = s := by cases s <;> rfl
  rw [hs]
  by_cases h1 : a * f.binade + k < f.binade
  · rw [if_pos h1]
    have ha0 : a = 0 := by
      rcases Nat.eq_zero_or_pos a with h | h
      · exact h
      · have : f.binade ≤ a * f.binade := Nat.le_mul_of_pos_left _ h
        omega
    subst ha0
    refine ⟨_, _, rfl, ?_⟩
    simp
  · rw [if_neg h1, if_pos hlt]
    refine ⟨_, _, rfl, ?_⟩
    have hkb : f.binade ≤ k := by
      rcases Nat.eq_zero_or_pos a with h | h
      · subst h; omega
      · exact hk2 h
    rcases Nat.lt_or_ge k (2 * f.binade) with hk | hk
    · have e1 : (a * f.binade + k) % f.binade = k - f.binade := by
        have : a * f.binade + k = (a + 1) * f.binade + (k - f.binade) := by rw [Nat.add_mul]; omega
        rw [this, Nat.mul_comm, Nat.mul_add_mod, Nat.mod_eq_of_lt (by omega)]
      have e2 : (a * f.binade + k) / f.binade = a + 1 := by
        have : a * f.binade + k = f.binade * (a + 1) + (k - f.binade) := by rw [Nat.mul_comm f.binade, Nat.add_mul]; omega
        rw [this, Nat.mul_add_div hB0, Nat.div_eq_of_lt (by omega)]
      rw [e1, e2]
      have e3 : f.binade + (k - f.binade) = k := by omega
      rw [e3]
      rfl
    · have hk' : k = 2 * f.binade := by omega
      subst hk'
      have e1 : (a * f.binade + 2 * f.binade) % f.binade = 0 := by rw [← Nat.add_mul]; exact Nat.mul_mod_left _ _
      have e2 : (a * f.binade + 2 * f.binade) / f.binade = a + 2 := by rw [← Nat.add_mul]; exact Nat.mul_div_cancel _ hB0
      rw [e1, e2, Nat.add_zero]
      have e4 : f.leastPlace + ((a + 2 - 1 : Nat) : Int) = (f.leastPlace + a) + 1 := by omega
      rw [e4, Rat.zpow_add_one (by decide)]
      push_cast
      grind
end Go.Proofs.Ytfbekiphlaaieaa
