/- The words of the polynomial of drawn roots, of its sizes and of its values at its roots: exact, and the sizes within a millionth. Condition: at most five roots. -/
import Derived.Test.YtfbekiphlaaieaaGa
import Derived.Test.YtfbekiphlaaieaaGb
import Derived.Test.YtfbekiphlaaieaaGc
import Derived.Test.YtfbekiphlaaieaaRf
namespace Go.Proofs.Ytfbekiphlaaieaa

def powF (x : Nat × Nat) : Nat := g64 .add (g64 .mul (u64w x.1) (u64w x.1)) (g64 .mul (u64w x.2) (u64w x.2))
def longF (x : Nat × Nat) : Nat := d32 ((FloatKind.f64.format.sqrt (powF x)).getD 0)
/-- The rational complex number of units. -/
def cq (a b p : Int) : Rat × Rat := (iv2 a p, iv2 b p)
theorem nq_cq (a b p : Int) : nq (cq a b p) = iv2 (a * a + b * b) (p + p) := by
  unfold nq cq iv2
  rw [two_add]
  push_cast
  grind
theorem two_m20 : two (-20) = 1 / 1048576 := by decide +kernel
theorem long_cv {x : Nat × Nat} {a b p : Int} (h : CV x a b p) (ha : a.natAbs < 16777216) (hb : b.natAbs < 16777216) (hp : -10 ≤ p) (hp' : p ≤ 0) :
    LongW x (longF x) ∧ ∃ l, V .f32 (longF x) l ∧ Sq l (nq (cq a b p)) ∧ l ≤ 67200000 ∧ (l = 0 ∨ 1 / 2048 ≤ l) := by
  have k1 : dgs .f64 = 9007199254740992 := rfl
  obtain ⟨A, eA, vA⟩ := ex_conv h.re (k' := .f64) (by decide) (by omega) (by omega) (by omega)
  obtain ⟨B, eB, vB⟩ := ex_conv h.im (k' := .f64) (by decide) (by omega) (by omega) (by omega)
  have m1 := natAbs_mul_lt ha ha
  have m2 := natAbs_mul_lt hb hb
  obtain ⟨AA, eAA, vAA⟩ := ex_mul vA vA (by omega) (by omega) (by omega)
  obtain ⟨BB, eBB, vBB⟩ := ex_mul vB vB (by omega) (by omega) (by omega)
  obtain ⟨P, eP, vP⟩ := ex_add vAA vBB (by omega) (by omega) (by omega)
  have s1 := sq_nonneg a
  have s2 := sq_nonneg b
  have hN0 : 0 ≤ a * a + b * b := by omega
  have hNb : a * a + b * b < 562949953421312 := by omega
  obtain ⟨N, hN⟩ : ∃ N, N = a * a + b * b := ⟨_, rfl⟩
  rw [← hN] at vP hN0 hNb
  have h2p : two (p + p) ≤ 1 := by have := two_le (show p + p ≤ 0 by omega); rwa [two_zero] at this
  have h2l : 1 / 1048576 ≤ two (p + p) := by rw [← two_m20]; exact two_le (by omega)
  have hNr0 : 0 ≤ (N : Rat) := by exact_mod_cast hN0
  have hNrb : (N : Rat) < 562949953421312 := by
    have h5 : (N : Rat) < ((562949953421312 : Int) : Rat) := Rat.intCast_lt_intCast.2 hNb
    simpa using h5
  have hv0 : 0 ≤ iv2 N (p + p) := Rat.mul_nonneg hNr0 (Rat.le_of_lt (two_pos _))
  have hvb : iv2 N (p + p) < 1125899906842624 := by
    have := Rat.mul_le_mul_of_nonneg_left h2p hNr0
    unfold iv2
    grind
  have hvs : iv2 N (p + p) = 0 ∨ 1 / 1048576 ≤ iv2 N (p + p) := by
    rcases Int.lt_or_le 0 N with hpos | hle
    · right
      have h1 : 1 ≤ (N : Rat) := by exact_mod_cast hpos
      have := Rat.mul_le_mul_of_nonneg_right h1 (Rat.le_of_lt (two_pos (p + p)))
      unfold iv2
      grind
    · left
      have : N = 0 := by omega
      subst this
      unfold iv2
      simp
  obtain ⟨r, q, g1, g2, g3, g4, g5, g6⟩ := op_sqrt vP hv0 hvb (hvs.imp id (fun e => by grind))
  obtain ⟨R, l, c1, c2⟩ := op_conv g2 (k' := .f32) (by decide) (by rw [t60]; unfold ab; grind)
  have f0 : powF x = P := by
    show g64 .add (g64 .mul (u64w x.1) (u64w x.1)) (g64 .mul (u64w x.2) (u64w x.2)) = P
    have q1 : u64w x.1 = A := getD_of eA
    have q2 : u64w x.2 = B := getD_of eB
    have q3 : g64 .mul A A = AA := getD_of eAA
    have q4 : g64 .mul B B = BB := getD_of eBB
    rw [q1, q2, q3, q4]
    exact getD_of eP
  have f1 : longF x = R := by
    unfold longF
    rw [f0, g1]
    exact getD_of c1
  have hnq : nq (cq a b p) = iv2 N (p + p) := by rw [nq_cq, hN]
  rw [hnq, f1]
  refine ⟨⟨P, r, ⟨A, B, AA, BB, eA, eB, eAA, eBB, eP⟩, g1, c1⟩, l, c2.val, ?_⟩
  obtain ⟨n1, n2, n3⟩ := near_pos c2.near g3
  rcases hvs with e | e
  · rw [e] at g5 ⊢
    have hq0 : q = 0 := by
      refine Classical.byContradiction fun hne => ?_
      have h1 : 0 < q := by grind
      have := Rat.mul_pos h1 h1
      grind
    subst hq0
    have hl0 : l = 0 := c2.exact_ 0 0 (by unfold ab; simp) (Rat.zpow_pos (by decide)) (by decide)
    subst hl0
    exact ⟨⟨by decide, by grind, by grind⟩, by decide, .inl rfl⟩
  · have hq1 : 1 / 1025 ≤ q := by
      refine sq_anti g3 ?_
      grind
    have e1 : q * (1 - 5 / 4 * (1 / 8388608)) ≤ l := by grind
    have e2 : l ≤ q * (1 + 5 / 4 * (1 / 8388608)) := by grind
    have e3 := sq_mono (by grind) e1
    have e4 := sq_mono n3 e2
    have hqq := Rat.mul_nonneg g3 g3
    have hll := Rat.mul_nonneg n3 n3
    generalize iv2 N (p + p) = W at *
    refine ⟨⟨n3, ?_, ?_⟩, by grind, .inr (by grind)⟩
    · have e5 : l * l ≤ q * q * ((1 + 5 / 4 * (1 / 8388608)) * (1 + 5 / 4 * (1 / 8388608))) := by grind
      clear e1 e2 e3 e4 n1 n2 c2
      generalize q * q = qq at *
      generalize l * l = ll at *
      grind
    · have e5 : q * q * ((1 - 5 / 4 * (1 / 8388608)) * (1 - 5 / 4 * (1 / 8388608))) ≤ l * l := by grind
      clear e1 e2 e3 e4 n1 n2 c2
      generalize q * q = qq at *
      generalize l * l = ll at *
      grind
end Go.Proofs.Ytfbekiphlaaieaa
