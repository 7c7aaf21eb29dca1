/- Errors of single precision against exact values, the algebra of exact values, Horner and the shift near exact terms, sizes and distances. Condition: the majorants are below 2 to the power of 57. -/
import Derived.Test.YtfbekiphlaaieaaGm
import Derived.Test.YtfbekiphlaaieaaMf
import Derived.Test.YtfbekiphlaaieaaMg
namespace Go.Proofs.Ytfbekiphlaaieaa

def eps : Rat := 1 / 8388608
def tau : Rat := two (-140)
def qsub (a b : Rat × Rat) : Rat × Rat := (a.1 - b.1, a.2 - b.2)
theorem tau_pos : 0 < tau := two_pos _
theorem near_far {q q' : Rat} (h : Near q q') : ab (q' - q) ≤ eps * ab q + tau := by
  have h1 := h.far
  rw [t23] at h1
  exact h1
theorem near_zero {q' : Rat} (h : Near 0 q') : q' = 0 := by
  have h1 := h.pos (by grind)
  have h2 := h.neg (by grind)
  grind
theorem near_step {s s' t e : Rat} (h : Near s s') (he : ab (s - t) ≤ e) : ab (s' - t) ≤ e + eps * (ab t + e) + tau := by
  have h1 := near_far h
  have h2 := ab_add (s' - s) (s - t)
  have e1 : s' - s + (s - t) = s' - t := by grind
  rw [e1] at h2
  have h3 := ab_add (s - t) t
  have e2 : s - t + t = s := by grind
  rw [e2] at h3
  have h4 : eps * ab s ≤ eps * (ab t + e) := Rat.mul_le_mul_of_nonneg_left (by grind) (by decide +kernel)
  grind
theorem ab_tri {a b c d : Rat} : ab ((a - b) - (c - d)) ≤ ab (a - c) + ab (b - d) := by
  have e : (a - b) - (c - d) = (a - c) - (b - d) := by grind
  rw [e]
  exact ab_sub _ _
theorem ab_tri' {a b c d : Rat} : ab ((a + b) - (c + d)) ≤ ab (a - c) + ab (b - d) := by
  have e : (a + b) - (c + d) = (a - c) + (b - d) := by grind
  rw [e]
  exact ab_add _ _
theorem tau_small : tau ≤ 1 / 1000000000000000000000000000000 := t140
/-- Three roundings of one part of a product. -/
theorem part_err {s1 s2 m1 m2 p r P1 P2 : Rat} (n1 : Near P1 m1) (n2 : Near P2 m2) (n3 : Near s1 p) (n4 : Near p r) (hs : ab (s1 - s2) ≤ ab (m1 - P1) + ab (m2 - P2)) (h2 : ab s2 ≤ ab P1 + ab P2) :
    ab (r - s2) ≤ 3001 / 1000 * eps * (ab P1 + ab P2) + 7 * tau := by
  have h1 := near_far n1
  have h3 := near_far n2
  have h4 := near_step n3 hs
  have h5 := near_step n4 h4
  have k1 := ab_nonneg P1
  have k2 := ab_nonneg P2
  have ht := tau_pos
  unfold eps at *
  generalize ab (m1 - P1) = x1 at *
  generalize ab (m2 - P2) = x2 at *
  generalize ab P1 = y1 at *
  generalize ab P2 = y2 at *
  generalize ab s2 = y3 at *
  generalize ab (r - s2) = z1 at *
  generalize ab (p - s2) = z2 at *
  generalize tau = t at *
  grind
theorem prod_err {A B C D ac bd ad bc p q r s : Rat} (n1 : Near (A * C) ac) (n2 : Near (B * D) bd) (n3 : Near (A * D) ad) (n4 : Near (B * C) bc) (n5 : Near (ac - bd) p) (n6 : Near (ad + bc) q) (n7 : Near p r) (n8 : Near q s) :
    l1q (qsub (r, s) (qmul (A, B) (C, D))) ≤ 3001 / 1000 * eps * (l1q (A, B) * l1q (C, D)) + 14 * tau := by
  have h1 := part_err n1 n2 n5 n7 ab_tri (ab_sub _ _)
  have h2 := part_err n3 n4 n6 n8 ab_tri' (ab_add _ _)
  unfold l1q qsub qmul
  simp only
  rw [ab_mul, ab_mul] at h1 h2
  grind

theorem two_neg_mono {i j : Nat} (h : i ≤ j) : two (-(j : Int)) ≤ two (-(i : Int)) := two_le (by omega)
theorem two_neg_add (i j : Nat) : two (-((i + j : Nat) : Int)) = two (-(i : Int)) * two (-(j : Int)) := by
  rw [← two_add]
  congr 1
  omega
/-- The majorant is 0 or not too small. -/
def Lo (X : Rat) (j : Nat) : Prop := X = 0 ∨ two (-(j : Int)) ≤ X
theorem Lo.nonneg {X : Rat} {j : Nat} (h : Lo X j) : 0 ≤ X := by
  have := two_pos (-(j : Int))
  rcases h with h | h <;> grind
theorem Lo.up {X : Rat} {i j : Nat} (h : Lo X i) (hij : i ≤ j) : Lo X j := by
  have := two_neg_mono hij
  rcases h with h | h
  · exact .inl h
  · exact .inr (by grind)
theorem Lo.mul {X Y : Rat} {i j : Nat} (h : Lo X i) (k : Lo Y j) : Lo (X * Y) (i + j) := by
  rcases h with rfl | h
  · exact .inl (by grind)
  rcases k with rfl | k
  · exact .inl (by grind)
  refine .inr ?_
  rw [two_neg_add]
  have h1 := Rat.mul_le_mul_of_nonneg_right h (Rat.le_of_lt (two_pos (-(j : Int))))
  have h2 := Rat.mul_le_mul_of_nonneg_left k (show 0 ≤ X by have := two_pos (-(i : Int)); grind)
  grind
theorem Lo.add {X Y : Rat} {j : Nat} (h : Lo X j) (k : Lo Y j) : Lo (X + Y) j := by
  have h0 := h.nonneg
  have k0 := k.nonneg
  rcases h with rfl | h
  · rcases k with rfl | k
    · exact .inl (by grind)
    · exact .inr (by grind)
  · exact .inr (by grind)
theorem tau_le {X : Rat} {j : Nat} (h : Lo X j) (h0 : X ≠ 0) (hj : j ≤ 100) : 100 * tau ≤ eps * X := by
  have h1 := h.resolve_left h0
  have h2 := two_neg_mono hj
  have h3 : 100 * tau ≤ eps * two (-((100 : Nat) : Int)) := by unfold tau eps; decide +kernel
  have h4 : eps * two (-((100 : Nat) : Int)) ≤ eps * X := Rat.mul_le_mul_of_nonneg_left (by grind) (by decide +kernel)
  grind

/-- The word pair x stands for a number within a units of the majorant X of q. -/
structure Rp (x : Nat × Nat) (q : Rat × Rat) (X : Rat) (a j : Nat) : Prop where
  val : ∃ u : Rat × Rat, V .f32 x.1 u.1 ∧ V .f32 x.2 u.2 ∧ l1q (qsub u q) ≤ (a : Rat) * eps * X
  maj : l1q q ≤ X
  lo : Lo X j
theorem Rp.num {x : Nat × Nat} {q : Rat × Rat} {X : Rat} {a j : Nat} (h : Rp x q X a j) : NumC x := by
  obtain ⟨u, h1, h2, _⟩ := h.val
  exact ⟨⟨_, h1⟩, ⟨_, h2⟩⟩
theorem l1_tri (u q : Rat × Rat) : l1q u ≤ l1q q + l1q (qsub u q) := by
  have h1 := ab_add (u.1 - q.1) q.1
  have h2 := ab_add (u.2 - q.2) q.2
  have e1 : u.1 - q.1 + q.1 = u.1 := by grind
  have e2 : u.2 - q.2 + q.2 = u.2 := by grind
  rw [e1] at h1
  rw [e2] at h2
  unfold l1q qsub
  simp only
  grind
theorem l1_eq_zero {u : Rat × Rat} (h : l1q u ≤ 0) : u.1 = 0 ∧ u.2 = 0 := by
  have h1 := ab_nonneg u.1
  have h2 := ab_nonneg u.2
  unfold l1q at h
  have h3 : ab u.1 = 0 := by grind
  have h4 : ab u.2 = 0 := by grind
  unfold ab at h3 h4
  constructor
  · split at h3 <;> grind
  · split at h4 <;> grind
theorem ab_part (u : Rat × Rat) : ab u.1 ≤ l1q u ∧ ab u.2 ≤ l1q u := by
  have h1 := ab_nonneg u.1
  have h2 := ab_nonneg u.2
  unfold l1q
  constructor <;> grind
theorem units_le {a : Nat} (ha : a ≤ 500) {X : Rat} (hX : 0 ≤ X) : (a : Rat) * eps * X ≤ 1 / 16000 * X := by
  have h1 : (a : Rat) ≤ 500 := by exact_mod_cast ha
  have h2 := Rat.mul_le_mul_of_nonneg_right h1 hX
  unfold eps
  grind
theorem units_nonneg (a : Nat) {X : Rat} (hX : 0 ≤ X) : 0 ≤ (a : Rat) * eps * X := by
  have h1 : 0 ≤ (a : Rat) := by exact_mod_cast Nat.zero_le a
  have h2 := Rat.mul_nonneg h1 hX
  unfold eps
  grind
end Go.Proofs.Ytfbekiphlaaieaa
namespace Go.Proofs.Ytfbekiphlaaieaa

def big57 : Rat := 144115188075855872
/-- The widening of a word. -/
theorem up_near {x : Nat} {u : Rat} (h : V .f32 x u) (hb : ab u < 288230376151711744) : ∃ w u', cv64 x = some w ∧ u64w x = w ∧ V .f64 w u' ∧ Near u u' := by
  obtain ⟨w, u', e1, r⟩ := op_conv h (k' := .f64) (by decide) (by rw [t60]; grind)
  exact ⟨w, u', e1, getD_of e1, r.val, r.near⟩
theorem near_pair {u1 u2 v1 v2 : Rat} (n1 : Near u1 v1) (n2 : Near u2 v2) : l1q (qsub (v1, v2) (u1, u2)) ≤ eps * l1q (u1, u2) + 2 * tau := by
  have h1 := near_far n1
  have h2 := near_far n2
  unfold l1q qsub
  simp only
  grind
theorem l1_sub_tri (a b c : Rat × Rat) : l1q (qsub a c) ≤ l1q (qsub a b) + l1q (qsub b c) := by
  have h1 := ab_add (a.1 - b.1) (b.1 - c.1)
  have h2 := ab_add (a.2 - b.2) (b.2 - c.2)
  have e1 : a.1 - b.1 + (b.1 - c.1) = a.1 - c.1 := by grind
  have e2 : a.2 - b.2 + (b.2 - c.2) = a.2 - c.2 := by grind
  rw [e1] at h1
  rw [e2] at h2
  unfold l1q qsub
  simp only
  grind
/-- The difference of two products. -/
theorem mul_diff (a b c d : Rat × Rat) : l1q (qsub (qmul a b) (qmul c d)) ≤ l1q (qsub a c) * l1q b + l1q c * l1q (qsub b d) := by
  have e : qsub (qmul a b) (qmul c d) = qadd (qmul (qsub a c) b) (qmul c (qsub b d)) := by
    unfold qsub qmul qadd
    refine Prod.ext ?_ ?_ <;> simp only <;> grind
  rw [e]
  have h1 := l1_add (qmul (qsub a c) b) (qmul c (qsub b d))
  have h2 := l1_mul (qsub a c) b
  have h3 := l1_mul c (qsub b d)
  grind
theorem eps_pos : 0 < eps := by decide +kernel
theorem eps_val : eps = 1 / 8388608 := rfl
/-- A widened pair is one unit and a bit further off. -/
theorem wide_pair {u v q : Rat × Rat} {X : Rat} {a : Nat} (hX : 0 ≤ X) (ha : a ≤ 500) (hq : l1q q ≤ X) (h : l1q (qsub u q) ≤ (a : Rat) * eps * X) (n : l1q (qsub v u) ≤ eps * l1q u + 2 * tau) (ht : 100 * tau ≤ eps * X) :
    l1q (qsub v q) ≤ ((a : Rat) + 103 / 100) * (eps * X) := by
  have h1 := l1_sub_tri v u q
  have h2 := l1_tri u q
  have h3 := units_le ha hX
  have h4 : eps * l1q u ≤ eps * (16001 / 16000 * X) := Rat.mul_le_mul_of_nonneg_left (by grind) (Rat.le_of_lt eps_pos)
  have e1 : (a : Rat) * eps * X = (a : Rat) * (eps * X) := by grind
  have h5 := Rat.mul_nonneg (Rat.le_of_lt eps_pos) hX
  rw [e1] at h
  have e2 : eps * (16001 / 16000 * X) = 16001 / 16000 * (eps * X) := by grind
  rw [e2] at h4
  generalize (a : Rat) * (eps * X) = aX at *
  have e3 : ((a : Rat) + 103 / 100) * (eps * X) = (a : Rat) * (eps * X) + 103 / 100 * (eps * X) := by grind
  rw [e3]
  grind
/-- How far a rounded product is, in units. -/
theorem mul_units {X Y E F P : Rat} {a b : Nat} (hX : 0 ≤ X) (hY : 0 ≤ Y) (ha : a ≤ 500) (hb : b ≤ 500) (hF0 : 0 ≤ F) (hE : E ≤ ((a : Rat) + 103 / 100) * (eps * X)) (hF : F ≤ ((b : Rat) + 103 / 100) * (eps * Y))
    (hP : P ≤ 3001 / 1000 * eps * ((X + E) * (Y + F)) + 14 * tau + (E * (Y + F) + X * F)) (ht : 100 * tau ≤ eps * (X * Y)) : P ≤ ((a + b + 6 : Nat) : Rat) * eps * (X * Y) := by
  have ha' : (a : Rat) ≤ 500 := by exact_mod_cast ha
  have hb' : (b : Rat) ≤ 500 := by exact_mod_cast hb
  have ha0 : 0 ≤ (a : Rat) := by exact_mod_cast Nat.zero_le a
  have hb0 : 0 ≤ (b : Rat) := by exact_mod_cast Nat.zero_le b
  push_cast
  generalize (a : Rat) = A at *
  generalize (b : Rat) = B at *
  have hXY := Rat.mul_nonneg hX hY
  have e1 : (A + 103 / 100) * (eps * X) = (A + 103 / 100) * eps * X := by grind
  have e2 : (B + 103 / 100) * (eps * Y) = (B + 103 / 100) * eps * Y := by grind
  rw [e1] at hE
  rw [e2] at hF
  -- the units as numbers
  have kA : (A + 103 / 100) * eps ≤ 1 / 16000 := by rw [eps_val]; grind
  have kB : (B + 103 / 100) * eps ≤ 1 / 16000 := by rw [eps_val]; grind
  have kA0 : 0 ≤ (A + 103 / 100) * eps := by rw [eps_val]; grind
  have kB0 : 0 ≤ (B + 103 / 100) * eps := by rw [eps_val]; grind
  have hEs : E ≤ 1 / 16000 * X := by have := Rat.mul_le_mul_of_nonneg_right kA hX; grind
  have hFs : F ≤ 1 / 16000 * Y := by have := Rat.mul_le_mul_of_nonneg_right kB hY; grind
  have m1 : (X + E) * (Y + F) ≤ (16001 / 16000 * X) * (16001 / 16000 * Y) := by
    have g1 := Rat.mul_le_mul_of_nonneg_right (show X + E ≤ 16001 / 16000 * X by grind) (show 0 ≤ Y + F by grind)
    have g2 := Rat.mul_le_mul_of_nonneg_left (show Y + F ≤ 16001 / 16000 * Y by grind) (show 0 ≤ 16001 / 16000 * X by grind)
    grind
  have m2 : E * (Y + F) ≤ (A + 103 / 100) * eps * (X * Y) + 1 / 16000 * ((A + 103 / 100) * eps * (X * Y)) := by
    have g1 := Rat.mul_le_mul_of_nonneg_right hE (show 0 ≤ Y + F by grind)
    have g2 := Rat.mul_le_mul_of_nonneg_left (show Y + F ≤ 16001 / 16000 * Y by grind) (Rat.mul_nonneg kA0 hX)
    grind
  have m3 : X * F ≤ (B + 103 / 100) * eps * (X * Y) := by
    have g1 := Rat.mul_le_mul_of_nonneg_left hF hX
    grind
  have m4 : (A + 103 / 100) * eps * (X * Y) ≤ 502 * (eps * (X * Y)) := by
    have g1 := Rat.mul_le_mul_of_nonneg_right (show A + 103 / 100 ≤ 502 by grind) (Rat.mul_nonneg (Rat.le_of_lt eps_pos) hXY)
    grind
  have m5 : 3001 / 1000 * eps * ((X + E) * (Y + F)) ≤ 3001 / 1000 * eps * ((16001 / 16000 * X) * (16001 / 16000 * Y)) := Rat.mul_le_mul_of_nonneg_left m1 (by decide +kernel)
  have hw := Rat.mul_nonneg (Rat.le_of_lt eps_pos) hXY
  have e3 : 3001 / 1000 * eps * ((16001 / 16000 * X) * (16001 / 16000 * Y)) = 3001 / 1000 * (16001 / 16000 * (16001 / 16000)) * (eps * (X * Y)) := by grind
  have e4 : (A + 103 / 100) * eps * (X * Y) = A * (eps * (X * Y)) + 103 / 100 * (eps * (X * Y)) := by grind
  have e5 : (B + 103 / 100) * eps * (X * Y) = B * (eps * (X * Y)) + 103 / 100 * (eps * (X * Y)) := by grind
  have e6 : (A + B + 6) * eps * (X * Y) = A * (eps * (X * Y)) + B * (eps * (X * Y)) + 6 * (eps * (X * Y)) := by grind
  rw [e3] at m5
  rw [e4] at m2 m4
  rw [e5] at m3
  rw [e6]
  generalize A * (eps * (X * Y)) = AW at *
  generalize B * (eps * (X * Y)) = BW at *
  generalize eps * (X * Y) = W at *
  generalize 3001 / 1000 * eps * ((X + E) * (Y + F)) = T1 at *
  generalize E * (Y + F) = T2 at *
  generalize X * F = T3 at *
  clear kA kB kA0 kB0 hE hF e1 e2 e3 e4 e5 e6 m1
  grind

theorem near_le {q q' : Rat} (h : Near q q') : ab q' ≤ 1001 / 1000 * ab q + tau := by
  have h1 := near_far h
  have h2 := ab_add (q' - q) q
  have e : q' - q + q = q' := by grind
  rw [e] at h2
  have h3 := ab_nonneg q
  unfold eps at h1
  grind
/-- The words of a product, and all its roundings. -/
theorem mul_words {x y : Nat × Nat} {u1 u2 v1 v2 U W : Rat} (a1 : V .f32 x.1 u1) (a2 : V .f32 x.2 u2) (b1 : V .f32 y.1 v1) (b2 : V .f32 y.2 v2) (hu : l1q (u1, u2) ≤ U) (hv : l1q (v1, v2) ≤ W) (hU : U < 288230376151711744) (hW : W < 288230376151711744) (hUW : U * W ≤ 144140000000000000) :
    ∃ A B C D ac bd ad bc p q r s : Rat, MulW x y (mulF x y) ∧ V .f32 (mulF x y).1 r ∧ V .f32 (mulF x y).2 s ∧ Near u1 A ∧ Near u2 B ∧ Near v1 C ∧ Near v2 D ∧
      Near (A * C) ac ∧ Near (B * D) bd ∧ Near (A * D) ad ∧ Near (B * C) bc ∧ Near (ac - bd) p ∧ Near (ad + bc) q ∧ Near p r ∧ Near q s := by
  have pu := ab_part (u1, u2)
  have pv := ab_part (v1, v2)
  simp only at pu pv
  obtain ⟨wA, A, eA, gA, vA, nA⟩ := up_near a1 (by grind)
  obtain ⟨wB, B, eB, gB, vB, nB⟩ := up_near a2 (by grind)
  obtain ⟨wC, C, eC, gC, vC, nC⟩ := up_near b1 (by grind)
  obtain ⟨wD, D, eD, gD, vD, nD⟩ := up_near b2 (by grind)
  have ht := tau_pos
  have ht2 := tau_small
  have hU0 : 0 ≤ U := by have := l1_nonneg (u1, u2); grind
  have hW0 : 0 ≤ W := by have := l1_nonneg (v1, v2); grind
  have lA : ab A ≤ 1001 / 1000 * U + tau := by have := near_le nA; grind
  have lB : ab B ≤ 1001 / 1000 * U + tau := by have := near_le nB; grind
  have lC : ab C ≤ 1001 / 1000 * W + tau := by have := near_le nC; grind
  have lD : ab D ≤ 1001 / 1000 * W + tau := by have := near_le nD; grind
  have hM : (1001 / 1000 * U + tau) * (1001 / 1000 * W + tau) < 145000000000000000 := by
    have g1 : tau * U ≤ 1 / 1000000000000000000000000000000 * 288230376151711744 := by
      have := Rat.mul_le_mul_of_nonneg_right ht2 hU0
      grind
    have g2 : tau * W ≤ 1 / 1000000000000000000000000000000 * 288230376151711744 := by
      have := Rat.mul_le_mul_of_nonneg_right ht2 hW0
      grind
    have g3 : tau * tau ≤ 1 := by
      have := Rat.mul_le_mul_of_nonneg_left ht2 (Rat.le_of_lt ht)
      grind
    have e : (1001 / 1000 * U + tau) * (1001 / 1000 * W + tau) = 1001 / 1000 * (1001 / 1000) * (U * W) + 1001 / 1000 * (tau * U) + 1001 / 1000 * (tau * W) + tau * tau := by grind
    rw [e]
    grind
  have p1 := ab_mul_le lA lC
  have p2 := ab_mul_le lB lD
  have p3 := ab_mul_le lA lD
  have p4 := ab_mul_le lB lC
  generalize (1001 / 1000 * U + tau) * (1001 / 1000 * W + tau) = M at *
  obtain ⟨AC, ac, eAC, rAC⟩ := op_mul vA vC (by rw [t60]; grind)
  obtain ⟨BD, bd, eBD, rBD⟩ := op_mul vB vD (by rw [t60]; grind)
  obtain ⟨AD, ad, eAD, rAD⟩ := op_mul vA vD (by rw [t60]; grind)
  obtain ⟨BC, bc, eBC, rBC⟩ := op_mul vB vC (by rw [t60]; grind)
  have q1 := near_le rAC.near
  have q2 := near_le rBD.near
  have q3 := near_le rAD.near
  have q4 := near_le rBC.near
  have s1 := ab_sub ac bd
  have s2 := ab_add ad bc
  obtain ⟨P, p, eP, rP⟩ := op_sub rAC.val rBD.val (by rw [t60]; grind)
  obtain ⟨Q, q, eQ, rQ⟩ := op_add rAD.val rBC.val (by rw [t60]; grind)
  have u1' := near_le rP.near
  have u2' := near_le rQ.near
  obtain ⟨R, r, eR, rR⟩ := op_conv rP.val (k' := .f32) (by decide) (by rw [t60]; grind)
  obtain ⟨S, s, eS, rS⟩ := op_conv rQ.val (k' := .f32) (by decide) (by rw [t60]; grind)
  have f1 : (mulF x y).1 = R := by
    show d32 (g64 .sub (g64 .mul (u64w x.1) (u64w y.1)) (g64 .mul (u64w x.2) (u64w y.2))) = R
    rw [gA, gB, gC, gD, show g64 .mul wA wC = AC from getD_of eAC, show g64 .mul wB wD = BD from getD_of eBD, show g64 .sub AC BD = P from getD_of eP]
    exact getD_of eR
  have f2 : (mulF x y).2 = S := by
    show d32 (g64 .add (g64 .mul (u64w x.1) (u64w y.2)) (g64 .mul (u64w x.2) (u64w y.1))) = S
    rw [gA, gB, gC, gD, show g64 .mul wA wD = AD from getD_of eAD, show g64 .mul wB wC = BC from getD_of eBC, show g64 .add AD BC = Q from getD_of eQ]
    exact getD_of eS
  exact ⟨A, B, C, D, ac, bd, ad, bc, p, q, r, s, ⟨P, Q, ⟨⟨wA, wB, wC, wD, AC, BD, AD, BC, eA, eB, eC, eD, eAC, eBD, eAD, eBC, eP, eQ⟩⟩, by rw [f1]; exact eR, by rw [f2]; exact eS⟩, by rw [f1]; exact rR.val, by rw [f2]; exact rS.val, nA, nB, nC, nD, rAC.near, rBD.near, rAD.near, rBC.near, rP.near, rQ.near, rR.near, rS.near⟩
theorem rp_bound {x : Nat × Nat} {q : Rat × Rat} {X : Rat} {a j : Nat} (h : Rp x q X a j) (ha : a ≤ 500) : ∃ u1 u2 : Rat, V .f32 x.1 u1 ∧ V .f32 x.2 u2 ∧ l1q (qsub (u1, u2) q) ≤ (a : Rat) * eps * X ∧ l1q (u1, u2) ≤ 16001 / 16000 * X := by
  obtain ⟨u, h1, h2, h3⟩ := h.val
  refine ⟨u.1, u.2, h1, h2, h3, ?_⟩
  have h4 := l1_tri u q
  have h5 := units_le ha h.lo.nonneg
  have h6 := h.maj
  show l1q u ≤ _
  grind
theorem near_of_zero {q q' : Rat} (h : Near q q') (h0 : q = 0) : q' = 0 := by subst h0; exact near_zero h
theorem l1_zero : l1q (0, 0) = 0 := by decide +kernel
theorem rp_mul {x y : Nat × Nat} {q r : Rat × Rat} {X Y : Rat} {a b i j : Nat} (hx : Rp x q X a i) (hy : Rp y r Y b j) (ha : a ≤ 500) (hb : b ≤ 500) (hij : i + j ≤ 100) (bX : X ≤ big57) (bY : Y ≤ big57) (bXY : X * Y ≤ big57) :
    MulW x y (mulF x y) ∧ Rp (mulF x y) (qmul q r) (X * Y) (a + b + 6) (i + j) := by
  obtain ⟨u1, u2, a1, a2, du, lu⟩ := rp_bound hx ha
  obtain ⟨v1, v2, b1, b2, dv, lv⟩ := rp_bound hy hb
  have hX := hx.lo.nonneg
  have hY := hy.lo.nonneg
  have hXY := Rat.mul_nonneg hX hY
  unfold big57 at bX bY bXY
  obtain ⟨A, B, C, D, ac, bd, ad, bc, p, q', r', s', hM, vR, vS, nA, nB, nC, nD, n1, n2, n3, n4, n5, n6, n7, n8⟩ := mul_words a1 a2 b1 b2 lu lv (by grind) (by grind) (by
    have e : 16001 / 16000 * X * (16001 / 16000 * Y) = 16001 / 16000 * (16001 / 16000) * (X * Y) := by grind
    rw [e]
    grind)
  refine ⟨hM, ⟨(r', s'), vR, vS, ?_⟩, ?_, hx.lo.mul hy.lo⟩
  · by_cases h0 : X * Y = 0
    · -- nothing but zeros
      have hz : l1q (u1, u2) ≤ 0 ∨ l1q (v1, v2) ≤ 0 := by
        rcases Rat.mul_eq_zero.1 h0 with h | h
        · left; rw [h] at lu; grind
        · right; rw [h] at lv; grind
      have hprod : A * C = 0 ∧ B * D = 0 ∧ A * D = 0 ∧ B * C = 0 := by
        rcases hz with h | h
        · have := l1_eq_zero h
          rw [near_of_zero nA this.1, near_of_zero nB this.2]
          grind
        · have := l1_eq_zero h
          rw [near_of_zero nC this.1, near_of_zero nD this.2]
          grind
      have z1 := near_of_zero n1 hprod.1
      have z2 := near_of_zero n2 hprod.2.1
      have z3 := near_of_zero n3 hprod.2.2.1
      have z4 := near_of_zero n4 hprod.2.2.2
      have z5 := near_of_zero n7 (near_of_zero n5 (by rw [z1, z2]; grind))
      have z6 := near_of_zero n8 (near_of_zero n6 (by rw [z3, z4]; grind))
      have hqr := l1_mul q r
      have hq0 : l1q q * l1q r ≤ 0 := by
        have g1 := Rat.mul_le_mul_of_nonneg_right hx.maj (l1_nonneg r)
        have g2 := Rat.mul_le_mul_of_nonneg_left hy.maj hX
        grind
      have hz2 := l1_eq_zero (show l1q (qmul q r) ≤ 0 by grind)
      have e : qsub (r', s') (qmul q r) = (0, 0) := by
        unfold qsub
        rw [z5, z6, hz2.1, hz2.2]
        refine Prod.ext ?_ ?_ <;> simp only <;> grind
      rw [e, l1_zero, h0]
      grind
    · have hX0 : X ≠ 0 := by intro h; rw [h] at h0; grind
      have hY0 : Y ≠ 0 := by intro h; rw [h] at h0; grind
      have tX := tau_le hx.lo hX0 (by omega)
      have tY := tau_le hy.lo hY0 (by omega)
      have tXY := tau_le (hx.lo.mul hy.lo) h0 hij
      have w1 := wide_pair hX ha hx.maj du (near_pair nA nB) tX
      have w2 := wide_pair hY hb hy.maj dv (near_pair nC nD) tY
      have hpe := prod_err n1 n2 n3 n4 n5 n6 n7 n8
      have hmd := mul_diff (A, B) (C, D) q r
      have htr := l1_sub_tri (r', s') (qmul (A, B) (C, D)) (qmul q r)
      have lAB := l1_tri (A, B) q
      have lCD := l1_tri (C, D) r
      have hqX := hx.maj
      have hrY := hy.maj
      have z0 := l1_nonneg (qsub (A, B) q)
      have z1 := l1_nonneg (qsub (C, D) r)
      have z2 := l1_nonneg (A, B)
      have z3 := l1_nonneg (C, D)
      have z4 := l1_nonneg q
      refine mul_units hX hY ha hb (E := l1q (qsub (A, B) q)) (F := l1q (qsub (C, D) r)) z1 w1 w2 ?_ tXY
      generalize l1q (qsub (A, B) q) = E at *
      generalize l1q (qsub (C, D) r) = F at *
      generalize l1q (A, B) = LA at *
      generalize l1q (C, D) = LC at *
      have g1 : LA * LC ≤ (X + E) * (Y + F) := by
        have k1 := Rat.mul_le_mul_of_nonneg_right (show LA ≤ X + E by grind) z3
        have k2 := Rat.mul_le_mul_of_nonneg_left (show LC ≤ Y + F by grind) (show 0 ≤ X + E by grind)
        grind
      have g2 : 3001 / 1000 * eps * (LA * LC) ≤ 3001 / 1000 * eps * ((X + E) * (Y + F)) := Rat.mul_le_mul_of_nonneg_left g1 (by decide +kernel)
      have g3 : E * LC ≤ E * (Y + F) := Rat.mul_le_mul_of_nonneg_left (by grind) z0
      have g4 : l1q q * F ≤ X * F := Rat.mul_le_mul_of_nonneg_right hqX z1
      grind
  · have h1 := l1_mul q r
    have g1 := Rat.mul_le_mul_of_nonneg_right hx.maj (l1_nonneg r)
    have g2 := Rat.mul_le_mul_of_nonneg_left hy.maj hX
    grind
end Go.Proofs.Ytfbekiphlaaieaa
namespace Go.Proofs.Ytfbekiphlaaieaa

theorem sum_units {X Y D E F : Rat} {a b c : Nat} (hX : 0 ≤ X) (hY : 0 ≤ Y) (hac : a ≤ c) (hbc : b ≤ c) (hE : E ≤ (a : Rat) * eps * X) (hF : F ≤ (b : Rat) * eps * Y) (hD : D ≤ eps * (16001 / 16000 * X + 16001 / 16000 * Y) + 2 * tau + (E + F)) (ht : 100 * tau ≤ eps * (X + Y)) :
    D ≤ ((c + 2 : Nat) : Rat) * eps * (X + Y) := by
  have ha : (a : Rat) ≤ c := by exact_mod_cast hac
  have hb : (b : Rat) ≤ c := by exact_mod_cast hbc
  have kX := Rat.mul_nonneg (Rat.le_of_lt eps_pos) hX
  have kY := Rat.mul_nonneg (Rat.le_of_lt eps_pos) hY
  have g1 := Rat.mul_le_mul_of_nonneg_right ha kX
  have g2 := Rat.mul_le_mul_of_nonneg_right hb kY
  push_cast
  have e1 : (a : Rat) * eps * X = (a : Rat) * (eps * X) := by grind
  have e2 : (b : Rat) * eps * Y = (b : Rat) * (eps * Y) := by grind
  have e3 : ((c : Rat) + 2) * eps * (X + Y) = (c : Rat) * (eps * X) + (c : Rat) * (eps * Y) + 2 * (eps * X) + 2 * (eps * Y) := by grind
  have e4 : eps * (16001 / 16000 * X + 16001 / 16000 * Y) = 16001 / 16000 * (eps * X) + 16001 / 16000 * (eps * Y) := by grind
  have e5 : eps * (X + Y) = eps * X + eps * Y := by grind
  rw [e1] at hE
  rw [e2] at hF
  rw [e3]
  rw [e4] at hD
  rw [e5] at ht
  generalize (a : Rat) * (eps * X) = A1 at *
  generalize (b : Rat) * (eps * Y) = B1 at *
  generalize (c : Rat) * (eps * X) = C1 at *
  generalize (c : Rat) * (eps * Y) = C2 at *
  generalize eps * X = eX at *
  generalize eps * Y = eY at *
  grind
theorem qadd_diff (a b c d : Rat × Rat) : l1q (qsub (qadd a b) (qadd c d)) ≤ l1q (qsub a c) + l1q (qsub b d) := by
  have h1 := @ab_tri' a.1 b.1 c.1 d.1
  have h2 := @ab_tri' a.2 b.2 c.2 d.2
  unfold l1q qsub qadd
  simp only
  grind
theorem qsub_diff (a b c d : Rat × Rat) : l1q (qsub (qsub a b) (qsub c d)) ≤ l1q (qsub a c) + l1q (qsub b d) := by
  have h1 := @ab_tri a.1 b.1 c.1 d.1
  have h2 := @ab_tri a.2 b.2 c.2 d.2
  unfold l1q qsub
  simp only
  grind
theorem l1_sub (a b : Rat × Rat) : l1q (qsub a b) ≤ l1q a + l1q b := by
  have h1 := ab_sub a.1 b.1
  have h2 := ab_sub a.2 b.2
  unfold l1q qsub
  simp only
  grind
theorem zero_sum {X Y : Rat} (hX : 0 ≤ X) (hY : 0 ≤ Y) (h : X + Y = 0) : X = 0 ∧ Y = 0 := by constructor <;> grind
theorem val_zero {u q : Rat × Rat} {X : Rat} {a : Nat} (h : l1q (qsub u q) ≤ (a : Rat) * eps * X) (hq : l1q q ≤ X) (h0 : X = 0) : u = (0, 0) ∧ q = (0, 0) := by
  subst h0
  have h1 := l1_eq_zero hq
  have h2 := l1_eq_zero (show l1q (qsub u q) ≤ 0 by grind)
  unfold qsub at h2
  simp only at h2
  refine ⟨Prod.ext ?_ ?_, Prod.ext ?_ ?_⟩ <;> simp only <;> grind
theorem rp_plus {x y : Nat × Nat} {q r : Rat × Rat} {X Y : Rat} {a b c i j k : Nat} (hx : Rp x q X a i) (hy : Rp y r Y b j) (hac : a ≤ c) (hbc : b ≤ c) (hc : c ≤ 500) (hik : i ≤ k) (hjk : j ≤ k) (hk : k ≤ 100) (bX : X ≤ big57) (bY : Y ≤ big57) :
    PlusW x y (plusF x y) ∧ Rp (plusF x y) (qadd q r) (X + Y) (c + 2) k := by
  obtain ⟨u1, u2, a1, a2, du, lu⟩ := rp_bound hx (by omega)
  obtain ⟨v1, v2, b1, b2, dv, lv⟩ := rp_bound hy (by omega)
  have hX := hx.lo.nonneg
  have hY := hy.lo.nonneg
  unfold big57 at bX bY
  have pu := ab_part (u1, u2)
  have pv := ab_part (v1, v2)
  simp only at pu pv
  have s1 := ab_add u1 v1
  have s2 := ab_add u2 v2
  obtain ⟨R, r', eR, rR⟩ := op_add a1 b1 (by rw [t60]; grind)
  obtain ⟨S, s', eS, rS⟩ := op_add a2 b2 (by rw [t60]; grind)
  have f1 : (plusF x y).1 = R := getD_of eR
  have f2 : (plusF x y).2 = S := getD_of eS
  have hlo : Lo (X + Y) k := (hx.lo.up hik).add (hy.lo.up hjk)
  refine ⟨⟨by rw [f1]; exact eR, by rw [f2]; exact eS⟩, ⟨(r', s'), by rw [f1]; exact rR.val, by rw [f2]; exact rS.val, ?_⟩, ?_, hlo⟩
  · have n := near_pair rR.near rS.near
    have h3 := l1_sub_tri (r', s') (u1 + v1, u2 + v2) (qadd q r)
    have h4 := qadd_diff (u1, u2) (v1, v2) q r
    have h5 := l1_add (u1, u2) (v1, v2)
    have e1 : qadd (u1, u2) (v1, v2) = (u1 + v1, u2 + v2) := rfl
    rw [e1] at h4 h5
    by_cases h0 : X + Y = 0
    · have hz := zero_sum hX hY h0
      have z1 := val_zero du hx.maj hz.1
      have z2 := val_zero dv hy.maj hz.2
      have g1 : u1 = 0 := congrArg Prod.fst z1.1
      have g2 : u2 = 0 := congrArg Prod.snd z1.1
      have g3 : v1 = 0 := congrArg Prod.fst z2.1
      have g4 : v2 = 0 := congrArg Prod.snd z2.1
      have z5 := near_of_zero rR.near (by rw [g1, g3]; grind)
      have z6 := near_of_zero rS.near (by rw [g2, g4]; grind)
      rw [z5, z6, z1.2, z2.2, h0]
      have e : l1q (qsub (0, 0) (qadd (0, 0) (0, 0))) = 0 := by decide +kernel
      rw [e]
      grind
    · have ht := tau_le hlo h0 hk
      refine sum_units hX hY hac hbc du dv ?_ ht
      have h6 : eps * l1q (u1 + v1, u2 + v2) ≤ eps * (16001 / 16000 * X + 16001 / 16000 * Y) := Rat.mul_le_mul_of_nonneg_left (by grind) (Rat.le_of_lt eps_pos)
      grind
  · have h1 := l1_add q r
    have h2 := hx.maj
    have h3 := hy.maj
    grind
theorem rp_minus {x y : Nat × Nat} {q r : Rat × Rat} {X Y : Rat} {a b c i j k : Nat} (hx : Rp x q X a i) (hy : Rp y r Y b j) (hac : a ≤ c) (hbc : b ≤ c) (hc : c ≤ 500) (hik : i ≤ k) (hjk : j ≤ k) (hk : k ≤ 100) (bX : X ≤ big57) (bY : Y ≤ big57) :
    MinusW x y (minusF x y) ∧ Rp (minusF x y) (qsub q r) (X + Y) (c + 2) k := by
  obtain ⟨u1, u2, a1, a2, du, lu⟩ := rp_bound hx (by omega)
  obtain ⟨v1, v2, b1, b2, dv, lv⟩ := rp_bound hy (by omega)
  have hX := hx.lo.nonneg
  have hY := hy.lo.nonneg
  unfold big57 at bX bY
  have pu := ab_part (u1, u2)
  have pv := ab_part (v1, v2)
  simp only at pu pv
  have s1 := ab_sub u1 v1
  have s2 := ab_sub u2 v2
  obtain ⟨R, r', eR, rR⟩ := op_sub a1 b1 (by rw [t60]; grind)
  obtain ⟨S, s', eS, rS⟩ := op_sub a2 b2 (by rw [t60]; grind)
  have f1 : (minusF x y).1 = R := getD_of eR
  have f2 : (minusF x y).2 = S := getD_of eS
  have hlo : Lo (X + Y) k := (hx.lo.up hik).add (hy.lo.up hjk)
  refine ⟨⟨by rw [f1]; exact eR, by rw [f2]; exact eS⟩, ⟨(r', s'), by rw [f1]; exact rR.val, by rw [f2]; exact rS.val, ?_⟩, ?_, hlo⟩
  · have n := near_pair rR.near rS.near
    have h3 := l1_sub_tri (r', s') (u1 - v1, u2 - v2) (qsub q r)
    have h4 := qsub_diff (u1, u2) (v1, v2) q r
    have h5 := l1_sub (u1, u2) (v1, v2)
    have e1 : qsub (u1, u2) (v1, v2) = (u1 - v1, u2 - v2) := rfl
    rw [e1] at h4 h5
    by_cases h0 : X + Y = 0
    · have hz := zero_sum hX hY h0
      have z1 := val_zero du hx.maj hz.1
      have z2 := val_zero dv hy.maj hz.2
      have g1 : u1 = 0 := congrArg Prod.fst z1.1
      have g2 : u2 = 0 := congrArg Prod.snd z1.1
      have g3 : v1 = 0 := congrArg Prod.fst z2.1
      have g4 : v2 = 0 := congrArg Prod.snd z2.1
      have z5 := near_of_zero rR.near (by rw [g1, g3]; grind)
      have z6 := near_of_zero rS.near (by rw [g2, g4]; grind)
      rw [z5, z6, z1.2, z2.2, h0]
      have e : l1q (qsub (0, 0) (qsub (0, 0) (0, 0))) = 0 := by decide +kernel
      rw [e]
      grind
    · have ht := tau_le hlo h0 hk
      refine sum_units hX hY hac hbc du dv ?_ ht
      have h6 : eps * l1q (u1 - v1, u2 - v2) ≤ eps * (16001 / 16000 * X + 16001 / 16000 * Y) := Rat.mul_le_mul_of_nonneg_left (by grind) (Rat.le_of_lt eps_pos)
      grind
  · have h1 := l1_sub q r
    have h2 := hx.maj
    have h3 := hy.maj
    grind
theorem V_nought {k : FloatKind} {v : Rat} (h : V k 0 v) : v = 0 := by
  have h0 := V_zero k false 0
  have e : k.encode (.number false 0 0) = 0 := by cases k <;> decide +kernel
  rw [e] at h0
  exact h.uniq h0
/-- A real multiple. -/
theorem rp_scale {x : Nat × Nat} {y : Nat} {q : Rat × Rat} {ρ X Y : Rat} {a b i j : Nat} (hx : Rp x q X a i) (hy : Rp (y, 0) (ρ, 0) Y b j) (ha : a ≤ 500) (hb : b ≤ 500) (hij : i + j ≤ 100) (bXY : X * Y ≤ big57) :
    ScaleW x y (scF x y) ∧ Rp (scF x y) (qmul q (ρ, 0)) (X * Y) (a + b + 6) (i + j) := by
  obtain ⟨u1, u2, a1, a2, du, lu⟩ := rp_bound hx ha
  obtain ⟨v, v2, b1, b2, dv, lv⟩ := rp_bound hy hb
  have hv2 : v2 = 0 := V_nought b2
  subst hv2
  have hX := hx.lo.nonneg
  have hY := hy.lo.nonneg
  have hXY := Rat.mul_nonneg hX hY
  unfold big57 at bXY
  have pu := ab_part (u1, u2)
  have pv := ab_part (v, 0)
  simp only at pu pv
  have m1 := ab_mul_le (show ab u1 ≤ 16001 / 16000 * X by grind) (show ab v ≤ 16001 / 16000 * Y by grind)
  have m2 := ab_mul_le (show ab u2 ≤ 16001 / 16000 * X by grind) (show ab v ≤ 16001 / 16000 * Y by grind)
  have e0 : 16001 / 16000 * X * (16001 / 16000 * Y) = 16001 / 16000 * (16001 / 16000) * (X * Y) := by grind
  rw [e0] at m1 m2
  obtain ⟨R, r', eR, rR⟩ := op_mul a1 b1 (by rw [t60]; grind)
  obtain ⟨S, s', eS, rS⟩ := op_mul a2 b1 (by rw [t60]; grind)
  have f1 : (scF x y).1 = R := getD_of eR
  have f2 : (scF x y).2 = S := getD_of eS
  have hlo := hx.lo.mul hy.lo
  refine ⟨⟨by rw [f1]; exact eR, by rw [f2]; exact eS⟩, ⟨(r', s'), by rw [f1]; exact rR.val, by rw [f2]; exact rS.val, ?_⟩, ?_, hlo⟩
  · have hqr := l1_mul q (ρ, 0)
    by_cases h0 : X * Y = 0
    · have hprod : u1 * v = 0 ∧ u2 * v = 0 := by
        rcases Rat.mul_eq_zero.1 h0 with h | h
        · have z := (val_zero du hx.maj h).1
          have g1 : u1 = 0 := congrArg Prod.fst z
          have g2 : u2 = 0 := congrArg Prod.snd z
          rw [g1, g2]
          grind
        · have z := (val_zero dv hy.maj h).1
          have g1 : v = 0 := congrArg Prod.fst z
          rw [g1]
          grind
      have z5 := near_of_zero rR.near hprod.1
      have z6 := near_of_zero rS.near hprod.2
      have hq0 : l1q q * l1q (ρ, 0) ≤ 0 := by
        have g1 := Rat.mul_le_mul_of_nonneg_right hx.maj (l1_nonneg (ρ, 0))
        have g2 := Rat.mul_le_mul_of_nonneg_left hy.maj hX
        grind
      have hz2 := l1_eq_zero (show l1q (qmul q (ρ, 0)) ≤ 0 by grind)
      have e : qsub (r', s') (qmul q (ρ, 0)) = (0, 0) := by
        unfold qsub
        rw [z5, z6, hz2.1, hz2.2]
        refine Prod.ext ?_ ?_ <;> simp only <;> grind
      rw [e, l1_zero, h0]
      grind
    · have hX0 : X ≠ 0 := by intro h; rw [h] at h0; grind
      have hY0 : Y ≠ 0 := by intro h; rw [h] at h0; grind
      have tXY := tau_le hlo h0 hij
      have n := near_pair rR.near rS.near
      have hmd := mul_diff (u1, u2) (v, 0) q (ρ, 0)
      have htr := l1_sub_tri (r', s') (u1 * v, u2 * v) (qmul q (ρ, 0))
      have e1 : qmul (u1, u2) (v, 0) = (u1 * v, u2 * v) := by
        unfold qmul
        refine Prod.ext ?_ ?_ <;> simp only <;> grind
      rw [e1] at hmd
      have hl := l1_mul (u1, u2) (v, 0)
      rw [e1] at hl
      have lAB := l1_tri (u1, u2) q
      have lCD := l1_tri (v, 0) (ρ, 0)
      have hqX := hx.maj
      have hrY := hy.maj
      have z0 := l1_nonneg (qsub (u1, u2) q)
      have z1 := l1_nonneg (qsub (v, 0) (ρ, 0))
      have z2 := l1_nonneg (u1, u2)
      have z3 := l1_nonneg (v, 0)
      have k1 := Rat.mul_nonneg (Rat.le_of_lt eps_pos) hX
      have k2 := Rat.mul_nonneg (Rat.le_of_lt eps_pos) hY
      have ht := tau_pos
      refine mul_units hX hY ha hb (E := l1q (qsub (u1, u2) q)) (F := l1q (qsub (v, 0) (ρ, 0))) z1 (by grind) (by grind) ?_ tXY
      clear du dv lu lv m1 m2 e0 e1 tXY pu pv k1 k2
      generalize l1q (qsub (u1, u2) q) = E at *
      generalize l1q (qsub (v, 0) (ρ, 0)) = F at *
      generalize l1q (u1, u2) = LA at *
      generalize l1q (v, 0) = LC at *
      have g1 : LA * LC ≤ (X + E) * (Y + F) := by
        have k1 := Rat.mul_le_mul_of_nonneg_right (show LA ≤ X + E by grind) z3
        have k2 := Rat.mul_le_mul_of_nonneg_left (show LC ≤ Y + F by grind) (show 0 ≤ X + E by grind)
        grind
      have g2 : eps * l1q (u1 * v, u2 * v) ≤ 3001 / 1000 * eps * ((X + E) * (Y + F)) := by
        have k0 := l1_nonneg (u1 * v, u2 * v)
        have k3 : eps * l1q (u1 * v, u2 * v) ≤ eps * ((X + E) * (Y + F)) := Rat.mul_le_mul_of_nonneg_left (by grind) (Rat.le_of_lt eps_pos)
        have k4 : 0 ≤ eps * ((X + E) * (Y + F)) := Rat.mul_nonneg (Rat.le_of_lt eps_pos) (by grind)
        grind
      have g3 : E * LC ≤ E * (Y + F) := Rat.mul_le_mul_of_nonneg_left (by grind) z0
      have g4 : l1q q * F ≤ X * F := Rat.mul_le_mul_of_nonneg_right hqX z1
      grind
  · have h1 := l1_mul q (ρ, 0)
    have g1 := Rat.mul_le_mul_of_nonneg_right hx.maj (l1_nonneg (ρ, 0))
    have g2 := Rat.mul_le_mul_of_nonneg_left hy.maj hX
    grind
theorem Rp.up {x : Nat × Nat} {q : Rat × Rat} {X : Rat} {a b i j : Nat} (h : Rp x q X a i) (hab : a ≤ b) (hij : i ≤ j) : Rp x q X b j := by
  obtain ⟨u, h1, h2, h3⟩ := h.val
  refine ⟨⟨u, h1, h2, ?_⟩, h.maj, h.lo.up hij⟩
  have ha : (a : Rat) ≤ b := by exact_mod_cast hab
  have g := Rat.mul_le_mul_of_nonneg_right ha (Rat.mul_nonneg (Rat.le_of_lt eps_pos) h.lo.nonneg)
  grind
theorem Rp.more {x : Nat × Nat} {q : Rat × Rat} {X Y : Rat} {a i j : Nat} (h : Rp x q X a i) (hXY : X ≤ Y) (hl : Lo Y j) : Rp x q Y a j := by
  obtain ⟨u, h1, h2, h3⟩ := h.val
  have h5 := h.maj
  refine ⟨⟨u, h1, h2, ?_⟩, by grind, hl⟩
  have ha : 0 ≤ (a : Rat) := by exact_mod_cast Nat.zero_le a
  have g := Rat.mul_le_mul_of_nonneg_left hXY (Rat.mul_nonneg ha (Rat.le_of_lt eps_pos))
  grind
def qconj (q : Rat × Rat) : Rat × Rat := (q.1, -q.2)
theorem ab_neg (x : Rat) : ab (-x) = ab x := by unfold ab; split <;> split <;> grind
theorem l1_conj (q : Rat × Rat) : l1q (qconj q) = l1q q := by unfold l1q qconj; simp only; rw [ab_neg]
theorem rp_conj {x : Nat × Nat} {q : Rat × Rat} {X : Rat} {a i : Nat} (h : Rp x q X a i) : Rp (conjF x) (qconj q) X a i := by
  obtain ⟨u, h1, h2, h3⟩ := h.val
  refine ⟨⟨qconj u, h1, V_neg h2, ?_⟩, by rw [l1_conj]; exact h.maj, h.lo⟩
  have e : qsub (qconj u) (qconj q) = qconj (qsub u q) := by unfold qsub qconj; refine Prod.ext ?_ ?_ <;> simp only <;> grind
  rw [e, l1_conj]
  exact h3
/-- A word pair that stands for the number itself. -/
theorem rp_exact {x : Nat × Nat} {q : Rat × Rat} {j : Nat} (h1 : V .f32 x.1 q.1) (h2 : V .f32 x.2 q.2) (hl : Lo (l1q q) j) : Rp x q (l1q q) 0 j := by
  refine ⟨⟨q, h1, h2, ?_⟩, Rat.le_refl, hl⟩
  have e : qsub q q = (0, 0) := by unfold qsub; refine Prod.ext ?_ ?_ <;> simp only <;> grind
  rw [e, l1_zero]
  simp
end Go.Proofs.Ytfbekiphlaaieaa
namespace Go.Proofs.Ytfbekiphlaaieaa

/-- The value of the m terms from k on, exactly. -/
def hsC (f : Nat → Rat × Rat) (z : Rat × Rat) : Nat → Nat → Rat × Rat
  | _, 0 => (0, 0)
  | k, m + 1 => qadd (qmul (hsC f z (k + 1) m) z) (f k)
def hsR (f : Nat → Rat) (z : Rat) : Nat → Nat → Rat
  | _, 0 => 0
  | k, m + 1 => hsR f z (k + 1) m * z + f k
theorem hsR_nonneg {f : Nat → Rat} {z : Rat} (hz : 0 ≤ z) (m : Nat) : ∀ k, (∀ i, k ≤ i → i < k + m → 0 ≤ f i) → 0 ≤ hsR f z k m := by
  induction m with
  | zero => intro k _; exact Rat.le_refl
  | succ m ih =>
    intro k hf
    have h1 := ih (k + 1) (fun i h1 h2 => hf i (by omega) (by omega))
    have h2 := Rat.mul_nonneg h1 hz
    have h3 := hf k (by omega) (by omega)
    unfold hsR
    grind
theorem hsC_maj {f : Nat → Rat × Rat} {F : Nat → Rat} {z : Rat × Rat} {Z : Rat} (hz : l1q z ≤ Z) (m : Nat) : ∀ k, (∀ i, k ≤ i → i < k + m → l1q (f i) ≤ F i) → l1q (hsC f z k m) ≤ hsR F Z k m := by
  induction m with
  | zero => intro k _; show l1q (0, 0) ≤ 0; rw [l1_zero]; exact Rat.le_refl
  | succ m ih =>
    intro k hf
    have h1 := ih (k + 1) (fun i h1 h2 => hf i (by omega) (by omega))
    have h2 := hf k (by omega) (by omega)
    have h3 := l1_mul (hsC f z (k + 1) m) z
    have h4 := l1_add (qmul (hsC f z (k + 1) m) z) (f k)
    have h5 := l1_nonneg (hsC f z (k + 1) m)
    have h6 := l1_nonneg z
    have g1 := Rat.mul_le_mul_of_nonneg_right h1 h6
    have g2 := Rat.mul_le_mul_of_nonneg_left hz (show 0 ≤ hsR F Z (k + 1) m by grind)
    show l1q (qadd (qmul (hsC f z (k + 1) m) z) (f k)) ≤ hsR F Z (k + 1) m * Z + F k
    grind
/-- A small number's value of terms below M. -/
def pwR (x : Rat) : Nat → Rat
  | 0 => 1
  | m + 1 => pwR x m * x
theorem pwR_one {x : Rat} (h : 1 ≤ x) (m : Nat) : 1 ≤ pwR x m := by
  induction m with
  | zero => exact Rat.le_refl
  | succ m ih =>
    have h1 := Rat.mul_le_mul_of_nonneg_left h (show 0 ≤ pwR x m by grind)
    unfold pwR
    grind
theorem hsR_bound {f : Nat → Rat} {z M W : Rat} (hz : 0 ≤ z) (hW : z + 1 ≤ W) (hM : 0 ≤ M) (m : Nat) : ∀ k, (∀ i, k ≤ i → i < k + m → 0 ≤ f i ∧ f i ≤ M) → hsR f z k m ≤ M * pwR W m := by
  induction m with
  | zero => intro k _; show (0 : Rat) ≤ M * 1; grind
  | succ m ih =>
    intro k hf
    have h1 := ih (k + 1) (fun i h1 h2 => hf i (by omega) (by omega))
    have h2 := hf k (by omega) (by omega)
    have h3 := pwR_one (show 1 ≤ W by grind) m
    have g1 := Rat.mul_le_mul_of_nonneg_right h1 hz
    have g2 : M * 1 ≤ M * pwR W m := Rat.mul_le_mul_of_nonneg_left h3 hM
    have g3 : M * pwR W m * (z + 1) ≤ M * pwR W m * W := Rat.mul_le_mul_of_nonneg_left hW (by grind)
    unfold hsR pwR
    grind
theorem hsR_lo {f : Nat → Rat} {z : Rat} {i e : Nat} (hz : Lo z e) (m : Nat) : ∀ k, (∀ j, k ≤ j → j < k + m → Lo (f j) i) → Lo (hsR f z k m) (i + m * e) := by
  induction m with
  | zero => intro k _; exact .inl rfl
  | succ m ih =>
    intro k hf
    have h1 := ih (k + 1) (fun j h1 h2 => hf j (by omega) (by omega))
    have h2 := (h1.mul hz).up (show i + m * e + e ≤ i + (m + 1) * e by rw [Nat.add_mul]; omega)
    exact h2.add ((hf k (by omega) (by omega)).up (by omega))
/-- The words at the top are zeros: they stand for what is there. -/
theorem tail_zero {Q : Nat → Rat × Rat} {X : Nat → Rat} {z : Rat × Rat} {Z : Rat} {a : Nat} (hz : l1q z ≤ Z) (m : Nat) : ∀ k, (∀ i, k ≤ i → i < k + m → l1q (Q i) ≤ (a : Rat) * eps * X i) → l1q (hsC Q z k m) ≤ (a : Rat) * eps * hsR X Z k m := by
  induction m with
  | zero => intro k _; show l1q (0, 0) ≤ (a : Rat) * eps * 0; rw [l1_zero]; grind
  | succ m ih =>
    intro k hf
    have h1 := ih (k + 1) (fun i h1 h2 => hf i (by omega) (by omega))
    have h2 := hf k (by omega) (by omega)
    have h3 := l1_mul (hsC Q z (k + 1) m) z
    have h4 := l1_add (qmul (hsC Q z (k + 1) m) z) (Q k)
    have h5 := l1_nonneg (hsC Q z (k + 1) m)
    have h6 := l1_nonneg z
    have g1 := Rat.mul_le_mul_of_nonneg_right h1 h6
    have g2 := Rat.mul_le_mul_of_nonneg_left hz (show 0 ≤ (a : Rat) * eps * hsR X Z (k + 1) m by grind)
    show l1q (qadd (qmul (hsC Q z (k + 1) m) z) (Q k)) ≤ (a : Rat) * eps * (hsR X Z (k + 1) m * Z + X k)
    grind
/-- The words of a list, near exact terms. -/
structure Lp (N : Nat) (xs : List (Nat × Nat)) (Q : Nat → Rat × Rat) (X : Nat → Rat) (a i : Nat) : Prop where
  len : xs.length = N
  rp : ∀ k, k < N → Rp (xs.getD k (0, 0)) (Q k) (X k) a i
theorem rp_of_zero {x : Nat × Nat} {q : Rat × Rat} {X : Rat} {a i : Nat} (h : Rp x q X a i) (hz : isZ x = true) : l1q q ≤ (a : Rat) * eps * X := by
  obtain ⟨u, h1, h2, h3⟩ := h.val
  unfold isZ at hz
  rw [Bool.and_eq_true, eq_iff h1 (show V .f32 0 0 from V_zero .f32 false 0), eq_iff h2 (show V .f32 0 0 from V_zero .f32 false 0)] at hz
  have z1 : u.1 = 0 := of_decide_eq_true hz.1
  have z2 : u.2 = 0 := of_decide_eq_true hz.2
  have e : l1q (qsub u q) = l1q q := by
    unfold l1q qsub
    simp only
    rw [z1, z2]
    have e1 : (0 : Rat) - q.1 = -q.1 := by grind
    have e2 : (0 : Rat) - q.2 = -q.2 := by grind
    rw [e1, e2, ab_neg, ab_neg]
  rw [← e]
  exact h3
theorem trimN_zero (xs : List (Nat × Nat)) (n : Nat) : ∀ k, trimN xs n ≤ k → k < n → isZ (xs.getD k (0, 0)) = true := by
  induction n using trimN.induct xs with
  | case1 => intro k _ h; omega
  | case2 => intro k h1 h; simp [trimN] at h1; omega
  | case3 n h ih =>
    intro k h1 h2
    rw [trimN, if_pos h] at h1
    by_cases e : k = n + 1
    · rw [e]; exact h
    · exact ih k h1 (by omega)
  | case4 n h =>
    intro k h1 h2
    rw [trimN, if_neg h] at h1
    omega
theorem Rp.set_lo {x : Nat × Nat} {q : Rat × Rat} {X : Rat} {a i j : Nat} (h : Rp x q X a i) (hl : Lo X j) : Rp x q X a j := ⟨h.val, h.maj, hl⟩
theorem Rp.cast {x : Nat × Nat} {q q' : Rat × Rat} {X X' : Rat} {a i : Nat} (h : Rp x q X a i) (e1 : q = q') (e2 : X = X') : Rp x q' X' a i := by rw [← e1, ← e2]; exact h

/-- The words of a polynomial that was trimmed, at a point. -/
theorem poly_val {N : Nat} {xs : List (Nat × Nat)} {Q : Nat → Rat × Rat} {X : Nat → Rat} {a i : Nat} (L : Lp N xs Q X a i) (hN : 1 ≤ N) {zw : Nat × Nat} {z : Rat × Rat} {Z : Rat} {b e : Nat} (hz : Rp zw z Z b e)
    (ha : a + N * (b + 8) ≤ 500) (hi : i + N * e + e ≤ 100) (bZ : Z ≤ big57) (hB : ∀ k, k < N → X k ≤ big57 ∧ hsR X Z k (N - k) ≤ big57 ∧ hsR X Z k (N - k) * Z ≤ big57) :
    Horner (trimC xs) zw (vsF (trimC xs) ((trimC xs).length - 1) zw) (msF (trimC xs) ((trimC xs).length - 1) zw) ∧
    Rp (vsF (trimC xs) ((trimC xs).length - 1) zw 0) (hsC Q z 0 N) (hsR X Z 0 N) (a + N * (b + 8)) (i + N * e) := by
  have hpos := trimN_pos xs xs.length (by rw [L.len]; omega)
  have hle := trimN_le xs xs.length
  have hln := trimC_len xs
  rw [L.len] at hpos hle
  obtain ⟨n, hn⟩ : ∃ n, trimN xs xs.length = n + 1 := ⟨trimN xs xs.length - 1, by rw [L.len]; omega⟩
  have hget : ∀ k, k ≤ n → (trimC xs).getD k (0, 0) = xs.getD k (0, 0) := fun k hk => trimC_get xs k (by omega)
  have hZ0 := hz.lo.nonneg
  have hX0 : ∀ k, k < N → 0 ≤ X k := fun k hk => (L.rp k hk).lo.nonneg
  have hlo : ∀ k, k < N → Lo (hsR X Z k (N - k)) (i + N * e) := fun k hk =>
    (hsR_lo hz.lo (N - k) k (fun j _ h2 => (L.rp j (by omega)).lo)).up (by have := Nat.mul_le_mul_right e (show N - k ≤ N by omega); omega)
  have hnN : n < N := by have := hn; rw [L.len] at this; omega
  have e1 : (trimC xs).length - 1 = n := by omega
  rw [e1]
  generalize hp : trimC xs = p at *
  -- from the top
  have key : ∀ j, j ≤ n → Rp (hv p n zw j) (hsC Q z (n - j) (N - (n - j))) (hsR X Z (n - j) (N - (n - j))) (a + j * (b + 8)) (i + N * e) ∧
      (∀ t, t < j → MulW (hv p n zw t) zw (mulF (hv p n zw t) zw) ∧ PlusW (mulF (hv p n zw t) zw) (p.getD (n - 1 - t) (0, 0)) (hv p n zw (t + 1))) := by
    intro j
    induction j with
    | zero =>
      intro _
      refine ⟨?_, fun t ht => absurd ht (Nat.not_lt_zero _)⟩
      obtain ⟨m, hm⟩ : ∃ m, N - n = m + 1 := ⟨N - n - 1, by omega⟩
      have hr := L.rp n hnN
      obtain ⟨u, u1, u2, u3⟩ := hr.val
      have ht := tail_zero (Q := Q) (X := X) (a := a) hz.maj m (n + 1) (fun k h1 h2 => rp_of_zero (L.rp k (by omega)) (trimN_zero xs xs.length k (by omega) (by rw [L.len]; omega)))
      have hmj := hsC_maj (F := X) (f := Q) hz.maj (m + 1) n (fun k _ h2 => (L.rp k (by omega)).maj)
      have hl := hlo n hnN
      simp only [Nat.sub_zero, Nat.zero_mul, Nat.add_zero]
      rw [hm] at hl ⊢
      show Rp (p.getD n (0, 0)) _ _ _ _
      rw [hget n (Nat.le_refl _)]
      refine ⟨⟨u, u1, u2, ?_⟩, hmj, hl⟩
      show l1q (qsub u (qadd (qmul (hsC Q z (n + 1) m) z) (Q n))) ≤ (a : Rat) * eps * (hsR X Z (n + 1) m * Z + X n)
      have h1 := l1_mul (hsC Q z (n + 1) m) z
      have h2 := qadd_diff (0, 0) u (qmul (hsC Q z (n + 1) m) z) (Q n)
      have e2 : qadd (0, 0) u = u := by unfold qadd; refine Prod.ext ?_ ?_ <;> simp only <;> grind
      have e3 : l1q (qsub (0, 0) (qmul (hsC Q z (n + 1) m) z)) = l1q (qmul (hsC Q z (n + 1) m) z) := by
        unfold l1q qsub
        simp only
        have e4 : ∀ x : Rat, (0 : Rat) - x = -x := fun x => by grind
        rw [e4, e4, ab_neg, ab_neg]
      rw [e2, e3] at h2
      have g1 := Rat.mul_le_mul_of_nonneg_right ht (l1_nonneg z)
      have hH := l1_nonneg (hsC Q z (n + 1) m)
      have g2 := Rat.mul_le_mul_of_nonneg_left hz.maj (show 0 ≤ (a : Rat) * eps * hsR X Z (n + 1) m by grind)
      grind
    | succ j ih =>
      intro hj
      obtain ⟨h1, h2⟩ := ih (by omega)
      have hk : n - j = (n - 1 - j) + 1 := by omega
      have hc : a + j * (b + 8) ≤ 500 ∧ a + (j + 1) * (b + 8) ≤ 500 := by
        have k1 := Nat.mul_le_mul_right (b + 8) (show j ≤ N by omega)
        have k2 := Nat.mul_le_mul_right (b + 8) (show j + 1 ≤ N by omega)
        omega
      have hbb : b ≤ 500 := by have := Nat.mul_le_mul_right (b + 8) hN; omega
      obtain ⟨m1, m2⟩ := rp_mul h1 hz hc.1 hbb (by omega) (hB (n - j) (by omega)).2.1 bZ (hB (n - j) (by omega)).2.2
      have ht := L.rp (n - 1 - j) (by omega)
      have hcnt : a + j * (b + 8) + b + 6 ≤ 500 := by have := hc.2; rw [Nat.add_mul] at this; omega
      obtain ⟨p1, p2⟩ := rp_plus (c := a + j * (b + 8) + b + 6) m2 ht (Nat.le_refl _) (by omega) (by omega) (Nat.le_refl _) (by omega) (by omega) (hB (n - j) (by omega)).2.2 (hB (n - 1 - j) (by omega)).1
      have e4 : hv p n zw (j + 1) = plusF (mulF (hv p n zw j) zw) (p.getD (n - 1 - j) (0, 0)) := rfl
      have e5 : N - (n - (j + 1)) = (N - (n - j)) + 1 := by omega
      have e6 : n - (j + 1) = n - 1 - j := by omega
      have e7 : a + (j + 1) * (b + 8) = a + j * (b + 8) + b + 6 + 2 := by rw [Nat.add_mul]; omega
      have hl := hlo (n - (j + 1)) (by omega)
      refine ⟨?_, ?_⟩
      · rw [e4, hget (n - 1 - j) (by omega), e7]
        rw [e5, e6] at hl
        rw [e5, e6]
        refine (p2.set_lo (j := i + N * e) ?_).cast ?_ ?_
        · unfold hsR at hl
          rw [← hk] at hl
          exact hl
        · rw [hk]; rfl
        · rw [hk]; rfl
      · intro t ht'
        by_cases e : t = j
        · subst e
          exact ⟨m1, by rw [e4, hget (n - 1 - t) (by omega)]; exact p1⟩
        · exact h2 t (by omega)
  obtain ⟨k1, k2⟩ := key n (Nat.le_refl _)
  refine ⟨horner_of (by omega) k2, ?_⟩
  have e8 : vsF p n zw 0 = hv p n zw n := by unfold vsF; rw [Nat.sub_zero]
  rw [e8]
  simp only [Nat.sub_self, Nat.sub_zero] at k1
  exact k1.up (by have := Nat.mul_le_mul_right (b + 8) (show n ≤ N by omega); omega) (Nat.le_refl _)
end Go.Proofs.Ytfbekiphlaaieaa
namespace Go.Proofs.Ytfbekiphlaaieaa

theorem hsR_succ (f : Nat → Rat) (z : Rat) (k m : Nat) : hsR f z k (m + 1) = ((((hsR f z (k + 1) m) * (z))) + (f k)) := rfl
theorem hsR_congr {f g : Nat → Rat} {z : Rat} (m : Nat) : ∀ k, (∀ i, k ≤ i → i < k + m → f i = g i) → hsR f z k m = hsR g z k m := by
  induction m with
  | zero => intro k _; rfl
  | succ m ih =>
    intro k h
    rw [hsR_succ, hsR_succ, ih (k + 1) (fun i h1 h2 => h i (by omega) (by omega)), h k (by omega) (by omega)]
theorem hsR_next (f : Nat → Rat) (z : Rat) (m : Nat) : ∀ k, hsR f z (k + 1) m = hsR (fun i => f (i + 1)) z k m := by
  induction m with
  | zero => intro k; rfl
  | succ m ih => intro k; rw [hsR_succ, hsR_succ, ih (k + 1)]
theorem hsR_add (f g : Nat → Rat) (z : Rat) (m : Nat) : ∀ k, hsR (fun i => ((f i) + (g i))) z k m = ((hsR f z k m) + (hsR g z k m)) := by
  induction m with
  | zero => intro k; show (0 : Rat) = (((0 : Rat)) + ((0 : Rat))); grind
  | succ m ih =>
    intro k
    rw [hsR_succ, hsR_succ, hsR_succ, ih (k + 1)]
    generalize hsR f z (k + 1) m = F
    generalize hsR g z (k + 1) m = G
    grind
theorem hsR_mul (f : Nat → Rat) (c z : Rat) (m : Nat) : ∀ k, hsR (fun i => ((f i) * (c))) z k m = ((hsR f z k m) * (c)) := by
  induction m with
  | zero => intro k; show (0 : Rat) = (((0 : Rat)) * (c)); grind
  | succ m ih =>
    intro k
    rw [hsR_succ, hsR_succ, ih (k + 1)]
    generalize hsR f z (k + 1) m = F
    generalize f k = x
    grind

theorem hsR_pow (f : Nat → Rat) (b z : Rat) (m : Nat) : ∀ k, hsR (fun i => ((f i) * (pwR b i))) z k m = ((hsR f (((z) * (b))) k m) * (pwR b k)) := by
  induction m with
  | zero => intro k; show (0 : Rat) = (((0 : Rat)) * (pwR b k)); grind
  | succ m ih =>
    intro k
    rw [hsR_succ, hsR_succ, ih (k + 1)]
    have e : pwR b (k + 1) = ((pwR b k) * (b)) := rfl
    rw [e]
    generalize hsR f (((z) * (b))) (k + 1) m = F
    generalize f k = x
    generalize pwR b k = y
    grind
/-- Steps of a pass of the shift, and passes. -/
def dnR (b : Rat) (n : Nat) (f : Nat → Rat) : Nat → Nat → Rat
  | 0, k => f k
  | c + 1, k => if k = n - 2 - c then ((dnR b n f c k) + (((b) * (dnR b n f c (k + 1))))) else dnR b n f c k
def psR (b : Rat) (n : Nat) (f : Nat → Rat) : Nat → Nat → Rat
  | 0, k => f k
  | i + 1, k => dnR b n (fun j => psR b n f i j) (n - 1 - i) k
theorem dnR_same {b : Rat} {n : Nat} {f : Nat → Rat} (c : Nat) (hc : c + 1 ≤ n) : ∀ k, (k < n - 1 - c ∨ n ≤ k + 1) → dnR b n f c k = f k := by
  induction c with
  | zero => intro k _; rfl
  | succ c ih =>
    intro k h
    unfold dnR
    rw [if_neg (by omega)]
    exact ih (by omega) k (by omega)
theorem dnR_step {b : Rat} {n : Nat} {f : Nat → Rat} (c : Nat) (hc : c + 1 ≤ n) : ∀ k, n - 1 - c ≤ k → k + 1 < n → dnR b n f c k = ((f k) + (((b) * (dnR b n f c (k + 1))))) := by
  induction c with
  | zero => intro k h1 h2; omega
  | succ c ih =>
    intro k h1 h2
    by_cases e : k = n - 2 - c
    · have e1 : dnR b n f (c + 1) k = ((dnR b n f c k) + (((b) * (dnR b n f c (k + 1))))) := by rw [dnR, if_pos e]
      have e2 : dnR b n f (c + 1) (k + 1) = dnR b n f c (k + 1) := by rw [dnR, if_neg (by omega)]
      rw [e1, e2, dnR_same c (by omega) k (by omega)]
    · have e1 : dnR b n f (c + 1) k = dnR b n f c k := by rw [dnR, if_neg e]
      have e2 : dnR b n f (c + 1) (k + 1) = dnR b n f c (k + 1) := by rw [dnR, if_neg (by omega)]
      rw [e1, e2]
      exact ih (by omega) k (by omega) h2
theorem psR_same {b : Rat} {n : Nat} {f : Nat → Rat} (i : Nat) (hi : i + 1 ≤ n) (k : Nat) (h : k < i ∨ n ≤ k + 1) : psR b n f (i + 1) k = psR b n f i k := dnR_same (n - 1 - i) (by omega) k (by omega)
theorem psR_step {b : Rat} {n : Nat} {f : Nat → Rat} (i : Nat) (hi : i + 1 ≤ n) (k : Nat) (h1 : i ≤ k) (h2 : k + 1 < n) : psR b n f (i + 1) k = ((psR b n f i k) + (((b) * (psR b n f (i + 1) (k + 1))))) := dnR_step (n - 1 - i) (by omega) k (by omega) h2
theorem psR_stay {b : Rat} {n : Nat} {f : Nat → Rat} (i j : Nat) (h1 : i + 1 ≤ j) : j ≤ n → psR b n f j i = psR b n f (i + 1) i := by
  induction j with
  | zero => omega
  | succ j ih =>
    intro h2
    by_cases e : j = i
    · rw [e]
    · rw [psR_same j h2 i (by omega)]
      exact ih (by omega) (by omega)
theorem synthR {f g : Nat → Rat} {z b : Rat} (m : Nat) : ∀ i, (∀ k, i ≤ k → k < i + m → g k = ((f k) + (((b) * (g (k + 1)))))) → g (i + m) = f (i + m) → hsR f z i (m + 1) = ((((hsR g z (i + 1) m) * (((z) - (b))))) + (g i)) := by
  induction m with
  | zero =>
    intro i _ h
    rw [hsR_succ]
    have h' : g i = f i := h
    rw [h']
    show (((((0 : Rat)) * (z))) + (f i)) = (((((0 : Rat)) * (((z) - (b))))) + (f i))
    grind
  | succ m ih =>
    intro i h h0
    rw [hsR_succ, ih (i + 1) (fun k h1 h2 => h k (by omega) (by omega)) (by rw [show i + 1 + m = i + (m + 1) by omega]; exact h0), hsR_succ, h i (by omega) (by omega)]
    generalize hsR g z (i + 1 + 1) m = H
    generalize g (i + 1) = g1
    generalize f i = f0
    grind
theorem taylorR (n : Nat) (f : Nat → Rat) (b z : Rat) (d : Nat) : ∀ i, i + d = n → hsR (fun k => psR b n f n k) (((z) - (b))) i d = hsR (fun k => psR b n f i k) z i d := by
  induction d with
  | zero => intro i _; rfl
  | succ d ih =>
    intro i hi
    have h1 := synthR (f := fun k => psR b n f i k) (g := fun k => psR b n f (i + 1) k) (z := z) (b := b) d i (fun k h1 h2 => psR_step i (by omega) k h1 (by omega)) (psR_same i (by omega) (i + d) (by omega))
    rw [h1, hsR_succ, ih (i + 1) (by omega), psR_stay i n (by omega) (Nat.le_refl _)]
theorem hsR_at_zero (f : Nat → Rat) (z b : Rat) (h : z = b) (k m : Nat) : hsR f (((z) - (b))) k (m + 1) = f k := by
  subst h
  rw [hsR_succ]
  generalize hsR f (((z) - (z))) (k + 1) m = F
  grind
/-- The first of the shifted terms is the value. -/
theorem firstR (n : Nat) (f : Nat → Rat) (b : Rat) (hn : 1 ≤ n) : psR b n f n 0 = hsR f b 0 n := by
  have h := taylorR n f b b n 0 (by omega)
  obtain ⟨m, rfl⟩ : ∃ m, n = m + 1 := ⟨n - 1, by omega⟩
  rw [hsR_at_zero _ b b rfl] at h
  exact h
theorem goneR (n : Nat) (f : Nat → Rat) (b : Rat) (d : Nat) : ∀ k, k + (d + 1) = n → psR b n f 1 k = hsR f b k (d + 1) := by
  induction d with
  | zero =>
    intro k hk
    rw [psR_same 0 (by omega) k (by omega)]
    show f k = (((((0 : Rat)) * (b))) + (f k))
    grind
  | succ d ih =>
    intro k hk
    rw [psR_step 0 (by omega) k (by omega) (by omega), ih (k + 1) (by omega), hsR_succ f b k]
    show ((f k) + (((b) * (hsR f b (k + 1) (d + 1))))) = _
    generalize hsR f b (k + 1) (d + 1) = F
    grind
/-- The second one is the slope. -/
theorem slope_sumR (f g : Nat → Rat) (b : Rat) (n : Nat) (hg : ∀ d k, k + (d + 1) = n → g k = hsR f b k (d + 1)) (m : Nat) : ∀ i, i + m = n → hsR g b i m = hsR (fun k => ((f k) * (((k - i + 1 : Nat) : Rat)))) b i m := by
  induction m with
  | zero => intro i _; rfl
  | succ m ih =>
    intro i hi
    have e : hsR (fun k => ((f k) * (((k - i + 1 : Nat) : Rat)))) b (i + 1) m = ((hsR (fun k => ((f k) * (((k - (i + 1) + 1 : Nat) : Rat)))) b (i + 1) m) + (hsR f b (i + 1) m)) := by
      rw [← hsR_add]
      refine hsR_congr m (i + 1) (fun k h1 _ => ?_)
      have e1 : ((k - i + 1 : Nat) : Rat) = ((k - (i + 1) + 1 : Nat) : Rat) + 1 := by
        have : k - i + 1 = k - (i + 1) + 1 + 1 := by omega
        rw [this]
        push_cast
        rfl
      rw [e1]
      generalize ((k - (i + 1) + 1 : Nat) : Rat) = t
      grind
    rw [hsR_succ, hsR_succ, e, ih (i + 1) (by omega), hg m i (by omega), hsR_succ f b i]
    have e2 : ((i - i + 1 : Nat) : Rat) = 1 := by rw [Nat.sub_self]; rfl
    rw [e2]
    generalize hsR (fun k => ((f k) * (((k - (i + 1) + 1 : Nat) : Rat)))) b (i + 1) m = D
    generalize hsR f b (i + 1) m = F
    grind
theorem secondR (n : Nat) (f : Nat → Rat) (b : Rat) (hn : 2 ≤ n) : psR b n f n 1 = hsR (fun k => ((f (k + 1)) * (((k + 1 : Nat) : Rat)))) b 0 (n - 1) := by
  have h := taylorR n f b b (n - 1) 1 (by omega)
  have h2 := slope_sumR f (fun k => psR b n f 1 k) b n (fun d k hk => goneR n f b d k hk) (n - 1) 1 (by omega)
  rw [h2, hsR_next (fun k => ((f k) * (((k - 1 + 1 : Nat) : Rat)))) b (n - 1) 0] at h
  obtain ⟨m, hm⟩ : ∃ m, n - 1 = m + 1 := ⟨n - 2, by omega⟩
  rw [hm] at h ⊢
  rw [hsR_at_zero _ b b rfl] at h
  have h3 : psR b n f n 1 = hsR (fun k => ((f (k + 1)) * (((k + 1 - 1 + 1 : Nat) : Rat)))) b 0 (m + 1) := h
  rw [h3]
  refine hsR_congr (m + 1) 0 (fun k _ _ => ?_)
  rw [Nat.add_sub_cancel]

theorem hsC_succ (f : Nat → Rat × Rat) (z : Rat × Rat) (k m : Nat) : hsC f z k (m + 1) = qadd (qmul (hsC f z (k + 1) m) (z)) (f k) := rfl
theorem hsC_congr {f g : Nat → Rat × Rat} {z : Rat × Rat} (m : Nat) : ∀ k, (∀ i, k ≤ i → i < k + m → f i = g i) → hsC f z k m = hsC g z k m := by
  induction m with
  | zero => intro k _; rfl
  | succ m ih =>
    intro k h
    rw [hsC_succ, hsC_succ, ih (k + 1) (fun i h1 h2 => h i (by omega) (by omega)), h k (by omega) (by omega)]
theorem hsC_next (f : Nat → Rat × Rat) (z : Rat × Rat) (m : Nat) : ∀ k, hsC f z (k + 1) m = hsC (fun i => f (i + 1)) z k m := by
  induction m with
  | zero => intro k; rfl
  | succ m ih => intro k; rw [hsC_succ, hsC_succ, ih (k + 1)]
theorem hsC_add (f g : Nat → Rat × Rat) (z : Rat × Rat) (m : Nat) : ∀ k, hsC (fun i => qadd (f i) (g i)) z k m = qadd (hsC f z k m) (hsC g z k m) := by
  induction m with
  | zero => intro k; show (0, 0) = qadd ((0, 0)) ((0, 0)); (first | rfl | (unfold qadd qmul; refine Prod.ext ?_ ?_ <;> simp only <;> grind) | (unfold qadd; refine Prod.ext ?_ ?_ <;> simp only <;> grind) | (unfold qmul; refine Prod.ext ?_ ?_ <;> simp only <;> grind))
  | succ m ih =>
    intro k
    rw [hsC_succ, hsC_succ, hsC_succ, ih (k + 1)]
    generalize hsC f z (k + 1) m = F
    generalize hsC g z (k + 1) m = G
    (first | rfl | (unfold qadd qmul; refine Prod.ext ?_ ?_ <;> simp only <;> grind) | (unfold qadd; refine Prod.ext ?_ ?_ <;> simp only <;> grind) | (unfold qmul; refine Prod.ext ?_ ?_ <;> simp only <;> grind))
theorem hsC_mul (f : Nat → Rat × Rat) (c z : Rat × Rat) (m : Nat) : ∀ k, hsC (fun i => qmul (f i) (c)) z k m = qmul (hsC f z k m) (c) := by
  induction m with
  | zero => intro k; show (0, 0) = qmul ((0, 0)) (c); (first | rfl | (unfold qadd qmul; refine Prod.ext ?_ ?_ <;> simp only <;> grind) | (unfold qadd; refine Prod.ext ?_ ?_ <;> simp only <;> grind) | (unfold qmul; refine Prod.ext ?_ ?_ <;> simp only <;> grind))
  | succ m ih =>
    intro k
    rw [hsC_succ, hsC_succ, ih (k + 1)]
    generalize hsC f z (k + 1) m = F
    generalize f k = x
    (first | rfl | (unfold qadd qmul; refine Prod.ext ?_ ?_ <;> simp only <;> grind) | (unfold qadd; refine Prod.ext ?_ ?_ <;> simp only <;> grind) | (unfold qmul; refine Prod.ext ?_ ?_ <;> simp only <;> grind))

/-- Powers. -/
def pwC (b : Rat × Rat) : Nat → Rat × Rat
  | 0 => (1, 0)
  | k + 1 => qmul (pwC b k) b
theorem hsC_pow (f : Nat → Rat × Rat) (b z : Rat × Rat) (m : Nat) : ∀ k, hsC (fun i => qmul (f i) (pwC b i)) z k m = qmul (hsC f (qmul (z) (b)) k m) (pwC b k) := by
  induction m with
  | zero => intro k; show (0, 0) = qmul ((0, 0)) (pwC b k); (first | rfl | (unfold qadd qmul; refine Prod.ext ?_ ?_ <;> simp only <;> grind) | (unfold qadd; refine Prod.ext ?_ ?_ <;> simp only <;> grind) | (unfold qmul; refine Prod.ext ?_ ?_ <;> simp only <;> grind))
  | succ m ih =>
    intro k
    rw [hsC_succ, hsC_succ, ih (k + 1)]
    have e : pwC b (k + 1) = qmul (pwC b k) (b) := rfl
    rw [e]
    generalize hsC f (qmul (z) (b)) (k + 1) m = F
    generalize f k = x
    generalize pwC b k = y
    (first | rfl | (unfold qadd qmul; refine Prod.ext ?_ ?_ <;> simp only <;> grind) | (unfold qadd; refine Prod.ext ?_ ?_ <;> simp only <;> grind) | (unfold qmul; refine Prod.ext ?_ ?_ <;> simp only <;> grind))
/-- Steps of a pass of the shift, and passes. -/
def dnC (b : Rat × Rat) (n : Nat) (f : Nat → Rat × Rat) : Nat → Nat → Rat × Rat
  | 0, k => f k
  | c + 1, k => if k = n - 2 - c then qadd (dnC b n f c k) (qmul (b) (dnC b n f c (k + 1))) else dnC b n f c k
def psC (b : Rat × Rat) (n : Nat) (f : Nat → Rat × Rat) : Nat → Nat → Rat × Rat
  | 0, k => f k
  | i + 1, k => dnC b n (fun j => psC b n f i j) (n - 1 - i) k
theorem dnC_same {b : Rat × Rat} {n : Nat} {f : Nat → Rat × Rat} (c : Nat) (hc : c + 1 ≤ n) : ∀ k, (k < n - 1 - c ∨ n ≤ k + 1) → dnC b n f c k = f k := by
  induction c with
  | zero => intro k _; rfl
  | succ c ih =>
    intro k h
    unfold dnC
    rw [if_neg (by omega)]
    exact ih (by omega) k (by omega)
theorem dnC_step {b : Rat × Rat} {n : Nat} {f : Nat → Rat × Rat} (c : Nat) (hc : c + 1 ≤ n) : ∀ k, n - 1 - c ≤ k → k + 1 < n → dnC b n f c k = qadd (f k) (qmul (b) (dnC b n f c (k + 1))) := by
  induction c with
  | zero => intro k h1 h2; omega
  | succ c ih =>
    intro k h1 h2
    by_cases e : k = n - 2 - c
    · have e1 : dnC b n f (c + 1) k = qadd (dnC b n f c k) (qmul (b) (dnC b n f c (k + 1))) := by rw [dnC, if_pos e]
      have e2 : dnC b n f (c + 1) (k + 1) = dnC b n f c (k + 1) := by rw [dnC, if_neg (by omega)]
      rw [e1, e2, dnC_same c (by omega) k (by omega)]
    · have e1 : dnC b n f (c + 1) k = dnC b n f c k := by rw [dnC, if_neg e]
      have e2 : dnC b n f (c + 1) (k + 1) = dnC b n f c (k + 1) := by rw [dnC, if_neg (by omega)]
      rw [e1, e2]
      exact ih (by omega) k (by omega) h2
theorem psC_same {b : Rat × Rat} {n : Nat} {f : Nat → Rat × Rat} (i : Nat) (hi : i + 1 ≤ n) (k : Nat) (h : k < i ∨ n ≤ k + 1) : psC b n f (i + 1) k = psC b n f i k := dnC_same (n - 1 - i) (by omega) k (by omega)
theorem psC_step {b : Rat × Rat} {n : Nat} {f : Nat → Rat × Rat} (i : Nat) (hi : i + 1 ≤ n) (k : Nat) (h1 : i ≤ k) (h2 : k + 1 < n) : psC b n f (i + 1) k = qadd (psC b n f i k) (qmul (b) (psC b n f (i + 1) (k + 1))) := dnC_step (n - 1 - i) (by omega) k (by omega) h2
theorem psC_stay {b : Rat × Rat} {n : Nat} {f : Nat → Rat × Rat} (i j : Nat) (h1 : i + 1 ≤ j) : j ≤ n → psC b n f j i = psC b n f (i + 1) i := by
  induction j with
  | zero => omega
  | succ j ih =>
    intro h2
    by_cases e : j = i
    · rw [e]
    · rw [psC_same j h2 i (by omega)]
      exact ih (by omega) (by omega)
theorem synthC {f g : Nat → Rat × Rat} {z b : Rat × Rat} (m : Nat) : ∀ i, (∀ k, i ≤ k → k < i + m → g k = qadd (f k) (qmul (b) (g (k + 1)))) → g (i + m) = f (i + m) → hsC f z i (m + 1) = qadd (qmul (hsC g z (i + 1) m) (qsub (z) (b))) (g i) := by
  induction m with
  | zero =>
    intro i _ h
    rw [hsC_succ]
    have h' : g i = f i := h
    rw [h']
    show qadd (qmul ((0, 0)) (z)) (f i) = qadd (qmul ((0, 0)) (qsub (z) (b))) (f i)
    (first | rfl | (unfold qadd qmul qsub; refine Prod.ext ?_ ?_ <;> simp only <;> grind) | (unfold qadd qmul; refine Prod.ext ?_ ?_ <;> simp only <;> grind))
  | succ m ih =>
    intro i h h0
    rw [hsC_succ, ih (i + 1) (fun k h1 h2 => h k (by omega) (by omega)) (by rw [show i + 1 + m = i + (m + 1) by omega]; exact h0), hsC_succ, h i (by omega) (by omega)]
    generalize hsC g z (i + 1 + 1) m = H
    generalize g (i + 1) = g1
    generalize f i = f0
    (first | rfl | (unfold qadd qmul qsub; refine Prod.ext ?_ ?_ <;> simp only <;> grind) | (unfold qadd qmul; refine Prod.ext ?_ ?_ <;> simp only <;> grind))
theorem taylorC (n : Nat) (f : Nat → Rat × Rat) (b z : Rat × Rat) (d : Nat) : ∀ i, i + d = n → hsC (fun k => psC b n f n k) (qsub (z) (b)) i d = hsC (fun k => psC b n f i k) z i d := by
  induction d with
  | zero => intro i _; rfl
  | succ d ih =>
    intro i hi
    have h1 := synthC (f := fun k => psC b n f i k) (g := fun k => psC b n f (i + 1) k) (z := z) (b := b) d i (fun k h1 h2 => psC_step i (by omega) k h1 (by omega)) (psC_same i (by omega) (i + d) (by omega))
    rw [h1, hsC_succ, ih (i + 1) (by omega), psC_stay i n (by omega) (Nat.le_refl _)]
theorem hsC_at_zero (f : Nat → Rat × Rat) (z b : Rat × Rat) (h : z = b) (k m : Nat) : hsC f (qsub (z) (b)) k (m + 1) = f k := by
  subst h
  rw [hsC_succ]
  generalize hsC f (qsub (z) (z)) (k + 1) m = F
  (first | rfl | (unfold qadd qmul qsub; refine Prod.ext ?_ ?_ <;> simp only <;> grind) | (unfold qadd qmul; refine Prod.ext ?_ ?_ <;> simp only <;> grind))
/-- The first of the shifted terms is the value. -/
theorem firstC (n : Nat) (f : Nat → Rat × Rat) (b : Rat × Rat) (hn : 1 ≤ n) : psC b n f n 0 = hsC f b 0 n := by
  have h := taylorC n f b b n 0 (by omega)
  obtain ⟨m, rfl⟩ : ∃ m, n = m + 1 := ⟨n - 1, by omega⟩
  rw [hsC_at_zero _ b b rfl] at h
  exact h
theorem goneC (n : Nat) (f : Nat → Rat × Rat) (b : Rat × Rat) (d : Nat) : ∀ k, k + (d + 1) = n → psC b n f 1 k = hsC f b k (d + 1) := by
  induction d with
  | zero =>
    intro k hk
    rw [psC_same 0 (by omega) k (by omega)]
    show f k = qadd (qmul ((0, 0)) (b)) (f k)
    (first | rfl | (unfold qadd qmul; refine Prod.ext ?_ ?_ <;> simp only <;> grind) | (unfold qadd; refine Prod.ext ?_ ?_ <;> simp only <;> grind) | (unfold qmul; refine Prod.ext ?_ ?_ <;> simp only <;> grind))
  | succ d ih =>
    intro k hk
    rw [psC_step 0 (by omega) k (by omega) (by omega), ih (k + 1) (by omega), hsC_succ f b k]
    show qadd (f k) (qmul (b) (hsC f b (k + 1) (d + 1))) = _
    generalize hsC f b (k + 1) (d + 1) = F
    (first | rfl | (unfold qadd qmul; refine Prod.ext ?_ ?_ <;> simp only <;> grind) | (unfold qadd; refine Prod.ext ?_ ?_ <;> simp only <;> grind) | (unfold qmul; refine Prod.ext ?_ ?_ <;> simp only <;> grind))
/-- The second one is the slope. -/
theorem slope_sumC (f g : Nat → Rat × Rat) (b : Rat × Rat) (n : Nat) (hg : ∀ d k, k + (d + 1) = n → g k = hsC f b k (d + 1)) (m : Nat) : ∀ i, i + m = n → hsC g b i m = hsC (fun k => qmul (f k) (((((k - i + 1 : Nat) : Rat), (0 : Rat)) : Rat × Rat))) b i m := by
  induction m with
  | zero => intro i _; rfl
  | succ m ih =>
    intro i hi
    have e : hsC (fun k => qmul (f k) (((((k - i + 1 : Nat) : Rat), (0 : Rat)) : Rat × Rat))) b (i + 1) m = qadd (hsC (fun k => qmul (f k) (((((k - (i + 1) + 1 : Nat) : Rat), (0 : Rat)) : Rat × Rat))) b (i + 1) m) (hsC f b (i + 1) m) := by
      rw [← hsC_add]
      refine hsC_congr m (i + 1) (fun k h1 _ => ?_)
      have e1 : ((k - i + 1 : Nat) : Rat) = ((k - (i + 1) + 1 : Nat) : Rat) + 1 := by
        have : k - i + 1 = k - (i + 1) + 1 + 1 := by omega
        rw [this]
        push_cast
        rfl
      rw [e1]
      generalize ((k - (i + 1) + 1 : Nat) : Rat) = t
      (first | rfl | (unfold qadd qmul; refine Prod.ext ?_ ?_ <;> simp only <;> grind) | (unfold qadd; refine Prod.ext ?_ ?_ <;> simp only <;> grind) | (unfold qmul; refine Prod.ext ?_ ?_ <;> simp only <;> grind))
    rw [hsC_succ, hsC_succ, e, ih (i + 1) (by omega), hg m i (by omega), hsC_succ f b i]
    have e2 : ((i - i + 1 : Nat) : Rat) = 1 := by rw [Nat.sub_self]; rfl
    rw [e2]
    generalize hsC (fun k => qmul (f k) (((((k - (i + 1) + 1 : Nat) : Rat), (0 : Rat)) : Rat × Rat))) b (i + 1) m = D
    generalize hsC f b (i + 1) m = F
    (first | rfl | (unfold qadd qmul; refine Prod.ext ?_ ?_ <;> simp only <;> grind) | (unfold qadd; refine Prod.ext ?_ ?_ <;> simp only <;> grind) | (unfold qmul; refine Prod.ext ?_ ?_ <;> simp only <;> grind))
theorem secondC (n : Nat) (f : Nat → Rat × Rat) (b : Rat × Rat) (hn : 2 ≤ n) : psC b n f n 1 = hsC (fun k => qmul (f (k + 1)) (((((k + 1 : Nat) : Rat), (0 : Rat)) : Rat × Rat))) b 0 (n - 1) := by
  have h := taylorC n f b b (n - 1) 1 (by omega)
  have h2 := slope_sumC f (fun k => psC b n f 1 k) b n (fun d k hk => goneC n f b d k hk) (n - 1) 1 (by omega)
  rw [h2, hsC_next (fun k => qmul (f k) (((((k - 1 + 1 : Nat) : Rat), (0 : Rat)) : Rat × Rat))) b (n - 1) 0] at h
  obtain ⟨m, hm⟩ : ∃ m, n - 1 = m + 1 := ⟨n - 2, by omega⟩
  rw [hm] at h ⊢
  rw [hsC_at_zero _ b b rfl] at h
  have h3 : psC b n f n 1 = hsC (fun k => qmul (f (k + 1)) (((((k + 1 - 1 + 1 : Nat) : Rat), (0 : Rat)) : Rat × Rat))) b 0 (m + 1) := h
  rw [h3]
  refine hsC_congr (m + 1) 0 (fun k _ _ => ?_)
  rw [Nat.add_sub_cancel]

end Go.Proofs.Ytfbekiphlaaieaa
namespace Go.Proofs.Ytfbekiphlaaieaa

theorem hsR_mono {f : Nat → Rat} {y z : Rat} (hy : 0 ≤ y) (hyz : y ≤ z) (m : Nat) : ∀ k, (∀ i, k ≤ i → i < k + m → 0 ≤ f i) → hsR f y k m ≤ hsR f z k m := by
  induction m with
  | zero => intro k _; exact Rat.le_refl
  | succ m ih =>
    intro k h
    have h1 := ih (k + 1) (fun i h1 h2 => h i (by omega) (by omega))
    have h2 := hsR_nonneg hy m (k + 1) (fun i h1 h2 => h i (by omega) (by omega))
    have g1 := Rat.mul_le_mul_of_nonneg_right h1 hy
    have g2 := Rat.mul_le_mul_of_nonneg_left hyz (show 0 ≤ hsR f z (k + 1) m by grind)
    rw [hsR_succ, hsR_succ]
    grind
theorem hsR_ge {f : Nat → Rat} (m : Nat) : ∀ k, (∀ i, k ≤ i → i < k + m → 0 ≤ f i) → ∀ j, k ≤ j → j < k + m → f j ≤ hsR f 1 k m := by
  induction m with
  | zero => intro k _ j h1 h2; omega
  | succ m ih =>
    intro k h j h1 h2
    have h3 := hsR_nonneg (show (0 : Rat) ≤ 1 by decide) m (k + 1) (fun i h1 h2 => h i (by omega) (by omega))
    have h4 := h k (by omega) (by omega)
    rw [hsR_succ]
    by_cases e : j = k
    · subst e; grind
    · have := ih (k + 1) (fun i h1 h2 => h i (by omega) (by omega)) j (by omega) (by omega)
      grind
theorem pwR_up {x : Rat} (h : 1 ≤ x) {m n : Nat} (hmn : m ≤ n) : pwR x m ≤ pwR x n := by
  induction n with
  | zero => have : m = 0 := by omega
            subst this; exact Rat.le_refl
  | succ n ih =>
    by_cases e : m = n + 1
    · subst e; exact Rat.le_refl
    · have h1 := ih (by omega)
      have h2 := pwR_one h n
      have h3 := Rat.mul_le_mul_of_nonneg_left h (show 0 ≤ pwR x n by grind)
      show pwR x m ≤ pwR x n * x
      grind
theorem dnR_nonneg {B : Rat} {n : Nat} {X : Nat → Rat} (hB : 0 ≤ B) (hX : ∀ k, 0 ≤ X k) (c : Nat) : ∀ k, 0 ≤ dnR B n X c k := by
  induction c with
  | zero => exact hX
  | succ c ih =>
    intro k
    rw [dnR]
    have h1 := ih k
    have h2 := Rat.mul_nonneg hB (ih (k + 1))
    split <;> grind
theorem dnR_up {B : Rat} {n : Nat} {X : Nat → Rat} (hB : 0 ≤ B) (hX : ∀ k, 0 ≤ X k) (c d : Nat) (hcd : c ≤ d) (k : Nat) : dnR B n X c k ≤ dnR B n X d k := by
  induction d with
  | zero => have : c = 0 := by omega
            subst this; exact Rat.le_refl
  | succ d ih =>
    by_cases e : c = d + 1
    · subst e; exact Rat.le_refl
    · have h1 := ih (by omega)
      have h2 := Rat.mul_nonneg hB (dnR_nonneg (n := n) hB hX d (k + 1))
      have h3 : dnR B n X d k ≤ dnR B n X (d + 1) k := by rw [dnR]; split <;> grind
      grind
theorem psR_nonneg {B : Rat} {n : Nat} {X : Nat → Rat} (hB : 0 ≤ B) (hX : ∀ k, 0 ≤ X k) (i : Nat) : ∀ k, 0 ≤ psR B n X i k := by
  induction i with
  | zero => exact hX
  | succ i ih => exact dnR_nonneg hB ih (n - 1 - i)
theorem psR_up {B : Rat} {n : Nat} {X : Nat → Rat} (hB : 0 ≤ B) (hX : ∀ k, 0 ≤ X k) (i j : Nat) (hij : i ≤ j) (k : Nat) : psR B n X i k ≤ psR B n X j k := by
  induction j with
  | zero => have : i = 0 := by omega
            subst this; exact Rat.le_refl
  | succ j ih =>
    by_cases e : i = j + 1
    · subst e; exact Rat.le_refl
    · have h1 := ih (by omega)
      have h2 := dnR_up (n := n) hB (psR_nonneg (n := n) hB hX j) 0 (n - 1 - j) (by omega) k
      have h3 : psR B n X j k ≤ psR B n X (j + 1) k := h2
      grind
/-- The exact shifted terms are not too great. -/
theorem psR_bound {B : Rat} {n : Nat} {X : Nat → Rat} (hB : 0 ≤ B) (hB8 : B ≤ 8) (hX : ∀ k, 0 ≤ X k) (hX8 : ∀ k, X k ≤ 8) (hn : n ≤ 6) (k : Nat) (hk : k < n) : psR B n X n k ≤ 8000000 := by
  have h1 := taylorR n X B (1 + B) n 0 (by omega)
  have e : (1 + B) - B = 1 := by grind
  rw [e] at h1
  have h2 := hsR_ge (f := fun k => psR B n X n k) n 0 (fun i _ _ => psR_nonneg hB hX n i) k (by omega) (by omega)
  have h3 := hsR_bound (f := X) (z := 1 + B) (M := 8) (W := 10) (by grind) (by grind) (by decide) n 0 (fun i _ _ => ⟨hX i, hX8 i⟩)
  have h4 := pwR_up (show (1 : Rat) ≤ 10 by decide) hn
  have h5 : pwR 10 6 = 1000000 := by decide +kernel
  have h6 : hsR (fun k => psR B n X 0 k) (1 + B) 0 n = hsR X (1 + B) 0 n := rfl
  rw [h6] at h1
  rw [h5] at h4
  have h7 := Rat.mul_le_mul_of_nonneg_left h4 (show (0 : Rat) ≤ 8 by decide)
  have h8 : psR B n X n k ≤ hsR (fun k => psR B n X n k) 1 0 n := h2
  grind

theorem shStep_len (z : Nat × Nat) (L : List (Nat × Nat)) (k : Nat) : (shStep z L k).length = L.length := by unfold shStep; rw [List.length_set]
theorem cnt_eq (s v : Nat) : s + 1 + v = s + v + 1 := by omega
theorem mul_succ' (s t : Nat) : (s + 1) * t = s * t + t := by rw [Nat.add_mul]; omega
/-- One step of a pass. -/
theorem step_lp {n : Nat} {L : List (Nat × Nat)} {Q : Nat → Rat × Rat} {X : Nat → Rat} {a i : Nat} (H : Lp n L Q X a i) {zw : Nat × Nat} {z : Rat × Rat} {Z : Rat} {b e : Nat} (hz : Rp zw z Z b e) (t : Nat) (ht : t + 1 < n)
    (ha : a + (b + 8) ≤ 500) (hi : i + e ≤ 100) (bZ : Z ≤ big57) (hb : ∀ k, k < n → X k ≤ big57 ∧ Z * X k ≤ big57) :
    (MulW zw (L.getD (t + 1) (0, 0)) (mulF zw (L.getD (t + 1) (0, 0))) ∧ PlusW (L.getD t (0, 0)) (mulF zw (L.getD (t + 1) (0, 0))) (plusF (L.getD t (0, 0)) (mulF zw (L.getD (t + 1) (0, 0))))) ∧
    Lp n (shStep zw L t) (fun k => if k = t then qadd (Q k) (qmul z (Q (k + 1))) else Q k) (fun k => if k = t then X k + Z * X (k + 1) else X k) (a + (b + 8)) (i + e) := by
  have h1 := H.rp t (by omega)
  have h2 := H.rp (t + 1) (by omega)
  obtain ⟨m1, m2⟩ := rp_mul hz h2 (by omega) (by omega) (by omega) bZ (hb (t + 1) (by omega)).1 (hb (t + 1) (by omega)).2
  obtain ⟨p1, p2⟩ := rp_plus (c := b + a + 6) (k := i + e) h1 m2 (by omega) (Nat.le_refl _) (by omega) (by omega) (by omega) (by omega) (hb t (by omega)).1 (hb (t + 1) (by omega)).2
  refine ⟨⟨m1, p1⟩, ⟨by rw [shStep_len]; exact H.len, fun k hk => ?_⟩⟩
  unfold shStep
  rw [cgetD_set _ _ _ _ (by rw [H.len]; exact hk)]
  by_cases e1 : k = t
  · subst e1
    rw [if_pos rfl, if_pos rfl, if_pos rfl]
    exact p2.up (by omega) (Nat.le_refl _)
  · rw [if_neg (fun h => e1 h.symm), if_neg e1, if_neg e1]
    exact (H.rp k hk).up (by omega) (by omega)
theorem Lp.cast {n : Nat} {L : List (Nat × Nat)} {Q Q' : Nat → Rat × Rat} {X X' : Nat → Rat} {a i : Nat} (H : Lp n L Q X a i) (e1 : Q = Q') (e2 : X = X') : Lp n L Q' X' a i := by rw [← e1, ← e2]; exact H
theorem Lp.up {n : Nat} {L : List (Nat × Nat)} {Q : Nat → Rat × Rat} {X : Nat → Rat} {a b i j : Nat} (H : Lp n L Q X a i) (hab : a ≤ b) (hij : i ≤ j) : Lp n L Q X b j := ⟨H.len, fun k hk => (H.rp k hk).up hab hij⟩

/-- All passes. -/
theorem shift_lp {n : Nat} {xs : List (Nat × Nat)} {Q : Nat → Rat × Rat} {X : Nat → Rat} {i : Nat} (H : Lp n xs Q X 0 i) {zw : Nat × Nat} {z : Rat × Rat} {Z : Rat} {e : Nat} (hz : Rp zw z Z 0 e) (hn : n ≤ 6) (hi : i + 36 * e ≤ 100)
    (hX : ∀ k, 0 ≤ X k) (hX8 : ∀ k, X k ≤ 8) (hZ8 : Z ≤ 8) :
    ShiftW zw n xs ∧ Lp n (shPass zw n xs n) (psC z n Q n) (psR Z n X n) 288 (i + 36 * e) := by
  have hZ0 := hz.lo.nonneg
  have hbd : ∀ j c k, j + 1 ≤ n → c ≤ n - 1 - j → k < n → dnR Z n (fun j' => psR Z n X j j') c k ≤ 8000000 := by
    intro j c k hj hc hk
    have h1 := dnR_up (n := n) hZ0 (psR_nonneg (n := n) hZ0 hX j) c (n - 1 - j) hc k
    have h2 := psR_up (n := n) hZ0 hX (j + 1) n hj k
    have h3 := psR_bound hZ0 hZ8 hX hX8 hn k hk
    have h4 : dnR Z n (fun j' => psR Z n X j j') (n - 1 - j) k = psR Z n X (j + 1) k := rfl
    have h5 : dnR Z n (psR Z n X j) c k ≤ dnR Z n (psR Z n X j) (n - 1 - j) k := h1
    have h6 : dnR Z n (psR Z n X j) c k = dnR Z n (fun j' => psR Z n X j j') c k := rfl
    have h7 : dnR Z n (psR Z n X j) (n - 1 - j) k = psR Z n X (j + 1) k := rfl
    grind
  have hbd' : ∀ j c k, j + 1 ≤ n → c ≤ n - 1 - j → k < n → dnR Z n (fun j' => psR Z n X j j') c k ≤ big57 ∧ Z * dnR Z n (fun j' => psR Z n X j j') c k ≤ big57 := by
    intro j c k hj hc hk
    have h1 := hbd j c k hj hc hk
    have h0 := dnR_nonneg (n := n) hZ0 (psR_nonneg (n := n) hZ0 hX j) c k
    have h0' : 0 ≤ dnR Z n (fun j' => psR Z n X j j') c k := h0
    have g1 := Rat.mul_le_mul_of_nonneg_right hZ8 h0'
    unfold big57
    constructor <;> grind
  have hbZ : Z ≤ big57 := by unfold big57; grind
  -- within a pass
  have hpass : ∀ j, j + 1 ≤ n → Lp n (shPass zw n xs j) (fun k => psC z n Q j k) (fun k => psR Z n X j k) (j * n * 8) (i + j * n * e) →
      ∀ c, c ≤ n - 1 - j → Lp n (shDown zw n (shPass zw n xs j) c) (fun k => dnC z n (fun j' => psC z n Q j j') c k) (fun k => dnR Z n (fun j' => psR Z n X j j') c k) ((j * n + c) * 8) (i + (j * n + c) * e) ∧
        (∀ d, d < c → MulW zw ((shDown zw n (shPass zw n xs j) d).getD (n - 2 - d + 1) (0, 0)) (mulF zw ((shDown zw n (shPass zw n xs j) d).getD (n - 2 - d + 1) (0, 0))) ∧
          PlusW ((shDown zw n (shPass zw n xs j) d).getD (n - 2 - d) (0, 0)) (mulF zw ((shDown zw n (shPass zw n xs j) d).getD (n - 2 - d + 1) (0, 0))) (plusF ((shDown zw n (shPass zw n xs j) d).getD (n - 2 - d) (0, 0)) (mulF zw ((shDown zw n (shPass zw n xs j) d).getD (n - 2 - d + 1) (0, 0))))) := by
    intro j hj H0 c
    induction c with
    | zero => intro _; exact ⟨H0, fun d hd => absurd hd (Nat.not_lt_zero _)⟩
    | succ c ih =>
      intro hc
      obtain ⟨h1, h2⟩ := ih (by omega)
      have hcn : (j * n + c) + 1 ≤ 36 := by
        have h3 := Nat.mul_le_mul_right n hj
        rw [mul_succ'] at h3
        have h4 := Nat.mul_le_mul hn hn
        have h5 := Nat.mul_le_mul_left n hn
        omega
      have hce : (j * n + c) * e + e ≤ 36 * e := by
        have h3 := Nat.mul_le_mul_right e hcn
        rw [mul_succ'] at h3
        exact h3
      obtain ⟨s1, s2⟩ := step_lp h1 hz (n - 2 - c) (by omega) (by omega) (by omega) hbZ (fun k hk => hbd' j c k hj (by omega) hk)
      refine ⟨?_, fun d hd => ?_⟩
      · have e1 : (j * n + (c + 1)) * 8 = (j * n + c) * 8 + (0 + 8) := by rw [← Nat.add_assoc, mul_succ']
        have e2 : i + (j * n + (c + 1)) * e = i + (j * n + c) * e + e := by rw [← Nat.add_assoc, mul_succ']; omega
        rw [e1, e2]
        exact s2
      · by_cases ed : d = c
        · subst ed; exact s1
        · exact h2 d (by omega)
  have hall : ∀ j, j ≤ n → Lp n (shPass zw n xs j) (fun k => psC z n Q j k) (fun k => psR Z n X j k) (j * n * 8) (i + j * n * e) := by
    intro j
    induction j with
    | zero => intro _; simp only [Nat.zero_mul, Nat.add_zero]; exact H
    | succ j ih =>
      intro hj
      have h1 := (hpass j hj (ih (by omega)) (n - 1 - j) (Nat.le_refl _)).1
      have h3 : j * n + (n - 1 - j) ≤ (j + 1) * n := by rw [mul_succ']; omega
      exact h1.up (Nat.mul_le_mul_right 8 h3) (by have := Nat.mul_le_mul_right e h3; omega)
  refine ⟨fun j c h => (hpass j (by omega) (hall j (by omega)) (c + 1) (by omega)).2 c (by omega), ?_⟩
  have h1 := hall n (Nat.le_refl _)
  have h2 : n * n ≤ 36 := Nat.mul_le_mul hn hn
  exact h1.up (by omega) (by have := Nat.mul_le_mul_right e h2; omega)
end Go.Proofs.Ytfbekiphlaaieaa
namespace Go.Proofs.Ytfbekiphlaaieaa

theorem two_m2 : two (-2) = 1 / 4 := by decide +kernel
theorem iv2_q (x : Int) : iv2 x (-2) = (x : Rat) / 4 := by unfold iv2; rw [two_m2]; grind
theorem drawn4_cv {p : Nat × Nat} (h : Drawn4 p) : ∃ g : GI, CV p g.1 g.2 (-2) ∧ g.1.natAbs ≤ 16 ∧ g.2.natAbs ≤ 16 ∧ (g = (0, 0) → p = (0, 0)) := by
  obtain ⟨x, y, h1, h2, h3, h4, rfl⟩ := h
  refine ⟨(x, y), ⟨?_, ?_⟩, by simp only; omega, by simp only; omega, fun e => ?_⟩
  · rw [iv2_q]; exact (goodQ_all x h1 h2).2
  · rw [iv2_q]; exact (goodQ_all y h3 h4).2
  · have e1 : x = 0 := congrArg Prod.fst e
    have e2 : y = 0 := congrArg Prod.snd e
    rw [e1, e2, q4_zero]
theorem drawn4_num {p : Nat × Nat} (h : Drawn4 p) : NumC p := by
  obtain ⟨g, hg, _⟩ := drawn4_cv h
  exact hg.num
/-- The exact terms of a drawn polynomial. -/
structure Dp (n : Nat) (xs : List (Nat × Nat)) (c : Nat → GI) : Prop where
  len : xs.length = n
  one : 1 ≤ n
  cv : ∀ k, k < n → CV (xs.getD k (0, 0)) (c k).1 (c k).2 (-2)
  sm : ∀ k, (c k).1.natAbs ≤ 16 ∧ (c k).2.natAbs ≤ 16
  out : ∀ k, n ≤ k → c k = (0, 0)
  zero : ∀ k, k < n → c k = (0, 0) → xs.getD k (0, 0) = (0, 0)
  top : ∃ x : Int, 1 ≤ x ∧ x ≤ 8 ∧ c (n - 1) = (2 * x, 0) ∧ xs.getD (n - 1) (0, 0) = (h2 x, 0)
theorem dp_of {n : Nat} {xs : List (Nat × Nat)} (h : DPoly n xs) (hn : 1 ≤ n) : ∃ c, Dp n xs c := by
  obtain ⟨x, x1, x2, x3⟩ := h.top
  have hch : ∀ k, ∃ g : GI, (k + 1 < n → CV (xs.getD k (0, 0)) g.1 g.2 (-2) ∧ (g = (0, 0) → xs.getD k (0, 0) = (0, 0))) ∧ g.1.natAbs ≤ 16 ∧ g.2.natAbs ≤ 16 ∧ (k = n - 1 → g = (2 * x, 0)) ∧ (n ≤ k → g = (0, 0)) := by
    intro k
    by_cases h1 : k + 1 < n
    · obtain ⟨g, g1, g2, g3, g4⟩ := drawn4_cv (h.low k h1)
      exact ⟨g, fun _ => ⟨g1, g4⟩, g2, g3, fun e => by omega, fun e => by omega⟩
    · by_cases h2 : k = n - 1
      · exact ⟨(2 * x, 0), fun e => absurd e h1, by simp only; omega, by simp, fun _ => rfl, fun e => by omega⟩
      · exact ⟨(0, 0), fun e => absurd e h1, by simp, by simp, fun e => absurd e h2, fun _ => rfl⟩
  refine ⟨fun k => Classical.choose (hch k), h.len, hn, fun k hk => ?_, fun k => ?_, fun k hk => ?_, fun k hk e => ?_, x, x1, x2, ?_, x3⟩
  · by_cases e : k = n - 1
    · have e1 := (Classical.choose_spec (hch k)).2.2.2.1 e
      show CV _ (Classical.choose (hch k)).1 (Classical.choose (hch k)).2 _
      rw [e1, e, x3]
      refine ⟨?_, ?_⟩
      · have h9 := (goodH_all x x1 x2).2
        have e2 : iv2 (2 * x) (-2) = (x : Rat) / 2 := by rw [iv2_q]; push_cast; grind
        rw [e2]; exact h9
      · have e2 : iv2 0 (-2) = 0 := by unfold iv2; simp
        rw [e2]; exact V_nil
    · exact ((Classical.choose_spec (hch k)).1 (by omega)).1
  · exact ⟨(Classical.choose_spec (hch k)).2.1, (Classical.choose_spec (hch k)).2.2.1⟩
  · exact (Classical.choose_spec (hch k)).2.2.2.2 hk
  · by_cases e' : k = n - 1
    · have e1 := (Classical.choose_spec (hch k)).2.2.2.1 e'
      have e2 : Classical.choose (hch k) = (0, 0) := e
      rw [e2] at e1
      have e3 : (0 : Int) = 2 * x := congrArg Prod.fst e1
      omega
    · exact ((Classical.choose_spec (hch k)).1 (by omega)).2 e
  · exact (Classical.choose_spec (hch (n - 1))).2.2.2.1 rfl
/-- The exact number of quarters. -/
def qof (g : GI) : Rat × Rat := cq g.1 g.2 (-2)
theorem l1_qof (g : GI) : l1q (qof g) = (((g.1.natAbs + g.2.natAbs : Nat) : Rat)) / 4 := by
  unfold qof
  rw [l1_cq, iv2_q]
  congr 1
theorem l1_qof_lo (g : GI) : Lo (l1q (qof g)) 2 := by
  rw [l1_qof]
  generalize g.1.natAbs + g.2.natAbs = m
  have e : two (-((2 : Nat) : Int)) = 1 / 4 := two_m2
  cases m with
  | zero => left; decide +kernel
  | succ m =>
    right
    rw [e]
    have h : 0 ≤ (m : Rat) := by exact_mod_cast Nat.zero_le m
    push_cast
    grind
theorem l1_qof_le {g : GI} {b : Nat} (h1 : g.1.natAbs ≤ b) (h2 : g.2.natAbs ≤ b) : l1q (qof g) ≤ (b : Rat) / 2 := by
  rw [l1_qof]
  have h : ((g.1.natAbs + g.2.natAbs : Nat) : Rat) ≤ ((2 * b : Nat) : Rat) := Rat.natCast_le_natCast.2 (by omega)
  have e : ((2 * b : Nat) : Rat) = 2 * (b : Rat) := by push_cast; rfl
  rw [e] at h
  grind
theorem cv_rp {x : Nat × Nat} {g : GI} (h : CV x g.1 g.2 (-2)) : Rp x (qof g) (l1q (qof g)) 0 2 := rp_exact h.re h.im (l1_qof_lo g)
theorem dp_lp {n : Nat} {xs : List (Nat × Nat)} {c : Nat → GI} (D : Dp n xs c) : Lp n xs (fun k => qof (c k)) (fun k => l1q (qof (c k))) 0 2 := ⟨D.len, fun k hk => cv_rp (D.cv k hk)⟩
theorem dp_le8 {n : Nat} {xs : List (Nat × Nat)} {c : Nat → GI} (D : Dp n xs c) (k : Nat) : l1q (qof (c k)) ≤ 8 := by
  have h := l1_qof_le (D.sm k).1 (D.sm k).2
  have e : ((16 : Nat) : Rat) / 2 = 8 := by decide +kernel
  rw [e] at h
  exact h

/-- Sizes. -/
def Hk : Nat → Rat
  | 0 => 0
  | j + 1 => 65 * Hk j + 41
def Tk : Nat → Rat
  | 0 => 0
  | j + 1 => 65 * Tk j + 1 / 1000000000000000000000000000
theorem Tk_all {j : Nat} (h : j ≤ 6) : 0 ≤ Tk j ∧ Tk j ≤ 1 / 1000000000000 := by
  have : j = 0 ∨ j = 1 ∨ j = 2 ∨ j = 3 ∨ j = 4 ∨ j = 5 ∨ j = 6 := by omega
  rcases this with rfl | rfl | rfl | rfl | rfl | rfl | rfl <;> decide +kernel
theorem Hk_all {j : Nat} (h : j ≤ 6) : 0 ≤ Hk j ∧ Hk j ≤ 1000000000000 := by
  have : j = 0 ∨ j = 1 ∨ j = 2 ∨ j = 3 ∨ j = 4 ∨ j = 5 ∨ j = 6 := by omega
  rcases this with rfl | rfl | rfl | rfl | rfl | rfl | rfl <;> decide +kernel
theorem long1_q {x : Nat × Nat} {g : GI} (h : CV x g.1 g.2 (-2)) (h1 : g.1.natAbs ≤ 1000) (h2 : g.2.natAbs ≤ 1000) : Long1W x (long1F x) ∧ V .f32 (long1F x) (l1q (qof g)) ∧ cv64 (long1F x) = some (u64w (long1F x)) ∧ V .f64 (u64w (long1F x)) (l1q (qof g)) := by
  obtain ⟨l1, l2⟩ := long1_cv h (by omega) (by omega) (by omega) (by omega)
  obtain ⟨c1, c2⟩ := conv_up l2 (by omega) (by omega) (by omega)
  have e : l1q (qof g) = iv2 ((g.1.natAbs : Int) + (g.2.natAbs : Int)) (-2) := by unfold qof; rw [l1_cq]
  rw [← e] at l2 c2
  exact ⟨l1, l2, c1, c2⟩
theorem sx_hs (n : Nat) (w : Nat → Rat) (x : Rat) (j : Nat) (h : j ≤ n + 1) : sx n w x j = hsR w x (n + 1 - j) j := by
  induction j with
  | zero => rfl
  | succ j ih =>
    have e : n + 1 - j = (n + 1 - (j + 1)) + 1 := by omega
    have e2 : n - j = n + 1 - (j + 1) := by omega
    show sx n w x j * x + w (n - j) = _
    rw [ih (by omega), hsR_succ, e, e2]
theorem size_gen {n : Nat} {xs : List (Nat × Nat)} {c : Nat → GI} (hcv : ∀ k, k ≤ n → CV (xs.getD k (0, 0)) (c k).1 (c k).2 (-2)) (hsm : ∀ k, (c k).1.natAbs ≤ 80 ∧ (c k).2.natAbs ≤ 80) (hn : n ≤ 5) {x : Nat} {ξ : Rat} (hx : V .f64 x ξ) (hx0 : 0 ≤ ξ) (hx8 : ξ ≤ 64) (j : Nat) (hj : j ≤ n + 1) :
    ∃ σ, V .f64 (szF n xs x j) σ ∧ 0 ≤ σ ∧ σ ≤ Hk j ∧ Fj j * sx n (fun k => l1q (qof (c k))) ξ j ≤ σ + Tk j ∧ 0 ≤ sx n (fun k => l1q (qof (c k))) ξ j ∧
      (∀ i, i < j → floatBits .mul .f64 (szF n xs x i) x = some (pmF n xs x i) ∧ Long1W (xs.getD (n - i) (0, 0)) (long1F (xs.getD (n - i) (0, 0))) ∧ cv64 (long1F (xs.getD (n - i) (0, 0))) = some (u64w (long1F (xs.getD (n - i) (0, 0)))) ∧ floatBits .add .f64 (pmF n xs x i) (u64w (long1F (xs.getD (n - i) (0, 0)))) = some (szF n xs x (i + 1))) := by
  induction j with
  | zero => exact ⟨0, V_zero .f64 false 0, by decide, by decide, by unfold sx Tk; grind, by unfold sx; exact Rat.le_refl, fun i hi => absurd hi (Nat.not_lt_zero _)⟩
  | succ j ih =>
    obtain ⟨σ, h1, h2, h3, h4, h5, h6⟩ := ih (by omega)
    have hH := Hk_all (show j ≤ 6 by omega)
    have hT := Tk_all (show j ≤ 6 by omega)
    have hF := Fj_all (show j ≤ 6 by omega)
    have hs1 := hsm (n - j)
    obtain ⟨l1, l2, c1, c2⟩ := long1_q (hcv (n - j) (by omega)) (by omega) (by omega)
    have hw0 := l1_nonneg (qof (c (n - j)))
    have hwb := l1_qof_le hs1.1 hs1.2
    have e40 : ((80 : Nat) : Rat) / 2 = 40 := by decide +kernel
    rw [e40] at hwb
    have hσx := Rat.mul_nonneg h2 hx0
    have hσ8 : σ * ξ ≤ σ * 64 := Rat.mul_le_mul_of_nonneg_left hx8 h2
    obtain ⟨m, π, m1, m2⟩ := op_mul h1 hx (by rw [t60]; unfold ab; grind)
    obtain ⟨n1, n2, n3⟩ := near_pos m2.near hσx
    have em : pmF n xs x j = m := getD_of m1
    obtain ⟨r, ρ, r1, r2⟩ := op_add m2.val c2 (by rw [t60]; unfold ab; grind)
    obtain ⟨q1, q2, q3⟩ := near_pos r2.near (by grind)
    have er : szF n xs x (j + 1) = r := by
      show g64 .add (pmF n xs x j) _ = r
      rw [em]
      exact getD_of r1
    have esx : sx n (fun k => l1q (qof (c k))) ξ (j + 1) = sx n (fun k => l1q (qof (c k))) ξ j * ξ + l1q (qof (c (n - j))) := rfl
    have hsx0 := Rat.mul_nonneg h5 hx0
    have hFs : Fj j * sx n (fun k => l1q (qof (c k))) ξ j * ξ ≤ (σ + Tk j) * ξ := Rat.mul_le_mul_of_nonneg_right h4 hx0
    have hT8 : Tk j * ξ ≤ Tk j * 64 := Rat.mul_le_mul_of_nonneg_left hx8 hT.1
    have hFw : Fj j * l1q (qof (c (n - j))) ≤ 1 * l1q (qof (c (n - j))) := Rat.mul_le_mul_of_nonneg_right hF.2 hw0
    refine ⟨ρ, by rw [er]; exact r2.val, q3, ?_, ?_, ?_, ?_⟩
    · unfold Hk; grind
    · rw [esx]
      unfold Fj Tk
      have e1 : Fj j * (1 - 1 / 1000000) * (sx n (fun k => l1q (qof (c k))) ξ j * ξ + l1q (qof (c (n - j)))) = (Fj j * sx n (fun k => l1q (qof (c k))) ξ j * ξ + Fj j * l1q (qof (c (n - j)))) * (1 - 1 / 1000000) := by grind
      rw [e1]
      generalize Fj j * sx n (fun k => l1q (qof (c k))) ξ j * ξ = X at *
      generalize Fj j * l1q (qof (c (n - j))) = Y at *
      generalize l1q (qof (c (n - j))) = w at *
      have e2 : (σ + Tk j) * ξ = σ * ξ + Tk j * ξ := by grind
      rw [e2] at hFs
      generalize σ * ξ = sξ at *
      generalize Tk j * ξ = tξ at *
      grind
    · rw [esx]; grind
    · intro i hi
      by_cases e : i = j
      · subst e
        exact ⟨by rw [em]; exact m1, l1, c1, by rw [em, er]; exact r1⟩
      · exact h6 i (by omega)
/-- The law's size of a polynomial: its words and how near it is to the exact sum. -/
def sizeF (n : Nat) (xs : List (Nat × Nat)) (zw : Nat × Nat) : Nat := szF n xs (u64w (long1F zw)) (n + 1)
theorem size_words {n : Nat} {xs : List (Nat × Nat)} {c : Nat → GI} (hl : xs.length = n + 1) (hcv : ∀ k, k ≤ n → CV (xs.getD k (0, 0)) (c k).1 (c k).2 (-2)) (hsm : ∀ k, (c k).1.natAbs ≤ 80 ∧ (c k).2.natAbs ≤ 80) (hn : n ≤ 5)
    {zw : Nat × Nat} {ξ : Rat} (hz : Long1W zw (long1F zw)) (hz2 : cv64 (long1F zw) = some (u64w (long1F zw))) (hx : V .f64 (u64w (long1F zw)) ξ) (hx0 : 0 ≤ ξ) (hx8 : ξ ≤ 64) :
    SizeW xs zw (fun k => long1F (xs.getD k (0, 0))) (fun k => u64w (long1F (xs.getD k (0, 0)))) (fun k => pmF n xs (u64w (long1F zw)) (n - k)) (fun k => szF n xs (u64w (long1F zw)) (n + 1 - k)) (long1F zw) (u64w (long1F zw)) ∧
    ∃ σ, V .f64 (sizeF n xs zw) σ ∧ 0 ≤ σ ∧ σ ≤ 1000000000000 ∧ 999 / 1000 * hsR (fun k => l1q (qof (c k))) ξ 0 (n + 1) ≤ σ + 1 / 1000000000000 := by
  obtain ⟨σ, h1, h2, h3, h4, h5, h6⟩ := size_gen hcv hsm hn hx hx0 hx8 (n + 1) (Nat.le_refl _)
  refine ⟨⟨hz, hz2, ?_, ?_, ?_, ?_, ?_⟩, σ, h1, h2, ?_, ?_⟩
  · show szF n xs _ (n + 1 - xs.length) = 0
    rw [hl, Nat.sub_self]
    rfl
  · intro k hk
    have h7 := (h6 (n - k) (by omega)).2.1
    have e : n - (n - k) = k := by omega
    rw [e] at h7
    exact h7
  · intro k hk
    have h7 := (h6 (n - k) (by omega)).2.2.1
    have e : n - (n - k) = k := by omega
    rw [e] at h7
    exact h7
  · intro k hk
    have h7 := (h6 (n - k) (by omega)).1
    have e : n + 1 - (k + 1) = n - k := by omega
    show floatBits .mul .f64 (szF n xs _ (n + 1 - (k + 1))) _ = _
    rw [e]
    exact h7
  · intro k hk
    have h7 := (h6 (n - k) (by omega)).2.2.2
    have e : n - (n - k) = k := by omega
    have e2 : n - k + 1 = n + 1 - k := by omega
    rw [e, e2] at h7
    exact h7
  · have := Hk_all (show n + 1 ≤ 6 by omega)
    grind
  · have hF := Fj_all (show n + 1 ≤ 6 by omega)
    have hT := Tk_all (show n + 1 ≤ 6 by omega)
    have e := sx_hs n (fun k => l1q (qof (c k))) ξ (n + 1) (Nat.le_refl _)
    rw [Nat.sub_self] at e
    rw [← e]
    have h8 := Rat.mul_le_mul_of_nonneg_right hF.1 h5
    grind
end Go.Proofs.Ytfbekiphlaaieaa
namespace Go.Proofs.Ytfbekiphlaaieaa

/-- 'r8Far' -/
def farG (x y : Nat × Nat) : Nat := g64 .add (gapF (u64w x.1) (u64w y.1)) (gapF (u64w x.2) (u64w y.2))
theorem gap_val {a b : Nat} {A B : Rat} (ha : V .f64 a A) (hb : V .f64 b B) (h : ab A + ab B < 1000000000000000000) : GapW a b (gapF a b) ∧ ∃ g, V .f64 (gapF a b) g ∧ 0 ≤ g ∧ g ≤ (1 + eps) * ab (A - B) + tau := by
  have s1 := ab_sub A B
  have s2 := ab_sub B A
  obtain ⟨d, δ, e1, r1⟩ := op_sub ha hb (by rw [t60]; grind)
  obtain ⟨d', δ', e2, r2⟩ := op_sub hb ha (by rw [t60]; grind)
  have f1 : g64 .sub a b = d := getD_of e1
  have f2 : g64 .sub b a = d' := getD_of e2
  have hv := V_max r1.val r2.val
  have e3 : gapF a b = maxW .f64 d d' := by unfold gapF; rw [f1, f2]
  rw [e3]
  refine ⟨⟨d, d', e1, e2, ⟨_, r1.val⟩, ⟨_, r2.val⟩, rfl⟩, rmax δ δ', hv, ?_, ?_⟩
  · have p1 := r1.near.pos
    have p2 := r2.near.pos
    unfold rmax
    by_cases h0 : 0 ≤ A - B
    · have := p1 h0
      split <;> grind
    · have := p2 (by grind)
      split <;> grind
  · have p1 := near_far r1.near
    have p2 := near_far r2.near
    have e4 : ab (B - A) = ab (A - B) := by
      have : B - A = -(A - B) := by grind
      rw [this, ab_neg]
    rw [e4] at p2
    have k1 := ab_add (δ - (A - B)) (A - B)
    have k2 := ab_add (δ' - (B - A)) (B - A)
    have e5 : δ - (A - B) + (A - B) = δ := by grind
    have e6 : δ' - (B - A) + (B - A) = δ' := by grind
    rw [e5] at k1
    rw [e6, e4] at k2
    have k3 : δ ≤ ab δ := by unfold ab; grind
    have k4 : δ' ≤ ab δ' := by unfold ab; grind
    unfold rmax
    split <;> grind
theorem far_rp {x y : Nat × Nat} {q : Rat × Rat} {X Y : Rat} {a b i j : Nat} (hx : Rp x q X a i) (hy : Rp y q Y b j) (ha : a ≤ 500) (hb : b ≤ 500) (bX : X ≤ big57) (bY : Y ≤ big57) :
    FarW x y (farG x y) ∧ ∃ f, V .f64 (farG x y) f ∧ 0 ≤ f ∧ f ≤ 501 / 500 * (((a : Rat) + 2) * (eps * X) + ((b : Rat) + 2) * (eps * Y)) + 1 / 1000000000000 := by
  obtain ⟨u1, u2, a1, a2, du, lu⟩ := rp_bound hx ha
  obtain ⟨v1, v2, b1, b2, dv, lv⟩ := rp_bound hy hb
  have hX := hx.lo.nonneg
  have hY := hy.lo.nonneg
  have pu := ab_part (u1, u2)
  have pv := ab_part (v1, v2)
  simp only at pu pv
  unfold big57 at bX bY
  obtain ⟨wA, A, eA, gA, vA, nA⟩ := up_near a1 (by grind)
  obtain ⟨wB, B, eB, gB, vB, nB⟩ := up_near a2 (by grind)
  obtain ⟨wC, C, eC, gC, vC, nC⟩ := up_near b1 (by grind)
  obtain ⟨wD, D, eD, gD, vD, nD⟩ := up_near b2 (by grind)
  have ht := tau_pos
  have ht2 := tau_small
  have lA := near_le nA
  have lB := near_le nB
  have lC := near_le nC
  have lD := near_le nD
  obtain ⟨W1, g, vg, g0, gb⟩ := gap_val vA vC (by grind)
  obtain ⟨W2, g', vg', g0', gb'⟩ := gap_val vB vD (by grind)
  have cA := near_far nA
  have cB := near_far nB
  have cC := near_far nC
  have cD := near_far nD
  have z1 := ab_sub A C
  have z2 := ab_sub B D
  obtain ⟨r, f, e1, r1⟩ := op_add vg vg' (by
    have k1 : ab (g + g') = g + g' := by unfold ab; grind
    have m1 : ab A ≤ 145000000000000000 := by clear gb gb' cA cB cC cD; grind
    have m2 : ab B ≤ 145000000000000000 := by clear gb gb' cA cB cC cD; grind
    have m3 : ab C ≤ 145000000000000000 := by clear gb gb' cA cB cC cD; grind
    have m4 : ab D ≤ 145000000000000000 := by clear gb gb' cA cB cC cD; grind
    have m5 : ab (A - C) ≤ 290000000000000000 := by clear gb gb' cA cB cC cD; grind
    have m6 : ab (B - D) ≤ 290000000000000000 := by clear gb gb' cA cB cC cD; grind
    rw [eps_val] at gb gb'
    rw [t60, k1]
    generalize ab (A - C) = T1 at *
    generalize ab (B - D) = T2 at *
    clear cA cB cC cD lA lB lC lD m1 m2 m3 m4 du dv lu lv pu pv z1 z2
    grind)
  have hr : farG x y = r := by
    unfold farG
    rw [gA, gB, gC, gD]
    exact getD_of e1
  rw [hr]
  refine ⟨⟨wA, wC, wB, wD, gapF wA wC, gapF wB wD, eA, eC, eB, eD, W1, W2, e1⟩, f, r1.val, r1.near.pos (by grind), ?_⟩
  obtain ⟨n1, n2, n3⟩ := near_pos r1.near (show 0 ≤ g + g' by grind)
  -- |A - C| and |B - D|
  have t1 : ab (A - C) ≤ ab (A - u1) + ab (u1 - q.1) + ab (v1 - q.1) + ab (C - v1) := by
    have e : A - C = ((A - u1) + (u1 - q.1)) - ((v1 - q.1) + (C - v1)) := by grind
    rw [e]
    have k1 := ab_sub ((A - u1) + (u1 - q.1)) ((v1 - q.1) + (C - v1))
    have k2 := ab_add (A - u1) (u1 - q.1)
    have k3 := ab_add (v1 - q.1) (C - v1)
    grind
  have t2 : ab (B - D) ≤ ab (B - u2) + ab (u2 - q.2) + ab (v2 - q.2) + ab (D - v2) := by
    have e : B - D = ((B - u2) + (u2 - q.2)) - ((v2 - q.2) + (D - v2)) := by grind
    rw [e]
    have k1 := ab_sub ((B - u2) + (u2 - q.2)) ((v2 - q.2) + (D - v2))
    have k2 := ab_add (B - u2) (u2 - q.2)
    have k3 := ab_add (v2 - q.2) (D - v2)
    grind
  have du' : ab (u1 - q.1) + ab (u2 - q.2) ≤ (a : Rat) * (eps * X) := by
    have e : (a : Rat) * (eps * X) = (a : Rat) * eps * X := by grind
    rw [e]; exact du
  have dv' : ab (v1 - q.1) + ab (v2 - q.2) ≤ (b : Rat) * (eps * Y) := by
    have e : (b : Rat) * (eps * Y) = (b : Rat) * eps * Y := by grind
    rw [e]; exact dv
  have lu' : ab u1 + ab u2 ≤ 16001 / 16000 * X := lu
  have lv' : ab v1 + ab v2 ≤ 16001 / 16000 * Y := lv
  have kX := Rat.mul_nonneg (Rat.le_of_lt eps_pos) hX
  have kY := Rat.mul_nonneg (Rat.le_of_lt eps_pos) hY
  have m1 : eps * ab u1 + eps * ab u2 ≤ 16001 / 16000 * (eps * X) := by
    have := Rat.mul_le_mul_of_nonneg_left lu' (Rat.le_of_lt eps_pos)
    grind
  have m2 : eps * ab v1 + eps * ab v2 ≤ 16001 / 16000 * (eps * Y) := by
    have := Rat.mul_le_mul_of_nonneg_left lv' (Rat.le_of_lt eps_pos)
    grind
  have hT : ab (A - C) + ab (B - D) ≤ ((a : Rat) + 16001 / 16000) * (eps * X) + ((b : Rat) + 16001 / 16000) * (eps * Y) + 4 * tau := by
    have e1 : ((a : Rat) + 16001 / 16000) * (eps * X) = (a : Rat) * (eps * X) + 16001 / 16000 * (eps * X) := by grind
    have e2 : ((b : Rat) + 16001 / 16000) * (eps * Y) = (b : Rat) * (eps * Y) + 16001 / 16000 * (eps * Y) := by grind
    rw [e1, e2]
    grind
  have hT0 := ab_nonneg (A - C)
  have hT1 := ab_nonneg (B - D)
  have hT2 : 0 ≤ ab (A - C) + ab (B - D) := by clear m1 m2 t1 t2 du' dv' lu' lv' lA lB lC lD cA cB cC cD z1 z2 pu pv lu lv du dv hT n1 n2; grind
  have hsum : g + g' ≤ (1 + eps) * (ab (A - C) + ab (B - D)) + 2 * tau := by
    have e : (1 + eps) * (ab (A - C) + ab (B - D)) = (1 + eps) * ab (A - C) + (1 + eps) * ab (B - D) := by grind
    rw [e]
    clear m1 m2 t1 t2 du' dv' lu' lv' lA lB lC lD cA cB cC cD z1 z2 pu pv lu lv du dv hT n1 n2 e
    generalize (1 + eps) * ab (A - C) = P1 at *
    generalize (1 + eps) * ab (B - D) = P2 at *
    grind
  have ha0 : 0 ≤ (a : Rat) * (eps * X) := Rat.mul_nonneg (by exact_mod_cast Nat.zero_le a) kX
  have hb0 : 0 ≤ (b : Rat) * (eps * Y) := Rat.mul_nonneg (by exact_mod_cast Nat.zero_le b) kY
  have e1' : ((a : Rat) + 16001 / 16000) * (eps * X) = (a : Rat) * (eps * X) + 16001 / 16000 * (eps * X) := by grind
  have e2' : ((b : Rat) + 16001 / 16000) * (eps * Y) = (b : Rat) * (eps * Y) + 16001 / 16000 * (eps * Y) := by grind
  have e3' : ((a : Rat) + 2) * (eps * X) = (a : Rat) * (eps * X) + 2 * (eps * X) := by grind
  have e4' : ((b : Rat) + 2) * (eps * Y) = (b : Rat) * (eps * Y) + 2 * (eps * Y) := by grind
  rw [e1', e2'] at hT
  rw [e3', e4']
  generalize (a : Rat) * (eps * X) = aX at *
  generalize (b : Rat) * (eps * Y) = bY at *
  generalize eps * X = eX at *
  generalize eps * Y = eY at *
  generalize ab (A - C) + ab (B - D) = T at *
  clear m1 m2 t1 t2 du' dv' lu' lv' lA lB lC lD cA cB cC cD z1 z2 gb gb' pu pv lu lv du dv
  have hk : (1 + eps) * T ≤ 1000001 / 1000000 * T := by
    have : (1 + eps) ≤ 1000001 / 1000000 := by decide +kernel
    exact Rat.mul_le_mul_of_nonneg_right this hT2
  grind
/-- The law's comparison with a thousandth. -/
theorem chk {fw sw : Nat} {f σ : Rat} (hf : V .f64 fw f) (hs : V .f64 sw σ) (h0 : 0 ≤ σ) (hb : σ ≤ 100000000000000000) (hle : f ≤ 9 / 10000 * (1 + σ)) :
    floatBits .add .f64 w1 sw = some (g64 .add w1 sw) ∧ floatBits .mul .f64 w001 (g64 .add w1 sw) = some (g64 .mul w001 (g64 .add w1 sw)) ∧ (FloatKind.f64.format.order fw (g64 .mul w001 (g64 .add w1 sw)) == some .gt) = false := by
  obtain ⟨on, ο, e1, r1⟩ := op_add V_w1 hs (by rw [t60]; unfold ab; grind)
  obtain ⟨n1, n2, n3⟩ := near_pos r1.near (show 0 ≤ 1 + σ by grind)
  have hv := V_w001
  have hc : (9999 : Rat) / 10000000 ≤ 4611686018427388 / 4611686018427387904 ∧ (4611686018427388 : Rat) / 4611686018427387904 ≤ 1 / 999 := by decide +kernel
  generalize (4611686018427388 : Rat) / 4611686018427387904 = μ at *
  have hp := Rat.mul_nonneg (show 0 ≤ μ by grind) n3
  have hp2 : μ * ο ≤ 1 / 999 * ο := Rat.mul_le_mul_of_nonneg_right hc.2 n3
  have hp3 : 9999 / 10000000 * ο ≤ μ * ο := Rat.mul_le_mul_of_nonneg_right hc.1 n3
  obtain ⟨mil, m, e2, r2⟩ := op_mul hv r1.val (by rw [t60]; unfold ab; grind)
  obtain ⟨k1, k2, k3⟩ := near_pos r2.near hp
  have f1 : g64 .add w1 sw = on := getD_of e1
  rw [f1]
  have f2 : g64 .mul w001 on = mil := getD_of e2
  rw [f2]
  refine ⟨e1, e2, gt_false hf r2.val ?_⟩
  grind
/-- The same with less than. -/
theorem chk_lt {fw sw : Nat} {f σ : Rat} (hf : V .f64 fw f) (hs : V .f64 sw σ) (h0 : 0 ≤ σ) (hb : σ ≤ 100000000000000000) (hle : f ≤ 9 / 10000 * (1 + σ)) :
    (FloatKind.f64.format.order fw (g64 .mul w001 (g64 .add w1 sw)) == some .lt) = true := by
  obtain ⟨on, ο, e1, r1⟩ := op_add V_w1 hs (by rw [t60]; unfold ab; grind)
  obtain ⟨n1, n2, n3⟩ := near_pos r1.near (show 0 ≤ 1 + σ by grind)
  have hv := V_w001
  have hc : (9999 : Rat) / 10000000 ≤ 4611686018427388 / 4611686018427387904 ∧ (4611686018427388 : Rat) / 4611686018427387904 ≤ 1 / 999 := by decide +kernel
  generalize (4611686018427388 : Rat) / 4611686018427387904 = μ at *
  have hp := Rat.mul_nonneg (show 0 ≤ μ by grind) n3
  have hp2 : μ * ο ≤ 1 / 999 * ο := Rat.mul_le_mul_of_nonneg_right hc.2 n3
  have hp3 : 9999 / 10000000 * ο ≤ μ * ο := Rat.mul_le_mul_of_nonneg_right hc.1 n3
  obtain ⟨mil, m, e2, r2⟩ := op_mul hv r1.val (by rw [t60]; unfold ab; grind)
  obtain ⟨k1, k2, k3⟩ := near_pos r2.near hp
  have f1 : g64 .add w1 sw = on := getD_of e1
  rw [f1]
  have f2 : g64 .mul w001 on = mil := getD_of e2
  rw [f2, order_val hf r2.val]
  rw [if_pos (by grind)]
  rfl
end Go.Proofs.Ytfbekiphlaaieaa
