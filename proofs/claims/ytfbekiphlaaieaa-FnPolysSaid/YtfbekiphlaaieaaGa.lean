/- Words that stand for whole numbers of units: sums, differences, products and conversions that lose nothing. Condition: the whole numbers have few digits. -/
import Derived.Test.YtfbekiphlaaieaaCw
namespace Go.Proofs.Ytfbekiphlaaieaa

/-- M units of 2 to the power of p. -/
def iv2 (M p : Int) : Rat := (M : Rat) * two p
def dgs : FloatKind → Nat
  | .f32 => 16777216
  | .f64 => 9007199254740992
theorem ab_iv2 (M p : Int) : ab (iv2 M p) = (M.natAbs : Rat) * two p := by
  have hp := two_pos p
  unfold iv2 ab
  by_cases h : M < 0
  · have e : ((M.natAbs : Nat) : Rat) = -(M : Rat) := by
      have : (M.natAbs : Int) = -M := by omega
      rw [← Rat.intCast_natCast, this]
      push_cast
      rfl
    have h1 : (M : Rat) < 0 := by exact_mod_cast h
    have h2 := Rat.mul_lt_mul_of_pos_right h1 hp
    rw [e]
    grind
  · have e : ((M.natAbs : Nat) : Rat) = (M : Rat) := by
      have : (M.natAbs : Int) = M := by omega
      rw [← Rat.intCast_natCast, this]
    have h1 : 0 ≤ (M : Rat) := by exact_mod_cast (by omega : 0 ≤ M)
    have h2 := Rat.mul_nonneg h1 (Rat.le_of_lt hp)
    rw [e]
    grind
theorem dgs_two (k : FloatKind) : ((dgs k : Nat) : Rat) = two (digits k) := by cases k <;> decide +kernel
theorem iv2_small {k : FloatKind} {M p : Int} (h : M.natAbs < dgs k) (hp : p ≤ 4) : ab (iv2 M p) < two 60 := by
  rw [ab_iv2]
  have h1 : (M.natAbs : Rat) < ((dgs k : Nat) : Rat) := by exact_mod_cast h
  have h2 := Rat.mul_lt_mul_of_pos_right h1 (two_pos p)
  have h3 : ((dgs k : Nat) : Rat) * two p ≤ ((dgs k : Nat) : Rat) * two 4 := Rat.mul_le_mul_of_nonneg_left (two_le hp) (by exact_mod_cast Nat.zero_le _)
  have h4 : ((dgs k : Nat) : Rat) * two 4 < two 60 := by cases k <;> decide +kernel
  grind
theorem ex_of {k : FloatKind} {q : Rat} {r : Nat} {q' : Rat} (h : Rounded k q r q') {M p : Int} (hq : q = iv2 M p) (hM : M.natAbs < dgs k) (hp : -149 ≤ p) : V k r (iv2 M p) := by
  have e := h.exact_ M.natAbs p (by rw [hq, ab_iv2]) (by rw [← dgs_two]; exact_mod_cast hM) hp
  rw [← hq, ← e]
  exact h.val
theorem ex_add {k : FloatKind} {x y : Nat} {M N p : Int} (hx : V k x (iv2 M p)) (hy : V k y (iv2 N p)) (h : (M + N).natAbs < dgs k) (hp : -149 ≤ p) (hp' : p ≤ 4) : ∃ r, floatBits .add k x y = some r ∧ V k r (iv2 (M + N) p) := by
  have e : iv2 M p + iv2 N p = iv2 (M + N) p := by unfold iv2; push_cast; grind
  obtain ⟨r, q, h1, h2⟩ := op_add hx hy (by rw [e]; exact iv2_small h hp')
  exact ⟨r, h1, ex_of h2 e h hp⟩
theorem ex_sub {k : FloatKind} {x y : Nat} {M N p : Int} (hx : V k x (iv2 M p)) (hy : V k y (iv2 N p)) (h : (M - N).natAbs < dgs k) (hp : -149 ≤ p) (hp' : p ≤ 4) : ∃ r, floatBits .sub k x y = some r ∧ V k r (iv2 (M - N) p) := by
  have e : iv2 M p - iv2 N p = iv2 (M - N) p := by unfold iv2; push_cast; grind
  obtain ⟨r, q, h1, h2⟩ := op_sub hx hy (by rw [e]; exact iv2_small h hp')
  exact ⟨r, h1, ex_of h2 e h hp⟩
theorem ex_mul {k : FloatKind} {x y : Nat} {M N p s : Int} (hx : V k x (iv2 M p)) (hy : V k y (iv2 N s)) (h : (M * N).natAbs < dgs k) (hp : -149 ≤ p + s) (hp' : p + s ≤ 4) : ∃ r, floatBits .mul k x y = some r ∧ V k r (iv2 (M * N) (p + s)) := by
  have e : iv2 M p * iv2 N s = iv2 (M * N) (p + s) := by unfold iv2; rw [two_add]; push_cast; grind
  obtain ⟨r, q, h1, h2⟩ := op_mul hx hy (by rw [e]; exact iv2_small h hp')
  exact ⟨r, h1, ex_of h2 e h hp⟩
theorem ex_conv {k k' : FloatKind} {x : Nat} {M p : Int} (hx : V k x (iv2 M p)) (hne : k ≠ k') (h : M.natAbs < dgs k') (hp : -149 ≤ p) (hp' : p ≤ 4) : ∃ r, floatToFloatBits k x k' = some r ∧ V k' r (iv2 M p) := by
  obtain ⟨r, q, h1, h2⟩ := op_conv hx hne (iv2_small h hp')
  exact ⟨r, h1, ex_of h2 rfl h hp⟩

/-- The word pair stands for the complex number of (a + b i) units. -/
structure CV (x : Nat × Nat) (a b p : Int) : Prop where
  re : V .f32 x.1 (iv2 a p)
  im : V .f32 x.2 (iv2 b p)
theorem CV.num {x : Nat × Nat} {a b p : Int} (h : CV x a b p) : NumC x := ⟨⟨_, h.re⟩, ⟨_, h.im⟩⟩
theorem CV.zero (p : Int) : CV (0, 0) 0 0 p := by
  have h : V .f32 0 0 := V_zero .f32 false 0
  have e : iv2 0 p = 0 := by unfold iv2; simp
  exact ⟨by rw [e]; exact h, by rw [e]; exact h⟩
theorem natAbs_mul_lt {M N : Int} (h : M.natAbs < 16777216) (h' : N.natAbs < 16777216) : (M * N).natAbs < 281474976710656 := by
  rw [Int.natAbs_mul]
  have := Nat.mul_lt_mul'' h h'
  omega

def g64 (o : BinOp) (a b : Nat) : Nat := (floatBits o .f64 a b).getD 0
def g32 (o : BinOp) (a b : Nat) : Nat := (floatBits o .f32 a b).getD 0
def u64w (x : Nat) : Nat := (cv64 x).getD 0
def d32 (x : Nat) : Nat := (cv32 x).getD 0
def mulF (x y : Nat × Nat) : Nat × Nat := (d32 (g64 .sub (g64 .mul (u64w x.1) (u64w y.1)) (g64 .mul (u64w x.2) (u64w y.2))), d32 (g64 .add (g64 .mul (u64w x.1) (u64w y.2)) (g64 .mul (u64w x.2) (u64w y.1))))
def plusF (x y : Nat × Nat) : Nat × Nat := (g32 .add x.1 y.1, g32 .add x.2 y.2)
def minusF (x y : Nat × Nat) : Nat × Nat := (g32 .sub x.1 y.1, g32 .sub x.2 y.2)
theorem getD_of {α : Type} {o : Option α} {r d : α} (h : o = some r) : o.getD d = r := by rw [h]; rfl

theorem cv_mul {x y : Nat × Nat} {a b c d p s : Int} (hx : CV x a b p) (hy : CV y c d s) (ha : a.natAbs < 16777216) (hb : b.natAbs < 16777216) (hc : c.natAbs < 16777216) (hd : d.natAbs < 16777216)
    (h1 : (a * c - b * d).natAbs < 16777216) (h2 : (a * d + b * c).natAbs < 16777216) (hp : -149 ≤ p) (hp' : p ≤ 4) (hs : -149 ≤ s) (hs' : s ≤ 4) (hps : -149 ≤ p + s) (hps' : p + s ≤ 4) :
    MulW x y (mulF x y) ∧ CV (mulF x y) (a * c - b * d) (a * d + b * c) (p + s) := by
  have hk : (16777216 : Nat) < dgs .f64 := by decide
  obtain ⟨A, eA, vA⟩ := ex_conv hx.re (k' := .f64) (by decide) (by omega) hp hp'
  obtain ⟨B, eB, vB⟩ := ex_conv hx.im (k' := .f64) (by decide) (by omega) hp hp'
  obtain ⟨C, eC, vC⟩ := ex_conv hy.re (k' := .f64) (by decide) (by omega) hs hs'
  obtain ⟨D, eD, vD⟩ := ex_conv hy.im (k' := .f64) (by decide) (by omega) hs hs'
  have k1 : dgs .f64 = 9007199254740992 := rfl
  have k0 : dgs .f32 = 16777216 := rfl
  have m1 := natAbs_mul_lt ha hc
  have m2 := natAbs_mul_lt hb hd
  have m3 := natAbs_mul_lt ha hd
  have m4 := natAbs_mul_lt hb hc
  obtain ⟨AC, eAC, vAC⟩ := ex_mul vA vC (by omega) hps hps'
  obtain ⟨BD, eBD, vBD⟩ := ex_mul vB vD (by omega) hps hps'
  obtain ⟨AD, eAD, vAD⟩ := ex_mul vA vD (by omega) hps hps'
  obtain ⟨BC, eBC, vBC⟩ := ex_mul vB vC (by omega) hps hps'
  obtain ⟨P, eP, vP⟩ := ex_sub vAC vBD (by omega) hps hps'
  obtain ⟨Q, eQ, vQ⟩ := ex_add vAD vBC (by omega) hps hps'
  obtain ⟨R, eR, vR⟩ := ex_conv vP (k' := .f32) (by decide) (by omega) hps hps'
  obtain ⟨S, eS, vS⟩ := ex_conv vQ (k' := .f32) (by decide) (by omega) hps hps'
  have f1 : (mulF x y).1 = R := by
    show d32 (g64 .sub (g64 .mul (u64w x.1) (u64w y.1)) (g64 .mul (u64w x.2) (u64w y.2))) = R
    have q1 : u64w x.1 = A := getD_of eA
    have q2 : u64w x.2 = B := getD_of eB
    have q3 : u64w y.1 = C := getD_of eC
    have q4 : u64w y.2 = D := getD_of eD
    rw [q1, q2, q3, q4]
    have q5 : g64 .mul A C = AC := getD_of eAC
    have q6 : g64 .mul B D = BD := getD_of eBD
    rw [q5, q6]
    have q7 : g64 .sub AC BD = P := getD_of eP
    rw [q7]
    exact getD_of eR
  have f2 : (mulF x y).2 = S := by
    show d32 (g64 .add (g64 .mul (u64w x.1) (u64w y.2)) (g64 .mul (u64w x.2) (u64w y.1))) = S
    have q1 : u64w x.1 = A := getD_of eA
    have q2 : u64w x.2 = B := getD_of eB
    have q3 : u64w y.1 = C := getD_of eC
    have q4 : u64w y.2 = D := getD_of eD
    rw [q1, q2, q3, q4]
    have q5 : g64 .mul A D = AD := getD_of eAD
    have q6 : g64 .mul B C = BC := getD_of eBC
    rw [q5, q6]
    have q7 : g64 .add AD BC = Q := getD_of eQ
    rw [q7]
    exact getD_of eS
  refine ⟨⟨P, Q, ⟨⟨A, B, C, D, AC, BD, AD, BC, eA, eB, eC, eD, eAC, eBD, eAD, eBC, eP, eQ⟩⟩, by rw [f1]; exact eR, by rw [f2]; exact eS⟩, ?_, ?_⟩
  · rw [f1]; exact vR
  · rw [f2]; exact vS
theorem cv_plus {x y : Nat × Nat} {a b c d p : Int} (hx : CV x a b p) (hy : CV y c d p) (h1 : (a + c).natAbs < 16777216) (h2 : (b + d).natAbs < 16777216) (hp : -149 ≤ p) (hp' : p ≤ 4) :
    PlusW x y (plusF x y) ∧ CV (plusF x y) (a + c) (b + d) p := by
  obtain ⟨R, eR, vR⟩ := ex_add hx.re hy.re h1 hp hp'
  obtain ⟨S, eS, vS⟩ := ex_add hx.im hy.im h2 hp hp'
  have f1 : (plusF x y).1 = R := getD_of eR
  have f2 : (plusF x y).2 = S := getD_of eS
  exact ⟨⟨by rw [f1]; exact eR, by rw [f2]; exact eS⟩, by rw [f1]; exact vR, by rw [f2]; exact vS⟩
theorem cv_minus {x y : Nat × Nat} {a b c d p : Int} (hx : CV x a b p) (hy : CV y c d p) (h1 : (a - c).natAbs < 16777216) (h2 : (b - d).natAbs < 16777216) (hp : -149 ≤ p) (hp' : p ≤ 4) :
    MinusW x y (minusF x y) ∧ CV (minusF x y) (a - c) (b - d) p := by
  obtain ⟨R, eR, vR⟩ := ex_sub hx.re hy.re h1 hp hp'
  obtain ⟨S, eS, vS⟩ := ex_sub hx.im hy.im h2 hp hp'
  have f1 : (minusF x y).1 = R := getD_of eR
  have f2 : (minusF x y).2 = S := getD_of eS
  exact ⟨⟨by rw [f1]; exact eR, by rw [f2]; exact eS⟩, by rw [f1]; exact vR, by rw [f2]; exact vS⟩
end Go.Proofs.Ytfbekiphlaaieaa
