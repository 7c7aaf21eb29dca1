/- Horner's values at any drawn point: nothing is left open, they stand for numbers. Condition: the terms are small, at most five roots. -/
import Derived.Test.YtfbekiphlaaieaaGh
namespace Go.Proofs.Ytfbekiphlaaieaa

def Bd (x : Nat × Nat) (B : Rat) : Prop := ∃ a b, V .f32 x.1 a ∧ V .f32 x.2 b ∧ ab a ≤ B ∧ ab b ≤ B
theorem ab_nonneg (x : Rat) : 0 ≤ ab x := by unfold ab; grind
theorem ab_add (x y : Rat) : ab (x + y) ≤ ab x + ab y := by unfold ab; grind
theorem ab_sub (x y : Rat) : ab (x - y) ≤ ab x + ab y := by unfold ab; grind
theorem ab_mul (x y : Rat) : ab (x * y) = ab x * ab y := by
  unfold ab
  by_cases h1 : x < 0
  · by_cases h2 : y < 0
    · have := Rat.mul_pos (show 0 < -x by grind) (show 0 < -y by grind)
      grind
    · have h4 := Rat.mul_nonneg (show 0 ≤ -x by grind) (show 0 ≤ y by grind)
      rw [if_pos h1, if_neg h2]
      by_cases h3 : x * y < 0
      · rw [if_pos h3]; grind
      · rw [if_neg h3]; grind
  · by_cases h2 : y < 0
    · have h4 := Rat.mul_nonneg (show 0 ≤ x by grind) (show 0 ≤ -y by grind)
      rw [if_neg h1, if_pos h2]
      by_cases h3 : x * y < 0
      · rw [if_pos h3]; grind
      · rw [if_neg h3]; grind
    · have := Rat.mul_nonneg (show 0 ≤ x by grind) (show 0 ≤ y by grind)
      grind
theorem near_ab {q q' : Rat} (h : Near q q') : ab q' ≤ ab q * (1001 / 1000) + 1 / 1000 := by
  have h1 := h.far
  have h2 := t140
  rw [t23] at h1
  have h3 := ab_nonneg q
  have h4 : ab q' ≤ ab (q' - q) + ab q := by
    have := ab_add (q' - q) q
    have e : q' - q + q = q' := by grind
    rwa [e] at this
  grind
theorem ab_mul_le {x y B C : Rat} (hx : ab x ≤ B) (hy : ab y ≤ C) : ab (x * y) ≤ B * C := by
  rw [ab_mul]
  have h1 := Rat.mul_le_mul_of_nonneg_right hx (ab_nonneg y)
  have h2 := Rat.mul_le_mul_of_nonneg_left hy (show 0 ≤ B by have := ab_nonneg x; grind)
  grind
theorem bd_mul {x y : Nat × Nat} {B : Rat} (hx : Bd x B) (hy : Bd y 8) (h0 : 1000 ≤ B) (hB : B ≤ 100000000000000) : MulW x y (mulF x y) ∧ Bd (mulF x y) (17 * B) := by
  obtain ⟨a, b, va, vb, ha, hb⟩ := hx
  obtain ⟨c, d, vc, vd, hc, hd⟩ := hy
  obtain ⟨A, a', eA, rA⟩ := op_conv va (k' := .f64) (by decide) (by rw [t60]; grind)
  obtain ⟨B', b', eB, rB⟩ := op_conv vb (k' := .f64) (by decide) (by rw [t60]; grind)
  obtain ⟨C, c', eC, rC⟩ := op_conv vc (k' := .f64) (by decide) (by rw [t60]; grind)
  obtain ⟨D, d', eD, rD⟩ := op_conv vd (k' := .f64) (by decide) (by rw [t60]; grind)
  have na := near_ab rA.near
  have nb := near_ab rB.near
  have nc := near_ab rC.near
  have nd := near_ab rD.near
  have ba : ab a' ≤ B * (1002 / 1000) := by grind
  have bb : ab b' ≤ B * (1002 / 1000) := by grind
  have bc : ab c' ≤ 8 * (1002 / 1000) := by grind
  have bd : ab d' ≤ 8 * (1002 / 1000) := by grind
  have p1 := ab_mul_le ba bc
  have p2 := ab_mul_le bb bd
  have p3 := ab_mul_le ba bd
  have p4 := ab_mul_le bb bc
  obtain ⟨AC, ac, eAC, rAC⟩ := op_mul rA.val rC.val (by rw [t60]; grind)
  obtain ⟨BD, bd', eBD, rBD⟩ := op_mul rB.val rD.val (by rw [t60]; grind)
  obtain ⟨AD, ad, eAD, rAD⟩ := op_mul rA.val rD.val (by rw [t60]; grind)
  obtain ⟨BC, bc', eBC, rBC⟩ := op_mul rB.val rC.val (by rw [t60]; grind)
  have q1 := near_ab rAC.near
  have q2 := near_ab rBD.near
  have q3 := near_ab rAD.near
  have q4 := near_ab rBC.near
  have s1 := ab_sub ac bd'
  have s2 := ab_add ad bc'
  obtain ⟨P, p, eP, rP⟩ := op_sub rAC.val rBD.val (by rw [t60]; grind)
  obtain ⟨Q, q, eQ, rQ⟩ := op_add rAD.val rBC.val (by rw [t60]; grind)
  have u1 := near_ab rP.near
  have u2 := near_ab rQ.near
  obtain ⟨R, r, eR, rR⟩ := op_conv rP.val (k' := .f32) (by decide) (by rw [t60]; grind)
  obtain ⟨S, s, eS, rS⟩ := op_conv rQ.val (k' := .f32) (by decide) (by rw [t60]; grind)
  have w1 := near_ab rR.near
  have w2 := near_ab rS.near
  have g1 : u64w x.1 = A := getD_of eA
  have g2 : u64w x.2 = B' := getD_of eB
  have g3 : u64w y.1 = C := getD_of eC
  have g4 : u64w y.2 = D := getD_of eD
  have f1 : (mulF x y).1 = R := by
    show d32 (g64 .sub (g64 .mul (u64w x.1) (u64w y.1)) (g64 .mul (u64w x.2) (u64w y.2))) = R
    rw [g1, g2, g3, g4, show g64 .mul A C = AC from getD_of eAC, show g64 .mul B' D = BD from getD_of eBD, show g64 .sub AC BD = P from getD_of eP]
    exact getD_of eR
  have f2 : (mulF x y).2 = S := by
    show d32 (g64 .add (g64 .mul (u64w x.1) (u64w y.2)) (g64 .mul (u64w x.2) (u64w y.1))) = S
    rw [g1, g2, g3, g4, show g64 .mul A D = AD from getD_of eAD, show g64 .mul B' C = BC from getD_of eBC, show g64 .add AD BC = Q from getD_of eQ]
    exact getD_of eS
  refine ⟨⟨P, Q, ⟨⟨A, B', C, D, AC, BD, AD, BC, eA, eB, eC, eD, eAC, eBD, eAD, eBC, eP, eQ⟩⟩, by rw [f1]; exact eR, by rw [f2]; exact eS⟩, r, s, by rw [f1]; exact rR.val, by rw [f2]; exact rS.val, ?_, ?_⟩
  · grind
  · grind
theorem bd_plus {x y : Nat × Nat} {B : Rat} (hx : Bd x (17 * B)) (hy : Bd y B) (h0 : 1000 ≤ B) (hB : B ≤ 100000000000000) : PlusW x y (plusF x y) ∧ Bd (plusF x y) (20 * B) := by
  obtain ⟨a, b, va, vb, ha, hb⟩ := hx
  obtain ⟨c, d, vc, vd, hc, hd⟩ := hy
  have s1 := ab_add a c
  have s2 := ab_add b d
  obtain ⟨R, r, eR, rR⟩ := op_add va vc (by rw [t60]; grind)
  obtain ⟨S, s, eS, rS⟩ := op_add vb vd (by rw [t60]; grind)
  have w1 := near_ab rR.near
  have w2 := near_ab rS.near
  have f1 : (plusF x y).1 = R := getD_of eR
  have f2 : (plusF x y).2 = S := getD_of eS
  exact ⟨⟨by rw [f1]; exact eR, by rw [f2]; exact eS⟩, r, s, by rw [f1]; exact rR.val, by rw [f2]; exact rS.val, by grind, by grind⟩
theorem Bd.mono {x : Nat × Nat} {B C : Rat} (h : Bd x B) (hBC : B ≤ C) : Bd x C := by
  obtain ⟨a, b, va, vb, ha, hb⟩ := h
  exact ⟨a, b, va, vb, by grind, by grind⟩
theorem Bd.num {x : Nat × Nat} {B : Rat} (h : Bd x B) : NumC x := by
  obtain ⟨a, b, va, vb, _, _⟩ := h
  exact ⟨⟨a, va⟩, ⟨b, vb⟩⟩
theorem bd_term {n : Nat} {xs : List (Nat × Nat)} {c : Nat → GI} {p : Nat → Int} (T : Terms n xs c p) (k : Nat) (hk : k ≤ n) : Bd (xs.getD k (0, 0)) 8000000 := by
  have h := T.cv k hk
  have hs := T.sm k hk
  have hl := T.lo k hk
  have hb : ∀ a : Int, a.natAbs ≤ 7962624 → ab (iv2 a (p k)) ≤ 8000000 := by
    intro a ha
    rw [ab_iv2]
    have h1 := two_le hl.2
    rw [two_zero] at h1
    have h2 : (a.natAbs : Rat) ≤ ((8000000 : Nat) : Rat) := Rat.natCast_le_natCast.2 (by omega)
    have h3 : 0 ≤ (a.natAbs : Rat) := Rat.natCast_nonneg
    have h4 := Rat.mul_le_mul_of_nonneg_left h1 h3
    have h5 : ((8000000 : Nat) : Rat) = 8000000 := rfl
    grind
  exact ⟨_, _, h.re, h.im, hb _ hs.1, hb _ hs.2⟩
def Bj : Nat → Rat
  | 0 => 8000000
  | j + 1 => 20 * Bj j
theorem Bj_all {j : Nat} (h : j ≤ 5) : 8000000 ≤ Bj j ∧ Bj j ≤ 100000000000000 := by
  have : j = 0 ∨ j = 1 ∨ j = 2 ∨ j = 3 ∨ j = 4 ∨ j = 5 := by omega
  rcases this with rfl | rfl | rfl | rfl | rfl | rfl <;> decide +kernel
theorem points_of {n : Nat} {xs : List (Nat × Nat)} {c : Nat → GI} {p : Nat → Int} (T : Terms n xs c p) (hn : n ≤ 5) {z : Nat × Nat} (hz : Drawn z) : ∃ vs ms, Horner xs z vs ms ∧ NumC (vs 0) := by
  have hbz : Bd z 8 := by
    obtain ⟨x, y, h1, h2, h3, h4, v1, v2⟩ := hz
    have hb : ∀ a : Int, -16 ≤ a → a ≤ 16 → ab ((a : Rat) / 4) ≤ 8 := by
      intro a h1 h2
      have a1 : ((-16 : Int) : Rat) ≤ (a : Rat) := Rat.intCast_le_intCast.2 h1
      have a2 : (a : Rat) ≤ ((16 : Int) : Rat) := Rat.intCast_le_intCast.2 h2
      have e1 : ((-16 : Int) : Rat) = -16 := rfl
      have e2 : ((16 : Int) : Rat) = 16 := rfl
      unfold ab
      grind
    exact ⟨_, _, v1, v2, hb x h1 h2, hb y h3 h4⟩
  have h : ∀ j, j ≤ n → Bd (hv xs n z j) (Bj j) ∧ (∀ i, i < j → MulW (hv xs n z i) z (mulF (hv xs n z i) z) ∧ PlusW (mulF (hv xs n z i) z) (xs.getD (n - 1 - i) (0, 0)) (hv xs n z (i + 1))) := by
    intro j
    induction j with
    | zero => intro _; exact ⟨bd_term T n (Nat.le_refl _), fun i hi => absurd hi (Nat.not_lt_zero _)⟩
    | succ j ih =>
      intro hj
      obtain ⟨h1, h2⟩ := ih (by omega)
      have hb := Bj_all (show j ≤ 5 by omega)
      obtain ⟨m1, m2⟩ := bd_mul h1 hbz (by grind) hb.2
      obtain ⟨p1, p2⟩ := bd_plus m2 ((bd_term T (n - 1 - j) (by omega)).mono (by grind)) (by grind) hb.2
      refine ⟨p2, fun i hi => ?_⟩
      by_cases e : i = j
      · subst e
        exact ⟨m1, p1⟩
      · exact h2 i (by omega)
  refine ⟨vsF xs n z, msF xs n z, horner_of T.len (h n (Nat.le_refl _)).2, ?_⟩
  exact (h n (Nat.le_refl _)).1.num
end Go.Proofs.Ytfbekiphlaaieaa
