/- The words of r8Size, BoundAt, r8Far and LongOf at a root of the polynomial of drawn roots, and the tests that the law makes of them. Condition: at most five roots. -/
import Derived.Test.YtfbekiphlaaieaaGk
namespace Go.Proofs.Ytfbekiphlaaieaa

def gapF (a b : Nat) : Nat := maxW .f64 (g64 .sub a b) (g64 .sub b a)
def farF (v : Nat × Nat) : Nat := g64 .add (gapF (u64w v.1) (u64w 0)) (gapF (u64w v.2) (u64w 0))
theorem V_w1 : V .f64 w1 1 := ⟨false, 4503599627370496, -52, by decide +kernel, by decide +kernel⟩
theorem V_w001 : V .f64 w001 (4611686018427388 / 4611686018427387904) := ⟨false, 4611686018427388, -62, by decide +kernel, by decide +kernel⟩
theorem far_zero {v : Nat × Nat} {q : Int} (h : CV v 0 0 q) (hq : -100 ≤ q) (hq' : q ≤ 0) : FarW v (0, 0) (farF v) ∧ V .f64 (farF v) 0 := by
  have e0 : iv2 0 0 = 0 := by unfold iv2; simp
  have eq0 : iv2 0 q = 0 := by unfold iv2; simp
  have hz : V .f32 0 (iv2 0 0) := by rw [e0]; exact V_nil
  obtain ⟨a1, a2⟩ := conv_up h.re (by decide) (by omega) (by omega)
  obtain ⟨b1, b2⟩ := conv_up h.im (by decide) (by omega) (by omega)
  obtain ⟨c1, c2⟩ := conv_up hz (by decide) (by decide) (by decide)
  rw [eq0, ← e0] at a2 b2
  have k1 : dgs .f64 = 9007199254740992 := rfl
  obtain ⟨d1, f1, g1⟩ := ex_sub a2 c2 (by decide) (by decide) (by decide)
  obtain ⟨d2, f2, g2⟩ := ex_sub c2 a2 (by decide) (by decide) (by decide)
  obtain ⟨d3, f3, g3⟩ := ex_sub b2 c2 (by decide) (by decide) (by decide)
  obtain ⟨d4, f4, g4⟩ := ex_sub c2 b2 (by decide) (by decide) (by decide)
  have m1 := V_max g1 g2
  have m2 := V_max g3 g4
  have er : rmax (iv2 (0 - 0) 0) (iv2 (0 - 0) 0) = iv2 0 0 := by unfold rmax; split <;> rfl
  rw [er] at m1 m2
  obtain ⟨r, r1, r2⟩ := ex_add m1 m2 (by decide) (by decide) (by decide)
  have h1 : gapF (u64w v.1) (u64w 0) = maxW .f64 d1 d2 := by
    unfold gapF
    rw [show g64 .sub (u64w v.1) (u64w 0) = d1 from getD_of f1, show g64 .sub (u64w 0) (u64w v.1) = d2 from getD_of f2]
  have h2 : gapF (u64w v.2) (u64w 0) = maxW .f64 d3 d4 := by
    unfold gapF
    rw [show g64 .sub (u64w v.2) (u64w 0) = d3 from getD_of f3, show g64 .sub (u64w 0) (u64w v.2) = d4 from getD_of f4]
  have h3 : farF v = r := by
    unfold farF
    rw [h1, h2]
    exact getD_of r1
  rw [h3]
  refine ⟨⟨_, _, _, _, maxW .f64 d1 d2, maxW .f64 d3 d4, a1, c1, b1, c1, ⟨d1, d2, f1, f2, ⟨_, g1⟩, ⟨_, g2⟩, rfl⟩, ⟨d3, d4, f3, f4, ⟨_, g3⟩, ⟨_, g4⟩, rfl⟩, r1⟩, ?_⟩
  have e3 : iv2 (0 + 0) 0 = 0 := by unfold iv2; simp
  rw [e3] at r2
  exact r2

structure RootW (N : Nat) (P : List (Nat × Nat)) (z : Nat × Nat) (zq : Rat × Rat) : Prop where
  bound : BoundW P z (vsF P N z) (msF P N z) (fun k => longF (vsF P N z k)) (fun k => g32 .mul (longF z) (evF N P z (N - k - 1))) (fun k => evF N P z (N - k)) (longF z) (g32 .mul 1090519040 (evF N P z N)) (g32 .mul 1082130432 (longF (hv P N z N))) (g32 .sub (g32 .mul 1090519040 (evF N P z N)) (g32 .mul 1082130432 (longF (hv P N z N)))) (g32 .mul (g32 .sub (g32 .mul 1090519040 (evF N P z N)) (g32 .mul 1082130432 (longF (hv P N z N)))) 872415232)
  num0 : NumC (vsF P N z 0)
  size : SizeW P z (fun k => long1F (P.getD k (0, 0))) (fun k => u64w (long1F (P.getD k (0, 0)))) (fun k => pmF N P (u64w (long1F z)) (N - k)) (fun k => szF N P (u64w (long1F z)) (N + 1 - k)) (long1F z) (u64w (long1F z))
  neg : (FloatKind.f32.format.order (g32 .mul (g32 .sub (g32 .mul 1090519040 (evF N P z N)) (g32 .mul 1082130432 (longF (hv P N z N)))) 872415232) 0 == some .lt) = false
  hfar : FarW (vsF P N z 0) (0, 0) (farF (vsF P N z 0))
  hon : floatBits .add .f64 w1 (szF N P (u64w (long1F z)) (N + 1)) = some (g64 .add w1 (szF N P (u64w (long1F z)) (N + 1)))
  hmil : floatBits .mul .f64 w001 (g64 .add w1 (szF N P (u64w (long1F z)) (N + 1))) = some (g64 .mul w001 (g64 .add w1 (szF N P (u64w (long1F z)) (N + 1))))
  farok : (FloatKind.f64.format.order (farF (vsF P N z 0)) (g64 .mul w001 (g64 .add w1 (szF N P (u64w (long1F z)) (N + 1)))) == some .gt) = false
  hrb : cv64 (g32 .mul (g32 .sub (g32 .mul 1090519040 (evF N P z N)) (g32 .mul 1082130432 (longF (hv P N z N)))) 872415232) = some (u64w (g32 .mul (g32 .sub (g32 .mul 1090519040 (evF N P z N)) (g32 .mul 1082130432 (longF (hv P N z N)))) 872415232))
  rbok : (FloatKind.f64.format.order (u64w (g32 .mul (g32 .sub (g32 .mul 1090519040 (evF N P z N)) (g32 .mul 1082130432 (longF (hv P N z N)))) 872415232)) (g64 .mul w001 (g64 .add w1 (szF N P (u64w (long1F z)) (N + 1)))) == some .gt) = false
  hlz : cv64 (longF z) = some (u64w (longF z))
  lval : ∃ l l', Sq l (nq zq) ∧ V .f64 (u64w (longF z)) l' ∧ l * (1 - 1 / 8000000) - 1 / 1000000000000 ≤ l' ∧ l' ≤ l * (1 + 1 / 8000000) + 1 / 1000000000000

set_option maxHeartbeats 2000000 in
theorem root_words {m : Nat} {zs : List (Nat × Nat)} {Z : Nat → GI} (R : Roots (m + 1) zs Z) (i : Nat) (hi : i < m + 1) : RootW (m + 1) (PW zs (m + 1)) (zs.getD i (0, 0)) (cq (Z i).1 (Z i).2 (-2)) := by
  obtain ⟨hH, ⟨q0, hc0, hq0, hq0'⟩, _, ls, HV⟩ := root_facts R i hi
  have hf := R.few
  have T := terms_of R
  have hb := R.bd i hi
  have hlen := PW_len zs (m + 1)
  have hzc := R.cv i hi
  generalize hP : PW zs (m + 1) = P at *
  generalize zs.getD i (0, 0) = z at *
  obtain ⟨l1, l2⟩ := long1_cv hzc (by omega) (by omega) (by omega) (by omega)
  obtain ⟨c1, c2⟩ := conv_up l2 (by omega) (by omega) (by omega)
  obtain ⟨ξ, hξ⟩ : ∃ ξ, ξ = iv2 (((Z i).1.natAbs : Int) + ((Z i).2.natAbs : Int)) (-2) := ⟨_, rfl⟩
  rw [← hξ] at c2 HV
  have hx0 : 0 ≤ ξ := by rw [hξ]; exact iv2_nonneg (by omega)
  have hx8 : ξ ≤ 8 := by
    have e : two (-2) = 1 / 4 := by decide +kernel
    have : ((((Z i).1.natAbs : Int) + ((Z i).2.natAbs : Int) : Int) : Rat) ≤ ((32 : Int) : Rat) := Rat.intCast_le_intCast.2 (by omega)
    have e3 : ((32 : Int) : Rat) = 32 := rfl
    rw [e3] at this
    rw [hξ]
    unfold iv2
    rw [e]
    grind
  obtain ⟨σ, s1, s2, s3, s4, s5, s5b, s6⟩ := size_of T (by omega) c2 hx0 hx8 (m + 1 + 1) (Nat.le_refl _)
  have hH6 := Hj_all (show m + 1 + 1 ≤ 6 by omega)
  have hT6 := Tj_all (show m + 1 + 1 ≤ 6 by omega)
  have hF6 := Fj_all (show m + 1 + 1 ≤ 6 by omega)
  obtain ⟨lw, l, vl, sl, hl1, _⟩ := long_cv hzc (by omega) (by omega) (by omega) (by omega)
  have hlx : l ≤ ξ * (1 + 1 / 1000000) := by
    refine sq_le_of sl hx0 ?_
    have h1 := nq_l1 (cq (Z i).1 (Z i).2 (-2))
    rw [l1_cq, ← hξ] at h1
    exact h1
  have hss : ∀ j, j + 1 ≤ m + 1 → sx (m + 1) (W1 (coefG Z (m + 1)) (fun k => 2 * (k : Int) - 2 * ((m + 1 : Nat) : Int))) ξ (j + 1) * ξ ≤ sx (m + 1) (W1 (coefG Z (m + 1)) (fun k => 2 * (k : Int) - 2 * ((m + 1 : Nat) : Int))) ξ (j + 1 + 1) := by
    intro j hj
    have e5 : sx (m + 1) (W1 (coefG Z (m + 1)) (fun k => 2 * (k : Int) - 2 * ((m + 1 : Nat) : Int))) ξ (j + 1 + 1) = sx (m + 1) (W1 (coefG Z (m + 1)) (fun k => 2 * (k : Int) - 2 * ((m + 1 : Nat) : Int))) ξ (j + 1) * ξ + W1 (coefG Z (m + 1)) (fun k => 2 * (k : Int) - 2 * ((m + 1 : Nat) : Int)) (m + 1 - (j + 1)) := rfl
    have : 0 ≤ W1 (coefG Z (m + 1)) (fun k => 2 * (k : Int) - 2 * ((m + 1 : Nat) : Int)) (m + 1 - (j + 1)) := iv2_nonneg (by omega)
    rw [e5]
    grind
  obtain ⟨ε, e1, e2, e3, e4, e5⟩ := ev_of HV (by omega) vl sl.pos hlx hx0 hx8 hss (m + 1) (Nat.le_refl _)
  have hC := Cj_all (show m + 1 ≤ 5 by omega)
  have hU := Uj_all (show m + 1 ≤ 5 by omega)
  obtain ⟨s, hs⟩ : ∃ s, s = sx (m + 1) (W1 (coefG Z (m + 1)) (fun k => 2 * (k : Int) - 2 * ((m + 1 : Nat) : Int))) ξ (m + 1 + 1) := ⟨_, rfl⟩
  rw [← hs] at s4 s5 s5b e3
  have hes : ε ≤ 7 * s + 1 / 1000000000000 := by
    have := Rat.mul_le_mul_of_nonneg_right hC.2 s5
    grind
  have hσ : s * (999 / 1000) ≤ σ + 1 / 1000000000000 := by
    have := Rat.mul_le_mul_of_nonneg_right hF6.1 s5
    grind
  -- the value at the root is nought
  obtain ⟨lw0, l0, vl0, sl0, _, hl0⟩ := long_cv hc0 (by decide) (by decide) hq0 hq0'
  have hl00 : l0 = 0 := by
    have e : nq (cq 0 0 q0) = 0 := by rw [nq_cq]; unfold iv2; simp
    have h1 := sl0.low
    rw [e] at h1
    rcases hl0 with h | h
    · exact h
    · exfalso
      have := sq_mono (show (0 : Rat) ≤ 1 / 2048 by grind) h
      grind
  subst hl00
  -- 8 e, 4 |v|, their difference, times the unit
  obtain ⟨A, α, A1, A2⟩ := op_mul V_eight e1 (by rw [t60]; unfold ab; grind)
  obtain ⟨a1, a2, a3⟩ := near_pos A2.near (by grind)
  obtain ⟨B, β, B1, B2⟩ := op_mul V_four vl0 (by rw [t60]; unfold ab; grind)
  have hβ : β = 0 := by
    have e : (4 : Rat) * 0 = 0 := by grind
    have := B2.exact_ 0 0 (by rw [e]; unfold ab; simp) (Rat.zpow_pos (by decide)) (by decide)
    rw [this, e]
  subst hβ
  obtain ⟨D, δ, D1, D2⟩ := op_sub A2.val B2.val (by rw [t60]; unfold ab; grind)
  obtain ⟨d1, d2, d3⟩ := near_pos D2.near (by grind)
  have hdu : 0 ≤ δ * (1 / 8388608) := Rat.mul_nonneg d3 (by grind)
  obtain ⟨E, η, E1, E2⟩ := op_mul D2.val V_ulp (by rw [t60]; unfold ab; grind)
  obtain ⟨f1, f2, f3⟩ := near_pos E2.near hdu
  obtain ⟨G, γ, G1, G2⟩ := op_conv E2.val (k' := .f64) (by decide) (by rw [t60]; unfold ab; grind)
  obtain ⟨g1, g2, g3⟩ := near_pos G2.near f3
  -- 0.001 (1 + size)
  obtain ⟨O, ω, O1, O2⟩ := op_add V_w1 s1 (by rw [t60]; unfold ab; grind)
  obtain ⟨o1, o2, o3⟩ := near_pos O2.near (by grind)
  have hmo : 0 ≤ (4611686018427388 / 4611686018427387904) * ω := Rat.mul_nonneg (by grind) o3
  obtain ⟨M, μ, M1, M2⟩ := op_mul V_w001 O2.val (by rw [t60]; unfold ab; grind)
  obtain ⟨m1, m2, m3⟩ := near_pos M2.near hmo
  -- the long of the root
  obtain ⟨L, l', L1, L2⟩ := op_conv vl (k' := .f64) (by decide) (by rw [t60]; unfold ab; have := sl.pos; grind)
  obtain ⟨n1, n2, n3⟩ := near_pos L2.near sl.pos
  obtain ⟨far1, far2⟩ := far_zero hc0 (by omega) hq0'
  have wA : g32 .mul 1090519040 (evF (m + 1) P z (m + 1)) = A := getD_of A1
  have wB : g32 .mul 1082130432 (longF (hv P (m + 1) z (m + 1))) = B := getD_of B1
  have wD : g32 .sub A B = D := getD_of D1
  have wE : g32 .mul D 872415232 = E := getD_of E1
  have wG : u64w E = G := getD_of G1
  have wO : g64 .add w1 (szF (m + 1) P (u64w (long1F z)) (m + 1 + 1)) = O := getD_of O1
  have wM : g64 .mul w001 O = M := getD_of M1
  have wL : u64w (longF z) = L := getD_of L1
  have hvs0 : vsF P (m + 1) z 0 = hv P (m + 1) z (m + 1) := rfl
  constructor
  · rw [wA, wB, wD, wE]
    refine ⟨hH, lw, ?_, ?_, ?_, ?_, ?_, ?_, D1, E1, ⟨η, E2.val⟩⟩
    · intro k hk
      exact (HV.long (m + 1 - k) (by omega)).1
    · have e : P.length - 1 = m + 1 := by omega
      rw [e]
      unfold vsF
      rw [Nat.sub_self]
      exact e4
    · intro k hk
      have h1 := (e5 (m + 1 - k - 1) (by omega)).1
      have e : m + 1 - (k + 1) = m + 1 - k - 1 := by omega
      rw [e]
      exact h1
    · intro k hk
      have h1 := (e5 (m + 1 - k - 1) (by omega)).2
      have e : m + 1 - k - 1 + 1 = m + 1 - k := by omega
      rw [e] at h1
      exact h1
    · exact A1
    · exact B1
  · rw [hvs0]; exact hc0.num
  · refine ⟨l1, c1, ?_, ?_, ?_, ?_, ?_⟩
    · have e : m + 1 + 1 - P.length = 0 := by omega
      show szF (m + 1) P (u64w (long1F z)) (m + 1 + 1 - P.length) = 0
      rw [e]
      rfl
    · intro k hk
      have h1 := (s6 (m + 1 - k) (by omega)).2.1
      have e : m + 1 - (m + 1 - k) = k := by omega
      rw [e] at h1
      exact h1
    · intro k hk
      have h1 := (s6 (m + 1 - k) (by omega)).2.2.1
      have e : m + 1 - (m + 1 - k) = k := by omega
      rw [e] at h1
      exact h1
    · intro k hk
      have h1 := (s6 (m + 1 - k) (by omega)).1
      have e : m + 1 + 1 - (k + 1) = m + 1 - k := by omega
      rw [e]
      exact h1
    · intro k hk
      have h1 := (s6 (m + 1 - k) (by omega)).2.2.2
      have e : m + 1 - (m + 1 - k) = k := by omega
      have e2 : m + 1 - k + 1 = m + 1 + 1 - k := by omega
      rw [e, e2] at h1
      exact h1
  · rw [wA, wB, wD, wE]
    exact lt_false E2.val V_nil f3
  · rw [hvs0]; exact far1
  · rw [wO]; exact O1
  · rw [wO, wM]; exact M1
  · rw [wO, wM, hvs0]
    exact gt_false far2 M2.val m3
  · rw [wA, wB, wD, wE, wG]; exact G1
  · rw [wA, wB, wD, wE, wG, wO, wM]
    refine gt_false G2.val M2.val ?_
    clear s6 e5 e4 A1 B1 D1 E1 G1 O1 M1 L1 hss HV
    have x1 : γ ≤ s * (8 / 1000000) + 1 / 1000000000 := by grind
    have x2 : (1 + s * (999 / 1000)) * (998 / 1000000) - 1 / 1000000000 ≤ μ := by grind
    grind
  · rw [wL]; exact L1
  · rw [wL]
    exact ⟨l, l', sl, L2.val, by have := sl.pos; grind, by have := sl.pos; grind⟩
end Go.Proofs.Ytfbekiphlaaieaa
