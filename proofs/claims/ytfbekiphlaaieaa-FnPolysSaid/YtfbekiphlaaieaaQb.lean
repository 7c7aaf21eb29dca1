/- The law FnMoves in plain words: terms, values and comparisons of all moved polynomials. Condition: at most six drawn terms, drawn points. -/
import Derived.Test.YtfbekiphlaaieaaQa
import Derived.Test.YtfbekiphlaaieaaMh
namespace Go.Proofs.Ytfbekiphlaaieaa
open Ieee

theorem ab_sv (s : Bool) (m : Nat) (i : Int) : ab (sv s m i) = (m : Rat) * two i := by
  have h := Rat.mul_nonneg (show 0 ≤ (m : Rat) by exact_mod_cast Nat.zero_le m) (Rat.le_of_lt (two_pos i))
  unfold sv sg ab
  cases s
  · simp only [Bool.false_eq_true, if_false]
    split <;> grind
  · simp only [if_true]
    split <;> grind
/-- A quotient in double precision: there is one, and it is not too great. -/
theorem op_quo {x y : Nat} {a b : Rat} (hx : V .f64 x a) (hy : V .f64 y b) (hb : b ≠ 0) (hq : ab a ≤ ab b * 1125899906842624) :
    ∃ r q, floatBits .quo .f64 x y = some r ∧ V .f64 r q ∧ ab q < 9007199254740992 := by
  obtain ⟨s, m, i, h1, rfl⟩ := hx
  obtain ⟨t, n, j, h2, rfl⟩ := hy
  have hn : 0 < n := by
    rcases Nat.eq_zero_or_pos n with h | h
    · subst h; exfalso; apply hb; unfold sv; grind
    · exact h
  have hnr : 0 < (n : Rat) := by exact_mod_cast hn
  have hquo : FloatKind.f64.format.div x y = Option.map FloatKind.f64.format.write (Datum.quotient 54 (.number s m i) (.number t n j)) := by
    show Option.map _ (Datum.quotient 54 (FloatKind.f64.decode x) (FloatKind.f64.decode y)) = _
    rw [h1, h2]
  have hfb : floatBits .quo .f64 x y = FloatKind.f64.format.div x y := rfl
  rw [hfb, hquo]
  unfold Datum.quotient
  dsimp only
  rw [if_neg (by omega)]
  generalize hmore : 54 + n.log2 - m.log2 = more
  have hD := Nat.div_add_mod (m <<< more) n
  have hR := Nat.mod_lt (m <<< more) hn
  generalize hqq : m <<< more / n = Q at hD ⊢
  generalize hrr : m <<< more % n = R at hD hR ⊢
  rw [ab_sv, ab_sv] at hq
  generalize hσ : (R != 0).toNat = σ
  have hσ1 : n * σ ≤ 2 * R + n * σ := by omega
  have hT : n * (2 * Q + σ) ≤ 3 * (m * 2 ^ more) := by
    have hm2 : n * Q + R = m * 2 ^ more := by rw [hD, Nat.shiftLeft_eq]
    rcases Nat.eq_zero_or_pos R with h0 | h0
    · have : σ = 0 := by rw [← hσ, h0]; rfl
      subst this
      have e : n * (2 * Q + 0) = 2 * (n * Q) := by rw [Nat.add_zero, Nat.mul_left_comm]
      omega
    · have : σ = 1 := by
        rw [← hσ]
        have : (R != 0) = true := by simp; omega
        rw [this]; rfl
      subst this
      have e : n * (2 * Q + 1) = 2 * (n * Q) + n := by rw [Nat.mul_add, Nat.mul_one, Nat.mul_left_comm]
      have hm0 : 0 < m := by
        rcases Nat.eq_zero_or_pos m with h | h
        · subst h; simp at hm2; omega
        · exact h
      have h3 : 2 ^ m.log2 ≤ m := Nat.log2_self_le (by omega)
      have h4 : n < 2 ^ (n.log2 + 1) := Nat.lt_log2_self
      have h5 : 2 ^ (54 + n.log2) ≤ m * 2 ^ more := by
        have : 2 ^ (m.log2 + more) ≤ m * 2 ^ more := by rw [Nat.pow_add]; exact Nat.mul_le_mul_right _ h3
        exact Nat.le_trans (Nat.pow_le_pow_right (by omega) (by omega)) this
      have h6 : 2 ^ (n.log2 + 1) ≤ 2 ^ (54 + n.log2) := Nat.pow_le_pow_right (by omega) (by omega)
      omega
  obtain ⟨h, hh⟩ : ∃ h : Int, i - j - (more : Int) - 1 = h := ⟨_, rfl⟩
  rw [hh]
  have hS := ab_sv (s ^^ t) (2 * Q + σ) h
  have hA : ((2 * Q + σ : Nat) : Rat) * two h * ((n : Rat) * two j) ≤ 2 * ((m : Rat) * two i) := by
    have hTr : (n : Rat) * ((2 * Q + σ : Nat) : Rat) ≤ 3 * ((m : Rat) * ((2 ^ more : Nat) : Rat)) := by exact_mod_cast hT
    have hi : i = j + 1 + h + (more : Int) := by omega
    have e1 : two i = two j * 2 * two h * ((2 ^ more : Nat) : Rat) := by
      rw [hi, two_add, two_add, two_add, two_nat]
      have : two 1 = 2 := by decide +kernel
      rw [this]
    have hp := Rat.mul_pos (two_pos h) (two_pos j)
    have := Rat.mul_le_mul_of_nonneg_right hTr (Rat.le_of_lt hp)
    have h0 : 0 ≤ (m : Rat) * ((2 ^ more : Nat) : Rat) * (two h * two j) := Rat.mul_nonneg (Rat.mul_nonneg (by exact_mod_cast Nat.zero_le m) (by exact_mod_cast Nat.zero_le _)) (Rat.le_of_lt hp)
    rw [e1]
    generalize ((2 ^ more : Nat) : Rat) = M at *
    generalize ((2 * Q + σ : Nat) : Rat) = T at *
    have e2 : T * two h * ((n : Rat) * two j) = (n : Rat) * T * (two h * two j) := by grind
    have e3 : 2 * ((m : Rat) * (two j * 2 * two h * M)) = 4 * ((m : Rat) * M * (two h * two j)) := by grind
    have e4 : 3 * ((m : Rat) * M) * (two h * two j) = 3 * ((m : Rat) * M * (two h * two j)) := by grind
    rw [e2, e3]
    rw [e4] at this
    grind
  rw [← hS] at hA
  have hBp := Rat.mul_pos hnr (two_pos j)
  have hSb : ab (sv (s ^^ t) (2 * Q + σ) h) ≤ 2 * 1125899906842624 := by
    refine Classical.byContradiction fun hn' => ?_
    have h7 : 2 * 1125899906842624 * ((n : Rat) * two j) < ab (sv (s ^^ t) (2 * Q + σ) h) * ((n : Rat) * two j) := Rat.mul_lt_mul_of_pos_right (by grind) hBp
    grind
  obtain ⟨q, hq'⟩ := rounded .f64 (s ^^ t) (2 * Q + σ) h _ rfl (by rw [t60]; grind)
  refine ⟨_, q, rfl, hq'.val, ?_⟩
  have h8 := near_le hq'.near
  have h9 := tau_small
  grind
theorem two_m4 : two (-4) = 1 / 16 := by decide +kernel
theorem sq16 {a : Int} (h : a.natAbs ≤ 16) : (a * a).natAbs ≤ 256 := by
  rw [Int.natAbs_mul]
  exact Nat.mul_le_mul h h
theorem mul16 {a b : Int} (h : a.natAbs ≤ 16) (h' : b.natAbs ≤ 16) : (a * b).natAbs ≤ 256 := by
  rw [Int.natAbs_mul]
  exact Nat.mul_le_mul h h'
/-- The quotient of drawn numbers. -/
theorem quo_cv {x y : Nat × Nat} {a b c d : Int} (hx : CV x a b (-2)) (hy : CV y c d (-2)) (ha : a.natAbs ≤ 16) (hb : b.natAbs ≤ 16) (hc : c.natAbs ≤ 16) (hd : d.natAbs ≤ 16) (h0 : c ≠ 0) :
    ∃ r, QuotW x y r ∧ NumC r := by
  have k1 : dgs .f64 = 9007199254740992 := rfl
  have hyn : V .f32 (conjF y).2 (iv2 (-d) (-2)) := by
    have h := V_neg hy.im
    have e : -(iv2 d (-2)) = iv2 (-d) (-2) := by unfold iv2; push_cast; grind
    rw [e] at h
    exact h
  have m1 := mul16 ha hc
  have m2 := mul16 hb (show (-d).natAbs ≤ 16 by omega)
  have m3 := mul16 ha (show (-d).natAbs ≤ 16 by omega)
  have m4 := mul16 hb hc
  have m5 := mul16 hc hc
  have m6 := mul16 hd hd
  obtain ⟨A, eA, vA⟩ := ex_conv hx.re (k' := .f64) (by decide) (by omega) (by omega) (by omega)
  obtain ⟨B, eB, vB⟩ := ex_conv hx.im (k' := .f64) (by decide) (by omega) (by omega) (by omega)
  obtain ⟨C, eC, vC⟩ := ex_conv hy.re (k' := .f64) (by decide) (by omega) (by omega) (by omega)
  obtain ⟨D, eD, vD⟩ := ex_conv hyn (k' := .f64) (by decide) (by omega) (by omega) (by omega)
  obtain ⟨D', eD', vD'⟩ := ex_conv hy.im (k' := .f64) (by decide) (by omega) (by omega) (by omega)
  obtain ⟨AC, eAC, vAC⟩ := ex_mul vA vC (by omega) (by omega) (by omega)
  obtain ⟨BD, eBD, vBD⟩ := ex_mul vB vD (by omega) (by omega) (by omega)
  obtain ⟨AD, eAD, vAD⟩ := ex_mul vA vD (by omega) (by omega) (by omega)
  obtain ⟨BC, eBC, vBC⟩ := ex_mul vB vC (by omega) (by omega) (by omega)
  obtain ⟨P, eP, vP⟩ := ex_sub vAC vBD (by omega) (by omega) (by omega)
  obtain ⟨Q, eQ, vQ⟩ := ex_add vAD vBC (by omega) (by omega) (by omega)
  obtain ⟨CC, eCC, vCC⟩ := ex_mul vC vC (by omega) (by omega) (by omega)
  obtain ⟨DD, eDD, vDD⟩ := ex_mul vD' vD' (by omega) (by omega) (by omega)
  obtain ⟨S, eS, vS⟩ := ex_add vCC vDD (by omega) (by omega) (by omega)
  have s1 := sq_nonneg d
  have hcc : 0 < c * c := by
    rcases Int.lt_or_gt_of_ne h0 with h | h
    · exact Int.mul_pos_of_neg_of_neg h h
    · exact Int.mul_pos h h
  have hSv : ab (iv2 (c * c + d * d) (-2 + -2)) ≥ 1 / 16 := by
    rw [ab_iv2, show ((-2 : Int) + -2) = -4 from rfl, two_m4]
    have : (1 : Rat) ≤ ((c * c + d * d).natAbs : Rat) := by
      have : 1 ≤ (c * c + d * d).natAbs := by omega
      exact_mod_cast this
    grind
  have hne : iv2 (c * c + d * d) (-2 + -2) ≠ 0 := by
    intro h
    rw [h] at hSv
    exact absurd hSv (by decide +kernel)
  have hup : ∀ t : Int, t.natAbs ≤ 512 → ab (iv2 t (-2 + -2)) ≤ ab (iv2 (c * c + d * d) (-2 + -2)) * 1125899906842624 := by
    intro t ht
    have h1 : ab (iv2 t (-2 + -2)) ≤ 32 := by
      rw [ab_iv2, show ((-2 : Int) + -2) = -4 from rfl, two_m4]
      have : ((t.natAbs : Nat) : Rat) ≤ 512 := by exact_mod_cast ht
      grind
    grind
  obtain ⟨Q1, q1, f1, v1, b1⟩ := op_quo vP vS hne (hup _ (by omega))
  obtain ⟨Q2, q2, f2, v2, b2⟩ := op_quo vQ vS hne (hup _ (by omega))
  obtain ⟨R1, r1, g1, w1⟩ := op_conv v1 (k' := .f32) (by decide) (by rw [t60]; grind)
  obtain ⟨R2, r2, g2, w2⟩ := op_conv v2 (k' := .f32) (by decide) (by rw [t60]; grind)
  exact ⟨(R1, R2), ⟨P, Q, S, Q1, Q2, ⟨⟨A, B, C, D, AC, BD, AD, BC, eA, eB, eC, eD, eAC, eBD, eAD, eBC, eP, eQ⟩⟩, ⟨C, D', CC, DD, eC, eD', eCC, eDD, eS⟩, f1, f2, g1, g2⟩, ⟨_, w1.val⟩, ⟨_, w2.val⟩⟩

/-- The law's comparison for words near exact values. -/
theorem near_chk {x y : Nat × Nat} {q : Rat × Rat} {X Y M σ : Rat} {a b i j sw : Nat} (hx : Rp x q X a i) (hy : Rp y q Y b j) (ha : a ≤ 500) (hb : b ≤ 500) (bX : X ≤ big57) (bY : Y ≤ big57)
    (hM : ((a : Rat) + 2) * X + ((b : Rat) + 2) * Y ≤ 6000 * M) (hs : V .f64 sw σ) (h0 : 0 ≤ σ) (hb' : σ ≤ 100000000000000000) (hMs : 99 / 100 * M ≤ σ + 1 / 10000000000) :
    FarW x y (farG x y) ∧ ChkW (farG x y) sw (g64 .add w1 sw) (g64 .mul w001 (g64 .add w1 sw)) := by
  obtain ⟨hF, f, vf, f0, fb⟩ := far_rp hx hy ha hb bX bY
  have hX := hx.lo.nonneg
  have hY := hy.lo.nonneg
  have e : 501 / 500 * (((a : Rat) + 2) * (eps * X) + ((b : Rat) + 2) * (eps * Y)) = 501 / 500 * eps * (((a : Rat) + 2) * X + ((b : Rat) + 2) * Y) := by grind
  rw [e] at fb
  have h1 : 501 / 500 * eps * (((a : Rat) + 2) * X + ((b : Rat) + 2) * Y) ≤ 501 / 500 * eps * (6000 * M) := Rat.mul_le_mul_of_nonneg_left hM (by decide +kernel)
  generalize ((a : Rat) + 2) * X + ((b : Rat) + 2) * Y = W at *
  rw [eps_val] at fb h1
  obtain ⟨c1, c2, c3⟩ := chk vf hs h0 hb' (by grind)
  exact ⟨hF, c1, c2, c3⟩
end Go.Proofs.Ytfbekiphlaaieaa
namespace Go.Proofs.Ytfbekiphlaaieaa

/-- The words of a value. -/
def valF (L : List (Nat × Nat)) (z : Nat × Nat) : Nat × Nat := vsF L (L.length - 1) z 0
theorem at_lp {N : Nat} {L : List (Nat × Nat)} {Q : Nat → Rat × Rat} {X : Nat → Rat} {a i : Nat} (H : Lp N L Q X a i) (hN1 : 1 ≤ N) (hN : N ≤ 6) {zw : Nat × Nat} {z : Rat × Rat} {Z : Rat} {b e : Nat} (hz : Rp zw z Z b e)
    (ha : a + N * (b + 8) ≤ 500) (hi : i + N * e + e ≤ 100) {M W : Rat} (hX : ∀ k, k < N → X k ≤ M) (hM : 0 ≤ M) (hW : Z + 1 ≤ W) (hMW : M * pwR W 7 ≤ big57) (hZb : Z ≤ big57) :
    AtW (trimC L) zw (valF (trimC L) zw) ∧ Rp (valF (trimC L) zw) (hsC Q z 0 N) (hsR X Z 0 N) (a + N * (b + 8)) (i + N * e) := by
  have hZ0 := hz.lo.nonneg
  have hW1 : 1 ≤ W := by grind
  have hb : ∀ m, m ≤ 7 → M * pwR W m ≤ big57 := fun m hm => Rat.le_trans (Rat.mul_le_mul_of_nonneg_left (pwR_up hW1 hm) hM) hMW
  obtain ⟨h1, h2⟩ := poly_val H hN1 hz ha hi hZb (fun k hk => by
    have h3 := hsR_bound hZ0 hW hM (N - k) k (fun j h1 h2 => ⟨(H.rp j (by omega)).lo.nonneg, hX j (by omega)⟩)
    have h0 := hsR_nonneg hZ0 (N - k) k (fun j h1 h2 => (H.rp j (by omega)).lo.nonneg)
    refine ⟨?_, Rat.le_trans h3 (hb _ (by omega)), ?_⟩
    · have h4 := hb 0 (by omega)
      have h5 : M * pwR W 0 = M := by unfold pwR; grind
      rw [h5] at h4
      exact Rat.le_trans (hX k hk) h4
    · have h4 := hb (N - k + 1) (by omega)
      have h5 : M * pwR W (N - k + 1) = M * pwR W (N - k) * W := by rw [pwR]; grind
      rw [h5] at h4
      have h6 := Rat.mul_le_mul_of_nonneg_right h3 hZ0
      have h7 : M * pwR W (N - k) * Z ≤ M * pwR W (N - k) * W := Rat.mul_le_mul_of_nonneg_left (by grind) (by grind)
      grind)
  refine ⟨⟨valid_trim (by rw [H.len]; exact hN1) (by rw [H.len]; omega) (fun j hj => (H.rp j (by rw [← H.len]; exact hj)).num), hz.num, _, _, h1, h2.num, rfl⟩, h2⟩
theorem lp_valid {N : Nat} {L : List (Nat × Nat)} {Q : Nat → Rat × Rat} {X : Nat → Rat} {a i : Nat} (H : Lp N L Q X a i) (hN1 : 1 ≤ N) (hN : N ≤ 17) : Valid (trimC L) :=
  valid_trim (by rw [H.len]; exact hN1) (by rw [H.len]; omega) (fun j hj => (H.rp j (by rw [← H.len]; exact hj)).num)
theorem lp_map {n : Nat} {xs : List (Nat × Nat)} {f : Nat → Nat × Nat → Nat × Nat} {Q : Nat → Rat × Rat} {X : Nat → Rat} {a i : Nat} (h : ∀ k, k < n → Rp (f k (xs.getD k (0, 0))) (Q k) (X k) a i) : Lp n (mapW n xs f) Q X a i :=
  ⟨mapW_len n xs f, fun k hk => by rw [mapW_get n xs f k hk]; exact h k hk⟩
theorem rp_nil {i : Nat} : Rp (0, 0) (0, 0) 0 0 i := ⟨⟨(0, 0), V_nil, V_nil, by decide +kernel⟩, by decide +kernel, .inl rfl⟩
theorem rp_one : Rp (1065353216, 0) (1, 0) 1 0 0 := ⟨⟨(1, 0), V_one, V_nil, by decide +kernel⟩, by decide +kernel, .inr (by decide +kernel)⟩
theorem pwR_le {B : Rat} (h0 : 0 ≤ B) (h8 : B ≤ 8) (k : Nat) : 0 ≤ pwR B k ∧ pwR B k ≤ pwR 8 k := by
  induction k with
  | zero => exact ⟨by show (0 : Rat) ≤ 1; decide, Rat.le_refl⟩
  | succ k ih =>
    have h1 := Rat.mul_nonneg ih.1 h0
    have h2 := Rat.mul_le_mul_of_nonneg_right ih.2 h0
    have h3 := pwR_one (show (1 : Rat) ≤ 8 by decide) k
    have h4 := Rat.mul_le_mul_of_nonneg_left h8 (show 0 ≤ pwR 8 k by grind)
    rw [pwR, pwR]
    constructor <;> grind
theorem pwR_bd {B : Rat} (h0 : 0 ≤ B) (h8 : B ≤ 8) {k : Nat} (hk : k ≤ 6) : 0 ≤ pwR B k ∧ pwR B k ≤ 262144 := by
  have h1 := pwR_le h0 h8 k
  have h2 := pwR_up (show (1 : Rat) ≤ 8 by decide) hk
  have h3 : pwR 8 6 = 262144 := by decide +kernel
  grind
theorem pw_rp {yw : Nat × Nat} {h : Rat × Rat} {B : Rat} (hy : Rp yw h B 0 2) (hB : B ≤ 8) (k : Nat) : k ≤ 6 → Rp (pwF yw k) (pwC h k) (pwR B k) (6 * k) (2 * k) ∧ (1 ≤ k → MulW (pwF yw (k - 1)) yw (pwF yw k)) := by
  induction k with
  | zero => intro _; exact ⟨rp_one, fun h => absurd h (by decide)⟩
  | succ k ih =>
    intro hk
    obtain ⟨h1, _⟩ := ih (by omega)
    have hb := pwR_bd hy.lo.nonneg hB (show k ≤ 6 by omega)
    have hb2 := pwR_bd hy.lo.nonneg hB hk
    rw [pwR] at hb2
    obtain ⟨m1, m2⟩ := rp_mul h1 hy (by omega) (by omega) (by omega) (by unfold big57; grind) (by unfold big57; grind) (by unfold big57; grind)
    exact ⟨m2.up (by omega) (by omega), fun _ => m1⟩

section
variable {n : Nat} {xs : List (Nat × Nat)} {c : Nat → GI}
theorem px_nonneg (k : Nat) : 0 ≤ l1q (qof (c k)) := l1_nonneg _
theorem st_lp (D : Dp n xs c) (hn : n ≤ 6) {yw : Nat × Nat} {h : Rat × Rat} {B : Rat} (hy : Rp yw h B 0 2) (hB : B ≤ 8) :
    (∀ k, k < n → MulW (xs.getD k (0, 0)) (pwF yw k) (mulF (xs.getD k (0, 0)) (pwF yw k)) ∧ MulW (pwF yw k) yw (pwF yw (k + 1))) ∧
    Lp n (mapW n xs fun k x => mulF x (pwF yw k)) (fun k => qmul (qof (c k)) (pwC h k)) (fun k => l1q (qof (c k)) * pwR B k) 36 12 := by
  have key : ∀ k, k < n → MulW (xs.getD k (0, 0)) (pwF yw k) (mulF (xs.getD k (0, 0)) (pwF yw k)) ∧ Rp (mulF (xs.getD k (0, 0)) (pwF yw k)) (qmul (qof (c k)) (pwC h k)) (l1q (qof (c k)) * pwR B k) 36 12 := by
    intro k hk
    have h1 := (pw_rp hy hB k (by omega)).1
    have hb := pwR_bd hy.lo.nonneg hB (show k ≤ 6 by omega)
    have h8 := dp_le8 D k
    have h0 := l1_nonneg (qof (c k))
    have h2 := Rat.mul_le_mul_of_nonneg_right h8 hb.1
    obtain ⟨m1, m2⟩ := rp_mul ((dp_lp D).rp k hk) h1 (by omega) (by omega) (by omega) (by unfold big57; grind) (by unfold big57; grind) (by unfold big57; grind)
    exact ⟨m1, m2.up (by omega) (by omega)⟩
  exact ⟨fun k hk => ⟨(key k hk).1, (pw_rp hy hB (k + 1) (by omega)).2 (by omega)⟩, lp_map fun k hk => (key k hk).2⟩
theorem sc_lp (D : Dp n xs c) {yw : Nat × Nat} {h : Rat × Rat} {B : Rat} (hy : Rp yw h B 0 2) (hB : B ≤ 8) :
    (∀ k, k < n → MulW (xs.getD k (0, 0)) yw (mulF (xs.getD k (0, 0)) yw)) ∧
    Lp n (mapW n xs fun _ x => mulF x yw) (fun k => qmul (qof (c k)) h) (fun k => l1q (qof (c k)) * B) 6 4 := by
  have key : ∀ k, k < n → MulW (xs.getD k (0, 0)) yw (mulF (xs.getD k (0, 0)) yw) ∧ Rp (mulF (xs.getD k (0, 0)) yw) (qmul (qof (c k)) h) (l1q (qof (c k)) * B) 6 4 := by
    intro k hk
    have h8 := dp_le8 D k
    have h0 := l1_nonneg (qof (c k))
    have h2 := Rat.mul_le_mul_of_nonneg_right h8 hy.lo.nonneg
    exact rp_mul ((dp_lp D).rp k hk) hy (by omega) (by omega) (by omega) (by unfold big57; grind) (by unfold big57; grind) (by unfold big57; grind)
  exact ⟨fun k hk => (key k hk).1, lp_map fun k hk => (key k hk).2⟩
theorem par_lp (D : Dp n xs c) (od : Nat) : Lp n (parC od n xs) (fun k => if k % 2 = od then qof (c k) else (0, 0)) (fun k => if k % 2 = od then l1q (qof (c k)) else 0) 0 2 := by
  refine lp_map fun k hk => ?_
  by_cases e : k % 2 = od
  · rw [if_pos e, if_pos e, if_pos e]
    exact (dp_lp D).rp k hk
  · rw [if_neg e, if_neg e, if_neg e]
    exact rp_nil
theorem jo_lp (D : Dp n xs c) : Lp n (mapW n xs fun _ x => conjF x) (fun k => qconj (qof (c k))) (fun k => l1q (qof (c k))) 0 2 :=
  lp_map fun k hk => rp_conj ((dp_lp D).rp k hk)
theorem sh_lp (D : Dp n xs c) (hn : n ≤ 6) {yw : Nat × Nat} {h : Rat × Rat} {B : Rat} (hy : Rp yw h B 0 2) (hB : B ≤ 8) :
    ShiftW yw n xs ∧ Lp n (shPass yw n xs n) (psC h n (fun k => qof (c k)) n) (psR B n (fun k => l1q (qof (c k))) n) 288 74 :=
  shift_lp (dp_lp D) hy hn (by omega) (fun _ => l1_nonneg _) (fun k => dp_le8 D k) hB
end
/-- Parting and joining, exactly. -/
theorem par_sum (f : Nat → Rat × Rat) (z : Rat × Rat) (n : Nat) : qadd (hsC (fun k => if k % 2 = 0 then f k else (0, 0)) z 0 n) (hsC (fun k => if k % 2 = 1 then f k else (0, 0)) z 0 n) = hsC f z 0 n := by
  rw [← hsC_add]
  refine hsC_congr n 0 fun i _ _ => ?_
  by_cases e : i % 2 = 0
  · rw [if_pos e, if_neg (by omega)]
    unfold qadd
    exact Prod.ext (Rat.add_zero _) (Rat.add_zero _)
  · rw [if_neg e, if_pos (by omega)]
    unfold qadd
    exact Prod.ext (Rat.zero_add _) (Rat.zero_add _)
theorem par_sumR (f : Nat → Rat) (z : Rat) (n : Nat) : hsR (fun k => if k % 2 = 0 then f k else 0) z 0 n + hsR (fun k => if k % 2 = 1 then f k else 0) z 0 n = hsR f z 0 n := by
  rw [← hsR_add]
  refine hsR_congr n 0 fun i _ _ => ?_
  by_cases e : i % 2 = 0
  · rw [if_pos e, if_neg (by omega), Rat.add_zero]
  · rw [if_neg e, if_pos (by omega), Rat.zero_add]
theorem conj_sum (f : Nat → Rat × Rat) (z : Rat × Rat) (m : Nat) : ∀ k, hsC (fun k => qconj (f k)) (qconj z) k m = qconj (hsC f z k m) := by
  induction m with
  | zero => intro k; unfold hsC qconj; exact Prod.ext rfl (by simp only; grind)
  | succ m ih =>
    intro k
    rw [hsC_succ, hsC_succ, ih]
    unfold qconj qadd qmul
    simp only
    exact Prod.ext (by simp only; grind) (by simp only; grind)
theorem l1_sq (a : Rat × Rat) : l1q a * l1q a ≤ 2 * nq a := by
  have h1 := ab_sq a.1
  have h2 := ab_sq a.2
  have h3 := rsq_nonneg (ab a.1 - ab a.2)
  unfold l1q nq
  grind
/-- Two points' long sides. -/
theorem l1_mul_low (a b : Rat × Rat) : l1q a * l1q b ≤ 2 * l1q (qmul a b) := by
  have h1 := l1_sq a
  have h2 := l1_sq b
  have h3 := nq_l1 (qmul a b)
  have h4 := nq_mul a b
  have a0 := l1_nonneg a
  have b0 := l1_nonneg b
  have c0 := l1_nonneg (qmul a b)
  have na := nq_nonneg a
  have g1 := Rat.mul_le_mul_of_nonneg_right h1 (Rat.mul_nonneg b0 b0)
  have g2 := Rat.mul_le_mul_of_nonneg_left h2 (show 0 ≤ 2 * nq a by grind)
  refine sq_anti (by grind) ?_
  generalize l1q (qmul a b) = C at *
  generalize nq (qmul a b) = N at *
  generalize l1q a = A at *
  generalize l1q b = B at *
  have e1 : A * B * (A * B) = A * A * (B * B) := by grind
  have e2 : 2 * C * (2 * C) = 4 * (C * C) := by grind
  have e3 : 2 * nq a * (2 * nq b) = 4 * (nq a * nq b) := by grind
  rw [e1, e2]
  rw [e3, ← h4] at g2
  grind
end Go.Proofs.Ytfbekiphlaaieaa
namespace Go.Proofs.Ytfbekiphlaaieaa
open Ieee

/-- Whole numbers and their reciprocals, by trial. -/
def goodI (k : Nat) : Bool := isV (i32 k) (k : Rat)
theorem goodI_fin : (List.range 8).all goodI = true := by decide +kernel
theorem i32_val {k : Nat} (h : k ≤ 7) : V .f32 (i32 k) (k : Rat) := isV_true (List.all_eq_true.1 goodI_fin k (List.mem_range.2 (by omega)))
def recQ : Nat → Rat
  | 0 => 1
  | 1 => 1 / 2
  | 2 => 11184811 / 33554432
  | 3 => 1 / 4
  | 4 => 13421773 / 67108864
  | _ => 11184811 / 67108864
def goodR (k : Nat) : Bool := decide (floatBits .quo .f32 1065353216 (i32 (k + 1)) = some (quoF 1065353216 (i32 (k + 1)))) && isV (quoF 1065353216 (i32 (k + 1))) (recQ k) && decide (ab (recQ k - 1 / ((k + 1 : Nat) : Rat)) ≤ eps * (1 / ((k + 1 : Nat) : Rat))) && decide (two (-3) ≤ 1 / ((k + 1 : Nat) : Rat)) && decide (1 / ((k + 1 : Nat) : Rat) * ((k + 1 : Nat) : Rat) = 1)
theorem goodR_fin : (List.range 6).all goodR = true := by decide +kernel
theorem rec_rp {k : Nat} (h : k < 6) : floatBits .quo .f32 1065353216 (i32 (k + 1)) = some (quoF 1065353216 (i32 (k + 1))) ∧ Rp (quoF 1065353216 (i32 (k + 1)), 0) (1 / ((k + 1 : Nat) : Rat), 0) (1 / ((k + 1 : Nat) : Rat)) 1 3 ∧ 1 / ((k + 1 : Nat) : Rat) * ((k + 1 : Nat) : Rat) = 1 ∧ 1 / ((k + 1 : Nat) : Rat) ≤ 1 := by
  have h1 := List.all_eq_true.1 goodR_fin k (List.mem_range.2 h)
  unfold goodR at h1
  simp only [Bool.and_eq_true, decide_eq_true_eq] at h1
  obtain ⟨⟨⟨⟨g1, g2⟩, g3⟩, g4⟩, g5⟩ := h1
  have g6 : (1 : Rat) ≤ ((k + 1 : Nat) : Rat) := by exact_mod_cast Nat.le_add_left 1 k
  have t3 := two_pos (-3)
  have h0 : 0 ≤ 1 / ((k + 1 : Nat) : Rat) := by grind
  generalize 1 / ((k + 1 : Nat) : Rat) = ρ at *
  refine ⟨g1, ⟨⟨(recQ k, 0), isV_true g2, V_nil, ?_⟩, ?_, .inr g4⟩, g5, ?_⟩
  · unfold l1q qsub
    simp only
    have e : ab ((0 : Rat) - 0) = 0 := by decide +kernel
    have e1 : ((1 : Nat) : Rat) * eps * ρ = eps * ρ := by
      have : ((1 : Nat) : Rat) = 1 := rfl
      rw [this]; grind
    rw [e, e1]
    grind
  · unfold l1q
    simp only
    have e : ab (0 : Rat) = 0 := by decide +kernel
    have e1 : ab ρ = ρ := by unfold ab; grind
    rw [e, e1]
    grind
  · have := Rat.mul_le_mul_of_nonneg_left g6 h0
    grind
theorem whole_rp {k : Nat} (h : k ≤ 7) (h1 : 1 ≤ k) : Rp (i32 k, 0) ((k : Rat), 0) (k : Rat) 0 0 := by
  have hk : (1 : Rat) ≤ (k : Rat) := by exact_mod_cast h1
  have e : l1q ((k : Rat), 0) = (k : Rat) := by
    unfold l1q
    simp only
    have e : ab (0 : Rat) = 0 := by decide +kernel
    have e1 : ab (k : Rat) = (k : Rat) := by unfold ab; grind
    rw [e, e1]
    grind
  have t0 : two (-((0 : Nat) : Int)) = 1 := by decide +kernel
  have hl : Lo (l1q ((k : Rat), 0)) 0 := by rw [e]; exact .inr (by rw [t0]; exact hk)
  have h2 := rp_exact (x := (i32 k, 0)) (q := ((k : Rat), 0)) (i32_val h) V_nil hl
  rw [e] at h2
  exact h2
/-- A word that stands for what is not 0 is not 0. -/
theorem isZ_not {x : Nat × Nat} {q : Rat × Rat} {a i : Nat} (h : Rp x q (l1q q) a i) (ha : a ≤ 500) (hq : 0 < l1q q) : isZ x = false := by
  cases hz : isZ x
  · rfl
  · exfalso
    have h1 := rp_of_zero h hz
    have h2 := units_le ha (Rat.le_of_lt hq)
    grind
theorem top_pos {n : Nat} {xs : List (Nat × Nat)} {c : Nat → GI} (D : Dp n xs c) : 0 < l1q (qof (c (n - 1))) := by
  obtain ⟨x, h1, _, h2, _⟩ := D.top
  rw [h2, l1_qof]
  have : (1 : Rat) ≤ (((2 * x).natAbs + (0 : Int).natAbs : Nat) : Rat) := by
    have : 1 ≤ (2 * x).natAbs + (0 : Int).natAbs := by omega
    exact_mod_cast this
  grind
theorem dp_top {n : Nat} {xs : List (Nat × Nat)} {c : Nat → GI} (D : Dp n xs c) : isZ (xs.getD (n - 1) (0, 0)) = false :=
  isZ_not ((dp_lp D).rp (n - 1) (by have := D.one; omega)) (by omega) (top_pos D)
theorem dp_trim {n : Nat} {xs : List (Nat × Nat)} {c : Nat → GI} (D : Dp n xs c) : trimC xs = xs :=
  trimC_id (by rw [D.len]; exact D.one) (.inr (by rw [D.len]; exact dp_top D))
theorem dp_valid {n : Nat} {xs : List (Nat × Nat)} {c : Nat → GI} (D : Dp n xs c) (hn : n ≤ 6) : Valid xs := by
  have h := lp_valid (dp_lp D) D.one (by omega)
  rwa [dp_trim D] at h

section
variable {n : Nat} {xs : List (Nat × Nat)} {c : Nat → GI}
theorem rise_rp (D : Dp n xs c) (hn : n ≤ 6) (k : Nat) (hk : k < n) :
    ScaleW (xs.getD k (0, 0)) (quoF 1065353216 (i32 (k + 1))) (scF (xs.getD k (0, 0)) (quoF 1065353216 (i32 (k + 1)))) ∧
    Rp (scF (xs.getD k (0, 0)) (quoF 1065353216 (i32 (k + 1)))) (qmul (qof (c k)) (1 / ((k + 1 : Nat) : Rat), 0)) (l1q (qof (c k)) * (1 / ((k + 1 : Nat) : Rat))) 7 5 ∧
    ScaleW (scF (xs.getD k (0, 0)) (quoF 1065353216 (i32 (k + 1)))) (i32 (k + 1)) (scF (scF (xs.getD k (0, 0)) (quoF 1065353216 (i32 (k + 1)))) (i32 (k + 1))) ∧
    Rp (scF (scF (xs.getD k (0, 0)) (quoF 1065353216 (i32 (k + 1)))) (i32 (k + 1))) (qof (c k)) (l1q (qof (c k))) 13 5 := by
  obtain ⟨_, h1, h2, h3⟩ := rec_rp (show k < 6 by omega)
  have h8 := dp_le8 D k
  have h0 := l1_nonneg (qof (c k))
  have h4 := h1.lo.nonneg
  have h5 := Rat.mul_le_mul_of_nonneg_left h3 h0
  obtain ⟨m1, m2⟩ := rp_scale ((dp_lp D).rp k hk) h1 (by omega) (by omega) (by omega) (by unfold big57; grind)
  have e1 : l1q (qof (c k)) * (1 / ((k + 1 : Nat) : Rat)) * ((k + 1 : Nat) : Rat) = l1q (qof (c k)) := by
    rw [Rat.mul_assoc, h2, Rat.mul_one]
  have e2 : qmul (qmul (qof (c k)) (1 / ((k + 1 : Nat) : Rat), 0)) (((k + 1 : Nat) : Rat), 0) = qof (c k) := by
    generalize 1 / ((k + 1 : Nat) : Rat) = ρ at *
    generalize ((k + 1 : Nat) : Rat) = κ at *
    generalize qof (c k) = q at *
    unfold qmul
    simp only
    refine Prod.ext ?_ ?_
    · simp only
      have : q.1 = q.1 * (ρ * κ) := by rw [h2, Rat.mul_one]
      grind
    · simp only
      have : q.2 = q.2 * (ρ * κ) := by rw [h2, Rat.mul_one]
      grind
  obtain ⟨s1, s2⟩ := rp_scale m2 (whole_rp (k := k + 1) (by omega) (by omega)) (by omega) (by omega) (by omega) (by rw [e1]; unfold big57; grind)
  exact ⟨m1, m2.up (by omega) (by omega), s1, (s2.cast e2 e1).up (by omega) (by omega)⟩
theorem rise_get (k : Nat) (hk : k < n) : (riseC n xs).getD (k + 1) (0, 0) = scF (xs.getD k (0, 0)) (quoF 1065353216 (i32 (k + 1))) := by
  unfold riseC
  rw [List.getD_cons_succ]
  exact mapW_get n xs _ k hk
theorem rec_pos (k : Nat) : 0 < 1 / ((k + 1 : Nat) : Rat) := by
  have g6 : (0 : Rat) < ((k + 1 : Nat) : Rat) := by exact_mod_cast Nat.succ_pos k
  rw [Rat.div_def, Rat.one_mul]
  exact Rat.inv_pos.2 g6
theorem rise_facts (D : Dp n xs c) (hn : n ≤ 6) : mvRi n xs = riseC n xs ∧ Valid (mvRi n xs) := by
  have h1 := D.one
  obtain ⟨m, rfl⟩ : ∃ m, n = m + 1 := ⟨n - 1, by omega⟩
  have hl := rise_len (m + 1) xs
  have hr := rise_rp D hn m (by omega)
  have hp := top_pos D
  rw [Nat.add_sub_cancel] at hp
  have hnz : isZ ((riseC (m + 1) xs).getD (m + 1) (0, 0)) = false := by
    rw [rise_get m (by omega)]
    have e : l1q (qmul (qof (c m)) (1 / ((m + 1 : Nat) : Rat), 0)) = l1q (qof (c m)) * (1 / ((m + 1 : Nat) : Rat)) := by
      have hr0 := rec_pos m
      generalize 1 / ((m + 1 : Nat) : Rat) = ρ at *
      have e1 := ab_mul (qof (c m)).1 ρ
      have e2 := ab_mul (qof (c m)).2 ρ
      have e3 : ab ρ = ρ := by unfold ab; grind
      rw [e3] at e1 e2
      unfold l1q qmul
      simp only
      have e4 : (qof (c m)).1 * ρ - (qof (c m)).2 * 0 = (qof (c m)).1 * ρ := by grind
      have e5 : (qof (c m)).1 * 0 + (qof (c m)).2 * ρ = (qof (c m)).2 * ρ := by grind
      rw [e4, e5, e1, e2]
      grind
    have h2 := hr.2.1
    rw [← e] at h2
    exact isZ_not h2 (by omega) (by rw [e]; exact Rat.mul_pos hp (rec_pos m))
  have ht : trimC (riseC (m + 1) xs) = riseC (m + 1) xs := trimC_id (by rw [hl]; omega) (.inr (by rw [hl, Nat.add_sub_cancel]; exact hnz))
  refine ⟨ht, ?_⟩
  refine valid_trim (by rw [hl]; omega) (by rw [hl]; omega) (fun j hj => ?_)
  rcases j with _ | j
  · exact ⟨⟨0, V_nil⟩, ⟨0, V_nil⟩⟩
  · rw [hl] at hj
    rw [rise_get j (by omega)]
    exact (rise_rp D hn j (by omega)).2.1.num
/-- The slope of the rise has as many terms, near those of before. -/
theorem slope_rise (D : Dp n xs c) (hn : n ≤ 6) : (mvSl n xs).length = n ∧ Valid (mvSl n xs) ∧ (∀ k, k < n → (mvSl n xs).getD k (0, 0) = scF (scF (xs.getD k (0, 0)) (quoF 1065353216 (i32 (k + 1)))) (i32 (k + 1))) := by
  have h1 := D.one
  have hl := rise_len n xs
  have hs : slopeC (mvRi n xs) = cslopeU (riseC n xs) (n + 1) := by
    rw [(rise_facts D hn).1]
    unfold slopeC
    rw [if_neg (by rw [hl]; omega), hl]
  have hg : ∀ k, k < n → (cslopeU (riseC n xs) (n + 1)).getD k (0, 0) = scF (scF (xs.getD k (0, 0)) (quoF 1065353216 (i32 (k + 1)))) (i32 (k + 1)) := by
    intro k hk
    unfold cslopeU
    rw [← rise_get (n := n) (xs := xs) k hk]
    simp [List.getD, hk]
  have hl2 : (cslopeU (riseC n xs) (n + 1)).length = n := by rw [cslopeU_len]; omega
  have ht : trimC (cslopeU (riseC n xs) (n + 1)) = cslopeU (riseC n xs) (n + 1) := by
    refine trimC_id (by rw [hl2]; exact h1) (.inr ?_)
    rw [hl2, hg (n - 1) (by omega)]
    exact isZ_not (rise_rp D hn (n - 1) (by omega)).2.2.2 (by omega) (top_pos D)
  have hv : Valid (trimC (cslopeU (riseC n xs) (n + 1))) := valid_trim (by rw [hl2]; exact h1) (by rw [hl2]; omega) (fun j hj => by
    rw [hl2] at hj
    rw [hg j hj]
    exact (rise_rp D hn j hj).2.2.2.num)
  unfold mvSl
  rw [hs]
  rw [ht] at hv ⊢
  exact ⟨hl2, hv, hg⟩
end
end Go.Proofs.Ytfbekiphlaaieaa
namespace Go.Proofs.Ytfbekiphlaaieaa

def sgi (c : Nat → GI) (j : Nat) : GI := (((j + 1 : Nat) : Int) * (c (j + 1)).1, ((j + 1 : Nat) : Int) * (c (j + 1)).2)
section
variable {n : Nat} {xs : List (Nat × Nat)} {c : Nat → GI}
theorem two_z : two 0 = 1 := by decide +kernel
theorem sm_mul {a k : Int} (h : a.natAbs ≤ 16) (hk : k.natAbs ≤ 5) : (k * a).natAbs ≤ 80 := by
  rw [Int.natAbs_mul]
  exact Nat.mul_le_mul hk h
theorem fi_cv (D : Dp n xs c) (hn : n ≤ 6) (j : Nat) (hj : j + 1 < n) : ScaleW (xs.getD (j + 1) (0, 0)) (i32 (j + 1)) (scF (xs.getD (j + 1) (0, 0)) (i32 (j + 1))) ∧
    CV (scF (xs.getD (j + 1) (0, 0)) (i32 (j + 1))) (sgi c j).1 (sgi c j).2 (-2) := by
  have h := D.cv (j + 1) hj
  have hs := D.sm (j + 1)
  have hi : V .f32 (i32 (j + 1)) (iv2 ((j + 1 : Nat) : Int) 0) := by
    have h2 := i32_val (show j + 1 ≤ 7 by omega)
    have e : iv2 ((j + 1 : Nat) : Int) 0 = ((j + 1 : Nat) : Rat) := by
      unfold iv2
      rw [two_z, Rat.mul_one]
      exact Rat.intCast_natCast _
    rw [e]; exact h2
  have k0 : dgs .f32 = 16777216 := rfl
  have m1 := sm_mul (k := ((j + 1 : Nat) : Int)) hs.1 (by omega)
  have m2 := sm_mul (k := ((j + 1 : Nat) : Int)) hs.2 (by omega)
  have c1 : (c (j + 1)).1 * ((j + 1 : Nat) : Int) = ((j + 1 : Nat) : Int) * (c (j + 1)).1 := Int.mul_comm _ _
  have c2 : (c (j + 1)).2 * ((j + 1 : Nat) : Int) = ((j + 1 : Nat) : Int) * (c (j + 1)).2 := Int.mul_comm _ _
  obtain ⟨r1, e1, v1⟩ := ex_mul h.re hi (by rw [c1]; omega) (by omega) (by omega)
  obtain ⟨r2, e2, v2⟩ := ex_mul h.im hi (by rw [c2]; omega) (by omega) (by omega)
  have f1 : (scF (xs.getD (j + 1) (0, 0)) (i32 (j + 1))).1 = r1 := getD_of e1
  have f2 : (scF (xs.getD (j + 1) (0, 0)) (i32 (j + 1))).2 = r2 := getD_of e2
  rw [c1] at v1
  rw [c2] at v2
  exact ⟨⟨by rw [f1]; exact e1, by rw [f2]; exact e2⟩, ⟨by rw [f1]; exact v1, by rw [f2]; exact v2⟩⟩
theorem fi_one (hl : xs.length = 1) : slopeC xs = [(0, 0)] := by unfold slopeC; rw [if_pos hl]
theorem fi_more (hl : xs.length = n) (h2 : 2 ≤ n) : slopeC xs = cslopeU xs n ∧ (slopeC xs).length = n - 1 ∧ (∀ j, j + 1 < n → (slopeC xs).getD j (0, 0) = scF (xs.getD (j + 1) (0, 0)) (i32 (j + 1))) := by
  have e : slopeC xs = cslopeU xs n := by unfold slopeC; rw [if_neg (by omega), hl]
  refine ⟨e, by rw [e, cslopeU_len], fun j hj => ?_⟩
  rw [e]
  unfold cslopeU
  simp [List.getD, show j < n - 1 by omega]
theorem sgi_sm (D : Dp n xs c) (hn : n ≤ 6) (j : Nat) : (sgi c j).1.natAbs ≤ 80 ∧ (sgi c j).2.natAbs ≤ 80 := by
  have hs := D.sm (j + 1)
  by_cases hj : j + 1 < n
  · exact ⟨sm_mul hs.1 (by omega), sm_mul hs.2 (by omega)⟩
  · have h0 := D.out (j + 1) (by omega)
    unfold sgi
    rw [h0]
    simp
theorem fi_lp (D : Dp n xs c) (hn : n ≤ 6) (h2 : 2 ≤ n) : Lp (n - 1) (slopeC xs) (fun j => qof (sgi c j)) (fun j => l1q (qof (sgi c j))) 0 2 := by
  obtain ⟨_, h3, h4⟩ := fi_more D.len h2
  refine ⟨h3, fun j hj => ?_⟩
  rw [h4 j (by omega)]
  exact cv_rp (fi_cv D hn j (by omega)).2
theorem qof_sgi (j : Nat) : qof (sgi c j) = qmul (qof (c (j + 1))) ((((j + 1 : Nat) : Rat), (0 : Rat)) : Rat × Rat) := by
  unfold qof sgi cq qmul
  simp only [iv2_q]
  push_cast
  exact Prod.ext (by simp only; grind) (by simp only; grind)
theorem l1_sgi (j : Nat) : l1q (qof (sgi c j)) = l1q (qof (c (j + 1))) * ((j + 1 : Nat) : Rat) := by
  rw [l1_qof, l1_qof]
  have e : (sgi c j).1.natAbs + (sgi c j).2.natAbs = (j + 1) * ((c (j + 1)).1.natAbs + (c (j + 1)).2.natAbs) := by
    unfold sgi
    simp only [Int.natAbs_mul, Int.natAbs_natCast]
    rw [Nat.mul_add]
  rw [e]
  push_cast
  grind
theorem fi_trim (D : Dp n xs c) (hn : n ≤ 6) : mvFi xs = slopeC xs := by
  have h1 := D.one
  unfold mvFi
  by_cases e : n = 1
  · rw [fi_one (by rw [D.len]; exact e)]
    exact trimC_id (by simp) (.inl rfl)
  · obtain ⟨_, h3, h4⟩ := fi_more D.len (show 2 ≤ n by omega)
    refine trimC_id (by omega) (.inr ?_)
    rw [h3, h4 (n - 1 - 1) (by omega)]
    have e2 : n - 1 - 1 + 1 = n - 1 := by omega
    have h5 := cv_rp (fi_cv D hn (n - 1 - 1) (by omega)).2
    refine isZ_not h5 (by omega) ?_
    rw [l1_sgi, e2]
    refine Rat.mul_pos (top_pos D) ?_
    have : 0 < n - 1 := by omega
    exact_mod_cast this
/-- 'MonicPoly' -/
theorem mono_facts (D : Dp n xs c) : ∃ qf : Nat → Nat × Nat, (∀ k, k + 1 < n → QuotW (xs.getD k (0, 0)) (xs.getD (n - 1) (0, 0)) (qf k)) ∧ (n ≤ 17 → trimC (monC n qf) = monC n qf ∧ Valid (monC n qf)) := by
  have h1 := D.one
  obtain ⟨x, x1, x2, x3, _⟩ := D.top
  have ht := D.cv (n - 1) (by omega)
  have hts := D.sm (n - 1)
  have hne : (c (n - 1)).1 ≠ 0 := by rw [x3]; simp only; omega
  have hq : ∀ k, ∃ r, k + 1 < n → QuotW (xs.getD k (0, 0)) (xs.getD (n - 1) (0, 0)) r ∧ NumC r := by
    intro k
    by_cases hk : k + 1 < n
    · obtain ⟨r, g1, g2⟩ := quo_cv (D.cv k (by omega)) ht (D.sm k).1 (D.sm k).2 hts.1 hts.2 hne
      exact ⟨r, fun _ => ⟨g1, g2⟩⟩
    · exact ⟨(0, 0), fun h => absurd h hk⟩
  refine ⟨fun k => Classical.choose (hq k), fun k hk => (Classical.choose_spec (hq k) hk).1, fun h17 => ?_⟩
  have hl := monC_len n (fun k => Classical.choose (hq k)) h1
  have hlast : (monC n (fun k => Classical.choose (hq k))).getD (n - 1) (0, 0) = (1065353216, 0) := by
    unfold monC
    simp [List.getD]
  have hz : isZ ((1065353216, 0) : Nat × Nat) = false := by decide +kernel
  have htr : trimC (monC n (fun k => Classical.choose (hq k))) = monC n (fun k => Classical.choose (hq k)) := trimC_id (by rw [hl]; exact h1) (.inr (by rw [hl, hlast]; exact hz))
  refine ⟨htr, ?_⟩
  rw [← htr]
  refine valid_trim (by rw [hl]; exact h1) (by rw [hl]; exact h17) (fun j hj => ?_)
  rw [hl] at hj
  by_cases e : j = n - 1
  · rw [e, hlast]
    exact ⟨⟨1, V_one⟩, ⟨0, V_nil⟩⟩
  · have hg : (monC n (fun k => Classical.choose (hq k))).getD j (0, 0) = Classical.choose (hq j) := by
      unfold monC
      simp [List.getD, List.getElem?_append, show j < n - 1 by omega]
    rw [hg]
    exact (Classical.choose_spec (hq j) (by omega)).2
/-- 'ThinPoly' -/
theorem thin_facts (D : Dp n xs c) (k : Nat) (hk : k < n) : ∃ l, LongW (xs.getD k (0, 0)) l ∧ (FloatKind.f32.format.order l 0 = some .gt ∨ (FloatKind.f32.format.order l 0 = some .eq ∧ xs.getD k (0, 0) = (0, 0))) := by
  have hs := D.sm k
  obtain ⟨h1, l, h2, h3, h4, h5⟩ := long_cv (D.cv k hk) (by omega) (by omega) (by omega) (by omega)
  refine ⟨_, h1, ?_⟩
  rw [order_val h2 V_nil]
  rcases h5 with h5 | h5
  · right
    subst h5
    refine ⟨by decide, D.zero k hk ?_⟩
    have h6 := h3.high
    have h7 := nq_nonneg (cq (c k).1 (c k).2 (-2))
    have h8 : nq (cq (c k).1 (c k).2 (-2)) = 0 := by grind
    have h9 := cq_zero_of h8
    exact Prod.ext h9.1 h9.2
  · left
    rw [if_neg (by grind), if_neg (by grind)]
theorem wide_facts (D : Dp n xs c) (j : Nat) (hj : j < n) : Wide (xs.getD j (0, 0)) := by
  have h := D.cv j hj
  have hs := D.sm j
  have k1 : dgs .f64 = 9007199254740992 := rfl
  obtain ⟨a, e1, _⟩ := ex_conv h.re (k' := .f64) (by decide) (by omega) (by omega) (by omega)
  obtain ⟨b, e2, _⟩ := ex_conv h.im (k' := .f64) (by decide) (by omega) (by omega) (by omega)
  exact ⟨h.num, ⟨a, e1⟩, ⟨b, e2⟩⟩
/-- 'RootsWithin' -/
theorem within_facts (D : Dp n xs c) (h2 : 2 ≤ n) : ∃ ls qs mo L r, WithinW xs ls qs mo L r ∧ (FloatKind.f32.format.order r 1065353216 = some .gt ∨ FloatKind.f32.format.order r 1065353216 = some .eq) := by
  obtain ⟨m, rfl⟩ : ∃ m, n = m + 1 := ⟨n - 1, by omega⟩
  obtain ⟨x, x1, x2, x3, _⟩ := D.top
  rw [Nat.add_sub_cancel] at x3
  have T : Terms m xs c (fun _ => -2) := ⟨D.len, fun k hk => D.cv k (by omega), fun k _ => by have := D.sm k; omega, fun _ _ => by omega⟩
  have hc : c m ≠ (0, 0) := by
    intro e
    rw [x3] at e
    have : 2 * x = 0 := congrArg Prod.fst e
    omega
  obtain ⟨μ, ρ, hw, hv, _⟩ := within_of T hc
  refine ⟨_, _, _, _, _, hw, ?_⟩
  have hlast := hw.last
  have e1 : xs.length - 1 = m := by rw [D.len]; omega
  rw [e1] at hlast
  have hlong : ∀ k, k ≤ m → ∃ l, V .f32 (longF (xs.getD k (0, 0))) l ∧ Sq l (nq (cq (c k).1 (c k).2 (-2))) ∧ (l = 0 ∨ 1 / 2048 ≤ l) := fun k hk => by
    obtain ⟨_, l, h3, h4, _, h6⟩ := long_cv (D.cv k (by omega)) (by have := (D.sm k).1; omega) (by have := (D.sm k).2; omega) (by omega) (by omega)
    exact ⟨l, h3, h4, h6⟩
  obtain ⟨l, vl, sl, hl⟩ := hlong m (Nat.le_refl _)
  have hl6 : l ≤ 6 := by
    refine Classical.byContradiction fun hn => ?_
    have g1 := sq_mono (show (0 : Rat) ≤ 6 by decide) (show (6 : Rat) ≤ l by grind)
    have g2 := sl.low
    have g3 : nq (cq (c m).1 (c m).2 (-2)) ≤ 32 := by
      have g4 := nq_l1 (cq (c m).1 (c m).2 (-2))
      have hq : l1q (cq (c m).1 (c m).2 (-2)) ≤ 4 := by
        have g6 : l1q (qof (c m)) = _ := l1_qof (c m)
        have g7 : ((((c m).1.natAbs + (c m).2.natAbs : Nat)) : Rat) ≤ 16 := by
          have : (c m).1.natAbs + (c m).2.natAbs ≤ 16 := by rw [x3]; simp only; omega
          exact_mod_cast this
        show l1q (qof (c m)) ≤ 4
        rw [g6]
        grind
      have g5 := sq_mono (l1_nonneg _) hq
      grind
    grind
  have hl0 : 1 / 2048 ≤ l := by
    rcases hl with h | h
    · exfalso
      subst h
      have h1 := sl.high
      have h2 := nq_nonneg (cq (c m).1 (c m).2 (-2))
      have h3 : nq (cq (c m).1 (c m).2 (-2)) = 0 := by grind
      have h4 := cq_zero_of h3
      exact hc (Prod.ext h4.1 h4.2)
    · exact h
  have hq : ∀ k, k < m → ∃ q, V .f32 (quoF (longF (xs.getD k (0, 0))) (longF (xs.getD m (0, 0)))) q ∧ (q = 0 ∨ 1 / 20000 ≤ q) ∧ q ≤ 1000000000000000 := by
    intro k hk
    obtain ⟨lk, vk, sk, hk2⟩ := hlong k (by omega)
    have hkb : lk ≤ 100 := by
      refine Classical.byContradiction fun hn => ?_
      have g1 := sq_mono (show (0 : Rat) ≤ 100 by decide) (show (100 : Rat) ≤ lk by grind)
      have g2 := sk.low
      have g4 := nq_l1 (cq (c k).1 (c k).2 (-2))
      have hq : l1q (cq (c k).1 (c k).2 (-2)) ≤ 8 := dp_le8 D k
      have g5 := sq_mono (l1_nonneg _) hq
      grind
    obtain ⟨r, q, e1, e2, e3, e4, e5⟩ := op_div vk vl sk.pos (by grind) (by grind) (by rcases hk2 with h | h; exact .inl h; exact .inr (by grind))
    have e6 : quoF (longF (xs.getD k (0, 0))) (longF (xs.getD m (0, 0))) = r := getD_of e1
    rw [e6]
    refine ⟨q, e2, ?_, ?_⟩
    · rcases hk2 with h | h
      · left
        subst h
        refine Classical.byContradiction fun hn => ?_
        have h9 : 0 < q := by grind
        have := Rat.mul_pos h9 (show 0 < l by grind)
        grind
      · right
        refine Classical.byContradiction fun hn => ?_
        have h9 : q * l ≤ 1 / 20000 * 6 := by
          have g1 : q * l ≤ 1 / 20000 * l := Rat.mul_le_mul_of_nonneg_right (by grind) (by grind)
          grind
        grind
    · refine Classical.byContradiction fun hn => ?_
      have h9 : 1000000000000000 * (1 / 2048) ≤ q * l := by
        have g1 : 1000000000000000 * l ≤ q * l := Rat.mul_le_mul_of_nonneg_right (by grind) (by grind)
        grind
      grind
  have hm : ∀ k, k ≤ m → ∃ μ, V .f32 (moF (fun k => quoF (longF (xs.getD k (0, 0))) (longF (xs.getD m (0, 0)))) k) μ ∧ (μ = 0 ∨ 1 / 20000 ≤ μ) ∧ μ ≤ 1000000000000000 := by
    intro k
    induction k with
    | zero => intro _; exact ⟨0, V_nil, .inl rfl, by decide +kernel⟩
    | succ k ih =>
      intro hk
      rw [moF]
      split
      · exact hq k (by omega)
      · exact ih (by omega)
  obtain ⟨μ', vm, hm1, hm2⟩ := hm m (Nat.le_refl _)
  obtain ⟨r', ρ', r1, r2⟩ := op_add V_one vm (by rw [t60]; unfold ab; rcases hm1 with h | h <;> grind)
  rw [r1] at hlast
  have hr : r' = _ := Option.some.inj hlast
  rw [← hr, order_val r2.val V_one]
  obtain ⟨n1, n2, n3⟩ := near_pos r2.near (by rcases hm1 with h | h <;> grind)
  rcases hm1 with h | h
  · right
    subst h
    have e2 : ρ' = 1 + 0 := r2.exact_ 1 0 (by decide +kernel) (by decide +kernel) (by decide)
    rw [e2]
    decide +kernel
  · left
    rw [if_neg (by grind), if_neg (by grind)]
end
end Go.Proofs.Ytfbekiphlaaieaa
namespace Go.Proofs.Ytfbekiphlaaieaa

theorem near_400 {x y : Nat × Nat} {q : Rat × Rat} {X Y M σ : Rat} {a b i j sw : Nat} (hx : Rp x q X a i) (hy : Rp y q Y b j) (ha : a ≤ 400) (hb : b ≤ 400) (hXM : X ≤ M) (hYM : Y ≤ M) (hMb : M ≤ big57)
    (hs : V .f64 sw σ) (h0 : 0 ≤ σ) (hb' : σ ≤ 100000000000000000) (hMs : 99 / 100 * M ≤ σ + 1 / 10000000000) :
    FarW x y (farG x y) ∧ ChkW (farG x y) sw (g64 .add w1 sw) (g64 .mul w001 (g64 .add w1 sw)) := by
  have hX := hx.lo.nonneg
  have hY := hy.lo.nonneg
  have e : ((400 : Nat) : Rat) = 400 := rfl
  exact near_chk (hx.up ha (Nat.le_refl _)) (hy.up hb (Nat.le_refl _)) (by omega) (by omega) (Rat.le_trans hXM hMb) (Rat.le_trans hYM hMb) (by rw [e]; grind) hs h0 hb' hMs
theorem near_100 {x y : Nat × Nat} {q : Rat × Rat} {X Y M σ : Rat} {a b i j sw : Nat} (hx : Rp x q X a i) (hy : Rp y q Y b j) (ha : a ≤ 100) (hb : b ≤ 100) (hXM : X ≤ 32 * M) (hYM : Y ≤ M) (hXb : X ≤ big57) (hMb : M ≤ big57)
    (hs : V .f64 sw σ) (h0 : 0 ≤ σ) (hb' : σ ≤ 100000000000000000) (hMs : 99 / 100 * M ≤ σ + 1 / 10000000000) :
    FarW x y (farG x y) ∧ ChkW (farG x y) sw (g64 .add w1 sw) (g64 .mul w001 (g64 .add w1 sw)) := by
  have hX := hx.lo.nonneg
  have hY := hy.lo.nonneg
  have e : ((100 : Nat) : Rat) = 100 := rfl
  exact near_chk (hx.up ha (Nat.le_refl _)) (hy.up hb (Nat.le_refl _)) (by omega) (by omega) hXb (Rat.le_trans hYM hMb) (by rw [e]; grind) hs h0 hb' hMs
theorem lo_cq (a b : Int) (p : Nat) : Lo (l1q (cq a b (-(p : Int)))) p := by
  rw [l1_cq]
  by_cases h : a.natAbs + b.natAbs = 0
  · left
    have : ((a.natAbs : Int) + (b.natAbs : Int)) = 0 := by omega
    rw [this]
    unfold iv2
    simp
  · right
    unfold iv2
    have h1 : (1 : Rat) ≤ (((a.natAbs : Int) + (b.natAbs : Int) : Int) : Rat) := by
      have : (1 : Int) ≤ (a.natAbs : Int) + (b.natAbs : Int) := by omega
      exact_mod_cast this
    have h2 := Rat.mul_le_mul_of_nonneg_right h1 (Rat.le_of_lt (two_pos (-(p : Int))))
    grind
/-- The law's size at an exact point. -/
theorem size_at {m : Nat} {xs : List (Nat × Nat)} {c : Nat → GI} (hl : xs.length = m + 1) (hcv : ∀ k, k ≤ m → CV (xs.getD k (0, 0)) (c k).1 (c k).2 (-2)) (hsm : ∀ k, (c k).1.natAbs ≤ 80 ∧ (c k).2.natAbs ≤ 80) (hm : m ≤ 5)
    {pw : Nat × Nat} {a b p : Int} (h : CV pw a b p) (ha : a.natAbs ≤ 4096) (hb : b.natAbs ≤ 4096) (hp : -10 ≤ p) (hp' : p ≤ 0) (h64 : l1q (cq a b p) ≤ 64) :
    SzW xs pw (sizeF m xs pw) ∧ ∃ σ, V .f64 (sizeF m xs pw) σ ∧ 0 ≤ σ ∧ σ ≤ 1000000000000 ∧ 999 / 1000 * hsR (fun k => l1q (qof (c k))) (l1q (cq a b p)) 0 (m + 1) ≤ σ + 1 / 1000000000000 := by
  obtain ⟨l1, l2⟩ := long1_cv h (by omega) (by omega) (by omega) (by omega)
  obtain ⟨c1, c2⟩ := conv_up l2 (by omega) (by omega) (by omega)
  rw [← l1_cq] at c2
  obtain ⟨s1, s2⟩ := size_words hl hcv hsm hm l1 c1 c2 (l1_nonneg _) h64
  refine ⟨⟨by omega, _, _, _, _, _, _, s1, ?_⟩, s2⟩
  rfl
theorem hsR_double {f : Nat → Rat} {w : Rat} (hw : 0 ≤ w) (m : Nat) : ∀ k, (∀ i, k ≤ i → i < k + (m + 1) → 0 ≤ f i) → hsR f (2 * w) k (m + 1) ≤ pwR 2 m * hsR f w k (m + 1) := by
  induction m with
  | zero =>
    intro k _
    rw [hsR_succ, hsR_succ]
    show (0 : Rat) * (2 * w) + f k ≤ 1 * (0 * w + f k)
    grind
  | succ m ih =>
    intro k h
    have h1 := ih (k + 1) (fun i h1 h2 => h i (by omega) (by omega))
    have h2 := h k (by omega) (by omega)
    have h3 := pwR_one (show (1 : Rat) ≤ 2 by decide) (m + 1)
    have h4 := Rat.mul_le_mul_of_nonneg_right h1 (show 0 ≤ 2 * w by grind)
    have h5 := Rat.mul_le_mul_of_nonneg_right h3 h2
    rw [hsR_succ f (2 * w), hsR_succ f w]
    have e : pwR 2 m * hsR f w (k + 1) (m + 1) * (2 * w) = pwR 2 (m + 1) * (hsR f w (k + 1) (m + 1) * w) := by rw [pwR]; grind
    rw [e] at h4
    have e2 : pwR 2 (m + 1) * (hsR f w (k + 1) (m + 1) * w + f k) = pwR 2 (m + 1) * (hsR f w (k + 1) (m + 1) * w) + pwR 2 (m + 1) * f k := by grind
    rw [e2]
    grind

section
variable {m : Nat} {xs : List (Nat × Nat)} {c : Nat → GI} {z y : Nat × Nat} {g h : GI}
theorem pt_rp (hz : CV z g.1 g.2 (-2)) (h1 : g.1.natAbs ≤ 16) (h2 : g.2.natAbs ≤ 16) : Rp z (qof g) (l1q (qof g)) 0 2 ∧ l1q (qof g) ≤ 8 := by
  have e := l1_qof_le h1 h2
  have e16 : ((16 : Nat) : Rat) / 2 = 8 := by decide +kernel
  rw [e16] at e
  exact ⟨cv_rp hz, e⟩
theorem hs_big {X : Nat → Rat} {Z W M : Rat} {n : Nat} (hZ : 0 ≤ Z) (hW : Z + 1 ≤ W) (hM : 0 ≤ M) (hX : ∀ k, k < n → 0 ≤ X k ∧ X k ≤ M) (hn : n ≤ 6) (hMW : M * pwR W 6 ≤ big57) : 0 ≤ hsR X Z 0 n ∧ hsR X Z 0 n ≤ big57 := by
  have h1 := hsR_bound hZ hW hM n 0 (fun i _ h2 => hX i (by omega))
  have h2 := pwR_up (show 1 ≤ W by grind) hn
  have h3 := Rat.mul_le_mul_of_nonneg_left h2 hM
  exact ⟨hsR_nonneg hZ n 0 (fun i _ h2 => (hX i (by omega)).1), Rat.le_trans h1 (Rat.le_trans h3 hMW)⟩
theorem dX (D : Dp (m + 1) xs c) (k : Nat) : 0 ≤ l1q (qof (c k)) ∧ l1q (qof (c k)) ≤ 8 := ⟨l1_nonneg _, dp_le8 D k⟩
theorem hs_dp (D : Dp (m + 1) xs c) (hm : m ≤ 5) {Z : Rat} (h0 : 0 ≤ Z) (h64 : Z ≤ 64) : 0 ≤ hsR (fun k => l1q (qof (c k))) Z 0 (m + 1) ∧ hsR (fun k => l1q (qof (c k))) Z 0 (m + 1) ≤ big57 :=
  hs_big (W := 65) (M := 8) h0 (by grind) (by decide) (fun k _ => dX D k) (by omega) (by decide +kernel)
/-- The value itself. -/
theorem v_at (D : Dp (m + 1) xs c) (hm : m ≤ 5) (hz : Rp z (qof g) (l1q (qof g)) 0 2) (hz8 : l1q (qof g) ≤ 8) :
    AtW xs z (valF xs z) ∧ Rp (valF xs z) (hsC (fun k => qof (c k)) (qof g) 0 (m + 1)) (hsR (fun k => l1q (qof (c k))) (l1q (qof g)) 0 (m + 1)) 48 14 := by
  obtain ⟨h1, h2⟩ := at_lp (dp_lp D) D.one (by omega) hz (by omega) (by omega) (M := 8) (W := 9) (fun k _ => dp_le8 D k) (by decide) (by grind) (by decide +kernel) (by unfold big57; grind)
  rw [dp_trim D] at h1 h2
  exact ⟨h1, h2.up (by omega) (by omega)⟩
theorem size_z (D : Dp (m + 1) xs c) (hm : m ≤ 5) {pw : Nat × Nat} {a b p : Int} (h : CV pw a b p) (ha : a.natAbs ≤ 4096) (hb : b.natAbs ≤ 4096) (hp : -10 ≤ p) (hp' : p ≤ 0) (h64 : l1q (cq a b p) ≤ 64) :
    SzW xs pw (sizeF m xs pw) ∧ ∃ σ, V .f64 (sizeF m xs pw) σ ∧ 0 ≤ σ ∧ σ ≤ 1000000000000 ∧ 999 / 1000 * hsR (fun k => l1q (qof (c k))) (l1q (cq a b p)) 0 (m + 1) ≤ σ + 1 / 1000000000000 :=
  size_at D.len (fun k hk => D.cv k (by omega)) (fun k => by have := D.sm k; omega) hm h ha hb hp hp' h64
/-- The moved polynomial at the moved point. -/
theorem chk_A (D : Dp (m + 1) xs c) (hm : m ≤ 5) (hz : CV z g.1 g.2 (-2)) (z1 : g.1.natAbs ≤ 16) (z2 : g.2.natAbs ≤ 16) (hy : CV y h.1 h.2 (-2)) (y1 : h.1.natAbs ≤ 16) (y2 : h.2.natAbs ≤ 16) :
    ShiftW y (m + 1) xs ∧ Valid (mvSh (m + 1) xs y) ∧ MinusW z y (minusF z y) ∧ AtW (mvSh (m + 1) xs y) (minusF z y) (valF (mvSh (m + 1) xs y) (minusF z y)) ∧
    ∃ lz ly tw qw, Long1W z lz ∧ Long1W y ly ∧ floatBits .mul .f32 1073741824 ly = some tw ∧ floatBits .add .f32 lz tw = some qw ∧ SzW xs (qw, 0) (sizeF m xs (qw, 0)) ∧ cv64 ly = some (u64w ly) ∧ V .f64 (u64w ly) (l1q (qof h)) ∧
      FarW (valF (mvSh (m + 1) xs y) (minusF z y)) (valF xs z) (farG (valF (mvSh (m + 1) xs y) (minusF z y)) (valF xs z)) ∧
      ChkW (farG (valF (mvSh (m + 1) xs y) (minusF z y)) (valF xs z)) (sizeF m xs (qw, 0)) (g64 .add w1 (sizeF m xs (qw, 0))) (g64 .mul w001 (g64 .add w1 (sizeF m xs (qw, 0)))) := by
  obtain ⟨rz, bz⟩ := pt_rp hz z1 z2
  obtain ⟨ry, by_⟩ := pt_rp hy y1 y2
  have hZ0 := rz.lo.nonneg
  have hB0 := ry.lo.nonneg
  obtain ⟨s1, s2⟩ := sh_lp D (by omega) ry by_
  obtain ⟨d1, d2⟩ := rp_minus (c := 0) (k := 2) rz ry (Nat.le_refl _) (Nat.le_refl _) (by omega) (Nat.le_refl _) (Nat.le_refl _) (by omega) (by unfold big57; grind) (by unfold big57; grind)
  obtain ⟨a1, a2⟩ := at_lp s2 D.one (by omega) d2 (by omega) (by omega) (M := 8000000) (W := 17) (fun k hk => psR_bound hB0 by_ (fun k => l1_nonneg _) (fun k => dp_le8 D k) (by omega) k hk) (by decide) (by grind) (by decide +kernel) (by unfold big57; grind)
  obtain ⟨v1, v2⟩ := v_at D hm rz bz
  have t1 := taylorC (m + 1) (fun k => qof (c k)) (qof h) (qof g) (m + 1) 0 (by omega)
  have t2 := taylorR (m + 1) (fun k => l1q (qof (c k))) (l1q (qof h)) (l1q (qof g) + 2 * l1q (qof h)) (m + 1) 0 (by omega)
  have e1 : l1q (qof g) + 2 * l1q (qof h) - l1q (qof h) = l1q (qof g) + l1q (qof h) := by grind
  rw [e1] at t2
  have a3 := a2.cast (q' := hsC (fun k => qof (c k)) (qof g) 0 (m + 1)) (X' := hsR (fun k => l1q (qof (c k))) (l1q (qof g) + 2 * l1q (qof h)) 0 (m + 1)) t1 t2
  -- the words of the wide size
  have k0 : dgs .f32 = 16777216 := rfl
  obtain ⟨l1, l2⟩ := long1_cv hz (by omega) (by omega) (by omega) (by omega)
  obtain ⟨l3, l4⟩ := long1_cv hy (by omega) (by omega) (by omega) (by omega)
  obtain ⟨c1, c2⟩ := conv_up l4 (by omega) (by omega) (by omega)
  have v2' : V .f32 1073741824 (iv2 2 0) := ⟨false, 8388608, -22, by decide +kernel, by decide +kernel⟩
  obtain ⟨tw, e2, w2⟩ := ex_mul v2' l4 (by omega) (by omega) (by omega)
  rw [show (0 : Int) + -2 = -2 from rfl] at w2
  obtain ⟨qw, e3, w3⟩ := ex_add l2 w2 (by omega) (by omega) (by omega)
  have hcv : CV (qw, 0) ((g.1.natAbs : Int) + (g.2.natAbs : Int) + 2 * ((h.1.natAbs : Int) + (h.2.natAbs : Int))) 0 (-2) := ⟨w3, by have e0 : iv2 0 (-2) = 0 := by unfold iv2; simp
                                                                                                                                    rw [e0]; exact V_nil⟩
  have el : l1q (cq ((g.1.natAbs : Int) + (g.2.natAbs : Int) + 2 * ((h.1.natAbs : Int) + (h.2.natAbs : Int))) 0 (-2)) = l1q (qof g) + 2 * l1q (qof h) := by
    rw [l1_cq, l1_qof, l1_qof, iv2_q]
    have e9 : ((((g.1.natAbs : Int) + (g.2.natAbs : Int) + 2 * ((h.1.natAbs : Int) + (h.2.natAbs : Int))).natAbs : Int) + ((0 : Int).natAbs : Int)) = (g.1.natAbs : Int) + (g.2.natAbs : Int) + 2 * ((h.1.natAbs : Int) + (h.2.natAbs : Int)) := by omega
    rw [e9]
    push_cast
    grind
  obtain ⟨sz1, σ, sz2, sz3, sz4, sz5⟩ := size_z D hm hcv (by omega) (by omega) (by omega) (by omega) (by rw [el]; grind)
  rw [el] at sz5
  have hb := hs_dp D hm (Z := l1q (qof g) + 2 * l1q (qof h)) (by grind) (by grind)
  have hmono := hsR_mono (f := fun k => l1q (qof (c k))) hZ0 (show l1q (qof g) ≤ l1q (qof g) + 2 * l1q (qof h) by grind) (m + 1) 0 (fun i _ _ => l1_nonneg _)
  obtain ⟨f1, f2⟩ := near_400 a3 v2 (by omega) (by omega) Rat.le_refl hmono hb.2 sz2 sz3 (by grind) (by grind)
  rw [← l1_cq] at c2
  exact ⟨s1, lp_valid s2 D.one (by omega), d1, a1, _, _, _, _, l1, l3, e2, e3, sz1, c1, c2, f1, f2⟩
end
end Go.Proofs.Ytfbekiphlaaieaa
namespace Go.Proofs.Ytfbekiphlaaieaa

section
variable {m : Nat} {xs : List (Nat × Nat)} {c : Nat → GI} {z y : Nat × Nat} {g h : GI}
theorem qmul_one (q : Rat × Rat) : qmul q (1, 0) = q := by
  unfold qmul
  exact Prod.ext (by simp only; grind) (by simp only; grind)
/-- The stretched polynomial. -/
theorem chk_B (D : Dp (m + 1) xs c) (hm : m ≤ 5) (hz : CV z g.1 g.2 (-2)) (z1 : g.1.natAbs ≤ 16) (z2 : g.2.natAbs ≤ 16) (hy : CV y h.1 h.2 (-2)) (y1 : h.1.natAbs ≤ 16) (y2 : h.2.natAbs ≤ 16) :
    (∀ k, k < m + 1 → MulW (xs.getD k (0, 0)) (pwF y k) (mulF (xs.getD k (0, 0)) (pwF y k)) ∧ MulW (pwF y k) y (pwF y (k + 1))) ∧ Valid (mvSt (m + 1) xs y) ∧
    AtW (mvSt (m + 1) xs y) z (valF (mvSt (m + 1) xs y) z) ∧ MulW z y (mulF z y) ∧ AtW xs (mulF z y) (valF xs (mulF z y)) ∧ SzW xs (mulF z y) (sizeF m xs (mulF z y)) ∧
      FarW (valF (mvSt (m + 1) xs y) z) (valF xs (mulF z y)) (farG (valF (mvSt (m + 1) xs y) z) (valF xs (mulF z y))) ∧
      ChkW (farG (valF (mvSt (m + 1) xs y) z) (valF xs (mulF z y))) (sizeF m xs (mulF z y)) (g64 .add w1 (sizeF m xs (mulF z y))) (g64 .mul w001 (g64 .add w1 (sizeF m xs (mulF z y)))) := by
  obtain ⟨rz, bz⟩ := pt_rp hz z1 z2
  obtain ⟨ry, by_⟩ := pt_rp hy y1 y2
  have hZ0 := rz.lo.nonneg
  have hB0 := ry.lo.nonneg
  obtain ⟨s1, s2⟩ := st_lp D (by omega) ry by_
  have hXB : ∀ k, k < m + 1 → 0 ≤ l1q (qof (c k)) * pwR (l1q (qof h)) k ∧ l1q (qof (c k)) * pwR (l1q (qof h)) k ≤ 2097152 := by
    intro k hk
    have h1 := dX D k
    have h2 := pwR_bd hB0 by_ (show k ≤ 6 by omega)
    have h3 := Rat.mul_le_mul_of_nonneg_right h1.2 h2.1
    have h4 := Rat.mul_nonneg h1.1 h2.1
    exact ⟨h4, by grind⟩
  obtain ⟨a1, a2⟩ := at_lp s2 D.one (by omega) rz (by omega) (by omega) (M := 2097152) (W := 9) (fun k hk => (hXB k hk).2) (by decide) (by grind) (by decide +kernel) (by unfold big57; grind)
  have t1 := hsC_pow (fun k => qof (c k)) (qof h) (qof g) (m + 1) 0
  have t2 := hsR_pow (fun k => l1q (qof (c k))) (l1q (qof h)) (l1q (qof g)) (m + 1) 0
  have t3 : qmul (hsC (fun k => qof (c k)) (qmul (qof g) (qof h)) 0 (m + 1)) (pwC (qof h) 0) = hsC (fun k => qof (c k)) (qmul (qof g) (qof h)) 0 (m + 1) := qmul_one _
  have t4 : hsR (fun k => l1q (qof (c k))) (l1q (qof g) * l1q (qof h)) 0 (m + 1) * pwR (l1q (qof h)) 0 = hsR (fun k => l1q (qof (c k))) (l1q (qof g) * l1q (qof h)) 0 (m + 1) := Rat.mul_one _
  have a3 := a2.cast (t1.trans t3) (t2.trans t4)
  -- the product of the points, exactly
  have n1 := mul16 z1 y1
  have n2 := mul16 z2 y2
  have n3 := mul16 z1 y2
  have n4 := mul16 z2 y1
  obtain ⟨m1, m2⟩ := cv_mul hz hy (by omega) (by omega) (by omega) (by omega) (by omega) (by omega) (by omega) (by omega) (by omega) (by omega) (by omega) (by omega)
  have eq : cq (g.1 * h.1 - g.2 * h.2) (g.1 * h.2 + g.2 * h.1) (-2 + -2) = qmul (qof g) (qof h) := cq_mul g h (-2) (-2)
  have hlo : Lo (l1q (qmul (qof g) (qof h))) 4 := by
    rw [← eq]
    exact lo_cq _ _ 4
  have rm : Rp (mulF z y) (qmul (qof g) (qof h)) (l1q (qmul (qof g) (qof h))) 0 4 := by
    refine rp_exact ?_ ?_ hlo
    · rw [← eq]; exact m2.re
    · rw [← eq]; exact m2.im
  have hW := l1_mul (qof g) (qof h)
  have hW0 := l1_nonneg (qmul (qof g) (qof h))
  have hZB : l1q (qof g) * l1q (qof h) ≤ 64 := by
    have g1 := Rat.mul_le_mul_of_nonneg_right bz hB0
    grind
  have hZB0 := Rat.mul_nonneg hZ0 hB0
  obtain ⟨v1, v2⟩ := at_lp (dp_lp D) D.one (by omega) rm (by omega) (by omega) (M := 8) (W := 65) (fun k _ => dp_le8 D k) (by decide) (by grind) (by decide +kernel) (by unfold big57; grind)
  rw [dp_trim D] at v1 v2
  obtain ⟨sz1, σ, sz2, sz3, sz4, sz5⟩ := size_z D hm m2 (by omega) (by omega) (by omega) (by omega) (by rw [eq]; grind)
  rw [eq] at sz5
  have hb := hs_dp D hm hZB0 hZB
  have hb2 := hs_dp D hm hW0 (by grind)
  have hlow := l1_mul_low (qof g) (qof h)
  have hmono := hsR_mono (f := fun k => l1q (qof (c k))) hZB0 hlow (m + 1) 0 (fun i _ _ => l1_nonneg _)
  have hdbl := hsR_double (f := fun k => l1q (qof (c k))) hW0 m 0 (fun i _ _ => l1_nonneg _)
  have hp := pwR_up (show (1 : Rat) ≤ 2 by decide) hm
  have hp5 : pwR 2 5 = 32 := by decide +kernel
  rw [hp5] at hp
  have hp6 := Rat.mul_le_mul_of_nonneg_right hp hb2.1
  obtain ⟨f1, f2⟩ := near_100 a3 v2 (by omega) (by omega) (by grind) Rat.le_refl hb.2 hb2.2 sz2 sz3 (by grind) (by grind)
  exact ⟨s1, lp_valid s2 D.one (by omega), a1, m1, v1, sz1, f1, f2⟩
/-- The size at the point itself. -/
theorem size_p (D : Dp (m + 1) xs c) (hm : m ≤ 5) (hz : CV z g.1 g.2 (-2)) (z1 : g.1.natAbs ≤ 16) (z2 : g.2.natAbs ≤ 16) :
    SzW xs z (sizeF m xs z) ∧ ∃ σ, V .f64 (sizeF m xs z) σ ∧ 0 ≤ σ ∧ σ ≤ 1000000000000 ∧ 999 / 1000 * hsR (fun k => l1q (qof (c k))) (l1q (qof g)) 0 (m + 1) ≤ σ + 1 / 1000000000000 := by
  have e : l1q (cq g.1 g.2 (-2)) = l1q (qof g) := rfl
  have hs := size_z D hm hz (by omega) (by omega) (by omega) (by omega) (by rw [e]; have := (pt_rp hz z1 z2).2; grind)
  rw [e] at hs
  exact hs
/-- The scaled polynomial. -/
theorem chk_C (D : Dp (m + 1) xs c) (hm : m ≤ 5) (hz : CV z g.1 g.2 (-2)) (z1 : g.1.natAbs ≤ 16) (z2 : g.2.natAbs ≤ 16) (hy : CV y h.1 h.2 (-2)) (y1 : h.1.natAbs ≤ 16) (y2 : h.2.natAbs ≤ 16) {lw : Nat} (hl : V .f64 lw (l1q (qof h))) :
    (∀ k, k < m + 1 → MulW (xs.getD k (0, 0)) y (mulF (xs.getD k (0, 0)) y)) ∧ Valid (mvSc (m + 1) xs y) ∧ AtW (mvSc (m + 1) xs y) z (valF (mvSc (m + 1) xs y) z) ∧ MulW (valF xs z) y (mulF (valF xs z) y) ∧
      FarW (valF (mvSc (m + 1) xs y) z) (mulF (valF xs z) y) (farG (valF (mvSc (m + 1) xs y) z) (mulF (valF xs z) y)) ∧ ∃ sl, floatBits .mul .f64 (sizeF m xs z) lw = some sl ∧
      ChkW (farG (valF (mvSc (m + 1) xs y) z) (mulF (valF xs z) y)) sl (g64 .add w1 sl) (g64 .mul w001 (g64 .add w1 sl)) := by
  obtain ⟨rz, bz⟩ := pt_rp hz z1 z2
  obtain ⟨ry, by_⟩ := pt_rp hy y1 y2
  have hZ0 := rz.lo.nonneg
  have hB0 := ry.lo.nonneg
  obtain ⟨s1, s2⟩ := sc_lp D ry by_
  have hXB : ∀ k, k < m + 1 → l1q (qof (c k)) * l1q (qof h) ≤ 64 := by
    intro k hk
    have h1 := dX D k
    have h3 := Rat.mul_le_mul_of_nonneg_right h1.2 hB0
    grind
  obtain ⟨a1, a2⟩ := at_lp s2 D.one (by omega) rz (by omega) (by omega) (M := 64) (W := 9) (fun k hk => hXB k hk) (by decide) (by grind) (by decide +kernel) (by unfold big57; grind)
  have a3 := a2.cast (hsC_mul (fun k => qof (c k)) (qof h) (qof g) (m + 1) 0) (hsR_mul (fun k => l1q (qof (c k))) (l1q (qof h)) (l1q (qof g)) (m + 1) 0)
  obtain ⟨v1, v2⟩ := v_at D hm rz bz
  have hb := hs_big (X := fun k => l1q (qof (c k))) (W := 9) (M := 8) hZ0 (by grind) (by decide) (fun k _ => dX D k) (show m + 1 ≤ 6 by omega) (by decide +kernel)
  have hb9 : hsR (fun k => l1q (qof (c k))) (l1q (qof g)) 0 (m + 1) ≤ 4251528 := by
    have h1 := hsR_bound (f := fun k => l1q (qof (c k))) hZ0 (show l1q (qof g) + 1 ≤ 9 by grind) (show (0 : Rat) ≤ 8 by decide) (m + 1) 0 (fun i _ h2 => dX D i)
    have h2 := pwR_up (show (1 : Rat) ≤ 9 by decide) (show m + 1 ≤ 6 by omega)
    have h3 : pwR 9 6 = 531441 := by decide +kernel
    rw [h3] at h2
    grind
  have hVB := Rat.mul_le_mul_of_nonneg_right hb9 hB0
  have hVB0 := Rat.mul_nonneg hb.1 hB0
  obtain ⟨p1, p2⟩ := rp_mul v2 ry (by omega) (by omega) (by omega) hb.2 (by unfold big57; grind) (by unfold big57; grind)
  obtain ⟨_, σ, sz2, sz3, sz4, sz5⟩ := size_p D hm hz z1 z2
  have hσB := Rat.mul_nonneg sz3 hB0
  have hσB8 : σ * l1q (qof h) ≤ 1000000000000 * 8 := by
    have g1 := Rat.mul_le_mul_of_nonneg_right sz4 hB0
    grind
  obtain ⟨sl, ν, e1, r1⟩ := op_mul sz2 hl (by rw [t60]; unfold ab; grind)
  obtain ⟨n1, n2, n3⟩ := near_pos r1.near hσB
  have hMs := Rat.mul_le_mul_of_nonneg_right sz5 hB0
  obtain ⟨f1, f2⟩ := near_400 a3 p2 (by omega) (by omega) Rat.le_refl Rat.le_refl (by unfold big57; grind) r1.val n3 (by grind) (by
    have e2 : (σ + 1 / 1000000000000) * l1q (qof h) = σ * l1q (qof h) + 1 / 1000000000000 * l1q (qof h) := by grind
    have e3 : 999 / 1000 * hsR (fun k => l1q (qof (c k))) (l1q (qof g)) 0 (m + 1) * l1q (qof h) = 999 / 1000 * (hsR (fun k => l1q (qof (c k))) (l1q (qof g)) 0 (m + 1) * l1q (qof h)) := by grind
    rw [e2, e3] at hMs
    generalize hsR (fun k => l1q (qof (c k))) (l1q (qof g)) 0 (m + 1) * l1q (qof h) = M at *
    generalize σ * l1q (qof h) = S at *
    grind)
  exact ⟨s1, lp_valid s2 D.one (by omega), a1, p1, f1, sl, e1, f2⟩
/-- The parts. -/
theorem chk_D (D : Dp (m + 1) xs c) (hm : m ≤ 5) (hz : CV z g.1 g.2 (-2)) (z1 : g.1.natAbs ≤ 16) (z2 : g.2.natAbs ≤ 16) :
    Valid (mvEv (m + 1) xs) ∧ Valid (mvOd (m + 1) xs) ∧ AtW (mvEv (m + 1) xs) z (valF (mvEv (m + 1) xs) z) ∧ AtW (mvOd (m + 1) xs) z (valF (mvOd (m + 1) xs) z) ∧
      PlusW (valF (mvEv (m + 1) xs) z) (valF (mvOd (m + 1) xs) z) (plusF (valF (mvEv (m + 1) xs) z) (valF (mvOd (m + 1) xs) z)) ∧
      FarW (plusF (valF (mvEv (m + 1) xs) z) (valF (mvOd (m + 1) xs) z)) (valF xs z) (farG (plusF (valF (mvEv (m + 1) xs) z) (valF (mvOd (m + 1) xs) z)) (valF xs z)) ∧
      ChkW (farG (plusF (valF (mvEv (m + 1) xs) z) (valF (mvOd (m + 1) xs) z)) (valF xs z)) (sizeF m xs z) (g64 .add w1 (sizeF m xs z)) (g64 .mul w001 (g64 .add w1 (sizeF m xs z))) := by
  obtain ⟨rz, bz⟩ := pt_rp hz z1 z2
  have hZ0 := rz.lo.nonneg
  have hX8 : ∀ od k, 0 ≤ (if k % 2 = od then l1q (qof (c k)) else 0) ∧ (if k % 2 = od then l1q (qof (c k)) else 0) ≤ 8 := by
    intro od k
    have := dX D k
    split
    · exact this
    · exact ⟨Rat.le_refl, by decide⟩
  obtain ⟨a1, a2⟩ := at_lp (par_lp D 0) D.one (by omega) rz (by omega) (by omega) (M := 8) (W := 9) (fun k hk => (hX8 0 k).2) (by decide) (by grind) (by decide +kernel) (by unfold big57; grind)
  obtain ⟨b1, b2⟩ := at_lp (par_lp D 1) D.one (by omega) rz (by omega) (by omega) (M := 8) (W := 9) (fun k hk => (hX8 1 k).2) (by decide) (by grind) (by decide +kernel) (by unfold big57; grind)
  have hb0 := hs_big (X := fun k => if k % 2 = 0 then l1q (qof (c k)) else 0) (W := 9) (M := 8) hZ0 (by grind) (by decide) (fun k _ => hX8 0 k) (show m + 1 ≤ 6 by omega) (by decide +kernel)
  have hb1 := hs_big (X := fun k => if k % 2 = 1 then l1q (qof (c k)) else 0) (W := 9) (M := 8) hZ0 (by grind) (by decide) (fun k _ => hX8 1 k) (show m + 1 ≤ 6 by omega) (by decide +kernel)
  obtain ⟨p1, p2⟩ := rp_plus (c := 48) (k := 14) a2 b2 (by omega) (by omega) (by omega) (by omega) (by omega) (by omega) hb0.2 hb1.2
  have p3 := p2.cast (par_sum (fun k => qof (c k)) (qof g) (m + 1)) (par_sumR (fun k => l1q (qof (c k))) (l1q (qof g)) (m + 1))
  obtain ⟨v1, v2⟩ := v_at D hm rz bz
  obtain ⟨_, σ, sz2, sz3, sz4, sz5⟩ := size_p D hm hz z1 z2
  have hb := hs_dp D hm hZ0 (by grind)
  obtain ⟨f1, f2⟩ := near_400 p3 v2 (by omega) (by omega) Rat.le_refl Rat.le_refl hb.2 sz2 sz3 (by grind) (by grind)
  exact ⟨lp_valid (par_lp D 0) D.one (by omega), lp_valid (par_lp D 1) D.one (by omega), a1, b1, p1, f1, f2⟩
/-- The joined polynomial. -/
theorem chk_E (D : Dp (m + 1) xs c) (hm : m ≤ 5) (hz : CV z g.1 g.2 (-2)) (z1 : g.1.natAbs ≤ 16) (z2 : g.2.natAbs ≤ 16) :
    Valid (mvJo (m + 1) xs) ∧ AtW (mvJo (m + 1) xs) (conjF z) (valF (mvJo (m + 1) xs) (conjF z)) ∧
      FarW (valF (mvJo (m + 1) xs) (conjF z)) (conjF (valF xs z)) (farG (valF (mvJo (m + 1) xs) (conjF z)) (conjF (valF xs z))) ∧
      ChkW (farG (valF (mvJo (m + 1) xs) (conjF z)) (conjF (valF xs z))) (sizeF m xs z) (g64 .add w1 (sizeF m xs z)) (g64 .mul w001 (g64 .add w1 (sizeF m xs z))) := by
  obtain ⟨rz, bz⟩ := pt_rp hz z1 z2
  have hZ0 := rz.lo.nonneg
  obtain ⟨a1, a2⟩ := at_lp (jo_lp D) D.one (by omega) (rp_conj rz) (by omega) (by omega) (M := 8) (W := 9) (fun k hk => dp_le8 D k) (by decide) (by grind) (by decide +kernel) (by unfold big57; grind)
  have a3 := a2.cast (conj_sum (fun k => qof (c k)) (qof g) (m + 1) 0) rfl
  obtain ⟨v1, v2⟩ := v_at D hm rz bz
  obtain ⟨_, σ, sz2, sz3, sz4, sz5⟩ := size_p D hm hz z1 z2
  have hb := hs_dp D hm hZ0 (by grind)
  obtain ⟨f1, f2⟩ := near_400 a3 (rp_conj v2) (by omega) (by omega) Rat.le_refl Rat.le_refl hb.2 sz2 sz3 (by grind) (by grind)
  exact ⟨lp_valid (jo_lp D) D.one (by omega), a1, f1, f2⟩
/-- The slope of the rise. -/
theorem chk_F (D : Dp (m + 1) xs c) (hm : m ≤ 5) (k : Nat) (hk : k < m + 1) :
    FarW ((mvSl (m + 1) xs).getD k (0, 0)) (xs.getD k (0, 0)) (farG ((mvSl (m + 1) xs).getD k (0, 0)) (xs.getD k (0, 0))) ∧ Long1W (xs.getD k (0, 0)) (long1F (xs.getD k (0, 0))) ∧ cv64 (long1F (xs.getD k (0, 0))) = some (u64w (long1F (xs.getD k (0, 0)))) ∧
      ChkW (farG ((mvSl (m + 1) xs).getD k (0, 0)) (xs.getD k (0, 0))) (u64w (long1F (xs.getD k (0, 0)))) (g64 .add w1 (u64w (long1F (xs.getD k (0, 0))))) (g64 .mul w001 (g64 .add w1 (u64w (long1F (xs.getD k (0, 0)))))) := by
  have hs := D.sm k
  have h8 := dX D k
  obtain ⟨l1, l2, c1, c2⟩ := long1_q (D.cv k hk) (by omega) (by omega)
  rw [(slope_rise D (by omega)).2.2 k hk]
  obtain ⟨f1, f2⟩ := near_400 (rise_rp D (by omega) k hk).2.2.2 ((dp_lp D).rp k hk) (by omega) (by omega) Rat.le_refl Rat.le_refl (by unfold big57; grind) c2 h8.1 (by grind) (by grind)
  exact ⟨f1, l1, c1, f2⟩
/-- The told slopes: the first is the value. -/
theorem chk_G (D : Dp (m + 1) xs c) (hm : m ≤ 5) (hz : CV z g.1 g.2 (-2)) (z1 : g.1.natAbs ≤ 16) (z2 : g.2.natAbs ≤ 16) :
    ShiftW z (m + 1) xs ∧ AllNum (shPass z (m + 1) xs (m + 1)) ∧
      FarW ((shPass z (m + 1) xs (m + 1)).getD 0 (0, 0)) (valF xs z) (farG ((shPass z (m + 1) xs (m + 1)).getD 0 (0, 0)) (valF xs z)) ∧
      ChkW (farG ((shPass z (m + 1) xs (m + 1)).getD 0 (0, 0)) (valF xs z)) (sizeF m xs z) (g64 .add w1 (sizeF m xs z)) (g64 .mul w001 (g64 .add w1 (sizeF m xs z))) := by
  obtain ⟨rz, bz⟩ := pt_rp hz z1 z2
  have hZ0 := rz.lo.nonneg
  obtain ⟨s1, s2⟩ := sh_lp D (by omega) rz bz
  have a3 := (s2.rp 0 (by omega)).cast (firstC (m + 1) (fun k => qof (c k)) (qof g) (by omega)) (firstR (m + 1) (fun k => l1q (qof (c k))) (l1q (qof g)) (by omega))
  obtain ⟨v1, v2⟩ := v_at D hm rz bz
  obtain ⟨_, σ, sz2, sz3, sz4, sz5⟩ := size_p D hm hz z1 z2
  have hb := hs_dp D hm hZ0 (by grind)
  obtain ⟨f1, f2⟩ := near_400 a3 v2 (by omega) (by omega) Rat.le_refl Rat.le_refl hb.2 sz2 sz3 (by grind) (by grind)
  exact ⟨s1, fun j hj => (s2.rp j (by rw [← s2.len]; exact hj)).num, f1, f2⟩
end
end Go.Proofs.Ytfbekiphlaaieaa
namespace Go.Proofs.Ytfbekiphlaaieaa

/-- The comparison with two sizes. -/
theorem chk_two {fw sw tw : Nat} {f σ υ : Rat} (hf : V .f64 fw f) (hs : V .f64 sw σ) (ht : V .f64 tw υ) (h0 : 0 ≤ σ) (hb : σ ≤ 1000000000000) (h1 : 0 ≤ υ) (hb1 : υ ≤ 1000000000000) (hle : f ≤ 9 / 10000 * (1 + υ)) :
    ∃ e8 a8 b9 m9, floatBits .mul .f64 4620693217682128896 sw = some e8 ∧ floatBits .add .f64 4607182418800017408 e8 = some a8 ∧ floatBits .add .f64 a8 tw = some b9 ∧ floatBits .mul .f64 4562254508917369340 b9 = some m9 ∧ (FloatKind.f64.format.order fw m9 == some .gt) = false := by
  have v8 : V .f64 4620693217682128896 8 := ⟨false, 4503599627370496, -49, by decide +kernel, by decide +kernel⟩
  obtain ⟨e8, ε, e1, r1⟩ := op_mul v8 hs (by rw [t60]; unfold ab; grind)
  obtain ⟨k1, k2, k3⟩ := near_pos r1.near (show 0 ≤ 8 * σ by grind)
  obtain ⟨a8, α, e2, r2⟩ := op_add V_w1 r1.val (by rw [t60]; unfold ab; grind)
  obtain ⟨l1, l2, l3⟩ := near_pos r2.near (show 0 ≤ 1 + ε by grind)
  obtain ⟨b9, β, e3, r3⟩ := op_add r2.val ht (by rw [t60]; unfold ab; grind)
  obtain ⟨n1, n2, n3⟩ := near_pos r3.near (show 0 ≤ α + υ by grind)
  have hv := V_w001
  have hc : (9999 : Rat) / 10000000 ≤ 4611686018427388 / 4611686018427387904 ∧ (4611686018427388 : Rat) / 4611686018427387904 ≤ 1 / 999 := by decide +kernel
  generalize (4611686018427388 : Rat) / 4611686018427387904 = μ at *
  have hp := Rat.mul_nonneg (show 0 ≤ μ by grind) n3
  have hp2 : μ * β ≤ 1 / 999 * β := Rat.mul_le_mul_of_nonneg_right hc.2 n3
  have hp3 : 9999 / 10000000 * β ≤ μ * β := Rat.mul_le_mul_of_nonneg_right hc.1 n3
  obtain ⟨m9, ν, e4, r4⟩ := op_mul hv r3.val (by rw [t60]; unfold ab; grind)
  obtain ⟨q1, q2, q3⟩ := near_pos r4.near hp
  exact ⟨e8, a8, b9, m9, e1, e2, e3, e4, gt_false hf r4.val (by grind)⟩
section
variable {m : Nat} {xs : List (Nat × Nat)} {c : Nat → GI} {z y : Nat × Nat} {g h : GI}
theorem fi_at (D : Dp (m + 1) xs c) (hm : m ≤ 5) (hz : CV z g.1 g.2 (-2)) (z1 : g.1.natAbs ≤ 16) (z2 : g.2.natAbs ≤ 16) :
    Valid (mvFi xs) ∧ AtW (mvFi xs) z (valF (mvFi xs) z) := by
  obtain ⟨rz, bz⟩ := pt_rp hz z1 z2
  have hZ0 := rz.lo.nonneg
  by_cases e : m = 0
  · subst e
    have hl : Lp 1 (slopeC xs) (fun _ => (0, 0)) (fun _ => 0) 0 2 := by
      rw [fi_one D.len]
      refine ⟨rfl, fun k hk => ?_⟩
      have : k = 0 := by omega
      subst this
      exact rp_nil
    obtain ⟨a1, _⟩ := at_lp hl (by omega) (by omega) rz (by omega) (by omega) (M := 1) (W := 9) (fun k hk => by decide) (by decide) (by grind) (by decide +kernel) (by unfold big57; grind)
    exact ⟨a1.1, a1⟩
  · have hl := fi_lp D (by omega) (by omega)
    obtain ⟨a1, _⟩ := at_lp hl (by omega) (by omega) rz (by omega) (by omega) (M := 40) (W := 9) (fun k hk => by
      have h1 := sgi_sm D (by omega) k
      have h2 := l1_qof_le h1.1 h1.2
      have e40 : ((80 : Nat) : Rat) / 2 = 40 := by decide +kernel
      rw [e40] at h2
      exact h2) (by decide) (by grind) (by decide +kernel) (by unfold big57; grind)
    exact ⟨a1.1, a1⟩
/-- The second told slope. -/
theorem chk_H (D : Dp (m + 1) xs c) (hm : m ≤ 5) (hz : CV z g.1 g.2 (-2)) (z1 : g.1.natAbs ≤ 16) (z2 : g.2.natAbs ≤ 16) (h2 : 1 < m + 1) :
    ∃ f7 e8 a8 s9 b9 m9, FarW ((shPass z (m + 1) xs (m + 1)).getD 1 (0, 0)) (valF (mvFi xs) z) f7 ∧ floatBits .mul .f64 4620693217682128896 (sizeF m xs z) = some e8 ∧ floatBits .add .f64 4607182418800017408 e8 = some a8 ∧ SzW (mvFi xs) z s9 ∧ floatBits .add .f64 a8 s9 = some b9 ∧ floatBits .mul .f64 4562254508917369340 b9 = some m9 ∧ (FloatKind.f64.format.order f7 m9 == some .gt) = false := by
  obtain ⟨rz, bz⟩ := pt_rp hz z1 z2
  have hZ0 := rz.lo.nonneg
  obtain ⟨s1, s2⟩ := sh_lp D (by omega) rz bz
  have a2 := (s2.rp 1 (by omega)).cast (secondC (m + 1) (fun k => qof (c k)) (qof g) (by omega)) (secondR (m + 1) (fun k => l1q (qof (c k))) (l1q (qof g)) (by omega))
  have hX : ∀ k, l1q (qof (sgi c k)) ≤ 40 := by
    intro k
    have h1 := sgi_sm D (by omega) k
    have h2 := l1_qof_le h1.1 h1.2
    have e40 : ((80 : Nat) : Rat) / 2 = 40 := by decide +kernel
    rw [e40] at h2
    exact h2
  have t1 : hsC (fun k => qmul (qof (c (k + 1))) ((((k + 1 : Nat) : Rat), (0 : Rat)) : Rat × Rat)) (qof g) 0 (m + 1 - 1) = hsC (fun k => qof (sgi c k)) (qof g) 0 (m + 1 - 1) := hsC_congr _ _ fun i _ _ => (qof_sgi i).symm
  have t2 : hsR (fun k => l1q (qof (c (k + 1))) * ((k + 1 : Nat) : Rat)) (l1q (qof g)) 0 (m + 1 - 1) = hsR (fun k => l1q (qof (sgi c k))) (l1q (qof g)) 0 (m + 1 - 1) := hsR_congr _ _ fun i _ _ => (l1_sgi i).symm
  have a3 := a2.cast t1 t2
  obtain ⟨_, b2⟩ := at_lp (fi_lp D (by omega) (by omega)) (by omega) (by omega) rz (by omega) (by omega) (M := 40) (W := 9) (fun k hk => hX k) (by decide) (by grind) (by decide +kernel) (by unfold big57; grind)
  have hbM := hs_big (X := fun k => l1q (qof (sgi c k))) (W := 9) (M := 40) hZ0 (by grind) (by decide) (fun k _ => ⟨l1_nonneg _, hX k⟩) (show m + 1 - 1 ≤ 6 by omega) (by decide +kernel)
  obtain ⟨hF, f, vf, f0, fb⟩ := far_rp (a3.up (show 288 ≤ 400 by omega) (Nat.le_refl _)) (b2.up (show 0 + (m + 1 - 1) * (0 + 8) ≤ 400 by omega) (Nat.le_refl _)) (by omega) (by omega) hbM.2 hbM.2
  obtain ⟨_, f3, f4⟩ := fi_more D.len (by omega)
  obtain ⟨m', rfl⟩ : ∃ m', m = m' + 1 := ⟨m - 1, by omega⟩
  have e : l1q (cq g.1 g.2 (-2)) = l1q (qof g) := rfl
  obtain ⟨sz1, υ, u2, u3, u4, u5⟩ := size_at (xs := slopeC xs) (c := sgi c) (m := m') (by rw [f3, Nat.add_sub_cancel]) (fun k hk => by rw [f4 k (by omega)]; exact (fi_cv D (by omega) k (by omega)).2) (sgi_sm D (by omega)) (by omega) hz (by omega) (by omega) (by omega) (by omega) (by rw [e]; grind)
  rw [e] at u5
  obtain ⟨_, σ, sz2, sz3, sz4, sz5⟩ := size_p D hm hz z1 z2
  rw [Nat.add_sub_cancel] at fb
  have hfb : f ≤ 9 / 10000 * (1 + υ) := by
    have e400 : ((400 : Nat) : Rat) = 400 := rfl
    rw [e400, eps_val] at fb
    have u6 : 999 / 1000 * hsR (fun k => l1q (qof (sgi c k))) (l1q (qof g)) 0 (m' + 1) ≤ υ + 1 / 1000000000000 := u5
    generalize hsR (fun k => l1q (qof (sgi c k))) (l1q (qof g)) 0 (m' + 1) = M at *
    clear u5 sz5 sz4 sz3 f0 hbM
    grind
  obtain ⟨e8, a8, b9, m9, g1, g2, g3, g4, g5⟩ := chk_two vf sz2 u2 sz3 sz4 u3 u4 hfb
  have et := fi_trim D (by omega)
  have sz6 : SzW (mvFi xs) z (sizeF m' (slopeC xs) z) := by rw [et]; exact sz1
  exact ⟨_, e8, a8, _, b9, m9, hF, g1, g2, sz6, g3, g4, g5⟩
end
/-- All facts. -/
theorem moves_facts (n : Nat) (xs : List (Nat × Nat)) (z y : Nat × Nat) (h1 : 1 ≤ n) (h6 : n ≤ 6) (hd : DPoly n xs) (hz : Drawn4 z) (hy : Drawn4 y) : Nonempty (MF n xs z y) := by
  obtain ⟨m, rfl⟩ : ∃ m, n = m + 1 := ⟨n - 1, by omega⟩
  obtain ⟨c, D⟩ := dp_of hd h1
  obtain ⟨g, cz, z1, z2, _⟩ := drawn4_cv hz
  obtain ⟨h, cy, y1, y2, _⟩ := drawn4_cv hy
  have hm : m ≤ 5 := by omega
  obtain ⟨rz, bz⟩ := pt_rp cz z1 z2
  obtain ⟨A1, A2, A3, A4, lz, ly, tw, qw, A5, A6, A7, A8, A9, A10, A11, A12, A13⟩ := chk_A D hm cz z1 z2 cy y1 y2
  obtain ⟨B1, B2, B3, B4, B5, B6, B7, B8⟩ := chk_B D hm cz z1 z2 cy y1 y2
  obtain ⟨C1, C2, C3, C4, C5, sl, C6, C7⟩ := chk_C D hm cz z1 z2 cy y1 y2 A11
  obtain ⟨D1, D2, D3, D4, D5, D6, D7⟩ := chk_D D hm cz z1 z2
  obtain ⟨E1, E2, E3, E4⟩ := chk_E D hm cz z1 z2
  obtain ⟨G1, G2, G3, G4⟩ := chk_G D hm cz z1 z2
  obtain ⟨I1, I2⟩ := fi_at D hm cz z1 z2
  obtain ⟨v1, _⟩ := v_at D hm rz bz
  obtain ⟨S1, _⟩ := size_p D hm cz z1 z2
  obtain ⟨R1, R2⟩ := rise_facts D h6
  obtain ⟨L1, L2, L3⟩ := slope_rise D h6
  obtain ⟨qf, M1, M2⟩ := mono_facts D
  have hrl := rise_len (m + 1) xs
  exact ⟨{
    valid := dp_valid D h6
    nz := cz.num
    ny := cy.num
    shW := A1
    shV := A2
    stW := B1
    stV := B2
    scW := C1
    scV := C2
    evV := D1
    odV := D2
    joV := E1
    riQ := fun k hk => ⟨(rec_rp (show k < 6 by omega)).1, (rise_rp D h6 k hk).1⟩
    riV := R2
    slW := fun k hk hk2 => by
      rw [R1, hrl] at hk2
      obtain ⟨j, rfl⟩ : ∃ j, k = j + 1 := ⟨k - 1, by omega⟩
      rw [R1, rise_get j (by omega)]
      exact (rise_rp D h6 j (by omega)).2.2.1
    slV := L2
    v := _
    s := _
    d := _
    vW := v1
    dW := A3
    sW := A4
    lz := lz
    ly := ly
    tw := tw
    qw := qw
    wide := _
    f1 := _
    o1 := _
    m1 := _
    lzW := A5
    lyW := A6
    twW := A7
    qwW := A8
    wideW := A9
    f1W := A12
    c1 := A13
    t := _
    m := _
    mv := _
    c := _
    e := _
    o := _
    j := _
    vy := _
    eo := _
    tW := B3
    mW := B4
    mvW := B5
    cW := C3
    eW := D3
    oW := D4
    jW := E2
    size := _
    sizeW := S1
    f2 := _
    o2 := _
    m2 := _
    size2 := _
    f2W := B7
    size2W := B6
    c2 := B8
    f3 := _
    o3 := _
    m3 := _
    ly64 := _
    sl := sl
    vyW := C4
    f3W := C5
    lyC := A10
    slM := C6
    c3 := C7
    f4 := _
    o4 := _
    m4 := _
    eoW := D5
    f4W := D6
    c4 := D7
    f5 := _
    f5W := E3
    c5 := E4
    slL := L1
    fk := fun k => farG ((mvSl (m + 1) xs).getD k (0, 0)) (xs.getD k (0, 0))
    lk := fun k => long1F (xs.getD k (0, 0))
    wk := fun k => u64w (long1F (xs.getD k (0, 0)))
    ok := fun k => g64 .add w1 (u64w (long1F (xs.getD k (0, 0))))
    mks := fun k => g64 .mul w001 (g64 .add w1 (u64w (long1F (xs.getD k (0, 0)))))
    fkW := fun k hk => (chk_F D hm k hk).1
    lkW := fun k hk => (chk_F D hm k hk).2.1
    wkW := fun k hk => (chk_F D hm k hk).2.2.1
    ck := fun k hk => (chk_F D hm k hk).2.2.2
    liW := G1
    liN := G2
    fiW := fun k hk hk2 => by
      obtain ⟨j, rfl⟩ : ∃ j, k = j + 1 := ⟨k - 1, by omega⟩
      exact (fi_cv D h6 j (by omega)).1
    fiV := I1
    dv := _
    dvW := I2
    f6 := _
    f6W := G3
    c6 := G4
    more := fun h => chk_H D hm cz z1 z2 h
    qf := qf
    moZ := fun e => by
      have h9 := dp_top D
      rw [e] at h9
      exact h9
    moQ := M1
    moT := (M2 (by omega)).1
    moV := (M2 (by omega)).2
    wi := fun h => within_facts D (by omega)
    trim := dp_trim D
    thL := fun k hk => thin_facts D k hk
    same := fun j hj => wide_facts D j (by rw [← D.len]; exact hj) }⟩
end Go.Proofs.Ytfbekiphlaaieaa
