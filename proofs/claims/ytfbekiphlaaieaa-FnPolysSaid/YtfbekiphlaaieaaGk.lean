/- Horner's values at a root of the polynomial of drawn roots: they obey the recursion over the rational numbers, and their sizes are bounded by the sums of sizes. Condition: at most five roots. -/
import Derived.Test.YtfbekiphlaaieaaGj
namespace Go.Proofs.Ytfbekiphlaaieaa

def l1q (a : Rat × Rat) : Rat := ab a.1 + ab a.2
theorem l1_mul (a b : Rat × Rat) : l1q (qmul a b) ≤ l1q a * l1q b := by
  unfold l1q qmul
  have h1 := ab_sub (a.1 * b.1) (a.2 * b.2)
  have h2 := ab_add (a.1 * b.2) (a.2 * b.1)
  rw [ab_mul, ab_mul] at h1 h2
  simp only
  grind
theorem l1_add (a b : Rat × Rat) : l1q (qadd a b) ≤ l1q a + l1q b := by
  unfold l1q qadd
  have h1 := ab_add a.1 b.1
  have h2 := ab_add a.2 b.2
  simp only
  grind
theorem ab_sq (x : Rat) : ab x * ab x = x * x := by unfold ab; split <;> grind
theorem nq_l1 (a : Rat × Rat) : nq a ≤ l1q a * l1q a := by
  unfold nq l1q
  have h1 := ab_sq a.1
  have h2 := ab_sq a.2
  have h3 := Rat.mul_nonneg (ab_nonneg a.1) (ab_nonneg a.2)
  grind
theorem l1_nonneg (a : Rat × Rat) : 0 ≤ l1q a := by
  have h1 := ab_nonneg a.1
  have h2 := ab_nonneg a.2
  unfold l1q; grind
theorem l1_cq (a b p : Int) : l1q (cq a b p) = iv2 ((a.natAbs : Int) + (b.natAbs : Int)) p := by
  unfold l1q cq
  simp only
  rw [ab_iv2, ab_iv2]
  unfold iv2
  push_cast
  grind
theorem sq_le_of {l N s : Rat} (h : Sq l N) (hs : 0 ≤ s) (hN : N ≤ s * s) : l ≤ s * (1 + 1 / 1000000) := by
  refine sq_anti (by grind) ?_
  have h1 := h.low
  have h2 := Rat.mul_nonneg hs hs
  have h3 := Rat.mul_nonneg h.pos h.pos
  have e : s * (1 + 1 / 1000000) * (s * (1 + 1 / 1000000)) = s * s * ((1 + 1 / 1000000) * (1 + 1 / 1000000)) := by grind
  rw [e]
  generalize s * s = S at *
  generalize l * l = L at *
  grind
theorem cq_mul (g h : GI) (p s : Int) : cq (gmul g h).1 (gmul g h).2 (p + s) = qmul (cq g.1 g.2 p) (cq h.1 h.2 s) := by
  unfold cq qmul gmul iv2
  rw [two_add]
  refine Prod.ext ?_ ?_ <;> simp only <;> push_cast <;> grind
theorem cq_add (g h : GI) (p : Int) : cq (gadd g h).1 (gadd g h).2 p = qadd (cq g.1 g.2 p) (cq h.1 h.2 p) := by
  unfold cq qadd gadd iv2
  refine Prod.ext ?_ ?_ <;> simp only <;> push_cast <;> grind

set_option maxHeartbeats 1000000 in
theorem root_facts {m : Nat} {zs : List (Nat × Nat)} {Z : Nat → GI} (R : Roots (m + 1) zs Z) (i : Nat) (hi : i < m + 1) :
    Horner (PW zs (m + 1)) (zs.getD i (0, 0)) (vsF (PW zs (m + 1)) (m + 1) (zs.getD i (0, 0))) (msF (PW zs (m + 1)) (m + 1) (zs.getD i (0, 0))) ∧
    (∃ q, CV (hv (PW zs (m + 1)) (m + 1) (zs.getD i (0, 0)) (m + 1)) 0 0 q ∧ -10 ≤ q ∧ q ≤ 0) ∧
    (∃ v : Nat → Rat × Rat, (∀ k, k < m + 1 → v k = qadd (qmul (v (k + 1)) (cq (Z i).1 (Z i).2 (-2))) (cq (coefG Z (m + 1) k).1 (coefG Z (m + 1) k).2 (2 * (k : Int) - 2 * ((m + 1 : Nat) : Int)))) ∧ v 0 = (0, 0) ∧ v (m + 1) = cq (coefG Z (m + 1) (m + 1)).1 (coefG Z (m + 1) (m + 1)).2 (2 * ((m + 1 : Nat) : Int) - 2 * ((m + 1 : Nat) : Int))) ∧
    ∃ ls : Nat → Rat, Vals (m + 1) (PW zs (m + 1)) (zs.getD i (0, 0)) (fun j => sx (m + 1) (W1 (coefG Z (m + 1)) (fun k => 2 * (k : Int) - 2 * ((m + 1 : Nat) : Int))) (iv2 (((Z i).1.natAbs : Int) + ((Z i).2.natAbs : Int)) (-2)) (j + 1)) ls := by
  have hf := R.few
  obtain ⟨D, hD, hB, h0⟩ := coef_quot (Z := Z) m R.sm i hi
  obtain ⟨hcv, hmp⟩ := hv_root R i hi D hD hB h0
  have hlen := PW_len zs (m + 1)
  have hp4 := pow_le4 (show m ≤ 4 by omega)
  have hupn : ∀ k, nrm (upG D k) ≤ (24 : Int) ^ m * (24 : Int) ^ m := by
    intro k
    unfold upG
    split
    · have := sq_nonneg ((24 : Int) ^ m); unfold nrm; simp; omega
    · exact hB _
  have hups : ∀ k, (upG D k).1.natAbs ≤ 7962624 ∧ (upG D k).2.natAbs ≤ 7962624 := fun k => part_small (by omega) (by omega) (hupn k)
  have hrec : ∀ k, k < m + 1 → cq (upG D k).1 (upG D k).2 (2 * (k : Int) - 2 * ((m + 1 : Nat) : Int)) = qadd (qmul (cq (upG D (k + 1)).1 (upG D (k + 1)).2 (2 * ((k + 1 : Nat) : Int) - 2 * ((m + 1 : Nat) : Int))) (cq (Z i).1 (Z i).2 (-2))) (cq (coefG Z (m + 1) k).1 (coefG Z (m + 1) k).2 (2 * (k : Int) - 2 * ((m + 1 : Nat) : Int))) := by
    intro k hk
    have h1 := up_step (Z i) D k
    rw [← hD] at h1
    rw [← cq_mul]
    have e : 2 * ((k + 1 : Nat) : Int) - 2 * ((m + 1 : Nat) : Int) + -2 = 2 * (k : Int) - 2 * ((m + 1 : Nat) : Int) := by omega
    rw [e, ← cq_add, h1]
  have htop : upG D (m + 1) = coefG Z (m + 1) (m + 1) := by
    rw [hD]
    unfold stepG upG
    rw [if_neg (by omega), h0 (m + 1) (by omega), gmul_zero]
    unfold gsub
    simp
  refine ⟨horner_of hlen hmp, ⟨-2 * ((m + 1 : Nat) : Int), ?_, by omega, by omega⟩, ⟨fun k => cq (upG D k).1 (upG D k).2 (2 * (k : Int) - 2 * ((m + 1 : Nat) : Int)), hrec, ?_, ?_⟩, ?_⟩
  · have h1 := hcv (m + 1) (Nat.le_refl _)
    rw [Nat.sub_self] at h1
    exact h1
  · show cq (upG D 0).1 (upG D 0).2 _ = _
    unfold upG cq iv2
    simp
  · show cq (upG D (m + 1)).1 (upG D (m + 1)).2 _ = _
    rw [htop]
  · -- the sizes
    have T := terms_of R
    obtain ⟨ξ, hξ⟩ : ∃ ξ, ξ = iv2 (((Z i).1.natAbs : Int) + ((Z i).2.natAbs : Int)) (-2) := ⟨_, rfl⟩
    have hx0 : 0 ≤ ξ := by rw [hξ]; exact iv2_nonneg (by omega)
    have hl1z : l1q (cq (Z i).1 (Z i).2 (-2)) = ξ := by rw [l1_cq, hξ]
    rw [← hξ]
    have hsz : ∀ j, j ≤ m + 2 → 0 ≤ sx (m + 1) (W1 (coefG Z (m + 1)) (fun k => 2 * (k : Int) - 2 * ((m + 1 : Nat) : Int))) ξ j ∧ sx (m + 1) (W1 (coefG Z (m + 1)) (fun k => 2 * (k : Int) - 2 * ((m + 1 : Nat) : Int))) ξ j ≤ 30000000000000 := by
      intro j hj
      have hx8 : ξ ≤ 8 := by
        have hb := R.bd i hi
        have e : two (-2) = 1 / 4 := by decide +kernel
        rw [hξ]
        unfold iv2
        rw [e]
        have h2 : (((Z i).1.natAbs : Int) + ((Z i).2.natAbs : Int) : Rat) ≤ ((32 : Int) : Rat) := by
          have : ((((Z i).1.natAbs : Int) + ((Z i).2.natAbs : Int) : Int) : Rat) ≤ ((32 : Int) : Rat) := Rat.intCast_le_intCast.2 (by omega)
          push_cast at this ⊢
          exact this
        have e3 : ((32 : Int) : Rat) = 32 := rfl
        push_cast at h2 ⊢
        grind
      have hbd := R.bd i hi
      have hvx : ∃ x, V .f64 x ξ := by
        obtain ⟨l1, l2⟩ := long1_cv (R.cv i hi) (by omega) (by omega) (by omega) (by omega)
        obtain ⟨c1, c2⟩ := conv_up l2 (by omega) (by omega) (by omega)
        exact ⟨_, by rw [hξ]; exact c2⟩
      obtain ⟨x, hx⟩ := hvx
      obtain ⟨σ, _, _, _, _, h5, h6, _⟩ := size_of T (by omega) hx hx0 hx8 j (by omega)
      have := (Hj_all (show j ≤ 6 by omega)).2
      exact ⟨h5, by grind⟩
    have hA : ∀ j, j ≤ m + 1 → l1q (cq (upG D (m + 1 - j)).1 (upG D (m + 1 - j)).2 (-2 * (j : Int))) ≤ sx (m + 1) (W1 (coefG Z (m + 1)) (fun k => 2 * (k : Int) - 2 * ((m + 1 : Nat) : Int))) ξ (j + 1) := by
      intro j
      induction j with
      | zero =>
        intro _
        rw [Nat.sub_zero, htop, l1_cq]
        unfold sx sx W1
        simp only [Nat.sub_zero]
        have e : (2 * ((m + 1 : Nat) : Int) - 2 * ((m + 1 : Nat) : Int)) = -2 * ((0 : Nat) : Int) := by omega
        rw [e]
        grind
      | succ j ih =>
        intro hj
        have h1 := ih (by omega)
        have h2 := hrec (m + 1 - (j + 1)) (by omega)
        have e1 : m + 1 - (j + 1) + 1 = m + 1 - j := by omega
        have e2 : 2 * ((m + 1 - (j + 1) : Nat) : Int) - 2 * ((m + 1 : Nat) : Int) = -2 * ((j + 1 : Nat) : Int) := by omega
        have e3 : 2 * ((m + 1 - j : Nat) : Int) - 2 * ((m + 1 : Nat) : Int) = -2 * (j : Int) := by omega
        rw [e1, e2, e3] at h2
        rw [h2]
        have h3 := l1_add (qmul (cq (upG D (m + 1 - j)).1 (upG D (m + 1 - j)).2 (-2 * (j : Int))) (cq (Z i).1 (Z i).2 (-2))) (cq (coefG Z (m + 1) (m + 1 - (j + 1))).1 (coefG Z (m + 1) (m + 1 - (j + 1))).2 (-2 * ((j + 1 : Nat) : Int)))
        have h4 := l1_mul (cq (upG D (m + 1 - j)).1 (upG D (m + 1 - j)).2 (-2 * (j : Int))) (cq (Z i).1 (Z i).2 (-2))
        rw [hl1z] at h4
        have h5 := Rat.mul_le_mul_of_nonneg_right h1 hx0
        have e4 : l1q (cq (coefG Z (m + 1) (m + 1 - (j + 1))).1 (coefG Z (m + 1) (m + 1 - (j + 1))).2 (-2 * ((j + 1 : Nat) : Int))) = W1 (coefG Z (m + 1)) (fun k => 2 * (k : Int) - 2 * ((m + 1 : Nat) : Int)) (m + 1 - (j + 1)) := by
          rw [l1_cq]
          unfold W1
          simp only [e2]
        have e5 : sx (m + 1) (W1 (coefG Z (m + 1)) (fun k => 2 * (k : Int) - 2 * ((m + 1 : Nat) : Int))) ξ (j + 1 + 1) = sx (m + 1) (W1 (coefG Z (m + 1)) (fun k => 2 * (k : Int) - 2 * ((m + 1 : Nat) : Int))) ξ (j + 1) * ξ + W1 (coefG Z (m + 1)) (fun k => 2 * (k : Int) - 2 * ((m + 1 : Nat) : Int)) (m + 1 - (j + 1)) := rfl
        rw [e5, ← e4]
        grind
    have hl : ∀ j, ∃ l, j ≤ m + 1 → LongW (hv (PW zs (m + 1)) (m + 1) (zs.getD i (0, 0)) j) (longF (hv (PW zs (m + 1)) (m + 1) (zs.getD i (0, 0)) j)) ∧ V .f32 (longF (hv (PW zs (m + 1)) (m + 1) (zs.getD i (0, 0)) j)) l ∧ 0 ≤ l ∧ l ≤ sx (m + 1) (W1 (coefG Z (m + 1)) (fun k => 2 * (k : Int) - 2 * ((m + 1 : Nat) : Int))) ξ (j + 1) * (1 + 1 / 1000000) ∧ l ≤ 67200000 := by
      intro j
      by_cases hj : j ≤ m + 1
      · have hu := hups (m + 1 - j)
        obtain ⟨g1, l, g2, g3, g4, _⟩ := long_cv (hcv j hj) (by omega) (by omega) (by omega) (by omega)
        refine ⟨l, fun _ => ⟨g1, g2, g3.pos, sq_le_of g3 (hsz (j + 1) (by omega)).1 ?_, g4⟩⟩
        have h1 := nq_l1 (cq (upG D (m + 1 - j)).1 (upG D (m + 1 - j)).2 (-2 * (j : Int)))
        have h2 := sq_mono (l1_nonneg _) (hA j hj)
        grind
      · exact ⟨0, fun h => absurd h hj⟩
    refine ⟨fun j => Classical.choose (hl j), ⟨fun j hj => Classical.choose_spec (hl j) hj, fun j hj => hsz (j + 1) (by omega)⟩⟩
end Go.Proofs.Ytfbekiphlaaieaa
