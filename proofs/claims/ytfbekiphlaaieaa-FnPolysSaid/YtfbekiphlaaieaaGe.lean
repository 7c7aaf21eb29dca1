/- The words of the polynomial of drawn roots: exact; its values at its roots: exact. Condition: at most five roots. -/
import Derived.Test.YtfbekiphlaaieaaGd
namespace Go.Proofs.Ytfbekiphlaaieaa

def PW (zs : List (Nat × Nat)) : Nat → List (Nat × Nat)
  | 0 => [(1065353216, 0)]
  | t + 1 => (List.range (t + 2)).map fun k => minusF (if k = 0 then (0, 0) else (PW zs t).getD (k - 1) (0, 0)) (mulF (zs.getD t (0, 0)) ((PW zs t).getD k (0, 0)))
theorem PW_len (zs : List (Nat × Nat)) (t : Nat) : (PW zs t).length = t + 1 := by
  cases t <;> simp [PW]
theorem PW_get (zs : List (Nat × Nat)) (t k : Nat) (h : k < t + 2) : (PW zs (t + 1)).getD k (0, 0) = minusF (if k = 0 then (0, 0) else (PW zs t).getD (k - 1) (0, 0)) (mulF (zs.getD t (0, 0)) ((PW zs t).getD k (0, 0))) := by
  rw [PW]
  simp [List.getD, h]
/-- The roots are quarters of whole complex numbers, not too great. -/
structure Roots (n : Nat) (zs : List (Nat × Nat)) (Z : Nat → GI) : Prop where
  len : zs.length = n
  few : n ≤ 5
  cv : ∀ j, j < n → CV (zs.getD j (0, 0)) (Z j).1 (Z j).2 (-2)
  sm : ∀ j, j < n → nrm (Z j) ≤ 23 * 23
  bd : ∀ j, j < n → (Z j).1.natAbs ≤ 16 ∧ (Z j).2.natAbs ≤ 16
theorem roots_of {n : Nat} {zs : List (Nat × Nat)} (hl : zs.length = n) (hn : n ≤ 5) (hd : ∀ j, j < n → Drawn (zs.getD j (0, 0))) : ∃ Z, Roots n zs Z := by
  have h' : ∀ j, ∃ g : GI, j < n → CV (zs.getD j (0, 0)) g.1 g.2 (-2) ∧ nrm g ≤ 23 * 23 ∧ g.1.natAbs ≤ 16 ∧ g.2.natAbs ≤ 16 := by
    intro j
    by_cases hj : j < n
    · obtain ⟨x, y, h1, h2, h3, h4, v1, v2⟩ := hd j hj
      have e : two (-2) = 1 / 4 := by decide +kernel
      refine ⟨(x, y), fun _ => ⟨⟨?_, ?_⟩, ?_, by show x.natAbs ≤ 16; omega, by show y.natAbs ≤ 16; omega⟩⟩
      · have e2 : iv2 x (-2) = (x : Rat) / 4 := by unfold iv2; rw [e]; grind
        show V .f32 _ (iv2 x (-2))
        rw [e2]; exact v1
      · have e2 : iv2 y (-2) = (y : Rat) / 4 := by unfold iv2; rw [e]; grind
        show V .f32 _ (iv2 y (-2))
        rw [e2]; exact v2
      · have a1 : x * x ≤ 256 := by
          have b1 : 0 ≤ (16 - x) * (16 + x) := Int.mul_nonneg (by omega) (by omega)
          have e3 : (16 - x) * (16 + x) = 256 - x * x := by grind
          omega
        have a2 : y * y ≤ 256 := by
          have b1 : 0 ≤ (16 - y) * (16 + y) := Int.mul_nonneg (by omega) (by omega)
          have e3 : (16 - y) * (16 + y) = 256 - y * y := by grind
          omega
        unfold nrm
        show x * x + y * y ≤ 23 * 23
        omega
    · exact ⟨(0, 0), fun h => absurd h hj⟩
  exact ⟨fun j => Classical.choose (h' j), hl, hn, fun j hj => (Classical.choose_spec (h' j) hj).1, fun j hj => (Classical.choose_spec (h' j) hj).2.1, fun j hj => (Classical.choose_spec (h' j) hj).2.2⟩
theorem pow_le {t : Nat} (h : t ≤ 5) : (24 : Int) ^ t ≤ 7962624 ∧ 1 ≤ (24 : Int) ^ t := by
  have : t = 0 ∨ t = 1 ∨ t = 2 ∨ t = 3 ∨ t = 4 ∨ t = 5 := by omega
  rcases this with rfl | rfl | rfl | rfl | rfl | rfl <;> decide
theorem pow_le4 {t : Nat} (h : t ≤ 4) : (24 : Int) ^ t ≤ 331776 ∧ 1 ≤ (24 : Int) ^ t := by
  have : t = 0 ∨ t = 1 ∨ t = 2 ∨ t = 3 ∨ t = 4 := by omega
  rcases this with rfl | rfl | rfl | rfl | rfl <;> decide
theorem part_small {g : GI} {B : Int} (hB : 0 ≤ B) (hb : B ≤ 7962624) (h : nrm g ≤ B * B) : g.1.natAbs ≤ 7962624 ∧ g.2.natAbs ≤ 7962624 := by
  have := part_le hB h
  omega
theorem mul_small {z g : GI} (hz : nrm z ≤ 23 * 23) {B : Int} (hB : 0 ≤ B) (hb : B ≤ 331776) (h : nrm g ≤ B * B) : (gmul z g).1.natAbs ≤ 7630848 ∧ (gmul z g).2.natAbs ≤ 7630848 := by
  have h2 : nrm (gmul z g) ≤ (23 * B) * (23 * B) := by
    rw [nrm_mul]
    have h3 : nrm z * nrm g ≤ (23 * 23) * nrm g := Int.mul_le_mul_of_nonneg_right hz (nrm_nonneg _)
    have h4 : (23 * 23) * nrm g ≤ (23 * 23) * (B * B) := Int.mul_le_mul_of_nonneg_left h (by omega)
    have e : (23 * B) * (23 * B) = (23 * 23) * (B * B) := by grind
    omega
  have := part_le (by omega : 0 ≤ 23 * B) h2
  omega
theorem z_small {z : GI} (hz : nrm z ≤ 23 * 23) : z.1.natAbs ≤ 23 ∧ z.2.natAbs ≤ 23 := by
  have := part_le (B := 23) (by omega) hz
  omega
theorem cv_gmul {x y : Nat × Nat} {g h : GI} {p s : Int} (hx : CV x g.1 g.2 p) (hy : CV y h.1 h.2 s) (hg : g.1.natAbs < 16777216 ∧ g.2.natAbs < 16777216) (hh : h.1.natAbs < 16777216 ∧ h.2.natAbs < 16777216)
    (hm : (gmul g h).1.natAbs < 16777216 ∧ (gmul g h).2.natAbs < 16777216) (hp : -100 ≤ p) (hp' : p ≤ 4) (hs : -100 ≤ s) (hs' : s ≤ 4) (hps : -100 ≤ p + s) (hps' : p + s ≤ 4) : MulW x y (mulF x y) ∧ CV (mulF x y) (gmul g h).1 (gmul g h).2 (p + s) :=
  cv_mul hx hy hg.1 hg.2 hh.1 hh.2 hm.1 hm.2 (by omega) hp' (by omega) hs' (by omega) hps'

theorem PW_step {n : Nat} {zs : List (Nat × Nat)} {Z : Nat → GI} (R : Roots n zs Z) (t : Nat) (ht : t < n) (ih' : ∀ k, k ≤ t + 1 → CV ((PW zs t).getD k (0, 0)) (coefG Z t k).1 (coefG Z t k).2 (2 * (k : Int) - 2 * (t : Int))) (k : Nat) (hk : k ≤ t + 1) :
    MulW (zs.getD t (0, 0)) ((PW zs t).getD k (0, 0)) (mulF (zs.getD t (0, 0)) ((PW zs t).getD k (0, 0))) ∧
    MinusW (if k = 0 then (0, 0) else (PW zs t).getD (k - 1) (0, 0)) (mulF (zs.getD t (0, 0)) ((PW zs t).getD k (0, 0))) ((PW zs (t + 1)).getD k (0, 0)) ∧
    CV ((PW zs (t + 1)).getD k (0, 0)) (coefG Z (t + 1) k).1 (coefG Z (t + 1) k).2 (2 * (k : Int) - 2 * ((t + 1 : Nat) : Int)) := by
  have hf := R.few
  have hZ : ∀ j, j < t → nrm (Z j) ≤ 23 * 23 := fun j hj => R.sm j (by omega)
  have hp := pow_le4 (show t ≤ 4 by omega)
  rw [PW_get zs t k (by omega)]
  have hzc := R.cv t (by omega)
  have hzs := z_small (R.sm t (by omega))
  have hcn := coef_nrm t hZ k
  have hcs := part_small (by omega) (by omega) hcn
  have hms := mul_small (R.sm t (by omega)) (by omega) hp.1 hcn
  obtain ⟨hm0, hm⟩ := (cv_gmul hzc (ih' k (by omega)) (by omega) (by omega) (by omega) (by omega) (by omega) (by omega) (by omega) (by omega) (by omega))
  have eu : -2 + (2 * (k : Int) - 2 * (t : Int)) = 2 * (k : Int) - 2 * ((t + 1 : Nat) : Int) := by omega
  rw [eu] at hm
  have ha : CV (if k = 0 then (0, 0) else (PW zs t).getD (k - 1) (0, 0)) (if k = 0 then ((0, 0) : GI) else coefG Z t (k - 1)).1 (if k = 0 then ((0, 0) : GI) else coefG Z t (k - 1)).2 (2 * (k : Int) - 2 * ((t + 1 : Nat) : Int)) := by
    by_cases h0 : k = 0
    · simp only [h0, if_true]
      exact CV.zero _
    · simp only [h0, if_false]
      have h1 := ih' (k - 1) (by omega)
      have e2 : 2 * ((k - 1 : Nat) : Int) - 2 * (t : Int) = 2 * (k : Int) - 2 * ((t + 1 : Nat) : Int) := by omega
      rw [e2] at h1
      exact h1
  have hcn1 := coef_nrm (t + 1) (fun j hj => R.sm j (by omega)) k
  have hp1 := pow_le (show t + 1 ≤ 5 by omega)
  have hr := part_small (by omega) hp1.1 hcn1
  have er : coefG Z (t + 1) k = gsub (if k = 0 then (0, 0) else coefG Z t (k - 1)) (gmul (Z t) (coefG Z t k)) := rfl
  rw [er] at hr ⊢
  have h9 := cv_minus ha hm (by unfold gsub at hr; omega) (by unfold gsub at hr; omega) (by omega) (by omega)
  exact ⟨hm0, h9.1, h9.2⟩
/-- The terms' words. -/
theorem PW_cv {n : Nat} {zs : List (Nat × Nat)} {Z : Nat → GI} (R : Roots n zs Z) (t : Nat) (ht : t ≤ n) : (∀ k, k ≤ t + 1 → CV ((PW zs t).getD k (0, 0)) (coefG Z t k).1 (coefG Z t k).2 (2 * (k : Int) - 2 * (t : Int))) := by
  induction t with
  | zero =>
    intro k hk
    rcases Nat.eq_zero_or_pos k with h | h
    · subst h
      have h1 : V .f32 1065353216 (iv2 1 0) := ⟨false, 8388608, -23, by decide +kernel, by decide +kernel⟩
      have h0 : V .f32 0 (iv2 0 0) := ⟨false, 0, -149, by decide +kernel, by decide +kernel⟩
      exact ⟨h1, h0⟩
    · obtain rfl : k = 1 := by omega
      exact CV.zero _
  | succ t ih =>
    have ih' := ih (by omega)
    intro k hk
    by_cases hk2 : k = t + 2
    · subst hk2
      have e : (PW zs (t + 1)).getD (t + 2) (0, 0) = (0, 0) := by
        simp only [List.getD, List.getElem?_eq_none (by rw [PW_len]; omega : (PW zs (t + 1)).length ≤ t + 2)]
        rfl
      rw [e, coef_above Z (t + 1) (t + 2) (by omega)]
      exact CV.zero _
    · exact (PW_step R t (by omega) ih' k (by omega)).2.2
theorem PW_roots {n : Nat} {zs : List (Nat × Nat)} {Z : Nat → GI} (R : Roots n zs Z) : RootsW zs (PW zs) (fun t k => mulF (zs.getD t (0, 0)) ((PW zs t).getD k (0, 0))) := by
  have hl := R.len
  refine ⟨rfl, fun t _ => PW_len zs t, fun t k ht hk => ?_, fun t ht => ?_, fun t k ht hk => ?_⟩
  · exact (PW_step R t (by omega) (PW_cv R t (by omega)) k (by omega)).1
  · have := (PW_step R t (by omega) (PW_cv R t (by omega)) 0 (by omega)).2.1
    simpa using this
  · have := (PW_step R t (by omega) (PW_cv R t (by omega)) (k + 1) (by omega)).2.1
    simpa using this

/-- Horner's values from above. -/
def hv (p : List (Nat × Nat)) (n : Nat) (z : Nat × Nat) : Nat → Nat × Nat
  | 0 => p.getD n (0, 0)
  | j + 1 => plusF (mulF (hv p n z j) z) (p.getD (n - 1 - j) (0, 0))
def vsF (p : List (Nat × Nat)) (n : Nat) (z : Nat × Nat) (k : Nat) : Nat × Nat := hv p n z (n - k)
def msF (p : List (Nat × Nat)) (n : Nat) (z : Nat × Nat) (k : Nat) : Nat × Nat := mulF (hv p n z (n - k - 1)) z
theorem horner_of {p : List (Nat × Nat)} {n : Nat} {z : Nat × Nat} (hp : p.length = n + 1) (h : ∀ j, j < n → MulW (hv p n z j) z (mulF (hv p n z j) z) ∧ PlusW (mulF (hv p n z j) z) (p.getD (n - 1 - j) (0, 0)) (hv p n z (j + 1))) : Horner p z (vsF p n z) (msF p n z) := by
  have hl : p.length - 1 = n := by omega
  refine ⟨?_, fun k hk => ?_, fun k hk => ?_⟩
  · rw [hl]
    unfold vsF
    rw [Nat.sub_self]
    rfl
  · have h1 := (h (n - k - 1) (by omega)).1
    unfold vsF msF
    have e : n - (k + 1) = n - k - 1 := by omega
    rw [e]
    exact h1
  · have h1 := (h (n - k - 1) (by omega)).2
    unfold vsF msF
    have e : n - 1 - (n - k - 1) = k := by omega
    have e2 : n - k - 1 + 1 = n - k := by omega
    rw [e, e2] at h1
    exact h1

/-- The quotient's terms, one place up. -/
def upG (D : Nat → GI) (k : Nat) : GI := if k = 0 then (0, 0) else D (k - 1)
theorem up_step (z : GI) (D : Nat → GI) (k : Nat) : gadd (gmul (upG D (k + 1)) z) (stepG z D k) = upG D k := by
  unfold upG stepG
  rw [if_neg (by omega), Nat.add_sub_cancel]
  unfold gadd gmul gsub
  refine Prod.ext ?_ ?_ <;> simp only <;> grind
theorem hv_root {n : Nat} {zs : List (Nat × Nat)} {Z : Nat → GI} (R : Roots (n + 1) zs Z) (i : Nat) (hi : i < n + 1) (D : Nat → GI) (hD : coefG Z (n + 1) = stepG (Z i) D) (hB : ∀ k, nrm (D k) ≤ (24 : Int) ^ n * (24 : Int) ^ n) (h0 : ∀ k, n < k → D k = (0, 0)) :
    (∀ j, j ≤ n + 1 → CV (hv (PW zs (n + 1)) (n + 1) (zs.getD i (0, 0)) j) (upG D (n + 1 - j)).1 (upG D (n + 1 - j)).2 (-2 * (j : Int))) ∧
    ∀ j, j < n + 1 → MulW (hv (PW zs (n + 1)) (n + 1) (zs.getD i (0, 0)) j) (zs.getD i (0, 0)) (mulF (hv (PW zs (n + 1)) (n + 1) (zs.getD i (0, 0)) j) (zs.getD i (0, 0))) ∧ PlusW (mulF (hv (PW zs (n + 1)) (n + 1) (zs.getD i (0, 0)) j) (zs.getD i (0, 0))) ((PW zs (n + 1)).getD (n + 1 - 1 - j) (0, 0)) (hv (PW zs (n + 1)) (n + 1) (zs.getD i (0, 0)) (j + 1)) := by
  have hf := R.few
  have hp := pow_le4 (show n ≤ 4 by omega)
  have hzc := R.cv i hi
  have hzs := z_small (R.sm i hi)
  have hC := PW_cv R (n + 1) (Nat.le_refl _)
  have hupn : ∀ k, nrm (upG D k) ≤ (24 : Int) ^ n * (24 : Int) ^ n := by
    intro k
    unfold upG
    split
    · have := sq_nonneg ((24 : Int) ^ n); unfold nrm; simp; omega
    · exact hB _
  have hups : ∀ k, (upG D k).1.natAbs ≤ 7962624 ∧ (upG D k).2.natAbs ≤ 7962624 := fun k => part_small (by omega) (by omega) (hupn k)
  have step : ∀ j, j < n + 1 → CV (hv (PW zs (n + 1)) (n + 1) (zs.getD i (0, 0)) j) (upG D (n + 1 - j)).1 (upG D (n + 1 - j)).2 (-2 * (j : Int)) →
      MulW (hv (PW zs (n + 1)) (n + 1) (zs.getD i (0, 0)) j) (zs.getD i (0, 0)) (mulF (hv (PW zs (n + 1)) (n + 1) (zs.getD i (0, 0)) j) (zs.getD i (0, 0))) ∧ PlusW (mulF (hv (PW zs (n + 1)) (n + 1) (zs.getD i (0, 0)) j) (zs.getD i (0, 0))) ((PW zs (n + 1)).getD (n + 1 - 1 - j) (0, 0)) (hv (PW zs (n + 1)) (n + 1) (zs.getD i (0, 0)) (j + 1)) ∧
      CV (hv (PW zs (n + 1)) (n + 1) (zs.getD i (0, 0)) (j + 1)) (upG D (n + 1 - (j + 1))).1 (upG D (n + 1 - (j + 1))).2 (-2 * ((j + 1 : Nat) : Int)) := by
    intro j hj hc
    have hcomm : gmul (upG D (n + 1 - j)) (Z i) = gmul (Z i) (upG D (n + 1 - j)) := by unfold gmul; refine Prod.ext ?_ ?_ <;> simp only <;> grind
    have hms := mul_small (R.sm i hi) (by omega) hp.1 (hupn (n + 1 - j))
    rw [← hcomm] at hms
    have hu := hups (n + 1 - j)
    obtain ⟨m1, m2⟩ := cv_gmul hc hzc (by omega) (by omega) (by omega) (by omega) (by omega) (by omega) (by omega) (by omega) (by omega)
    have hck := hC (n + 1 - 1 - j) (by omega)
    have e1 : 2 * ((n + 1 - 1 - j : Nat) : Int) - 2 * ((n + 1 : Nat) : Int) = -2 * (j : Int) + -2 := by omega
    rw [e1, hD] at hck
    have hus := up_step (Z i) D (n + 1 - 1 - j)
    have e2 : n + 1 - 1 - j + 1 = n + 1 - j := by omega
    have e3 : n + 1 - (j + 1) = n + 1 - 1 - j := by omega
    rw [e2] at hus
    have hu2 := hups (n + 1 - 1 - j)
    rw [← hus] at hu2
    obtain ⟨p1, p2⟩ := cv_plus m2 hck (by unfold gadd at hu2; omega) (by unfold gadd at hu2; omega) (by omega) (by omega)
    refine ⟨m1, p1, ?_⟩
    rw [e3, ← hus]
    have e4 : -2 * ((j + 1 : Nat) : Int) = -2 * (j : Int) + -2 := by omega
    rw [e4]
    exact p2
  have all : ∀ j, j ≤ n + 1 → CV (hv (PW zs (n + 1)) (n + 1) (zs.getD i (0, 0)) j) (upG D (n + 1 - j)).1 (upG D (n + 1 - j)).2 (-2 * (j : Int)) := by
    intro j
    induction j with
    | zero =>
      intro _
      have h1 := hC (n + 1) (by omega)
      have e1 : coefG Z (n + 1) (n + 1) = upG D (n + 1 - 0) := by
        rw [hD]
        unfold stepG upG
        rw [if_neg (by omega), h0 (n + 1) (by omega), gmul_zero]
        simp only [Nat.sub_zero, Nat.add_sub_cancel]
        rw [if_neg (by omega)]
        unfold gsub
        simp
      rw [e1] at h1
      have e2 : 2 * ((n + 1 : Nat) : Int) - 2 * ((n + 1 : Nat) : Int) = -2 * ((0 : Nat) : Int) := by omega
      rw [e2] at h1
      exact h1
    | succ j ih =>
      intro hj
      exact (step j (by omega) (ih (by omega))).2.2
  exact ⟨all, fun j hj => ⟨(step j hj (all j (by omega))).1, (step j hj (all j (by omega))).2.1⟩⟩
end Go.Proofs.Ytfbekiphlaaieaa
