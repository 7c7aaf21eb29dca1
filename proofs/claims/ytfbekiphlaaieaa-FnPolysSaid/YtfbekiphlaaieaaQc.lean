/- The words of sums, products, weighed sums and products by halves near exact values; the law of the polynomials, first part. Condition: drawn terms, drawn points or their halves. -/
import Derived.Test.YtfbekiphlaaieaaQb
import Derived.Test.YtfbekiphlaaieaaNb
import Derived.Test.YtfbekiphlaaieaaNe
namespace Go.Proofs.Ytfbekiphlaaieaa

theorem at_lpN {N : Nat} {L : List (Nat × Nat)} {Q : Nat → Rat × Rat} {X : Nat → Rat} {a i : Nat} (H : Lp N L Q X a i) (hN1 : 1 ≤ N) (hN : N ≤ 17) {zw : Nat × Nat} {z : Rat × Rat} {Z : Rat} {b e : Nat} (hz : Rp zw z Z b e)
    (ha : a + N * (b + 8) ≤ 500) (hi : i + N * e + e ≤ 100) {M W : Rat} (hX : ∀ k, k < N → X k ≤ M) (hM : 0 ≤ M) (hW : Z + 1 ≤ W) (hMW : M * pwR W (N + 1) ≤ big57) (hZb : Z ≤ big57) :
    AtW (trimC L) zw (valF (trimC L) zw) ∧ Rp (valF (trimC L) zw) (hsC Q z 0 N) (hsR X Z 0 N) (a + N * (b + 8)) (i + N * e) := by
  have hZ0 := hz.lo.nonneg
  have hW1 : 1 ≤ W := by grind
  have hb : ∀ m, m ≤ N + 1 → M * pwR W m ≤ big57 := fun m hm => Rat.le_trans (Rat.mul_le_mul_of_nonneg_left (pwR_up hW1 hm) hM) hMW
  obtain ⟨h1, h2⟩ := poly_val H hN1 hz ha hi hZb (fun k hk => by
    have h3 := hsR_bound hZ0 hW hM (N - k) k (fun j h1 h2 => ⟨(H.rp j (by omega)).lo.nonneg, hX j (by omega)⟩)
    have h0 := hsR_nonneg hZ0 (N - k) k (fun j h1 h2 => (H.rp j (by omega)).lo.nonneg)
    refine ⟨?_, Rat.le_trans h3 (hb _ (by omega)), ?_⟩
    · have h4 := hb 0 (by omega)
      have h5 : M * pwR W 0 = M := by unfold pwR; grind
      rw [h5] at h4
      exact Rat.le_trans (hX k hk) h4
    · have h4 := hb (N - k + 1) (by omega)
      have h5 : M * pwR W (N - k + 1) = M * pwR W (N - k) * W := by rw [pwR]; grind
      rw [h5] at h4
      have h6 := Rat.mul_le_mul_of_nonneg_right h3 hZ0
      have h7 : M * pwR W (N - k) * Z ≤ M * pwR W (N - k) * W := Rat.mul_le_mul_of_nonneg_left (by grind) (by grind)
      grind)
  refine ⟨⟨valid_trim (by rw [H.len]; exact hN1) (by rw [H.len]; omega) (fun j hj => (H.rp j (by rw [← H.len]; exact hj)).num), hz.num, _, _, h1, h2.num, rfl⟩, h2⟩
theorem lp_zip {n : Nat} {f : Nat → Nat × Nat} {Q : Nat → Rat × Rat} {X : Nat → Rat} {a i : Nat} (h : ∀ k, k < n → Rp (f k) (Q k) (X k) a i) : Lp n (zipW n f) Q X a i :=
  ⟨zipW_len n f, fun k hk => by rw [zipW_get n f k hk]; exact h k hk⟩
/-- The words of all places of a list, those that are missing too. -/
structure Ap (xs : List (Nat × Nat)) (Q : Nat → Rat × Rat) (X : Nat → Rat) (a i : Nat) (M : Rat) : Prop where
  rp : ∀ k, Rp (xs.getD k (0, 0)) (Q k) (X k) a i
  le : ∀ k, X k ≤ M
theorem dp_ap {n : Nat} {xs : List (Nat × Nat)} {c : Nat → GI} (D : Dp n xs c) : Ap xs (fun k => qof (c k)) (fun k => l1q (qof (c k))) 0 2 8 := by
  refine ⟨fun k => ?_, fun k => dp_le8 D k⟩
  by_cases hk : k < n
  · exact (dp_lp D).rp k hk
  · have e : xs.getD k (0, 0) = (0, 0) := by
      rw [List.getD_eq_getElem?_getD, List.getElem?_eq_none (by rw [D.len]; omega)]
      rfl
    have e2 : qof (c k) = (0, 0) := by
      rw [D.out k (by omega)]
      unfold qof cq iv2
      simp
    rw [e, e2, l1_zero]
    exact rp_nil
theorem Ap.lp {xs : List (Nat × Nat)} {Q : Nat → Rat × Rat} {X : Nat → Rat} {a i : Nat} {M : Rat} (h : Ap xs Q X a i M) : Lp xs.length xs Q X a i := ⟨rfl, fun k _ => h.rp k⟩
/-- Sums. -/
theorem sum_lp {xs ys : List (Nat × Nat)} {Q R : Nat → Rat × Rat} {X Y : Nat → Rat} {a b c i j k : Nat} {M N : Rat} (hx : Ap xs Q X a i M) (hy : Ap ys R Y b j N) (hac : a ≤ c) (hbc : b ≤ c) (hc : c ≤ 500) (hik : i ≤ k) (hjk : j ≤ k) (hk : k ≤ 100) (hM : M ≤ big57) (hN : N ≤ big57) (n : Nat) :
    (∀ t, PlusW (xs.getD t (0, 0)) (ys.getD t (0, 0)) (sumF xs ys t)) ∧ Lp n (zipW n (sumF xs ys)) (fun t => qadd (Q t) (R t)) (fun t => X t + Y t) (c + 2) k := by
  have key : ∀ t, PlusW (xs.getD t (0, 0)) (ys.getD t (0, 0)) (sumF xs ys t) ∧ Rp (sumF xs ys t) (qadd (Q t) (R t)) (X t + Y t) (c + 2) k := fun t =>
    rp_plus (hx.rp t) (hy.rp t) hac hbc hc hik hjk hk (Rat.le_trans (hx.le t) hM) (Rat.le_trans (hy.le t) hN)
  exact ⟨fun t => (key t).1, lp_zip fun t _ => (key t).2⟩
/-- The exact sums of products. -/
def cvC (Q R : Nat → Rat × Rat) (m k : Nat) : Nat → Rat × Rat
  | 0 => (0, 0)
  | i + 1 => if i ≤ k ∧ k - i < m then qadd (cvC Q R m k i) (qmul (Q i) (R (k - i))) else cvC Q R m k i
def cvR (X Y : Nat → Rat) (m k : Nat) : Nat → Rat
  | 0 => 0
  | i + 1 => if i ≤ k ∧ k - i < m then cvR X Y m k i + X i * Y (k - i) else cvR X Y m k i
theorem cvR_le {X Y : Nat → Rat} {M N : Rat} (m k : Nat) (hX : ∀ t, 0 ≤ X t ∧ X t ≤ M) (hY : ∀ t, 0 ≤ Y t ∧ Y t ≤ N) (i : Nat) : 0 ≤ cvR X Y m k i ∧ cvR X Y m k i ≤ (i : Rat) * (M * N) := by
  have hM : 0 ≤ M := by have := hX 0; grind
  have hN : 0 ≤ N := by have := hY 0; grind
  have hMN := Rat.mul_nonneg hM hN
  induction i with
  | zero => exact ⟨Rat.le_refl, by unfold cvR; grind⟩
  | succ i ih =>
    rw [cvR]
    have e : ((i + 1 : Nat) : Rat) * (M * N) = (i : Rat) * (M * N) + M * N := by push_cast; grind
    rw [e]
    split
    · have h1 := hX i
      have h2 := hY (k - i)
      have h3 := Rat.mul_nonneg h1.1 h2.1
      have h4 := Rat.mul_le_mul_of_nonneg_right h1.2 h2.1
      have h5 := Rat.mul_le_mul_of_nonneg_left h2.2 hM
      constructor <;> grind
    · constructor <;> grind
/-- Products. -/
theorem prod_rp {xs ys : List (Nat × Nat)} {Q R : Nat → Rat × Rat} {X Y : Nat → Rat} {a b i j : Nat} {M N : Rat} (hx : Ap xs Q X a i M) (hy : Ap ys R Y b j N) (hij : i + j ≤ 100) (hM : M ≤ 10000000) (hN : N ≤ 1000) (m k : Nat) (t : Nat) (ha : a + b + 6 + 2 * t ≤ 500) (ht : t ≤ 16) :
    Rp (prA xs ys m k t) (cvC Q R m k t) (cvR X Y m k t) (a + b + 6 + 2 * t) (i + j) ∧ (∀ s, s < t → s ≤ k → k - s < m → MulW (xs.getD s (0, 0)) (ys.getD (k - s) (0, 0)) (mulF (xs.getD s (0, 0)) (ys.getD (k - s) (0, 0))) ∧ PlusW (prA xs ys m k s) (mulF (xs.getD s (0, 0)) (ys.getD (k - s) (0, 0))) (plusF (prA xs ys m k s) (mulF (xs.getD s (0, 0)) (ys.getD (k - s) (0, 0))))) := by
  have hX : ∀ t, 0 ≤ X t ∧ X t ≤ M := fun t => ⟨(hx.rp t).lo.nonneg, hx.le t⟩
  have hY : ∀ t, 0 ≤ Y t ∧ Y t ≤ N := fun t => ⟨(hy.rp t).lo.nonneg, hy.le t⟩
  induction t with
  | zero => exact ⟨rp_nil.up (Nat.zero_le _) (Nat.le_refl _), fun s hs => absurd hs (Nat.not_lt_zero _)⟩
  | succ t ih =>
    obtain ⟨h1, h2⟩ := ih (by omega) (by omega)
    have hc := cvR_le m k hX hY t
    have hMN : M * N ≤ 10000000 * 1000 := by
      have hM0 : 0 ≤ M := by have := hX 0; grind
      have hN0 : 0 ≤ N := by have := hY 0; grind
      have g1 := Rat.mul_le_mul_of_nonneg_right hM hN0
      grind
    have ht16 : (t : Rat) ≤ 16 := by exact_mod_cast (show t ≤ 16 by omega)
    have hcb : cvR X Y m k t ≤ big57 := by
      have hMN0 : 0 ≤ M * N := Rat.mul_nonneg (by have := hX 0; grind) (by have := hY 0; grind)
      have g1 := Rat.mul_le_mul_of_nonneg_right ht16 hMN0
      unfold big57
      grind
    rw [prA, cvC, cvR]
    by_cases hin : t ≤ k ∧ k - t < m
    · rw [if_pos hin, if_pos hin, if_pos hin]
      have hXt := hX t
      have hYt := hY (k - t)
      have hXY : X t * Y (k - t) ≤ big57 := by
        have g1 := Rat.mul_le_mul_of_nonneg_right hXt.2 hYt.1
        have g2 := Rat.mul_le_mul_of_nonneg_left hYt.2 (show 0 ≤ M by grind)
        unfold big57
        grind
      obtain ⟨m1, m2⟩ := rp_mul (hx.rp t) (hy.rp (k - t)) (by omega) (by omega) hij (by unfold big57; grind) (by unfold big57; grind) hXY
      obtain ⟨p1, p2⟩ := rp_plus (c := a + b + 6 + 2 * t) (k := i + j) h1 m2 (Nat.le_refl _) (by omega) (by omega) (Nat.le_refl _) (Nat.le_refl _) hij hcb hXY
      refine ⟨p2.up (by omega) (Nat.le_refl _), fun s hs hsk hsm => ?_⟩
      by_cases e : s = t
      · subst e; exact ⟨m1, p1⟩
      · exact h2 s (by omega) hsk hsm
    · rw [if_neg hin, if_neg hin, if_neg hin]
      refine ⟨h1.up (by omega) (Nat.le_refl _), fun s hs hsk hsm => ?_⟩
      by_cases e : s = t
      · subst e; exact absurd ⟨hsk, hsm⟩ hin
      · exact h2 s (by omega) hsk hsm
theorem prod_lp {xs ys : List (Nat × Nat)} {Q R : Nat → Rat × Rat} {X Y : Nat → Rat} {a b i j : Nat} {M N : Rat} (hx : Ap xs Q X a i M) (hy : Ap ys R Y b j N) (hij : i + j ≤ 100) (hM : M ≤ 10000000) (hN : N ≤ 1000) (n m : Nat) (ha : a + b + 6 + 2 * n ≤ 500) (hn : n ≤ 16) :
    ProdW xs ys n m ∧ Lp (n + m - 1) (prodC xs ys n m) (fun k => cvC Q R m k n) (fun k => cvR X Y m k n) (a + b + 6 + 2 * n) (i + j) :=
  ⟨fun k s hs hsk hsm => (prod_rp hx hy hij hM hN m k n ha hn).2 s hs hsk hsm, lp_zip fun k _ => (prod_rp hx hy hij hM hN m k n ha hn).1⟩
end Go.Proofs.Ytfbekiphlaaieaa
namespace Go.Proofs.Ytfbekiphlaaieaa

theorem hsC_split (f : Nat → Rat × Rat) (z : Rat × Rat) (m : Nat) (n : Nat) : ∀ k, hsC f z k (n + m) = qadd (hsC f z k n) (qmul (pwC z n) (hsC f z (k + n) m)) := by
  induction n with
  | zero =>
    intro k
    rw [Nat.zero_add, Nat.add_zero]
    unfold hsC pwC qadd qmul
    exact Prod.ext (by simp only; grind) (by simp only; grind)
  | succ n ih =>
    intro k
    have e : n + 1 + m = (n + m) + 1 := by omega
    have e2 : k + (n + 1) = k + 1 + n := by omega
    rw [e, hsC_succ, hsC_succ, ih (k + 1), pwC, e2]
    generalize hsC f z (k + 1) n = A
    generalize hsC f z (k + 1 + n) m = B
    generalize pwC z n = P
    unfold qadd qmul
    exact Prod.ext (by simp only; grind) (by simp only; grind)
theorem hsR_split (f : Nat → Rat) (z : Rat) (m : Nat) (n : Nat) : ∀ k, hsR f z k (n + m) = hsR f z k n + pwR z n * hsR f z (k + n) m := by
  induction n with
  | zero =>
    intro k
    rw [Nat.zero_add, Nat.add_zero]
    unfold hsR pwR
    grind
  | succ n ih =>
    intro k
    have e : n + 1 + m = (n + m) + 1 := by omega
    have e2 : k + (n + 1) = k + 1 + n := by omega
    rw [e, hsR_succ, hsR_succ, ih (k + 1), pwR, e2]
    grind
theorem hsC_zero (f : Nat → Rat × Rat) (z : Rat × Rat) (m : Nat) : ∀ k, (∀ i, k ≤ i → i < k + m → f i = (0, 0)) → hsC f z k m = (0, 0) := by
  induction m with
  | zero => intro k _; rfl
  | succ m ih =>
    intro k h
    rw [hsC_succ, ih (k + 1) (fun i h1 h2 => h i (by omega) (by omega)), h k (by omega) (by omega)]
    unfold qadd qmul
    exact Prod.ext (by simp only; grind) (by simp only; grind)
theorem hsR_zero (f : Nat → Rat) (z : Rat) (m : Nat) : ∀ k, (∀ i, k ≤ i → i < k + m → f i = 0) → hsR f z k m = 0 := by
  induction m with
  | zero => intro k _; rfl
  | succ m ih =>
    intro k h
    rw [hsR_succ, ih (k + 1) (fun i h1 h2 => h i (by omega) (by omega)), h k (by omega) (by omega)]
    grind
theorem hsC_shift (f : Nat → Rat × Rat) (z : Rat × Rat) (n m : Nat) : ∀ k, hsC f z (n + k) m = hsC (fun i => f (n + i)) z k m := by
  induction m with
  | zero => intro k; rfl
  | succ m ih =>
    intro k
    rw [hsC_succ, hsC_succ, ← ih (k + 1)]
    rfl
theorem hsR_shift (f : Nat → Rat) (z : Rat) (n m : Nat) : ∀ k, hsR f z (n + k) m = hsR (fun i => f (n + i)) z k m := by
  induction m with
  | zero => intro k; rfl
  | succ m ih =>
    intro k
    rw [hsR_succ, hsR_succ, ← ih (k + 1)]
    rfl
theorem cvC_out (Q R : Nat → Rat × Rat) (m k : Nat) (n : Nat) (h : n + m ≤ k + 1) : cvC Q R m k n = (0, 0) := by
  induction n with
  | zero => rfl
  | succ n ih =>
    rw [cvC, if_neg (by omega)]
    exact ih (by omega)
theorem cvR_out (X Y : Nat → Rat) (m k : Nat) (n : Nat) (h : n + m ≤ k + 1) : cvR X Y m k n = 0 := by
  induction n with
  | zero => rfl
  | succ n ih =>
    rw [cvR, if_neg (by omega)]
    exact ih (by omega)
/-- The value of the product. -/
theorem cv_val (Q R : Nat → Rat × Rat) (z : Rat × Rat) (m : Nat) (hm : 1 ≤ m) (n : Nat) : hsC (fun k => cvC Q R m k n) z 0 (n + m - 1) = qmul (hsC Q z 0 n) (hsC R z 0 m) := by
  induction n with
  | zero =>
    rw [hsC_zero (fun k => cvC Q R m k 0) z _ 0 (fun i _ _ => rfl)]
    unfold hsC qmul
    exact Prod.ext (by simp only; grind) (by simp only; grind)
  | succ n ih =>
    have e1 : n + 1 + m - 1 = n + m := by omega
    rw [e1]
    have h1 : hsC (fun k => cvC Q R m k (n + 1)) z 0 (n + m) = qadd (hsC (fun k => cvC Q R m k n) z 0 (n + m)) (hsC (fun k => if n ≤ k ∧ k - n < m then qmul (Q n) (R (k - n)) else (0, 0)) z 0 (n + m)) := by
      rw [← hsC_add]
      refine hsC_congr _ _ fun i _ _ => ?_
      rw [cvC]
      split
      · rfl
      · unfold qadd
        exact Prod.ext (by simp only; grind) (by simp only; grind)
    have h2 : hsC (fun k => cvC Q R m k n) z 0 (n + m) = hsC (fun k => cvC Q R m k n) z 0 (n + m - 1) := by
      have e2 : n + m = (n + m - 1) + 1 := by omega
      have h := hsC_split (fun k => cvC Q R m k n) z 1 (n + m - 1) 0
      rw [← e2] at h
      rw [h]
      have h0 : hsC (fun k => cvC Q R m k n) z (0 + (n + m - 1)) 1 = (0, 0) := hsC_zero _ _ _ _ (fun i h1 h2 => cvC_out Q R m i n (by omega))
      rw [h0]
      generalize hsC (fun k => cvC Q R m k n) z 0 (n + m - 1) = A
      unfold qadd qmul
      exact Prod.ext (by simp only; grind) (by simp only; grind)
    have h3 : hsC (fun k => if n ≤ k ∧ k - n < m then qmul (Q n) (R (k - n)) else (0, 0)) z 0 (n + m) = qmul (pwC z n) (qmul (hsC R z 0 m) (Q n)) := by
      rw [hsC_split, hsC_zero _ _ n 0 (fun i _ h2 => if_neg (by omega))]
      have h4 := hsC_shift (fun k => if n ≤ k ∧ k - n < m then qmul (Q n) (R (k - n)) else (0, 0)) z n m 0
      rw [Nat.add_zero] at h4
      rw [Nat.zero_add, h4, ← hsC_mul]
      have h5 : hsC (fun i => if n ≤ n + i ∧ n + i - n < m then qmul (Q n) (R (n + i - n)) else (0, 0)) z 0 m = hsC (fun i => qmul (R i) (Q n)) z 0 m := by
        refine hsC_congr _ _ fun i _ hi => ?_
        rw [if_pos (by omega), Nat.add_sub_cancel_left]
        unfold qmul
        exact Prod.ext (by simp only; grind) (by simp only; grind)
      rw [h5]
      generalize hsC (fun i => qmul (R i) (Q n)) z 0 m = A
      unfold qadd qmul
      exact Prod.ext (by simp only; grind) (by simp only; grind)
    have h6 : hsC Q z 0 (n + 1) = qadd (hsC Q z 0 n) (qmul (pwC z n) (Q n)) := by
      rw [hsC_split]
      have h7 : hsC Q z (0 + n) 1 = Q n := by
        rw [Nat.zero_add, hsC_succ]
        unfold hsC qadd qmul
        exact Prod.ext (by simp only; grind) (by simp only; grind)
      rw [h7]
    rw [h1, h2, ih, h3, h6]
    generalize hsC Q z 0 n = A
    generalize hsC R z 0 m = B
    generalize pwC z n = P
    generalize Q n = q
    unfold qadd qmul
    exact Prod.ext (by simp only; grind) (by simp only; grind)
theorem cvR_val (Q R : Nat → Rat) (z : Rat) (m : Nat) (hm : 1 ≤ m) (n : Nat) : hsR (fun k => cvR Q R m k n) z 0 (n + m - 1) = hsR Q z 0 n * hsR R z 0 m := by
  induction n with
  | zero =>
    rw [hsR_zero (fun k => cvR Q R m k 0) z _ 0 (fun i _ _ => rfl)]
    unfold hsR
    grind
  | succ n ih =>
    have e1 : n + 1 + m - 1 = n + m := by omega
    rw [e1]
    have h1 : hsR (fun k => cvR Q R m k (n + 1)) z 0 (n + m) = hsR (fun k => cvR Q R m k n) z 0 (n + m) + hsR (fun k => if n ≤ k ∧ k - n < m then Q n * R (k - n) else 0) z 0 (n + m) := by
      rw [← hsR_add]
      refine hsR_congr _ _ fun i _ _ => ?_
      rw [cvR]
      split <;> grind
    have h2 : hsR (fun k => cvR Q R m k n) z 0 (n + m) = hsR (fun k => cvR Q R m k n) z 0 (n + m - 1) := by
      have e2 : n + m = (n + m - 1) + 1 := by omega
      have h := hsR_split (fun k => cvR Q R m k n) z 1 (n + m - 1) 0
      rw [← e2] at h
      rw [h]
      have h0 : hsR (fun k => cvR Q R m k n) z (0 + (n + m - 1)) 1 = 0 := hsR_zero _ _ _ _ (fun i h1 h2 => cvR_out Q R m i n (by omega))
      rw [h0]
      grind
    have h3 : hsR (fun k => if n ≤ k ∧ k - n < m then Q n * R (k - n) else 0) z 0 (n + m) = pwR z n * (hsR R z 0 m * Q n) := by
      rw [hsR_split, hsR_zero _ _ n 0 (fun i _ h2 => if_neg (by omega))]
      have h4 := hsR_shift (fun k => if n ≤ k ∧ k - n < m then Q n * R (k - n) else 0) z n m 0
      rw [Nat.add_zero] at h4
      rw [Nat.zero_add, h4, ← hsR_mul]
      have h5 : hsR (fun i => if n ≤ n + i ∧ n + i - n < m then Q n * R (n + i - n) else 0) z 0 m = hsR (fun i => R i * Q n) z 0 m := by
        refine hsR_congr _ _ fun i _ hi => ?_
        rw [if_pos (by omega), Nat.add_sub_cancel_left]
        grind
      rw [h5]
      grind
    have h6 : hsR Q z 0 (n + 1) = hsR Q z 0 n + pwR z n * Q n := by
      rw [hsR_split]
      have h7 : hsR Q z (0 + n) 1 = Q n := by
        rw [Nat.zero_add, hsR_succ]
        unfold hsR
        grind
      rw [h7]
    rw [h1, h2, ih, h3, h6]
    grind
end Go.Proofs.Ytfbekiphlaaieaa
namespace Go.Proofs.Ytfbekiphlaaieaa
open Ieee

theorem op_root {x : Nat} {a : Rat} (hx : V .f64 x a) (h0 : 0 ≤ a) (hb : a < 1125899906842624) :
    ∃ r q, FloatKind.f64.format.sqrt x = some r ∧ V .f64 r q ∧ 0 ≤ q ∧ q ≤ 67108864 ∧ (1 / 1000000000000 ≤ a → a ≤ q * q * (1 + 3 / 8388608)) := by
  by_cases hs : a = 0 ∨ 1 / 1000000000000 ≤ a
  · obtain ⟨r, q, e1, e2, e3, e4, _, e5⟩ := op_sqrt hx h0 hb hs
    exact ⟨r, q, e1, e2, e3, e4, fun _ => e5⟩
  · have hs1 : a ≠ 0 := fun h => hs (.inl h)
    have hs2 : ¬ 1 / 1000000000000 ≤ a := fun h => hs (.inr h)
    obtain ⟨s, m, i, h1, rfl⟩ := hx
    have hm : 0 < m := by
      rcases Nat.eq_zero_or_pos m with h | h
      · subst h; exfalso; apply hs1; unfold sv; grind
      · exact h
    have hmr : 0 < (m : Rat) := by exact_mod_cast hm
    have hval := Rat.mul_pos hmr (two_pos i)
    have hsf : s = false := by
      cases s
      · rfl
      · exfalso
        unfold sv sg at h0
        simp only [if_true] at h0
        grind
    subst hsf
    have hav : sv false m i = (m : Rat) * two i := by unfold sv sg; simp
    rw [hav] at h0 hb hs2 ⊢
    obtain ⟨M, e, h, w, g1, g2, g3, g4, g5, g6⟩ := root_val m i hm
    generalize (m : Rat) * two i = A at *
    have hu := two_pos h
    have e53 : two 53 = 9007199254740992 := by decide +kernel
    rw [e53] at g4
    generalize two h = u at *
    generalize (w : Rat) = W at *
    generalize hS : sv false M e = S at *
    have hWu : 9007199254740992 * u ≤ W * u := Rat.mul_le_mul_of_nonneg_right g4 (Rat.le_of_lt hu)
    have g2' : (W * u) * (W * u) ≤ A := by grind
    have g6' : S ≤ W * u + u := by grind
    generalize W * u = Y at *
    have hY0 : 0 ≤ Y := by grind
    have hYb : Y ≤ 1 := sq_anti (by grind) (by grind)
    have hub : u ≤ Y * (1 / 9007199254740992) := by grind
    have hS0 : 0 ≤ S := by grind
    obtain ⟨q, hq⟩ := rounded .f64 false M e S hS (by rw [t60]; unfold ab; grind)
    obtain ⟨n1, n2, n3⟩ := near_pos hq.near hS0
    refine ⟨_, q, ?_, hq.val, n3, by grind, fun h9 => absurd h9 hs2⟩
    show Option.map _ (Datum.root 54 (FloatKind.f64.decode x)) = _
    rw [h1, g1]
    rfl
/-- How long a number is, in single precision: at least a half of its 1-norm, but for tiny ones. -/
theorem long_any_v {x : Nat × Nat} {u1 u2 : Rat} (a1 : V .f32 x.1 u1) (a2 : V .f32 x.2 u2) (hu : l1q (u1, u2) ≤ 16777216) :
    LongW x (longF x) ∧ ∃ l, V .f32 (longF x) l ∧ 0 ≤ l ∧ l ≤ 134217728 ∧ l1q (u1, u2) ≤ 2 * l + 1 / 100000 := by
  have pu := ab_part (u1, u2)
  simp only at pu
  obtain ⟨wA, A, eA, gA, vA, nA⟩ := up_near a1 (by grind)
  obtain ⟨wB, B, eB, gB, vB, nB⟩ := up_near a2 (by grind)
  have ht := tau_pos
  have ht2 := tau_small
  have lA := near_le nA
  have lB := near_le nB
  have cA := near_far nA
  have cB := near_far nB
  have hA : ab A ≤ 16800000 := by grind
  have hB : ab B ≤ 16800000 := by grind
  have sA := ab_sq A
  have sB := ab_sq B
  have mA := sq_mono (ab_nonneg A) hA
  have mB := sq_mono (ab_nonneg B) hB
  have pA := rsq_nonneg A
  have pB := rsq_nonneg B
  obtain ⟨AA, aa, e1, r1⟩ := op_mul vA vA (by rw [t60]; unfold ab; grind)
  obtain ⟨BB, bb, e2, r2⟩ := op_mul vB vB (by rw [t60]; unfold ab; grind)
  obtain ⟨n1, n2, n3⟩ := near_pos r1.near pA
  obtain ⟨m1, m2, m3⟩ := near_pos r2.near pB
  obtain ⟨P, p, e3, r3⟩ := op_add r1.val r2.val (by rw [t60]; unfold ab; grind)
  obtain ⟨k1, k2, k3⟩ := near_pos r3.near (show 0 ≤ aa + bb by grind)
  obtain ⟨R, r, e4, vR, q1, q2, q3⟩ := op_root r3.val k3 (by grind)
  obtain ⟨S, s, e5, r5⟩ := op_conv vR (k' := .f32) (by decide) (by rw [t60]; unfold ab; grind)
  obtain ⟨s1, s2, s3⟩ := near_pos r5.near q1
  have f1 : powF x = P := by
    show g64 .add (g64 .mul (u64w x.1) (u64w x.1)) (g64 .mul (u64w x.2) (u64w x.2)) = P
    rw [gA, gB, show g64 .mul wA wA = AA from getD_of e1, show g64 .mul wB wB = BB from getD_of e2]
    exact getD_of e3
  have f2 : longF x = S := by
    unfold longF
    rw [f1, getD_of e4]
    exact getD_of e5
  rw [f2]
  refine ⟨⟨P, R, ⟨wA, wB, AA, BB, eA, eB, e1, e2, e3⟩, e4, e5⟩, s, r5.val, s3, by grind, ?_⟩
  by_cases hbig : l1q (u1, u2) ≤ 1 / 100000
  · grind
  have eU : l1q (u1, u2) = ab u1 + ab u2 := rfl
  have tA := ab_add (A - u1) u1
  have e6 : ab u1 ≤ ab A + ab (A - u1) := by
    have h := ab_sub A (A - u1)
    have e : A - (A - u1) = u1 := by grind
    rw [e] at h
    exact h
  have e7 : ab u2 ≤ ab B + ab (B - u2) := by
    have h := ab_sub B (B - u2)
    have e : B - (B - u2) = u2 := by grind
    rw [e] at h
    exact h
  rw [eps_val] at cA cB
  rw [eU] at hbig hu ⊢
  have hW : 99 / 100 * (ab u1 + ab u2) ≤ ab A + ab B := by clear tA; grind
  have hU0 : 0 ≤ ab u1 + ab u2 := by grind
  have hW2 := sq_mono (show 0 ≤ 99 / 100 * (ab u1 + ab u2) by grind) hW
  have hU2 := sq_mono (show (0 : Rat) ≤ 1 / 100000 by decide +kernel) (show 1 / 100000 ≤ ab u1 + ab u2 by grind)
  have hd := rsq_nonneg (ab A - ab B)
  clear tA e6 e7 cA cB lA lB hW pu eU mA mB
  generalize ab u1 + ab u2 = U at *
  have e8 : 99 / 100 * U * (99 / 100 * U) = 9801 / 10000 * (U * U) := by grind
  rw [e8] at hW2
  have e9 : (ab A + ab B) * (ab A + ab B) ≤ 2 * (A * A + B * B) := by grind
  have hp : 48 / 100 * (U * U) ≤ p := by
    clear hd
    generalize (ab A + ab B) * (ab A + ab B) = Z at *
    generalize A * A = AA' at *
    generalize B * B = BB' at *
    generalize U * U = UU at *
    clear sA sB
    grind
  have h3 := q3 (by grind)
  have hr : 2 / 3 * U ≤ r := by
    refine sq_anti q1 ?_
    have e10 : 2 / 3 * U * (2 / 3 * U) = 4 / 9 * (U * U) := by grind
    rw [e10]
    have hUU := rsq_nonneg U
    generalize r * r = RR at *
    generalize U * U = UU at *
    grind
  grind
end Go.Proofs.Ytfbekiphlaaieaa
namespace Go.Proofs.Ytfbekiphlaaieaa

def alF (xs : List (Nat × Nat)) : Nat → Nat
  | 0 => 0
  | k + 1 => g32 .add (alF xs k) (longF (xs.getD k (0, 0)))
def sumQ (f : Nat → Rat) : Nat → Rat
  | 0 => 0
  | k + 1 => sumQ f k + f k
theorem lop_gen {xs : List (Nat × Nat)} {u : Nat → Rat × Rat} (hv : ∀ k, k < xs.length → V .f32 (xs.getD k (0, 0)).1 (u k).1 ∧ V .f32 (xs.getD k (0, 0)).2 (u k).2 ∧ l1q (u k) ≤ 16777216) (h17 : xs.length ≤ 17) (k : Nat) : k ≤ xs.length →
    ∃ l, V .f32 (alF xs k) l ∧ 0 ≤ l ∧ l ≤ (k : Rat) * 140000000 ∧ sumQ (fun j => l1q (u j)) k ≤ (2 + (k : Rat) / 1000) * l + (k : Rat) / 10000 ∧
      ∀ j, j < k → LongW (xs.getD j (0, 0)) (longF (xs.getD j (0, 0))) ∧ floatBits .add .f32 (alF xs j) (longF (xs.getD j (0, 0))) = some (alF xs (j + 1)) := by
  induction k with
  | zero => intro _; exact ⟨0, V_nil, Rat.le_refl, by grind, by unfold sumQ; grind, fun j hj => absurd hj (Nat.not_lt_zero _)⟩
  | succ k ih =>
    intro hk
    obtain ⟨l, v, l0, lb, ls, lw⟩ := ih (by omega)
    obtain ⟨v1, v2, v3⟩ := hv k (by omega)
    obtain ⟨w1, t, w2, w3, w4, w5⟩ := long_any_v (u1 := (u k).1) (u2 := (u k).2) v1 v2 v3
    have hk17 : (k : Rat) ≤ 17 := by exact_mod_cast (show k ≤ 17 by omega)
    have hk0 : (0 : Rat) ≤ (k : Rat) := by exact_mod_cast Nat.zero_le k
    obtain ⟨r, q, e1, r1⟩ := op_add v w2 (by rw [t60]; unfold ab; grind)
    obtain ⟨n1, n2, n3⟩ := near_pos r1.near (show 0 ≤ l + t by grind)
    have er : alF xs (k + 1) = r := getD_of e1
    have ek : ((k + 1 : Nat) : Rat) = (k : Rat) + 1 := by push_cast; rfl
    refine ⟨q, by rw [er]; exact r1.val, n3, ?_, ?_, ?_⟩
    · rw [ek]; grind
    · rw [ek]
      show sumQ (fun j => l1q (u j)) k + l1q (u k) ≤ _
      have e5 : l1q ((u k).1, (u k).2) = l1q (u k) := rfl
      rw [e5] at w5
      have hkt := Rat.mul_nonneg hk0 w3
      have hkl := Rat.mul_nonneg hk0 l0
      have h1 : (k : Rat) * (l + t) ≤ 17 * (l + t) := Rat.mul_le_mul_of_nonneg_right hk17 (by grind)
      have h2 : l + t ≤ q + q / 1000000 + 1 / 100000000000000000000 := by grind
      have h3 : (k : Rat) * (l + t) ≤ (k : Rat) * (q + q / 1000000 + 1 / 100000000000000000000) := Rat.mul_le_mul_of_nonneg_left h2 hk0
      have hkq := Rat.mul_nonneg hk0 n3
      have h4 : (k : Rat) * q ≤ 17 * q := Rat.mul_le_mul_of_nonneg_right hk17 n3
      have e6 : (2 + (k : Rat) / 1000) * l = 2 * l + (k : Rat) * l / 1000 := by grind
      have e7 : (2 + ((k : Rat) + 1) / 1000) * q = 2 * q + (k : Rat) * q / 1000 + q / 1000 := by grind
      have e8 : (k : Rat) * (l + t) = (k : Rat) * l + (k : Rat) * t := by grind
      have e9 : (k : Rat) * (q + q / 1000000 + 1 / 100000000000000000000) = (k : Rat) * q + (k : Rat) * q / 1000000 + (k : Rat) / 100000000000000000000 := by grind
      rw [e6] at ls
      rw [e7]
      rw [e8, e9] at h3
      generalize (k : Rat) * l = kl at *
      generalize (k : Rat) * t = kt at *
      generalize (k : Rat) * q = kq at *
      clear e6 e7 e8 e9 lw hv v v1 v2 v3 w1 w2 r1 e1 er
      grind
    · intro j hj
      by_cases e : j = k
      · subst e
        exact ⟨w1, by rw [er]; exact e1⟩
      · exact lw j (by omega)
/-- 'LongOfPoly' -/
theorem lop_words {n : Nat} {xs : List (Nat × Nat)} {u : Nat → Rat × Rat} (hn : xs.length = n) (hv : ∀ k, k < n → V .f32 (xs.getD k (0, 0)).1 (u k).1 ∧ V .f32 (xs.getD k (0, 0)).2 (u k).2 ∧ l1q (u k) ≤ 16777216) (h17 : n ≤ 17) :
    LopW xs (fun k => longF (xs.getD k (0, 0))) (alF xs) ∧ ∃ l, V .f32 (alF xs n) l ∧ 0 ≤ l ∧ l ≤ 2380000000 ∧ sumQ (fun j => l1q (u j)) n ≤ 21 / 10 * l + 1 / 500 := by
  subst hn
  obtain ⟨l, v, l0, lb, ls, lw⟩ := lop_gen hv h17 xs.length (Nat.le_refl _)
  have hk17 : (xs.length : Rat) ≤ 17 := by exact_mod_cast h17
  have h4 : (xs.length : Rat) * l ≤ 17 * l := Rat.mul_le_mul_of_nonneg_right hk17 l0
  refine ⟨⟨rfl, fun k hk => (lw k hk).1, fun k hk => (lw k hk).2, ⟨l, v⟩⟩, l, v, l0, by grind, ?_⟩
  have e6 : (2 + (xs.length : Rat) / 1000) * l = 2 * l + (xs.length : Rat) * l / 1000 := by grind
  rw [e6] at ls
  generalize (xs.length : Rat) * l = kl at *
  grind
end Go.Proofs.Ytfbekiphlaaieaa
namespace Go.Proofs.Ytfbekiphlaaieaa

/-- The distance of words near one exact value. -/
theorem near_f {x y : Nat × Nat} {q : Rat × Rat} {X Y M : Rat} {a b i j : Nat} (hx : Rp x q X a i) (hy : Rp y q Y b j) (ha : a ≤ 500) (hb : b ≤ 500) (bX : X ≤ big57) (bY : Y ≤ big57) (hM : ((a : Rat) + 2) * X + ((b : Rat) + 2) * Y ≤ 6000 * M) :
    FarW x y (farG x y) ∧ ∃ f, V .f64 (farG x y) f ∧ 0 ≤ f ∧ f ≤ 72 / 100000 * M + 1 / 1000000000000 := by
  obtain ⟨hF, f, vf, f0, fb⟩ := far_rp hx hy ha hb bX bY
  have hX := hx.lo.nonneg
  have hY := hy.lo.nonneg
  have e : 501 / 500 * (((a : Rat) + 2) * (eps * X) + ((b : Rat) + 2) * (eps * Y)) = 501 / 500 * eps * (((a : Rat) + 2) * X + ((b : Rat) + 2) * Y) := by grind
  rw [e] at fb
  have h1 : 501 / 500 * eps * (((a : Rat) + 2) * X + ((b : Rat) + 2) * Y) ≤ 501 / 500 * eps * (6000 * M) := Rat.mul_le_mul_of_nonneg_left hM (by decide +kernel)
  have a0 : (0 : Rat) ≤ (a : Rat) := by exact_mod_cast Nat.zero_le a
  have b0 : (0 : Rat) ≤ (b : Rat) := by exact_mod_cast Nat.zero_le b
  have w1 := Rat.mul_nonneg (show 0 ≤ (a : Rat) + 2 by grind) hX
  have w2 := Rat.mul_nonneg (show 0 ≤ (b : Rat) + 2 by grind) hY
  have hW : 0 ≤ ((a : Rat) + 2) * X + ((b : Rat) + 2) * Y := by grind
  generalize ((a : Rat) + 2) * X + ((b : Rat) + 2) * Y = W at *
  rw [eps_val] at fb h1
  exact ⟨hF, f, vf, f0, by grind⟩
/-- The comparison with one more than two sizes. -/
theorem chk_sum {fw sw tw : Nat} {f σ υ : Rat} (hf : V .f64 fw f) (hs : V .f64 sw σ) (ht : V .f64 tw υ) (h0 : 0 ≤ σ) (hb : σ ≤ 10000000000000000) (h1 : 0 ≤ υ) (hb1 : υ ≤ 10000000000000000) (hle : f ≤ 9 / 10000 * (1 + σ + υ)) :
    ∃ o o2 mi, floatBits .add .f64 4607182418800017408 sw = some o ∧ floatBits .add .f64 o tw = some o2 ∧ floatBits .mul .f64 4562254508917369340 o2 = some mi ∧ (FloatKind.f64.format.order fw mi == some .gt) = false := by
  obtain ⟨o, α, e2, r2⟩ := op_add V_w1 hs (by rw [t60]; unfold ab; grind)
  obtain ⟨l1, l2, l3⟩ := near_pos r2.near (show 0 ≤ 1 + σ by grind)
  obtain ⟨o2, β, e3, r3⟩ := op_add r2.val ht (by rw [t60]; unfold ab; grind)
  obtain ⟨n1, n2, n3⟩ := near_pos r3.near (show 0 ≤ α + υ by grind)
  have hv := V_w001
  have hc : (9999 : Rat) / 10000000 ≤ 4611686018427388 / 4611686018427387904 ∧ (4611686018427388 : Rat) / 4611686018427387904 ≤ 1 / 999 := by decide +kernel
  generalize (4611686018427388 : Rat) / 4611686018427387904 = μ at *
  have hp := Rat.mul_nonneg (show 0 ≤ μ by grind) n3
  have hp2 : μ * β ≤ 1 / 999 * β := Rat.mul_le_mul_of_nonneg_right hc.2 n3
  have hp3 : 9999 / 10000000 * β ≤ μ * β := Rat.mul_le_mul_of_nonneg_right hc.1 n3
  obtain ⟨mi, ν, e4, r4⟩ := op_mul hv r3.val (by rw [t60]; unfold ab; grind)
  obtain ⟨q1, q2, q3⟩ := near_pos r4.near hp
  exact ⟨o, o2, mi, e2, e3, e4, gt_false hf r4.val (by grind)⟩
/-- A drawn point or its half. -/
structure Pt (z : Nat × Nat) (q : Rat × Rat) : Prop where
  rp : Rp z q (l1q q) 0 3
  le : l1q q ≤ 8
  cv : ∃ a b p, CV z a b p ∧ a.natAbs ≤ 4096 ∧ b.natAbs ≤ 4096 ∧ -10 ≤ p ∧ p ≤ 0 ∧ cq a b p = q
theorem pt_draw {z : Nat × Nat} (h : Drawn4 z) : ∃ q, Pt z q := by
  obtain ⟨g, hg, h1, h2, _⟩ := drawn4_cv h
  obtain ⟨r, b⟩ := pt_rp hg h1 h2
  exact ⟨qof g, r.up (Nat.le_refl _) (by omega), b, g.1, g.2, -2, hg, by omega, by omega, by omega, by omega, rfl⟩
theorem two_m3' : two (-3) = 1 / 8 := by decide +kernel
theorem pt_half {z : Nat × Nat} {g : GI} (hz : CV z g.1 g.2 (-3)) (h1 : g.1.natAbs ≤ 16) (h2 : g.2.natAbs ≤ 16) : ∃ q, Pt z q := by
  refine ⟨cq g.1 g.2 (-3), rp_exact hz.re hz.im (lo_cq _ _ 3), ?_, g.1, g.2, -3, hz, by omega, by omega, by omega, by omega, rfl⟩
  rw [l1_cq]
  unfold iv2
  rw [two_m3']
  have h : (((g.1.natAbs : Int) + (g.2.natAbs : Int) : Int) : Rat) ≤ 32 := by
    have : (g.1.natAbs : Int) + (g.2.natAbs : Int) ≤ 32 := by omega
    exact_mod_cast this
  grind
end Go.Proofs.Ytfbekiphlaaieaa
namespace Go.Proofs.Ytfbekiphlaaieaa

theorem hsC_ext {f : Nat → Rat × Rat} {z : Rat × Rat} {n r : Nat} (h : n ≤ r) (h0 : ∀ k, n ≤ k → f k = (0, 0)) : hsC f z 0 r = hsC f z 0 n := by
  obtain ⟨m, rfl⟩ : ∃ m, r = n + m := ⟨r - n, by omega⟩
  rw [hsC_split, hsC_zero f z m (0 + n) (fun i h1 _ => h0 i (by omega))]
  generalize hsC f z 0 n = A
  unfold qadd qmul
  exact Prod.ext (by simp only; grind) (by simp only; grind)
theorem hsR_ext {f : Nat → Rat} {z : Rat} {n r : Nat} (h : n ≤ r) (h0 : ∀ k, n ≤ k → f k = 0) : hsR f z 0 r = hsR f z 0 n := by
  obtain ⟨m, rfl⟩ : ∃ m, r = n + m := ⟨r - n, by omega⟩
  rw [hsR_split, hsR_zero f z m (0 + n) (fun i h1 _ => h0 i (by omega))]
  grind
theorem qof_out {n : Nat} {xs : List (Nat × Nat)} {c : Nat → GI} (D : Dp n xs c) (k : Nat) (h : n ≤ k) : qof (c k) = (0, 0) := by
  rw [D.out k h]
  unfold qof cq iv2
  simp
theorem l1_out {n : Nat} {xs : List (Nat × Nat)} {c : Nat → GI} (D : Dp n xs c) (k : Nat) (h : n ≤ k) : l1q (qof (c k)) = 0 := by
  rw [qof_out D k h]
  exact l1_zero
section
variable {n m : Nat} {xs ys : List (Nat × Nat)} {c d : Nat → GI} {z : Nat × Nat} {q : Rat × Rat}
theorem v_pt (D : Dp n xs c) (hn : n ≤ 6) (hz : Pt z q) : AtW xs z (valF xs z) ∧ Rp (valF xs z) (hsC (fun k => qof (c k)) q 0 n) (hsR (fun k => l1q (qof (c k))) (l1q q) 0 n) 48 20 := by
  have h8 := hz.le
  obtain ⟨h1, h2⟩ := at_lp (dp_lp D) D.one hn hz.rp (by omega) (by omega) (M := 8) (W := 9) (fun k _ => dp_le8 D k) (by decide) (by grind) (by decide +kernel) (by unfold big57; grind)
  rw [dp_trim D] at h1 h2
  exact ⟨h1, h2.up (by omega) (by omega)⟩
theorem s_pt (D : Dp n xs c) (hn : n ≤ 6) (hz : Pt z q) : SzW xs z (sizeF (n - 1) xs z) ∧ ∃ σ, V .f64 (sizeF (n - 1) xs z) σ ∧ 0 ≤ σ ∧ σ ≤ 1000000000000 ∧ 999 / 1000 * hsR (fun k => l1q (qof (c k))) (l1q q) 0 n ≤ σ + 1 / 1000000000000 := by
  have h1 := D.one
  obtain ⟨a, b, p, cv, ha, hb, hp, hp', e⟩ := hz.cv
  have h8 := hz.le
  obtain ⟨m', rfl⟩ : ∃ m', n = m' + 1 := ⟨n - 1, by omega⟩
  have h := size_at D.len (fun k hk => D.cv k (by omega)) (fun k => by have := D.sm k; omega) (show m' ≤ 5 by omega) cv ha hb hp hp' (by rw [e]; grind)
  rw [e] at h
  exact h
theorem hs_pt (D : Dp n xs c) (hn : n ≤ 6) (hz : Pt z q) : 0 ≤ hsR (fun k => l1q (qof (c k))) (l1q q) 0 n ∧ hsR (fun k => l1q (qof (c k))) (l1q q) 0 n ≤ 4251528 := by
  have h8 := hz.le
  have h0 := l1_nonneg q
  have h1 := hsR_bound (f := fun k => l1q (qof (c k))) h0 (show l1q q + 1 ≤ 9 by grind) (show (0 : Rat) ≤ 8 by decide) n 0 (fun i _ _ => ⟨l1_nonneg _, dp_le8 D i⟩)
  have h2 := pwR_up (show (1 : Rat) ≤ 9 by decide) hn
  have h3 : pwR 9 6 = 531441 := by decide +kernel
  rw [h3] at h2
  exact ⟨hsR_nonneg h0 n 0 (fun i _ _ => l1_nonneg _), by grind⟩
/-- The sum. -/
theorem chk_S (D : Dp n xs c) (E : Dp m ys d) (hn : n ≤ 6) (hm : m ≤ 6) (hz : Pt z q) {r : Nat} (hr : max n m = r) :
    (∀ t, PlusW (xs.getD t (0, 0)) (ys.getD t (0, 0)) (sumF xs ys t)) ∧ Valid (trimC (zipW r (sumF xs ys))) ∧ AtW (trimC (zipW r (sumF xs ys))) z (valF (trimC (zipW r (sumF xs ys))) z) ∧
      PlusW (valF xs z) (valF ys z) (plusF (valF xs z) (valF ys z)) ∧ FarW (valF (trimC (zipW r (sumF xs ys))) z) (plusF (valF xs z) (valF ys z)) (farG (valF (trimC (zipW r (sumF xs ys))) z) (plusF (valF xs z) (valF ys z))) ∧
      ∃ o o2 mi, floatBits .add .f64 4607182418800017408 (sizeF (n - 1) xs z) = some o ∧ floatBits .add .f64 o (sizeF (m - 1) ys z) = some o2 ∧ floatBits .mul .f64 4562254508917369340 o2 = some mi ∧ (FloatKind.f64.format.order (farG (valF (trimC (zipW r (sumF xs ys))) z) (plusF (valF xs z) (valF ys z))) mi == some .gt) = false := by
  have h1 := D.one
  have hz8 := hz.le
  obtain ⟨p1, p2⟩ := sum_lp (c := 0) (k := 2) (dp_ap D) (dp_ap E) (Nat.le_refl _) (Nat.le_refl _) (by omega) (Nat.le_refl _) (Nat.le_refl _) (by omega) (by unfold big57; grind) (by unfold big57; grind) r
  obtain ⟨a1, a2⟩ := at_lp p2 (by omega) (by omega) hz.rp (by omega) (by omega) (M := 16) (W := 9) (fun k _ => by have := dp_le8 D k; have := dp_le8 E k; grind) (by decide) (by grind) (by decide +kernel) (by unfold big57; grind)
  have e1 : hsC (fun t => qadd (qof (c t)) (qof (d t))) q 0 r = qadd (hsC (fun k => qof (c k)) q 0 n) (hsC (fun k => qof (d k)) q 0 m) := by
    rw [hsC_add, hsC_ext (show n ≤ r by omega) (fun k hk => qof_out D k hk), hsC_ext (show m ≤ r by omega) (fun k hk => qof_out E k hk)]
  have e2 : hsR (fun t => l1q (qof (c t)) + l1q (qof (d t))) (l1q q) 0 r = hsR (fun k => l1q (qof (c k))) (l1q q) 0 n + hsR (fun k => l1q (qof (d k))) (l1q q) 0 m := by
    rw [hsR_add, hsR_ext (show n ≤ r by omega) (fun k hk => l1_out D k hk), hsR_ext (show m ≤ r by omega) (fun k hk => l1_out E k hk)]
  have a3 := a2.cast e1 e2
  obtain ⟨v1, v2⟩ := v_pt D hn hz
  obtain ⟨w1', w2'⟩ := v_pt E hm hz
  have bD := hs_pt D hn hz
  have bE := hs_pt E hm hz
  obtain ⟨s1, s2⟩ := rp_plus (c := 48) (k := 20) v2 w2' (Nat.le_refl _) (Nat.le_refl _) (by omega) (Nat.le_refl _) (Nat.le_refl _) (by omega) (by unfold big57; grind) (by unfold big57; grind)
  obtain ⟨_, σ, z2, z3, z4, z5⟩ := s_pt D hn hz
  obtain ⟨_, υ, y2, y3, y4, y5⟩ := s_pt E hm hz
  have e100 : ((100 : Nat) : Rat) = 100 := rfl
  obtain ⟨f1, f, f2, f3, f4⟩ := near_f (a3.up (show 0 + 2 + r * (0 + 8) ≤ 100 by omega) (Nat.le_refl _)) (s2.up (show 48 + 2 ≤ 100 by omega) (Nat.le_refl _)) (by omega) (by omega) (by unfold big57; grind) (by unfold big57; grind) (M := hsR (fun k => l1q (qof (c k))) (l1q q) 0 n + hsR (fun k => l1q (qof (d k))) (l1q q) 0 m) (by rw [e100]; grind)
  exact ⟨p1, lp_valid p2 (by omega) (by omega), a1, s1, f1, chk_sum f2 z2 y2 z3 (by grind) y3 (by grind) (by grind)⟩
end
end Go.Proofs.Ytfbekiphlaaieaa
namespace Go.Proofs.Ytfbekiphlaaieaa

theorem size_two {VA VB σ υ : Rat} (hA : Lo VA 20) (hB : Lo VB 20) (s0 : 0 ≤ σ) (u0 : 0 ≤ υ) (hs : 999 / 1000 * VA ≤ σ + 1 / 1000000000000) (hu : 999 / 1000 * VB ≤ υ + 1 / 1000000000000) : 99 / 100 * (VA * VB) ≤ σ * υ := by
  have hsu := Rat.mul_nonneg s0 u0
  rcases hA with rfl | hA
  · grind
  rcases hB with rfl | hB
  · grind
  have e : two (-((20 : Nat) : Int)) = 1 / 1048576 := by decide +kernel
  rw [e] at hA hB
  have h1 : 998 / 1000 * VA ≤ σ := by grind
  have h2 : 998 / 1000 * VB ≤ υ := by grind
  have g1 := Rat.mul_le_mul_of_nonneg_right h1 (show 0 ≤ 998 / 1000 * VB by grind)
  have g2 := Rat.mul_le_mul_of_nonneg_left h2 s0
  have g3 := Rat.mul_nonneg (show 0 ≤ VA by grind) (show 0 ≤ VB by grind)
  have e2 : 998 / 1000 * VA * (998 / 1000 * VB) = 996004 / 1000000 * (VA * VB) := by grind
  rw [e2] at g1
  generalize VA * VB = M at *
  generalize σ * υ = S at *
  grind
/-- The size of drawn terms is not great. -/
def Uk : Nat → Rat
  | 0 => 0
  | j + 1 => 9 * Uk j + 9
theorem Uk_all {j : Nat} (h : j ≤ 6) : 0 ≤ Uk j ∧ Uk j ≤ 600000 := by
  have : j = 0 ∨ j = 1 ∨ j = 2 ∨ j = 3 ∨ j = 4 ∨ j = 5 ∨ j = 6 := by omega
  rcases this with rfl | rfl | rfl | rfl | rfl | rfl | rfl <;> decide +kernel
theorem size_small {n : Nat} {xs : List (Nat × Nat)} {c : Nat → GI} (hcv : ∀ k, k ≤ n → CV (xs.getD k (0, 0)) (c k).1 (c k).2 (-2)) (hsm : ∀ k, (c k).1.natAbs ≤ 16 ∧ (c k).2.natAbs ≤ 16) (hn : n ≤ 5) {x : Nat} {ξ : Rat} (hx : V .f64 x ξ) (hx0 : 0 ≤ ξ) (hx8 : ξ ≤ 8) (j : Nat) (hj : j ≤ n + 1) :
    ∃ σ, V .f64 (szF n xs x j) σ ∧ 0 ≤ σ ∧ σ ≤ Uk j := by
  induction j with
  | zero => exact ⟨0, V_zero .f64 false 0, by decide, by decide⟩
  | succ j ih =>
    obtain ⟨σ, h1, h2, h3⟩ := ih (by omega)
    have hU := Uk_all (show j ≤ 6 by omega)
    have hs1 := hsm (n - j)
    obtain ⟨l1, l2, c1, c2⟩ := long1_q (hcv (n - j) (by omega)) (by omega) (by omega)
    have hw0 := l1_nonneg (qof (c (n - j)))
    have hwb := l1_qof_le hs1.1 hs1.2
    have e16 : ((16 : Nat) : Rat) / 2 = 8 := by decide +kernel
    rw [e16] at hwb
    have hσx := Rat.mul_nonneg h2 hx0
    have hσ8 : σ * ξ ≤ σ * 8 := Rat.mul_le_mul_of_nonneg_left hx8 h2
    obtain ⟨m, π, m1, m2⟩ := op_mul h1 hx (by rw [t60]; unfold ab; grind)
    obtain ⟨n1, n2, n3⟩ := near_pos m2.near hσx
    have em : pmF n xs x j = m := getD_of m1
    obtain ⟨r, ρ, r1, r2⟩ := op_add m2.val c2 (by rw [t60]; unfold ab; grind)
    obtain ⟨q1, q2, q3⟩ := near_pos r2.near (by grind)
    have er : szF n xs x (j + 1) = r := by
      show g64 .add (pmF n xs x j) _ = r
      rw [em]
      exact getD_of r1
    refine ⟨ρ, by rw [er]; exact r2.val, q3, ?_⟩
    unfold Uk
    grind
section
variable {n m : Nat} {xs ys : List (Nat × Nat)} {c d : Nat → GI} {z : Nat × Nat} {q : Rat × Rat}
theorem s_small (D : Dp n xs c) (hn : n ≤ 6) (hz : Pt z q) {σ : Rat} (h : V .f64 (sizeF (n - 1) xs z) σ) : σ ≤ 600000 := by
  have h1 := D.one
  obtain ⟨a, b, p, cv, ha, hb, hp, hp', e⟩ := hz.cv
  obtain ⟨m', rfl⟩ : ∃ m', n = m' + 1 := ⟨n - 1, by omega⟩
  obtain ⟨_, l2⟩ := long1_cv cv (by omega) (by omega) (by omega) (by omega)
  obtain ⟨_, c2⟩ := conv_up l2 (by omega) (by omega) (by omega)
  rw [← l1_cq, e] at c2
  obtain ⟨σ', g1, _, g3⟩ := size_small (fun k hk => D.cv k (by omega)) D.sm (show m' ≤ 5 by omega) c2 (l1_nonneg _) hz.le (m' + 1) (Nat.le_refl _)
  have hu := Uk_all (show m' + 1 ≤ 6 by omega)
  have e2 : σ = σ' := V.uniq h g1
  rw [e2]
  grind
theorem chk_P (D : Dp n xs c) (E : Dp m ys d) (hn : n ≤ 6) (hm : m ≤ 6) (hz : Pt z q) :
    ProdW xs ys n m ∧ Valid (trimC (prodC xs ys n m)) ∧ AtW (trimC (prodC xs ys n m)) z (valF (trimC (prodC xs ys n m)) z) ∧ MulW (valF xs z) (valF ys z) (mulF (valF xs z) (valF ys z)) ∧
      FarW (valF (trimC (prodC xs ys n m)) z) (mulF (valF xs z) (valF ys z)) (farG (valF (trimC (prodC xs ys n m)) z) (mulF (valF xs z) (valF ys z))) ∧
      ∃ sl, floatBits .mul .f64 (sizeF (n - 1) xs z) (sizeF (m - 1) ys z) = some sl ∧ ChkW (farG (valF (trimC (prodC xs ys n m)) z) (mulF (valF xs z) (valF ys z))) sl (g64 .add w1 sl) (g64 .mul w001 (g64 .add w1 sl)) := by
  have h1 := D.one
  have h1' := E.one
  have hz8 := hz.le
  have hz0 := l1_nonneg q
  obtain ⟨p1, p2⟩ := prod_lp (dp_ap D) (dp_ap E) (by omega) (by decide) (by decide) n m (by omega) (by omega)
  have hX : ∀ k, 0 ≤ cvR (fun k => l1q (qof (c k))) (fun k => l1q (qof (d k))) m k n ∧ cvR (fun k => l1q (qof (c k))) (fun k => l1q (qof (d k))) m k n ≤ 384 := by
    intro k
    have h := cvR_le (X := fun k => l1q (qof (c k))) (Y := fun k => l1q (qof (d k))) (M := 8) (N := 8) m k (fun t => ⟨l1_nonneg _, dp_le8 D t⟩) (fun t => ⟨l1_nonneg _, dp_le8 E t⟩) n
    have hn6 : (n : Rat) ≤ 6 := by exact_mod_cast hn
    exact ⟨h.1, by grind⟩
  have hpw : (384 : Rat) * pwR 9 (n + m - 1 + 1) ≤ big57 := by
    have h2 := pwR_up (show (1 : Rat) ≤ 9 by decide) (show n + m - 1 + 1 ≤ 12 by omega)
    have h3 : pwR 9 12 = 282429536481 := by decide +kernel
    rw [h3] at h2
    unfold big57
    grind
  obtain ⟨a1, a2⟩ := at_lpN p2 (by omega) (by omega) hz.rp (by omega) (by omega) (M := 384) (W := 9) (fun k _ => (hX k).2) (by decide) (by grind) hpw (by unfold big57; grind)
  have a3 := a2.cast (cv_val (fun k => qof (c k)) (fun k => qof (d k)) q m h1' n) (cvR_val (fun k => l1q (qof (c k))) (fun k => l1q (qof (d k))) (l1q q) m h1' n)
  obtain ⟨v1, v2⟩ := v_pt D hn hz
  obtain ⟨w1', w2'⟩ := v_pt E hm hz
  have bD := hs_pt D hn hz
  have bE := hs_pt E hm hz
  have lD := v2.lo
  have lE := w2'.lo
  obtain ⟨_, σ, z2, z3, z4, z5⟩ := s_pt D hn hz
  obtain ⟨_, υ, y2, y3, y4, y5⟩ := s_pt E hm hz
  generalize hsR (fun k => l1q (qof (c k))) (l1q q) 0 n = VA at *
  generalize hsR (fun k => l1q (qof (d k))) (l1q q) 0 m = VB at *
  have hVV0 := Rat.mul_nonneg bD.1 bE.1
  have hVV : VA * VB ≤ 4251528 * 4251528 := by
    have g1 := Rat.mul_le_mul_of_nonneg_right bD.2 bE.1
    grind
  obtain ⟨s1, s2⟩ := rp_mul v2 w2' (by omega) (by omega) (by omega) (by unfold big57; grind) (by unfold big57; grind) (by unfold big57; grind)
  have hsz := size_two lD lE z3 y3 z5 y5
  have hsu := Rat.mul_nonneg z3 y3
  have zb := s_small D hn hz z2
  have yb := s_small E hm hz y2
  have hsu2 : σ * υ ≤ 600000 * 600000 := by
    have g1 := Rat.mul_le_mul_of_nonneg_right zb y3
    grind
  obtain ⟨sl, ν, e1, r1⟩ := op_mul z2 y2 (by rw [t60]; unfold ab; grind)
  obtain ⟨n1, n2, n3⟩ := near_pos r1.near hsu
  have e200 : ((200 : Nat) : Rat) = 200 := rfl
  obtain ⟨f1, f, f2, f3, f4⟩ := near_f (a3.up (show 0 + 0 + 6 + 2 * n + (n + m - 1) * (0 + 8) ≤ 200 by omega) (Nat.le_refl _)) (s2.up (show 48 + 48 + 6 ≤ 200 by omega) (Nat.le_refl _)) (by omega) (by omega) (by unfold big57; grind) (by unfold big57; grind) (M := VA * VB) (by rw [e200]; grind)
  obtain ⟨k1, k2, k3⟩ := chk f2 r1.val n3 (by grind) (by
    generalize VA * VB = M at *
    generalize σ * υ = S at *
    grind)
  exact ⟨p1, lp_valid p2 (by omega) (by omega), a1, s1, f1, sl, e1, k1, k2, k3⟩
end
end Go.Proofs.Ytfbekiphlaaieaa
namespace Go.Proofs.Ytfbekiphlaaieaa

theorem rp_two : Rp (1073741824, 0) (2, 0) 2 0 0 := ⟨⟨(2, 0), ⟨false, 8388608, -22, by decide +kernel, by decide +kernel⟩, V_nil, by decide +kernel⟩, by decide +kernel, .inr (by decide +kernel)⟩
theorem rp_less : Rp (3212836864, 0) (-1, 0) 1 0 0 := ⟨⟨(-1, 0), ⟨true, 8388608, -23, by decide +kernel, by decide +kernel⟩, V_nil, by decide +kernel⟩, by decide +kernel, .inr (by decide +kernel)⟩
section
variable {n m : Nat} {xs ys : List (Nat × Nat)} {c d : Nat → GI} {z : Nat × Nat} {q : Rat × Rat}
theorem chk_W (D : Dp n xs c) (E : Dp m ys d) (hn : n ≤ 6) (hm : m ≤ 6) (hz : Pt z q) {r : Nat} (hr : max n m = r) :
    (∀ t, MulW (xs.getD t (0, 0)) (1073741824, 0) (mulF (xs.getD t (0, 0)) (1073741824, 0)) ∧ MulW (ys.getD t (0, 0)) (3212836864, 0) (mulF (ys.getD t (0, 0)) (3212836864, 0)) ∧ PlusW (mulF (xs.getD t (0, 0)) (1073741824, 0)) (mulF (ys.getD t (0, 0)) (3212836864, 0)) (wghF xs ys (1073741824, 0) (3212836864, 0) t)) ∧
      Valid (trimC (zipW r (wghF xs ys (1073741824, 0) (3212836864, 0)))) ∧ AtW (trimC (zipW r (wghF xs ys (1073741824, 0) (3212836864, 0)))) z (valF (trimC (zipW r (wghF xs ys (1073741824, 0) (3212836864, 0)))) z) ∧
      MulW (1073741824, 0) (valF xs z) (mulF (1073741824, 0) (valF xs z)) ∧ MinusW (mulF (1073741824, 0) (valF xs z)) (valF ys z) (minusF (mulF (1073741824, 0) (valF xs z)) (valF ys z)) ∧
      FarW (valF (trimC (zipW r (wghF xs ys (1073741824, 0) (3212836864, 0)))) z) (minusF (mulF (1073741824, 0) (valF xs z)) (valF ys z)) (farG (valF (trimC (zipW r (wghF xs ys (1073741824, 0) (3212836864, 0)))) z) (minusF (mulF (1073741824, 0) (valF xs z)) (valF ys z))) ∧
      ∃ dw o o2 mi, floatBits .mul .f64 4611686018427387904 (sizeF (n - 1) xs z) = some dw ∧ floatBits .add .f64 4607182418800017408 dw = some o ∧ floatBits .add .f64 o (sizeF (m - 1) ys z) = some o2 ∧ floatBits .mul .f64 4562254508917369340 o2 = some mi ∧
        (FloatKind.f64.format.order (farG (valF (trimC (zipW r (wghF xs ys (1073741824, 0) (3212836864, 0)))) z) (minusF (mulF (1073741824, 0) (valF xs z)) (valF ys z))) mi == some .gt) = false := by
  have h1 := D.one
  have hz8 := hz.le
  have key : ∀ t, (MulW (xs.getD t (0, 0)) (1073741824, 0) (mulF (xs.getD t (0, 0)) (1073741824, 0)) ∧ MulW (ys.getD t (0, 0)) (3212836864, 0) (mulF (ys.getD t (0, 0)) (3212836864, 0)) ∧ PlusW (mulF (xs.getD t (0, 0)) (1073741824, 0)) (mulF (ys.getD t (0, 0)) (3212836864, 0)) (wghF xs ys (1073741824, 0) (3212836864, 0) t)) ∧
      Rp (wghF xs ys (1073741824, 0) (3212836864, 0) t) (qadd (qmul (qof (c t)) (2, 0)) (qmul (qof (d t)) (-1, 0))) (l1q (qof (c t)) * 2 + l1q (qof (d t)) * 1) 8 2 := by
    intro t
    have b1 := dp_le8 D t
    have b2 := dp_le8 E t
    obtain ⟨m1, m2⟩ := rp_mul ((dp_ap D).rp t) rp_two (by omega) (by omega) (by omega) (by unfold big57; grind) (by unfold big57; grind) (by unfold big57; grind)
    obtain ⟨m3, m4⟩ := rp_mul ((dp_ap E).rp t) rp_less (by omega) (by omega) (by omega) (by unfold big57; grind) (by unfold big57; grind) (by unfold big57; grind)
    obtain ⟨p1, p2⟩ := rp_plus (c := 6) (k := 2) m2 m4 (by omega) (by omega) (by omega) (by omega) (by omega) (by omega) (by unfold big57; grind) (by unfold big57; grind)
    exact ⟨⟨m1, m3, p1⟩, p2⟩
  have hL : Lp r (zipW r (wghF xs ys (1073741824, 0) (3212836864, 0))) (fun t => qadd (qmul (qof (c t)) (2, 0)) (qmul (qof (d t)) (-1, 0))) (fun t => l1q (qof (c t)) * 2 + l1q (qof (d t)) * 1) 8 2 := lp_zip fun k _ => (key k).2
  obtain ⟨a1, a2⟩ := at_lp hL (by omega) (by omega) hz.rp (by omega) (by omega) (M := 24) (W := 9) (fun k _ => by have := dp_le8 D k; have := dp_le8 E k; grind) (by decide) (by grind) (by decide +kernel) (by unfold big57; grind)
  have e1 : hsC (fun t => qadd (qmul (qof (c t)) (2, 0)) (qmul (qof (d t)) (-1, 0))) q 0 r = qsub (qmul (2, 0) (hsC (fun k => qof (c k)) q 0 n)) (hsC (fun k => qof (d k)) q 0 m) := by
    rw [hsC_add, hsC_mul, hsC_mul, hsC_ext (show n ≤ r by omega) (fun k hk => qof_out D k hk), hsC_ext (show m ≤ r by omega) (fun k hk => qof_out E k hk)]
    generalize hsC (fun k => qof (c k)) q 0 n = A
    generalize hsC (fun k => qof (d k)) q 0 m = B
    unfold qadd qmul qsub
    exact Prod.ext (by simp only; grind) (by simp only; grind)
  have e2 : hsR (fun t => l1q (qof (c t)) * 2 + l1q (qof (d t)) * 1) (l1q q) 0 r = 2 * hsR (fun k => l1q (qof (c k))) (l1q q) 0 n + hsR (fun k => l1q (qof (d k))) (l1q q) 0 m := by
    rw [hsR_add, hsR_mul, hsR_mul, hsR_ext (show n ≤ r by omega) (fun k hk => l1_out D k hk), hsR_ext (show m ≤ r by omega) (fun k hk => l1_out E k hk)]
    grind
  have a3 := a2.cast e1 e2
  obtain ⟨v1, v2⟩ := v_pt D hn hz
  obtain ⟨w1', w2'⟩ := v_pt E hm hz
  have bD := hs_pt D hn hz
  have bE := hs_pt E hm hz
  obtain ⟨_, σ, z2, z3, z4, z5⟩ := s_pt D hn hz
  obtain ⟨_, υ, y2, y3, y4, y5⟩ := s_pt E hm hz
  generalize hsR (fun k => l1q (qof (c k))) (l1q q) 0 n = VA at *
  generalize hsR (fun k => l1q (qof (d k))) (l1q q) 0 m = VB at *
  obtain ⟨s1, s2⟩ := rp_mul rp_two v2 (by omega) (by omega) (by omega) (by unfold big57; grind) (by unfold big57; grind) (by unfold big57; grind)
  obtain ⟨t1, t2⟩ := rp_minus (c := 54) (k := 20) s2 w2' (by omega) (by omega) (by omega) (by omega) (by omega) (by omega) (by unfold big57; grind) (by unfold big57; grind)
  have v2' : V .f64 4611686018427387904 2 := ⟨false, 4503599627370496, -51, by decide +kernel, by decide +kernel⟩
  obtain ⟨dw, ν, g1, r1⟩ := op_mul v2' z2 (by rw [t60]; unfold ab; grind)
  obtain ⟨n1, n2, n3⟩ := near_pos r1.near (show 0 ≤ 2 * σ by grind)
  have e100 : ((100 : Nat) : Rat) = 100 := rfl
  obtain ⟨f1, f, f2, f3, f4⟩ := near_f (a3.up (show 8 + r * (0 + 8) ≤ 100 by omega) (Nat.le_refl _)) (t2.up (show 54 + 2 ≤ 100 by omega) (Nat.le_refl _)) (by omega) (by omega) (by unfold big57; grind) (by unfold big57; grind) (M := 2 * VA + VB) (by rw [e100]; grind)
  obtain ⟨o, o2, mi, q1, q2, q3, q4⟩ := chk_sum f2 r1.val y2 n3 (by grind) y3 (by grind) (by grind)
  exact ⟨fun t => (key t).1, lp_valid hL (by omega) (by omega), a1, s1, t1, f1, dw, o, o2, mi, g1, q1, q2, q3, q4⟩
end
end Go.Proofs.Ytfbekiphlaaieaa
namespace Go.Proofs.Ytfbekiphlaaieaa

theorem cvC_top (Q R : Nat → Rat × Rat) (m n : Nat) (hm : 1 ≤ m) (hn : 1 ≤ n) : cvC Q R m (n + m - 2) n = qmul (Q (n - 1)) (R (m - 1)) := by
  have h0 : ∀ i, i ≤ n - 1 → cvC Q R m (n + m - 2) i = (0, 0) := by
    intro i
    induction i with
    | zero => intro _; rfl
    | succ i ih =>
      intro hi
      rw [cvC, if_neg (by omega)]
      exact ih (by omega)
  obtain ⟨n', rfl⟩ : ∃ n', n = n' + 1 := ⟨n - 1, by omega⟩
  rw [cvC, if_pos (by omega), h0 n' (by omega)]
  have e : n' + 1 + m - 2 - n' = m - 1 := by omega
  rw [e, Nat.add_sub_cancel]
  unfold qadd
  exact Prod.ext (by simp only; grind) (by simp only; grind)
theorem cvR_top (Q R : Nat → Rat) (m n : Nat) (hm : 1 ≤ m) (hn : 1 ≤ n) : cvR Q R m (n + m - 2) n = Q (n - 1) * R (m - 1) := by
  have h0 : ∀ i, i ≤ n - 1 → cvR Q R m (n + m - 2) i = 0 := by
    intro i
    induction i with
    | zero => intro _; rfl
    | succ i ih =>
      intro hi
      rw [cvR, if_neg (by omega)]
      exact ih (by omega)
  obtain ⟨n', rfl⟩ : ∃ n', n = n' + 1 := ⟨n - 1, by omega⟩
  rw [cvR, if_pos (by omega), h0 n' (by omega)]
  have e : n' + 1 + m - 2 - n' = m - 1 := by omega
  rw [e, Nat.add_sub_cancel]
  grind
section
variable {n m : Nat} {xs ys : List (Nat × Nat)} {c d : Nat → GI}
theorem top_real (D : Dp n xs c) : ∃ t : Rat, 0 < t ∧ qof (c (n - 1)) = (t, 0) := by
  obtain ⟨x, h1, _, h2, _⟩ := D.top
  refine ⟨(x : Rat) / 2, ?_, ?_⟩
  · have : (1 : Rat) ≤ (x : Rat) := by exact_mod_cast h1
    grind
  · rw [h2]
    unfold qof cq
    rw [iv2_q, iv2_q]
    exact Prod.ext (by simp only; push_cast; grind) (by simp only; push_cast; grind)
theorem prod_full (D : Dp n xs c) (E : Dp m ys d) (hn : n ≤ 6) (hm : m ≤ 6) : trimC (prodC xs ys n m) = prodC xs ys n m ∧ (prodC xs ys n m).length = n + m - 1 := by
  have h1 := D.one
  have h1' := E.one
  obtain ⟨_, p2⟩ := prod_lp (dp_ap D) (dp_ap E) (by omega) (by decide) (by decide) n m (by omega) (by omega)
  refine ⟨trimC_id (by rw [p2.len]; omega) (.inr ?_), p2.len⟩
  rw [p2.len]
  have e : n + m - 1 - 1 = n + m - 2 := by omega
  rw [e]
  have h := p2.rp (n + m - 2) (by omega)
  rw [cvC_top _ _ m n h1' h1, cvR_top _ _ m n h1' h1] at h
  obtain ⟨s, s0, es⟩ := top_real D
  obtain ⟨t, t0, et⟩ := top_real E
  rw [es, et] at h
  have hst := Rat.mul_pos s0 t0
  have e0 : ab (0 : Rat) = 0 := by decide +kernel
  have l1 : l1q (s, 0) = s := by
    unfold l1q
    simp only
    rw [e0]
    unfold ab
    grind
  have l2 : l1q (t, 0) = t := by
    unfold l1q
    simp only
    rw [e0]
    unfold ab
    grind
  have e3 : qmul (s, 0) (t, 0) = (s * t, 0) := by
    unfold qmul
    exact Prod.ext (by simp only; grind) (by simp only; grind)
  have l3 : l1q (s * t, 0) = s * t := by
    unfold l1q
    simp only
    rw [e0]
    unfold ab
    grind
  rw [l1, l2, e3] at h
  exact isZ_not ((h.up (show 0 + 0 + 6 + 2 * n ≤ 100 by omega) (Nat.le_refl _)).cast rfl l3.symm) (by decide) (by rw [l3]; exact hst)
end
end Go.Proofs.Ytfbekiphlaaieaa
namespace Go.Proofs.Ytfbekiphlaaieaa

/-- The sum of the first n products at the place k. -/
def cnv (Q R : Nat → Rat × Rat) (k : Nat) : Nat → Rat × Rat
  | 0 => (0, 0)
  | i + 1 => if i ≤ k then qadd (cnv Q R k i) (qmul (Q i) (R (k - i))) else cnv Q R k i
theorem qadd_zero (A : Rat × Rat) : qadd A (0, 0) = A := by
  unfold qadd
  exact Prod.ext (by simp only; grind) (by simp only; grind)
theorem zero_qadd (A : Rat × Rat) : qadd (0, 0) A = A := by
  unfold qadd
  exact Prod.ext (by simp only; grind) (by simp only; grind)
theorem qmul_zero (A : Rat × Rat) : qmul A (0, 0) = (0, 0) := by
  unfold qmul
  exact Prod.ext (by simp only; grind) (by simp only; grind)
theorem zero_qmul (A : Rat × Rat) : qmul (0, 0) A = (0, 0) := by
  unfold qmul
  exact Prod.ext (by simp only; grind) (by simp only; grind)
theorem cvC_cnv (Q R : Nat → Rat × Rat) (m k : Nat) (hR : ∀ j, m ≤ j → R j = (0, 0)) (n : Nat) : cvC Q R m k n = cnv Q R k n := by
  induction n with
  | zero => rfl
  | succ n ih =>
    rw [cvC, cnv, ih]
    by_cases h1 : n ≤ k
    · by_cases h2 : k - n < m
      · rw [if_pos ⟨h1, h2⟩, if_pos h1]
      · rw [if_neg (fun h => h2 h.2), if_pos h1, hR (k - n) (by omega), qmul_zero, qadd_zero]
    · rw [if_neg (fun h => h1 h.1), if_neg h1]
theorem cnv_add_left (Q Q' R : Nat → Rat × Rat) (k n : Nat) : cnv (fun i => qadd (Q i) (Q' i)) R k n = qadd (cnv Q R k n) (cnv Q' R k n) := by
  induction n with
  | zero => exact (qadd_zero _).symm
  | succ n ih =>
    rw [cnv, cnv, cnv, ih]
    split
    · generalize cnv Q R k n = A
      generalize cnv Q' R k n = B
      unfold qadd qmul
      exact Prod.ext (by simp only; grind) (by simp only; grind)
    · rfl
theorem cnv_add_right (Q R R' : Nat → Rat × Rat) (k n : Nat) : cnv Q (fun i => qadd (R i) (R' i)) k n = qadd (cnv Q R k n) (cnv Q R' k n) := by
  induction n with
  | zero => exact (qadd_zero _).symm
  | succ n ih =>
    rw [cnv, cnv, cnv, ih]
    split
    · generalize cnv Q R k n = A
      generalize cnv Q R' k n = B
      unfold qadd qmul
      exact Prod.ext (by simp only; grind) (by simp only; grind)
    · rfl
/-- The places from u on. -/
theorem cnv_split (Q R : Nat → Rat × Rat) (k u n : Nat) : cnv Q R k (u + n) = qadd (cnv Q R k u) (if u ≤ k then cnv (fun i => Q (u + i)) R (k - u) n else (0, 0)) := by
  induction n with
  | zero =>
    have e : (if u ≤ k then cnv (fun i => Q (u + i)) R (k - u) 0 else (0, 0)) = (0, 0) := by split <;> rfl
    rw [e, qadd_zero, Nat.add_zero]
  | succ n ih =>
    rw [← Nat.add_assoc, cnv, ih]
    by_cases h1 : u ≤ k
    · rw [if_pos h1, if_pos h1, cnv]
      by_cases h2 : u + n ≤ k
      · have e : k - u - n = k - (u + n) := by omega
        rw [if_pos h2, if_pos (by omega), e]
        generalize cnv Q R k u = A
        generalize cnv (fun i => Q (u + i)) R (k - u) n = B
        unfold qadd
        exact Prod.ext (by simp only; grind) (by simp only; grind)
      · rw [if_neg h2, if_neg (by omega)]
    · rw [if_neg h1, if_neg h1, if_neg (by omega)]
/-- The second list moved up. -/
theorem cnv_up (Q R : Nat → Rat × Rat) (k u n : Nat) : cnv Q (fun j => if u ≤ j then R (j - u) else (0, 0)) k n = if u ≤ k then cnv Q R (k - u) n else (0, 0) := by
  induction n with
  | zero => split <;> rfl
  | succ n ih =>
    rw [cnv, ih]
    by_cases h1 : u ≤ k
    · rw [if_pos h1, if_pos h1, cnv]
      by_cases h2 : n ≤ k - u
      · have e : k - n - u = k - u - n := by omega
        rw [if_pos (show n ≤ k by omega), if_pos h2, if_pos (by omega), e]
      · rw [if_neg h2]
        by_cases h3 : n ≤ k
        · rw [if_pos h3, if_neg (by omega), qmul_zero, qadd_zero]
        · rw [if_neg h3]
    · rw [if_neg h1, if_neg h1]
      by_cases h3 : n ≤ k
      · rw [if_pos h3, if_neg (by omega), qmul_zero, qadd_zero]
      · rw [if_neg h3]
end Go.Proofs.Ytfbekiphlaaieaa
namespace Go.Proofs.Ytfbekiphlaaieaa

theorem cnv_congr {Q Q' R R' : Nat → Rat × Rat} (k n : Nat) (h : ∀ i, i < n → Q i = Q' i) (h' : ∀ j, R j = R' j) : cnv Q R k n = cnv Q' R' k n := by
  induction n with
  | zero => rfl
  | succ n ih =>
    rw [cnv, cnv, ih (fun i hi => h i (by omega)), h n (by omega), h' (k - n)]
/-- The parts of a list. -/
def loQ (u : Nat) (Q : Nat → Rat × Rat) (i : Nat) : Rat × Rat := if i < u then Q i else (0, 0)
def hiQ (u : Nat) (Q : Nat → Rat × Rat) (i : Nat) : Rat × Rat := Q (u + i)
theorem parts (u : Nat) (R : Nat → Rat × Rat) (j : Nat) : R j = qadd (loQ u R j) (if u ≤ j then hiQ u R (j - u) else (0, 0)) := by
  unfold loQ hiQ
  by_cases h : j < u
  · rw [if_pos h, if_neg (by omega), qadd_zero]
  · have e : u + (j - u) = j := by omega
    rw [if_neg h, if_pos (by omega), zero_qadd, e]
theorem cnv_half (Q R : Nat → Rat × Rat) (k u : Nat) : cnv Q R k u = qadd (cnv (loQ u Q) (loQ u R) k u) (if u ≤ k then cnv (loQ u Q) (hiQ u R) (k - u) u else (0, 0)) := by
  have e := cnv_congr (Q := Q) (Q' := loQ u Q) k u (fun i hi => by unfold loQ; rw [if_pos hi]) (fun j => parts u R j)
  rw [e, cnv_add_right, cnv_up]
theorem cnv_half' (Q R : Nat → Rat × Rat) (k u : Nat) : cnv (hiQ u Q) R k u = qadd (cnv (hiQ u Q) (loQ u R) k u) (if u ≤ k then cnv (hiQ u Q) (hiQ u R) (k - u) u else (0, 0)) := by
  have e := cnv_congr (Q := hiQ u Q) (Q' := hiQ u Q) k u (fun i _ => rfl) (fun j => parts u R j)
  rw [e, cnv_add_right, cnv_up]
/-- The mixed part without low and high. -/
def crQ (u : Nat) (Q R : Nat → Rat × Rat) (j : Nat) : Rat × Rat := qsub (qsub (cnv (fun i => qadd (loQ u Q i) (hiQ u Q i)) (fun i => qadd (loQ u R i) (hiQ u R i)) j u) (cnv (loQ u Q) (loQ u R) j u)) (cnv (hiQ u Q) (hiQ u R) j u)
theorem cr_val (u : Nat) (Q R : Nat → Rat × Rat) (j : Nat) : crQ u Q R j = qadd (cnv (loQ u Q) (hiQ u R) j u) (cnv (hiQ u Q) (loQ u R) j u) := by
  unfold crQ
  rw [cnv_add_left, cnv_add_right, cnv_add_right]
  generalize cnv (loQ u Q) (loQ u R) j u = A
  generalize cnv (loQ u Q) (hiQ u R) j u = B
  generalize cnv (hiQ u Q) (loQ u R) j u = C
  generalize cnv (hiQ u Q) (hiQ u R) j u = D
  unfold qadd qsub
  exact Prod.ext (by simp only; grind) (by simp only; grind)
theorem halves_val (Q R : Nat → Rat × Rat) (k u : Nat) : cnv Q R k (u + u) = qadd (qadd (cnv (loQ u Q) (loQ u R) k u) (if u + u ≤ k then cnv (hiQ u Q) (hiQ u R) (k - (u + u)) u else (0, 0))) (if u ≤ k then crQ u Q R (k - u) else (0, 0)) := by
  rw [cnv_split, cnv_half]
  by_cases h1 : u ≤ k
  · have e : cnv (fun i => Q (u + i)) R (k - u) u = cnv (hiQ u Q) R (k - u) u := rfl
    rw [if_pos h1, if_pos h1, if_pos h1, e, cnv_half', cr_val]
    by_cases h2 : u + u ≤ k
    · have e2 : k - u - u = k - (u + u) := by omega
      rw [if_pos (by omega), if_pos h2, e2]
      generalize cnv (loQ u Q) (loQ u R) k u = A
      generalize cnv (loQ u Q) (hiQ u R) (k - u) u = B
      generalize cnv (hiQ u Q) (loQ u R) (k - u) u = C
      generalize cnv (hiQ u Q) (hiQ u R) (k - (u + u)) u = D
      unfold qadd
      exact Prod.ext (by simp only; grind) (by simp only; grind)
    · rw [if_neg (by omega), if_neg h2, qadd_zero, qadd_zero]
      generalize cnv (loQ u Q) (loQ u R) k u = A
      generalize cnv (loQ u Q) (hiQ u R) (k - u) u = B
      generalize cnv (hiQ u Q) (loQ u R) (k - u) u = C
      unfold qadd
      exact Prod.ext (by simp only; grind) (by simp only; grind)
  · rw [if_neg h1, if_neg h1, if_neg h1, if_neg (by omega), qadd_zero, qadd_zero]
end Go.Proofs.Ytfbekiphlaaieaa
namespace Go.Proofs.Ytfbekiphlaaieaa
open Ieee

theorem sg_xor (s t : Bool) : sg (s ^^ t) * sg t = sg s := by cases s <;> cases t <;> unfold sg <;> decide +kernel
theorem ab_sgn (s : Bool) (x : Rat) : ab (sg s * x) = ab x := by
  cases s
  · unfold sg
    simp
  · have e : sg true * x = -x := by unfold sg; simp only [if_true]; grind
    rw [e, ab_neg]
/-- A quotient in double precision. -/
theorem op_quo2 {x y : Nat} {a b : Rat} (hx : V .f64 x a) (hy : V .f64 y b) (hb : b ≠ 0) (hq : ab a ≤ ab b * 1125899906842624) :
    ∃ r q, floatBits .quo .f64 x y = some r ∧ V .f64 r q ∧ ab q < 9007199254740992 ∧ ab (q * b - a) ≤ 3 / 2 * eps * ab a + tau * ab b := by
  obtain ⟨s, m, i, h1, rfl⟩ := hx
  obtain ⟨t, n, j, h2, rfl⟩ := hy
  have hn : 0 < n := by
    rcases Nat.eq_zero_or_pos n with h | h
    · subst h; exfalso; apply hb; unfold sv; grind
    · exact h
  have hnr : 0 < (n : Rat) := by exact_mod_cast hn
  have hquo : FloatKind.f64.format.div x y = Option.map FloatKind.f64.format.write (Datum.quotient 54 (.number s m i) (.number t n j)) := by
    show Option.map _ (Datum.quotient 54 (FloatKind.f64.decode x) (FloatKind.f64.decode y)) = _
    rw [h1, h2]
  have hfb : floatBits .quo .f64 x y = FloatKind.f64.format.div x y := rfl
  rw [hfb, hquo]
  unfold Datum.quotient
  dsimp only
  rw [if_neg (by omega)]
  generalize hmore : 54 + n.log2 - m.log2 = more
  have hD := Nat.div_add_mod (m <<< more) n
  have hR := Nat.mod_lt (m <<< more) hn
  generalize hqq : m <<< more / n = Q at hD ⊢
  generalize hrr : m <<< more % n = R at hD hR ⊢
  rw [ab_sv, ab_sv] at hq
  generalize hσ : (R != 0).toNat = σ
  have hm2 : n * Q + R = m * 2 ^ more := by rw [hD, Nat.shiftLeft_eq]
  have hT : 9007199254740992 * (n * (2 * Q + σ)) ≤ 9007199254740993 * (2 * (m * 2 ^ more)) ∧ 9007199254740992 * (2 * (m * 2 ^ more)) ≤ 9007199254740992 * (n * (2 * Q + σ)) + 2 * (m * 2 ^ more) := by
    rcases Nat.eq_zero_or_pos R with h0 | h0
    · have : σ = 0 := by rw [← hσ, h0]; rfl
      subst this
      have e : n * (2 * Q + 0) = 2 * (n * Q) := by rw [Nat.add_zero, Nat.mul_left_comm]
      rw [e]
      omega
    · have : σ = 1 := by
        rw [← hσ]
        have : (R != 0) = true := by simp; omega
        rw [this]; rfl
      subst this
      have e : n * (2 * Q + 1) = 2 * (n * Q) + n := by rw [Nat.mul_add, Nat.mul_one, Nat.mul_left_comm]
      have hm0 : 0 < m := by
        rcases Nat.eq_zero_or_pos m with h | h
        · subst h; simp at hm2; omega
        · exact h
      have h3 : 2 ^ m.log2 ≤ m := Nat.log2_self_le (by omega)
      have h4 : n < 2 ^ (n.log2 + 1) := Nat.lt_log2_self
      have h5 : 2 ^ (54 + n.log2) ≤ m * 2 ^ more := by
        have : 2 ^ (m.log2 + more) ≤ m * 2 ^ more := by rw [Nat.pow_add]; exact Nat.mul_le_mul_right _ h3
        exact Nat.le_trans (Nat.pow_le_pow_right (by omega) (by omega)) this
      have h6 : 2 ^ (54 + n.log2) = 9007199254740992 * 2 ^ (n.log2 + 1) := by
        have e6 : 54 + n.log2 = 53 + (n.log2 + 1) := by omega
        rw [e6, Nat.pow_add]
      rw [e]
      omega
  obtain ⟨h, hh⟩ : ∃ h : Int, i - j - (more : Int) - 1 = h := ⟨_, rfl⟩
  rw [hh]
  have hi : i = j + 1 + h + (more : Int) := by omega
  have e1 : two i = two j * 2 * two h * ((2 ^ more : Nat) : Rat) := by
    rw [hi, two_add, two_add, two_add, two_nat]
    have : two 1 = 2 := by decide +kernel
    rw [this]
  have hT1 : 9007199254740992 * ((n : Rat) * ((2 * Q + σ : Nat) : Rat)) ≤ 9007199254740993 * (2 * ((m : Rat) * ((2 ^ more : Nat) : Rat))) := by
    have := Rat.natCast_le_natCast.2 hT.1
    push_cast at this ⊢
    exact this
  have hT2 : 9007199254740992 * (2 * ((m : Rat) * ((2 ^ more : Nat) : Rat))) ≤ 9007199254740992 * ((n : Rat) * ((2 * Q + σ : Nat) : Rat)) + 2 * ((m : Rat) * ((2 ^ more : Nat) : Rat)) := by
    have := Rat.natCast_le_natCast.2 hT.2
    push_cast at this ⊢
    exact this
  have hS : sv (s ^^ t) (2 * Q + σ) h * sv t n j = sg s * (((2 * Q + σ : Nat) : Rat) * two h * ((n : Rat) * two j)) := by
    unfold sv
    rw [← sg_xor s t]
    generalize ((2 * Q + σ : Nat) : Rat) = T
    grind
  have hp := Rat.mul_pos (two_pos h) (two_pos j)
  have hA : ab (sv (s ^^ t) (2 * Q + σ) h * sv t n j - sv s m i) ≤ 1 / 9007199254740992 * ab (sv s m i) := by
    have e2 : sv s m i = sg s * ((m : Rat) * two i) := by unfold sv; grind
    have e3 : sv (s ^^ t) (2 * Q + σ) h * sv t n j - sv s m i = sg s * (((2 * Q + σ : Nat) : Rat) * two h * ((n : Rat) * two j) - (m : Rat) * two i) := by rw [hS, e2]; grind
    rw [e3, e2, ab_sgn, ab_sgn, e1]
    generalize ((2 ^ more : Nat) : Rat) = M at *
    generalize ((2 * Q + σ : Nat) : Rat) = T at *
    have e4 : T * two h * ((n : Rat) * two j) - (m : Rat) * (two j * 2 * two h * M) = ((n : Rat) * T - 2 * ((m : Rat) * M)) * (two h * two j) := by grind
    have e5 : (m : Rat) * (two j * 2 * two h * M) = 2 * ((m : Rat) * M) * (two h * two j) := by grind
    rw [e4, e5]
    have h7 := Rat.mul_le_mul_of_nonneg_right hT1 (Rat.le_of_lt hp)
    have h8 := Rat.mul_le_mul_of_nonneg_right hT2 (Rat.le_of_lt hp)
    generalize two h * two j = P at *
    generalize (n : Rat) * T = nT at *
    generalize (m : Rat) * M = mM at *
    have e6 : 9007199254740992 * nT * P = 9007199254740992 * (nT * P) := by grind
    have e7 : 9007199254740993 * (2 * mM) * P = 9007199254740993 * (2 * (mM * P)) := by grind
    have e8 : 9007199254740992 * (2 * mM) * P = 9007199254740992 * (2 * (mM * P)) := by grind
    have e9 : (9007199254740992 * nT + 2 * mM) * P = 9007199254740992 * (nT * P) + 2 * (mM * P) := by grind
    rw [e6, e7] at h7
    rw [e8, e9] at h8
    have e10 : (nT - 2 * mM) * P = nT * P - 2 * (mM * P) := by grind
    have e11 : 2 * mM * P = 2 * (mM * P) := by grind
    rw [e10, e11]
    generalize nT * P = u at *
    generalize mM * P = v at *
    clear hT hT1 hT2 hS e1 e3 e4 e5 e6 e7 e8 e9 e10 e11
    unfold ab
    split <;> split <;> grind
  have hBp := Rat.mul_pos hnr (two_pos j)
  rw [← ab_sv t n j] at hBp hq
  rw [← ab_sv s m i] at hq
  generalize sv t n j = b at *
  generalize sv s m i = a at *
  generalize hSS : sv (s ^^ t) (2 * Q + σ) h = S at *
  have hSb' : ab S * ab b ≤ 1 / 9007199254740992 * ab a + ab a := by
    have e : ab S * ab b = ab (S * b) := (ab_mul S b).symm
    rw [e]
    have := ab_add (S * b - a) a
    have e2 : S * b - a + a = S * b := by grind
    rw [e2] at this
    grind
  have hSb : ab S ≤ 2 * 1125899906842624 := by
    refine Classical.byContradiction fun hn' => ?_
    have h7 : 2 * 1125899906842624 * ab b < ab S * ab b := Rat.mul_lt_mul_of_pos_right (by grind) hBp
    grind
  obtain ⟨q, hq'⟩ := rounded .f64 (s ^^ t) (2 * Q + σ) h _ hSS (by rw [t60]; grind)
  have h8 := near_le hq'.near
  have h9 := tau_small
  refine ⟨_, q, rfl, hq'.val, by grind, ?_⟩
  have h10 := near_far hq'.near
  have e : q * b - a = (q - S) * b + (S * b - a) := by grind
  rw [e]
  have h11 := ab_add ((q - S) * b) (S * b - a)
  have h12 := ab_mul (q - S) b
  have h13 := Rat.mul_le_mul_of_nonneg_right h10 (Rat.le_of_lt hBp)
  rw [← h12] at h13
  have h14 := ab_nonneg a
  rw [eps_val] at h13 ⊢
  have e3 : (1 / 8388608 * ab S + tau) * ab b = 1 / 8388608 * (ab S * ab b) + tau * ab b := by grind
  rw [e3] at h13
  generalize ab S * ab b = SB at *
  generalize tau * ab b = tB at *
  generalize ab ((q - S) * b) = D at *
  grind
/-- One part of a quotient. -/
theorem quo_part {a A AC BD P q r t : Rat} (ht : t = 1 / 2 ∨ t = 1 ∨ t = 3 / 2 ∨ t = 2 ∨ t = 5 / 2 ∨ t = 3 ∨ t = 7 / 2 ∨ t = 4) (n1 : Near a A) (n2 : Near (A * t) AC) (hBD : BD = 0) (n3 : Near (AC - BD) P ∨ Near (BD + AC) P) (hq : ab (q * (t * t) - P) ≤ 3 / 2 * eps * ab P + tau * ab (t * t)) (n4 : Near q r) :
    ab (r * t - a) ≤ 12 * (eps * ab a) + 100 * tau := by
  have f1 := near_far n1
  have hP : Near AC P := by
    rcases n3 with n3 | n3
    · have e : AC - BD = AC := by grind
      rw [e] at n3; exact n3
    · have e : BD + AC = AC := by grind
      rw [e] at n3; exact n3
  have f4 := near_far n4
  have ht0 : 0 < t := by grind
  have tp := tau_pos
  have k1 : ab (A * t - a * t) ≤ (eps * ab a + tau) * t := by
    have e : A * t - a * t = (A - a) * t := by grind
    rw [e, ab_mul]
    have e2 : ab t = t := by unfold ab; grind
    rw [e2]
    exact Rat.mul_le_mul_of_nonneg_right f1 (Rat.le_of_lt ht0)
  have k2 := near_step n2 k1
  have k3 := near_step hP k2
  have e1 : ab (a * t) = ab a * t := by
    rw [ab_mul]
    have e2 : ab t = t := by unfold ab; grind
    rw [e2]
  rw [e1] at k2 k3
  have ha := ab_nonneg a
  have k4 : ab P ≤ ab (P - a * t) + ab a * t := by
    have h := ab_add (P - a * t) (a * t)
    have e : P - a * t + a * t = P := by grind
    rw [e, e1] at h
    exact h
  have k5 : ab (q * (t * t) - a * t) ≤ ab (q * (t * t) - P) + ab (P - a * t) := by
    have h := ab_add (q * (t * t) - P) (P - a * t)
    have e : q * (t * t) - P + (P - a * t) = q * (t * t) - a * t := by grind
    rw [e] at h
    exact h
  have k6 : ab (q * t - a) * t = ab (q * (t * t) - a * t) := by
    have e2 : ab t = t := by unfold ab; grind
    have e : q * (t * t) - a * t = (q * t - a) * t := by grind
    rw [e, ab_mul, e2]
  have k7 : ab (r * t - a) ≤ (eps * ab q + tau) * t + ab (q * t - a) := by
    have h := ab_add ((r - q) * t) (q * t - a)
    have e : (r - q) * t + (q * t - a) = r * t - a := by grind
    have e2 : ab t = t := by unfold ab; grind
    rw [e, ab_mul, e2] at h
    have := Rat.mul_le_mul_of_nonneg_right f4 (Rat.le_of_lt ht0)
    grind
  have k8 : ab q * t ≤ ab (q * t - a) + ab a := by
    have h := ab_add (q * t - a) a
    have e : q * t - a + a = q * t := by grind
    have e2 : ab t = t := by unfold ab; grind
    rw [e, ab_mul, e2] at h
    exact h
  have k9 : ab (t * t) = t * t := by
    rw [ab_mul]
    have e2 : ab t = t := by unfold ab; grind
    rw [e2]
  rw [k9] at hq
  have hts := tau_small
  rw [eps_val] at *
  clear n1 n2 n3 n4 hP f1 f4 k9 e1
  generalize ab (r * t - a) = Z1 at *
  generalize ab (q * t - a) = Z2 at *
  generalize ab (q * (t * t) - a * t) = Z3 at *
  generalize ab (q * (t * t) - P) = Z4 at *
  generalize ab (P - a * t) = Z5 at *
  generalize ab (A * t - a * t) = Z6 at *
  generalize ab (AC - a * t) = Z7 at *
  generalize ab P = Z8 at *
  generalize ab q = Z9 at *
  generalize ab a = Z at *
  generalize tau = T at *
  rcases ht with rfl | rfl | rfl | rfl | rfl | rfl | rfl | rfl <;> grind
/-- The quotient of any words by a drawn top. -/
theorem quo_word {x y : Nat × Nat} {v : Rat × Rat} (hx1 : V .f32 x.1 v.1) (hx2 : V .f32 x.2 v.2) (hv : l1q v ≤ 16777216) {k : Int} (hk : 1 ≤ k) (hk8 : k ≤ 8) (hy : CV y (2 * k) 0 (-2)) :
    ∃ r, QuotW x y r ∧ ∃ u : Rat × Rat, V .f32 r.1 u.1 ∧ V .f32 r.2 u.2 ∧ l1q (qsub (qmul u ((k : Rat) / 2, 0)) v) ≤ 12 * (eps * l1q v) + 200 * tau := by
  have k1 : dgs .f64 = 9007199254740992 := rfl
  have pv := ab_part v
  obtain ⟨A, A', eA, _, vA, nA⟩ := up_near hx1 (by grind)
  obtain ⟨B, B', eB, _, vB, nB⟩ := up_near hx2 (by grind)
  have tp := tau_pos
  have ts := tau_small
  have lA := near_le nA
  have lB := near_le nB
  have hyn : V .f32 (conjF y).2 (iv2 (-0) (-2)) := by
    have h := V_neg hy.im
    have e : -(iv2 0 (-2)) = iv2 (-0) (-2) := by unfold iv2; push_cast; grind
    rw [e] at h
    exact h
  have m5 : (2 * k * (2 * k)).natAbs ≤ 256 := by
    rw [Int.natAbs_mul]
    exact Nat.mul_le_mul (show (2 * k).natAbs ≤ 16 by omega) (show (2 * k).natAbs ≤ 16 by omega)
  obtain ⟨C, eC, vC⟩ := ex_conv hy.re (k' := .f64) (by decide) (by omega) (by omega) (by omega)
  obtain ⟨D, eD, vD⟩ := ex_conv hyn (k' := .f64) (by decide) (by omega) (by omega) (by omega)
  obtain ⟨D', eD', vD'⟩ := ex_conv hy.im (k' := .f64) (by decide) (by omega) (by omega) (by omega)
  obtain ⟨CC, eCC, vCC⟩ := ex_mul vC vC (by omega) (by omega) (by omega)
  obtain ⟨DD, eDD, vDD⟩ := ex_mul vD' vD' (by omega) (by omega) (by omega)
  obtain ⟨S, eS, vS⟩ := ex_add vCC vDD (by omega) (by omega) (by omega)
  have z0 : iv2 (-0) (-2) = 0 := by unfold iv2; simp
  have zt : iv2 (2 * k) (-2) = (k : Rat) / 2 := by rw [iv2_q]; push_cast; grind
  have zs : iv2 (2 * k * (2 * k) + 0 * 0) (-2 + -2) = (k : Rat) / 2 * ((k : Rat) / 2) := by
    unfold iv2
    rw [show ((-2 : Int) + -2) = -4 from rfl, two_m4]
    push_cast
    grind
  rw [z0] at vD
  rw [zt] at vC
  rw [zs] at vS
  have ht : (k : Rat) / 2 = 1 / 2 ∨ (k : Rat) / 2 = 1 ∨ (k : Rat) / 2 = 3 / 2 ∨ (k : Rat) / 2 = 2 ∨ (k : Rat) / 2 = 5 / 2 ∨ (k : Rat) / 2 = 3 ∨ (k : Rat) / 2 = 7 / 2 ∨ (k : Rat) / 2 = 4 := by
    have : k = 1 ∨ k = 2 ∨ k = 3 ∨ k = 4 ∨ k = 5 ∨ k = 6 ∨ k = 7 ∨ k = 8 := by omega
    rcases this with rfl | rfl | rfl | rfl | rfl | rfl | rfl | rfl <;> decide +kernel
  generalize (k : Rat) / 2 = t at *
  have ht2 : 1 / 4 ≤ t * t := by
    rcases ht with rfl | rfl | rfl | rfl | rfl | rfl | rfl | rfl <;> decide +kernel
  have ht0 : 0 < t ∧ t ≤ 4 := by
    rcases ht with rfl | rfl | rfl | rfl | rfl | rfl | rfl | rfl <;> decide +kernel
  have et : ab t = t := by unfold ab; grind
  have ett : ab (t * t) = t * t := by unfold ab; grind
  have hAt : ab (A' * t) ≤ 68000000 := by
    rw [ab_mul, et]
    have h := Rat.mul_le_mul_of_nonneg_left ht0.2 (ab_nonneg A')
    grind
  have hBt : ab (B' * t) ≤ 68000000 := by
    rw [ab_mul, et]
    have h := Rat.mul_le_mul_of_nonneg_left ht0.2 (ab_nonneg B')
    grind
  have e00 : ab (0 : Rat) = 0 := by decide +kernel
  have hB0 : B' * 0 = 0 := by grind
  have hA0 : A' * 0 = 0 := by grind
  obtain ⟨AC, ac, eAC, rAC⟩ := op_mul vA vC (by rw [t60]; grind)
  obtain ⟨BD, bd, eBD, rBD⟩ := op_mul vB vD (by rw [t60, hB0, e00]; grind)
  obtain ⟨AD, ad, eAD, rAD⟩ := op_mul vA vD (by rw [t60, hA0, e00]; grind)
  obtain ⟨BC, bc, eBC, rBC⟩ := op_mul vB vC (by rw [t60]; grind)
  have hbd : bd = 0 := near_of_zero rBD.near hB0
  have had : ad = 0 := near_of_zero rAD.near hA0
  have lac := near_le rAC.near
  have lbc := near_le rBC.near
  obtain ⟨P, p, eP, rP⟩ := op_sub rAC.val rBD.val (by rw [t60, hbd]; have : ac - 0 = ac := by grind
                                                      rw [this]; grind)
  obtain ⟨Q, q, eQ, rQ⟩ := op_add rAD.val rBC.val (by rw [t60, had]; have : 0 + bc = bc := by grind
                                                      rw [this]; grind)
  have lp := near_le rP.near
  have lq := near_le rQ.near
  have hp : ab p ≤ 70000000 := by
    rw [hbd] at lp
    have : ac - 0 = ac := by grind
    rw [this] at lp
    grind
  have hq : ab q ≤ 70000000 := by
    rw [had] at lq
    have : 0 + bc = bc := by grind
    rw [this] at lq
    grind
  have hne : t * t ≠ 0 := by intro h; rw [h] at ht2; exact absurd ht2 (by decide +kernel)
  obtain ⟨Q1, q1, f1, v1, b1, d1⟩ := op_quo2 rP.val vS hne (by rw [ett]; grind)
  obtain ⟨Q2, q2, f2, v2, b2, d2⟩ := op_quo2 rQ.val vS hne (by rw [ett]; grind)
  obtain ⟨R1, r1, g1, w1⟩ := op_conv v1 (k' := .f32) (by decide) (by rw [t60]; grind)
  obtain ⟨R2, r2, g2, w2⟩ := op_conv v2 (k' := .f32) (by decide) (by rw [t60]; grind)
  refine ⟨(R1, R2), ⟨P, Q, S, Q1, Q2, ⟨⟨A, B, C, D, AC, BD, AD, BC, eA, eB, eC, eD, eAC, eBD, eAD, eBC, eP, eQ⟩⟩, ⟨C, D', CC, DD, eC, eD', eCC, eDD, eS⟩, f1, f2, g1, g2⟩, (r1, r2), w1.val, w2.val, ?_⟩
  have p1 := quo_part ht nA rAC.near hbd (.inl rP.near) d1 w1.near
  have p2 := quo_part ht nB rBC.near had (.inr rQ.near) d2 w2.near
  unfold l1q qsub qmul
  simp only
  have e1 : r1 * t - r2 * 0 - v.1 = r1 * t - v.1 := by grind
  have e2 : r1 * 0 + r2 * t - v.2 = r2 * t - v.2 := by grind
  rw [e1, e2]
  have e3 : eps * (ab v.1 + ab v.2) = eps * ab v.1 + eps * ab v.2 := by grind
  grind
end Go.Proofs.Ytfbekiphlaaieaa
