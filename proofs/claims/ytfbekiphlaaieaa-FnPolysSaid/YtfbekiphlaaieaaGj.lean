/- The polynomial of drawn roots: its list of words trimmed, turned round, lengthened; tests that compare. Condition: at most five roots. -/
import Derived.Test.YtfbekiphlaaieaaGi
namespace Go.Proofs.Ytfbekiphlaaieaa

theorem gt_false {k : FloatKind} {x y : Nat} {a b : Rat} (hx : V k x a) (hy : V k y b) (h : a ≤ b) : (k.format.order x y == some .gt) = false := by
  rw [order_val hx hy]
  by_cases h1 : a < b
  · simp [h1]
  · have h2 : a = b := by grind
    simp [h2]
theorem lt_false {k : FloatKind} {x y : Nat} {a b : Rat} (hx : V k x a) (hy : V k y b) (h : b ≤ a) : (k.format.order x y == some .lt) = false := by
  rw [order_val hx hy]
  have h1 : ¬ a < b := by grind
  by_cases h2 : a = b
  · simp [h2]
  · simp [h1, h2]
theorem eq_true {k : FloatKind} {x y : Nat} {a : Rat} (hx : V k x a) (hy : V k y a) : (k.format.order x y == some .eq) = true := by
  rw [order_val hx hy]
  have h1 : ¬ a < a := by grind
  simp [h1]
theorem eq_iff {k : FloatKind} {x y : Nat} {a b : Rat} (hx : V k x a) (hy : V k y b) : (k.format.order x y == some .eq) = decide (a = b) := by
  rw [order_val hx hy]
  by_cases h1 : a < b
  · have h2 : ¬ a = b := by grind
    simp [h1, h2]
  · by_cases h2 : a = b
    · subst h2; simp [h1]
    · simp [h1, h2]
theorem iv2_zero {a p : Int} : iv2 a p = 0 ↔ a = 0 := by
  have hp := two_pos p
  constructor
  · intro h
    unfold iv2 at h
    have h1 : (a : Rat) = 0 := by
      refine Classical.byContradiction fun hne => ?_
      have h0 : (a : Rat) < 0 ∨ 0 < (a : Rat) := by grind
      rcases h0 with h2 | h2
      · have := Rat.mul_lt_mul_of_pos_right h2 hp; grind
      · have := Rat.mul_lt_mul_of_pos_right h2 hp; grind
    exact_mod_cast h1
  · intro h; subst h; unfold iv2; simp
theorem isZ_iff {x : Nat × Nat} {a b p : Int} (h : CV x a b p) : isZ x = decide (a = 0 ∧ b = 0) := by
  unfold isZ
  rw [eq_iff h.re V_nil, eq_iff h.im V_nil]
  simp [iv2_zero]
theorem trimC_id {xs : List (Nat × Nat)} (h1 : 1 ≤ xs.length) (h : xs.length = 1 ∨ isZ (xs.getD (xs.length - 1) (0, 0)) = false) : trimC xs = xs := by
  unfold trimC
  have e : trimN xs xs.length = xs.length := by
    rcases h with h | h
    · rw [h]; rfl
    · obtain ⟨n, hn⟩ : ∃ n, xs.length = n + 1 := ⟨xs.length - 1, by omega⟩
      rw [hn] at h ⊢
      cases n with
      | zero => rfl
      | succ n =>
        rw [trimN]
        have h' : isZ (xs.getD (n + 1) (0, 0)) = false := h
        rw [h', if_neg (by simp)]
  rw [e, List.take_length]
theorem trimN_last (xs : List (Nat × Nat)) (n : Nat) (h : 1 ≤ n) : trimN xs n = 1 ∨ isZ (xs.getD (trimN xs n - 1) (0, 0)) = false := by
  induction n using trimN.induct xs with
  | case1 => omega
  | case2 => left; rfl
  | case3 n h1 ih => rw [trimN, if_pos h1]; exact ih (by omega)
  | case4 n h1 =>
    right
    rw [trimN, if_neg h1]
    have : n + 2 - 1 = n + 1 := by omega
    rw [this]
    simpa using h1
theorem trimC_len (xs : List (Nat × Nat)) : (trimC xs).length = trimN xs xs.length := by
  unfold trimC
  rw [List.length_take]
  have := trimN_le xs xs.length
  omega
theorem trimC_get (xs : List (Nat × Nat)) (j : Nat) (h : j < trimN xs xs.length) : (trimC xs).getD j (0, 0) = xs.getD j (0, 0) := by
  unfold trimC
  simp [List.getD, h]
theorem valid_trim {xs : List (Nat × Nat)} (h1 : 1 ≤ xs.length) (h17 : xs.length ≤ 17) (hn : AllNum xs) : Valid (trimC xs) := by
  have hp := trimN_pos xs xs.length h1
  have hle := trimN_le xs xs.length
  have hl := trimC_len xs
  refine ⟨by omega, by omega, fun j hj => ?_, ?_⟩
  · rw [trimC_get xs j (by omega)]
    exact hn j (by omega)
  · rw [hl]
    rcases trimN_last xs xs.length h1 with h | h
    · exact .inl h
    · right
      rw [trimC_get xs _ (by omega)]
      exact h
theorem rev_get (xs : List (Nat × Nat)) (j : Nat) (h : j < xs.length) : xs.reverse.getD j (0, 0) = xs.getD (xs.length - 1 - j) (0, 0) := by
  show (xs.reverse[j]?).getD (0, 0) = _
  rw [List.getElem?_reverse h]
  rfl
theorem num_rev {xs : List (Nat × Nat)} (h : AllNum xs) : AllNum xs.reverse := by
  intro j hj
  rw [List.length_reverse] at hj
  rw [rev_get xs j hj]
  exact h _ (by omega)
theorem made_of {xs : List (Nat × Nat)} (h1 : 1 ≤ xs.length) (h : xs.length = 1 ∨ isZ (xs.getD (xs.length - 1) (0, 0)) = false) : trimC (xs ++ [(0, 0), (0, 0)]) = xs := by
  have hz : isZ (0, 0) = true := by
    have := isZ_iff (CV.zero 0)
    rw [this]
    rfl
  have g : ∀ j, j < xs.length → (xs ++ [(0, 0), (0, 0)]).getD j (0, 0) = xs.getD j (0, 0) := by
    intro j hj
    simp only [List.getD]
    rw [List.getElem?_append_left hj]
  have g1 : (xs ++ [(0, 0), (0, 0)]).getD xs.length (0, 0) = (0, 0) := by simp [List.getD]
  have g2 : (xs ++ [(0, 0), (0, 0)]).getD (xs.length + 1) (0, 0) = (0, 0) := by simp [List.getD]
  have hl : (xs ++ [(0, 0), (0, 0)]).length = xs.length + 2 := by simp
  have e : trimN (xs ++ [(0, 0), (0, 0)]) (xs.length + 2) = xs.length := by
    rw [trimN, g2, if_pos hz]
    obtain ⟨n, hn⟩ : ∃ n, xs.length = n + 1 := ⟨xs.length - 1, by omega⟩
    rw [hn] at g g1 h ⊢
    rw [trimN, g1, if_pos hz]
    cases n with
    | zero => rfl
    | succ n =>
      rw [trimN, g (n + 1) (by omega)]
      rcases h with h | h
      · omega
      · have h' : isZ (xs.getD (n + 1) (0, 0)) = false := h
        rw [h', if_neg (by simp)]
  unfold trimC
  rw [hl, e]
  simp

theorem terms_of {m : Nat} {zs : List (Nat × Nat)} {Z : Nat → GI} (R : Roots (m + 1) zs Z) : Terms (m + 1) (PW zs (m + 1)) (coefG Z (m + 1)) (fun k => 2 * (k : Int) - 2 * ((m + 1 : Nat) : Int)) := by
  have hf := R.few
  refine ⟨PW_len _ _, fun k hk => PW_cv R (m + 1) (Nat.le_refl _) k (by omega), fun k hk => ?_, fun k hk => ?_⟩
  · have hp := pow_le hf
    exact part_small (by omega) hp.1 (coef_nrm (m + 1) R.sm k)
  · show -10 ≤ 2 * (k : Int) - 2 * ((m + 1 : Nat) : Int) ∧ 2 * (k : Int) - 2 * ((m + 1 : Nat) : Int) ≤ 0
    omega
theorem Terms.rev {n : Nat} {xs : List (Nat × Nat)} {c : Nat → GI} {p : Nat → Int} (T : Terms n xs c p) : Terms n xs.reverse (fun k => c (n - k)) (fun k => p (n - k)) := by
  have hl := T.len
  refine ⟨by rw [List.length_reverse]; exact hl, fun k hk => ?_, fun k hk => T.sm (n - k) (by omega), fun k hk => T.lo (n - k) (by omega)⟩
  rw [rev_get xs k (by omega)]
  have e : xs.length - 1 - k = n - k := by omega
  rw [e]
  exact T.cv (n - k) (by omega)
theorem Terms.num {n : Nat} {xs : List (Nat × Nat)} {c : Nat → GI} {p : Nat → Int} (T : Terms n xs c p) : AllNum xs := by
  intro j hj
  have := T.len
  exact (T.cv j (by omega)).num
theorem Terms.wide {n : Nat} {xs : List (Nat × Nat)} {c : Nat → GI} {p : Nat → Int} (T : Terms n xs c p) (j : Nat) (hj : j < xs.length) : Wide (xs.getD j (0, 0)) := by
  have hl := T.len
  have h := T.cv j (by omega)
  have hs := T.sm j (by omega)
  have hp := T.lo j (by omega)
  have k1 : dgs .f64 = 9007199254740992 := rfl
  obtain ⟨a, e1, _⟩ := ex_conv h.re (k' := .f64) (by decide) (by omega) (by omega) (by omega)
  obtain ⟨b, e2, _⟩ := ex_conv h.im (k' := .f64) (by decide) (by omega) (by omega) (by omega)
  exact ⟨h.num, ⟨a, e1⟩, ⟨b, e2⟩⟩
end Go.Proofs.Ytfbekiphlaaieaa
