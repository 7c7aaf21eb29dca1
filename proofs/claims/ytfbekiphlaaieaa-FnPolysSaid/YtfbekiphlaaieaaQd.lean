/- Division, composition, half a drawn number; all facts that the law of the polynomials asks. Condition: drawn terms, drawn points or their halves. -/
import Derived.Test.YtfbekiphlaaieaaQc
import Derived.Test.YtfbekiphlaaieaaNd
import Derived.Test.YtfbekiphlaaieaaNf
import Derived.Test.YtfbekiphlaaieaaNb
import Derived.Test.YtfbekiphlaaieaaMf
import Derived.Test.YtfbekiphlaaieaaNe
import Derived.Test.YtfbekiphlaaieaaQa
import Derived.Laws.ComplexQuo
import Derived.Test.YtfbekiphlaaieaaMh
namespace Go.Proofs.Ytfbekiphlaaieaa

/-- The word pair x stands for q exactly, at most M units of 2 to the power of -i in each part. -/
def Ex (x : Nat × Nat) (q : Rat × Rat) (M i : Nat) : Prop := ∃ a b : Int, CV x a b (-(i : Int)) ∧ cq a b (-(i : Int)) = q ∧ a.natAbs ≤ M ∧ b.natAbs ≤ M
theorem Ex.up {x : Nat × Nat} {q : Rat × Rat} {M N i : Nat} (h : Ex x q M i) (hMN : M ≤ N) : Ex x q N i := by
  obtain ⟨a, b, h1, h2, h3, h4⟩ := h
  exact ⟨a, b, h1, h2, by omega, by omega⟩
theorem Ex.cast {x y : Nat × Nat} {q r : Rat × Rat} {M i : Nat} (h : Ex x q M i) (e1 : x = y) (e2 : q = r) : Ex y r M i := by rw [← e1, ← e2]; exact h
theorem ex_zero (M i : Nat) : Ex (0, 0) (0, 0) M i := by
  refine ⟨0, 0, CV.zero _, ?_, by omega, by omega⟩
  unfold cq iv2
  exact Prod.ext (by simp) (by simp)
theorem ex_mulc {x y : Nat × Nat} {q r : Rat × Rat} {M N i j : Nat} (hx : Ex x q M i) (hy : Ex y r N j) (hM : M < 16777216) (hN : N < 16777216) (hMN : 2 * (M * N) < 16777216) (hij : i + j ≤ 100) :
    MulW x y (mulF x y) ∧ Ex (mulF x y) (qmul q r) (2 * (M * N)) (i + j) := by
  obtain ⟨a, b, h1, rfl, h3, h4⟩ := hx
  obtain ⟨c, d, k1, rfl, k3, k4⟩ := hy
  have p1 : (a * c).natAbs ≤ M * N := by rw [Int.natAbs_mul]; exact Nat.mul_le_mul h3 k3
  have p2 : (b * d).natAbs ≤ M * N := by rw [Int.natAbs_mul]; exact Nat.mul_le_mul h4 k4
  have p3 : (a * d).natAbs ≤ M * N := by rw [Int.natAbs_mul]; exact Nat.mul_le_mul h3 k4
  have p4 : (b * c).natAbs ≤ M * N := by rw [Int.natAbs_mul]; exact Nat.mul_le_mul h4 k3
  obtain ⟨g1, g2⟩ := cv_mul h1 k1 (by omega) (by omega) (by omega) (by omega) (by omega) (by omega) (by omega) (by omega) (by omega) (by omega) (by omega) (by omega)
  have e : (-(i : Int)) + (-(j : Int)) = -((i + j : Nat) : Int) := by omega
  refine ⟨g1, _, _, e ▸ g2, ?_, by omega, by omega⟩
  rw [← e]
  unfold cq qmul iv2
  rw [two_add]
  push_cast
  exact Prod.ext (by simp only; grind) (by simp only; grind)
theorem ex_plus {x y : Nat × Nat} {q r : Rat × Rat} {M N i : Nat} (hx : Ex x q M i) (hy : Ex y r N i) (hMN : M + N < 16777216) (hi : i ≤ 100) : PlusW x y (plusF x y) ∧ Ex (plusF x y) (qadd q r) (M + N) i := by
  obtain ⟨a, b, h1, rfl, h3, h4⟩ := hx
  obtain ⟨c, d, k1, rfl, k3, k4⟩ := hy
  obtain ⟨g1, g2⟩ := cv_plus h1 k1 (by omega) (by omega) (by omega) (by omega)
  refine ⟨g1, _, _, g2, ?_, by omega, by omega⟩
  unfold cq qadd iv2
  push_cast
  exact Prod.ext (by simp only; grind) (by simp only; grind)
theorem ex_minus {x y : Nat × Nat} {q r : Rat × Rat} {M N i : Nat} (hx : Ex x q M i) (hy : Ex y r N i) (hMN : M + N < 16777216) (hi : i ≤ 100) : MinusW x y (minusF x y) ∧ Ex (minusF x y) (qsub q r) (M + N) i := by
  obtain ⟨a, b, h1, rfl, h3, h4⟩ := hx
  obtain ⟨c, d, k1, rfl, k3, k4⟩ := hy
  obtain ⟨g1, g2⟩ := cv_minus h1 k1 (by omega) (by omega) (by omega) (by omega)
  refine ⟨g1, _, _, g2, ?_, by omega, by omega⟩
  unfold cq qsub iv2
  push_cast
  exact Prod.ext (by simp only; grind) (by simp only; grind)
/-- A list of exact words, with zeros beyond its end. -/
structure El (N : Nat) (xs : List (Nat × Nat)) (Q : Nat → Rat × Rat) (M i : Nat) : Prop where
  len : xs.length = N
  ex : ∀ k, Ex (xs.getD k (0, 0)) (Q k) M i
  out : ∀ k, N ≤ k → Q k = (0, 0)
theorem getD_out {xs : List (Nat × Nat)} {k : Nat} (h : xs.length ≤ k) : xs.getD k (0, 0) = (0, 0) := by
  rw [List.getD_eq_getElem?_getD, List.getElem?_eq_none h]
  rfl
theorem el_zip {n : Nat} {f : Nat → Nat × Nat} {Q : Nat → Rat × Rat} {M i : Nat} (h : ∀ k, k < n → Ex (f k) (Q k) M i) (h0 : ∀ k, n ≤ k → Q k = (0, 0)) : El n (zipW n f) Q M i := by
  refine ⟨zipW_len n f, fun k => ?_, h0⟩
  by_cases hk : k < n
  · rw [zipW_get n f k hk]; exact h k hk
  · rw [getD_out (by rw [zipW_len]; omega), h0 k (by omega)]
    exact ex_zero M i
theorem cnv_out {Q R : Nat → Rat × Rat} {m : Nat} (hR : ∀ j, m ≤ j → R j = (0, 0)) (k n : Nat) (h : n + m ≤ k + 1) : cnv Q R k n = (0, 0) := by
  rw [← cvC_cnv Q R m k hR n]
  exact cvC_out Q R m k n h
/-- Products. -/
theorem prA_ex {N N' : Nat} {xs ys : List (Nat × Nat)} {Q R : Nat → Rat × Rat} {M M' i j : Nat} (hx : El N xs Q M i) (hy : El N' ys R M' j) (hM : M < 16777216) (hM' : M' < 16777216) (hij : i + j ≤ 100) (k t : Nat) (hb : 2 * (M * M') * t < 16777216) :
    Ex (prA xs ys N' k t) (cnv Q R k t) (2 * (M * M') * t) (i + j) ∧ (∀ s, s < t → s ≤ k → k - s < N' → MulW (xs.getD s (0, 0)) (ys.getD (k - s) (0, 0)) (mulF (xs.getD s (0, 0)) (ys.getD (k - s) (0, 0))) ∧ PlusW (prA xs ys N' k s) (mulF (xs.getD s (0, 0)) (ys.getD (k - s) (0, 0))) (plusF (prA xs ys N' k s) (mulF (xs.getD s (0, 0)) (ys.getD (k - s) (0, 0))))) := by
  induction t with
  | zero => exact ⟨(ex_zero 0 (i + j)).up (Nat.zero_le _), fun s hs => absurd hs (Nat.not_lt_zero _)⟩
  | succ t ih =>
    have eb : 2 * (M * M') * (t + 1) = 2 * (M * M') * t + 2 * (M * M') := Nat.mul_succ _ _
    rw [eb] at hb ⊢
    obtain ⟨h1, h2⟩ := ih (by omega)
    rw [prA, cnv]
    by_cases hin : t ≤ k ∧ k - t < N'
    · rw [if_pos hin, if_pos hin.1]
      obtain ⟨m1, m2⟩ := ex_mulc (hx.ex t) (hy.ex (k - t)) hM hM' (by omega) hij
      obtain ⟨p1, p2⟩ := ex_plus h1 m2 (by omega) hij
      refine ⟨p2, fun s hs hsk hsm => ?_⟩
      by_cases e : s = t
      · subst e; exact ⟨m1, p1⟩
      · exact h2 s (by omega) hsk hsm
    · rw [if_neg hin]
      have e0 : (if t ≤ k then qadd (cnv Q R k t) (qmul (Q t) (R (k - t))) else cnv Q R k t) = cnv Q R k t := by
        by_cases h : t ≤ k
        · rw [if_pos h, hy.out (k - t) (by omega), qmul_zero, qadd_zero]
        · rw [if_neg h]
      rw [e0]
      refine ⟨h1.up (by omega), fun s hs hsk hsm => ?_⟩
      by_cases e : s = t
      · subst e; exact absurd ⟨hsk, hsm⟩ hin
      · exact h2 s (by omega) hsk hsm
theorem prod_ex {n m : Nat} {xs ys : List (Nat × Nat)} {Q R : Nat → Rat × Rat} {M M' i j : Nat} (hx : El n xs Q M i) (hy : El m ys R M' j) (hM : M < 16777216) (hM' : M' < 16777216) (hij : i + j ≤ 100) (hb : 2 * (M * M') * n < 16777216) :
    ProdW xs ys n m ∧ El (n + m - 1) (prodC xs ys n m) (fun k => cnv Q R k n) (2 * (M * M') * n) (i + j) :=
  ⟨fun k s hs hsk hsm => (prA_ex hx hy hM hM' hij k n hb).2 s hs hsk hsm, el_zip (fun k _ => (prA_ex hx hy hM hM' hij k n hb).1) (fun k hk => cnv_out hy.out k n (by omega))⟩
/-- The parts of a list. -/
theorem el_take {u : Nat} {xs : List (Nat × Nat)} {Q : Nat → Rat × Rat} {M i : Nat} (h : El (2 * u) xs Q M i) : El u (xs.take u) (loQ u Q) M i := by
  refine ⟨by rw [List.length_take, h.len]; omega, fun k => ?_, fun k hk => by unfold loQ; rw [if_neg (by omega)]⟩
  unfold loQ
  by_cases hk : k < u
  · rw [if_pos hk]
    refine (h.ex k).cast ?_ rfl
    simp [List.getD, hk]
  · rw [if_neg hk, getD_out (by rw [List.length_take]; omega)]
    exact ex_zero M i
theorem el_drop {u : Nat} {xs : List (Nat × Nat)} {Q : Nat → Rat × Rat} {M i : Nat} (h : El (2 * u) xs Q M i) : El u (xs.drop u) (hiQ u Q) M i := by
  refine ⟨by rw [List.length_drop, h.len]; omega, fun k => ?_, fun k hk => h.out (u + k) (by omega)⟩
  unfold hiQ
  refine (h.ex (u + k)).cast ?_ rfl
  simp [List.getD, List.getElem?_drop]
theorem el_mix {u : Nat} {xs ys : List (Nat × Nat)} {Q R : Nat → Rat × Rat} {M i : Nat} (hx : El u xs Q M i) (hy : El u ys R M i) (hM : 2 * M < 16777216) (hi : i ≤ 100) :
    (∀ k, k < u → PlusW (xs.getD k (0, 0)) (ys.getD k (0, 0)) (sumF xs ys k)) ∧ El u (zipW u (sumF xs ys)) (fun k => qadd (Q k) (R k)) (2 * M) i := by
  have e : 2 * M = M + M := by omega
  rw [e]
  refine ⟨fun k _ => (ex_plus (hx.ex k) (hy.ex k) (by omega) hi).1, el_zip (fun k _ => (ex_plus (hx.ex k) (hy.ex k) (by omega) hi).2) fun k hk => ?_⟩
  rw [hx.out k hk, hy.out k hk, qadd_zero]
/-- The bound of the words. -/
def hK : Nat → Nat
  | 0 => 32768
  | 1 => 32768
  | d + 2 => 4 * hK (d + 1)
theorem l0_get (LL LH : List (Nat × Nat)) (j : Nat) : (LL ++ (0, 0) :: LH).getD j (0, 0) = if j < LL.length then LL.getD j (0, 0) else if j = LL.length then (0, 0) else LH.getD (j - LL.length - 1) (0, 0) := by
  by_cases h1 : j < LL.length
  · rw [if_pos h1]
    simp [List.getD, List.getElem?_append_left h1]
  · rw [if_neg h1]
    by_cases h2 : j = LL.length
    · subst h2
      simp [List.getD]
    · obtain ⟨t, rfl⟩ : ∃ t, j = LL.length + (t + 1) := ⟨j - LL.length - 1, by omega⟩
      rw [if_neg (by omega)]
      have e : LL.length + (t + 1) - LL.length - 1 = t := by omega
      rw [e]
      simp [List.getD, List.getElem?_append_right]
/-- The step. -/
theorem halves_ex_step {u K : Nat} {LM LL LH : List (Nat × Nat)} {Q R : Nat → Rat × Rat} (hu : 1 ≤ u) (hK : 4 * K < 16777216)
    (hM : El (2 * u - 1) LM (fun k => cnv (fun i => qadd (loQ u Q i) (hiQ u Q i)) (fun i => qadd (loQ u R i) (hiQ u R i)) k u) K 4)
    (hL : El (2 * u - 1) LL (fun k => cnv (loQ u Q) (loQ u R) k u) K 4) (hH : El (2 * u - 1) LH (fun k => cnv (hiQ u Q) (hiQ u R) k u) K 4) :
    HalfT (LL ++ (0, 0) :: LH) LM LL LH u (2 * u - 1) ∧ El (2 * (2 * u) - 1) (hvL (LL ++ (0, 0) :: LH) LM LL LH u (2 * (2 * u) - 1) (2 * u - 1)) (fun k => cnv Q R k (2 * u)) (4 * K) 4 := by
  have h0 : ∀ j, Ex ((LL ++ (0, 0) :: LH).getD j (0, 0)) (qadd (cnv (loQ u Q) (loQ u R) j u) (if u + u ≤ j then cnv (hiQ u Q) (hiQ u R) (j - (u + u)) u else (0, 0))) K 4 := by
    intro j
    rw [l0_get, hL.len]
    by_cases h1 : j < 2 * u - 1
    · rw [if_pos h1, if_neg (by omega), qadd_zero]
      exact hL.ex j
    · have e := hL.out j (by omega)
      rw [if_neg h1, e, zero_qadd]
      by_cases h2 : j = 2 * u - 1
      · rw [if_pos h2, if_neg (by omega)]
        exact ex_zero K 4
      · have e2 : j - (2 * u - 1) - 1 = j - (u + u) := by omega
        rw [if_neg h2, if_pos (by omega), e2]
        exact hH.ex (j - (u + u))
  have e4 : 4 * K = K + (K + K + K) := by omega
  have key : ∀ i, MinusW (LM.getD i (0, 0)) (LL.getD i (0, 0)) (minusF (LM.getD i (0, 0)) (LL.getD i (0, 0))) ∧ MinusW (minusF (LM.getD i (0, 0)) (LL.getD i (0, 0))) (LH.getD i (0, 0)) (minusF (minusF (LM.getD i (0, 0)) (LL.getD i (0, 0))) (LH.getD i (0, 0))) ∧
      PlusW ((LL ++ (0, 0) :: LH).getD (u + i) (0, 0)) (minusF (minusF (LM.getD i (0, 0)) (LL.getD i (0, 0))) (LH.getD i (0, 0))) (hvT (LL ++ (0, 0) :: LH) LM LL LH (u + i) i) ∧ Ex (hvT (LL ++ (0, 0) :: LH) LM LL LH (u + i) i) (cnv Q R (u + i) (u + u)) (4 * K) 4 := by
    intro i
    obtain ⟨a1, a2⟩ := ex_minus (hM.ex i) (hL.ex i) (by omega) (by omega)
    obtain ⟨b1, b2⟩ := ex_minus a2 (hH.ex i) (by omega) (by omega)
    obtain ⟨c1, c2⟩ := ex_plus (h0 (u + i)) b2 (by omega) (by omega)
    refine ⟨a1, b1, c1, ?_⟩
    rw [e4]
    refine c2.cast rfl ?_
    rw [halves_val Q R (u + i) u, if_pos (Nat.le_add_right u i), Nat.add_sub_cancel_left]
    rfl
  refine ⟨fun i _ => ⟨(key i).1, (key i).2.1, (key i).2.2.1⟩, ?_⟩
  have eu : 2 * u = u + u := by omega
  refine el_zip (fun j hj => ?_) (fun k hk => ?_)
  · rw [eu]
    by_cases h1 : u ≤ j ∧ j < u + (u + u - 1)
    · rw [if_pos h1]
      obtain ⟨i, rfl⟩ : ∃ i, j = u + i := ⟨j - u, by omega⟩
      rw [Nat.add_sub_cancel_left]
      exact (key i).2.2.2
    · rw [if_neg h1]
      refine ((h0 j).up (by omega)).cast rfl ?_
      rw [halves_val Q R j u]
      by_cases h2 : u ≤ j
      · have e : crQ u Q R (j - u) = (0, 0) := by
          have o1 := hM.out (j - u) (by omega)
          have o2 := hL.out (j - u) (by omega)
          have o3 := hH.out (j - u) (by omega)
          unfold crQ
          rw [o1, o2, o3]
          unfold qsub
          exact Prod.ext (by simp only; grind) (by simp only; grind)
        rw [if_pos h2, e, qadd_zero]
      · rw [if_neg h2, qadd_zero]
  · have o1 := hM.out (k - u) (by omega)
    have o2 := hL.out (k - u) (by omega)
    have o3 := hH.out (k - u) (by omega)
    have o4 := hL.out k (by omega)
    have o5 := hH.out (k - (u + u)) (by omega)
    rw [eu, halves_val Q R k u, o4, if_pos (by omega), if_pos (by omega), o5]
    unfold crQ
    rw [o1, o2, o3]
    unfold qsub qadd
    exact Prod.ext (by simp only; grind) (by simp only; grind)
theorem halves_ex (d : Nat) : d ≤ 3 → ∀ (xs ys : List (Nat × Nat)) (Q R : Nat → Rat × Rat) (M : Nat), El (2 ^ d) xs Q M 2 → El (2 ^ d) ys R M 2 → M * 2 ^ d ≤ 128 → HalfW d xs ys ∧ El (2 * 2 ^ d - 1) (hvC d xs ys) (fun k => cnv Q R k (2 ^ d)) (hK d) 4 := by
  match d with
  | 0 =>
    intro _ xs ys Q R M hx hy hM
    have hM1 : M ≤ 128 := by omega
    have hMM : M * M ≤ 128 * 128 := Nat.mul_le_mul hM1 hM1
    obtain ⟨p1, p2⟩ := prod_ex hx hy (by omega) (by omega) (by omega) (by omega)
    exact ⟨p1, p2.len, fun k => (p2.ex k).up (by show _ ≤ 32768; omega), p2.out⟩
  | 1 =>
    intro _ xs ys Q R M hx hy hM
    have hM1 : M ≤ 64 := by omega
    have hMM : M * M ≤ 64 * 64 := Nat.mul_le_mul hM1 hM1
    obtain ⟨p1, p2⟩ := prod_ex hx hy (by omega) (by omega) (by omega) (by omega)
    exact ⟨p1, p2.len, fun k => (p2.ex k).up (by show _ ≤ 32768; omega), p2.out⟩
  | d + 2 =>
    intro hd xs ys Q R M hx hy hM
    have ih := halves_ex (d + 1) (by omega)
    have eu : 2 ^ (d + 2) = 2 * 2 ^ (d + 1) := by rw [Nat.pow_succ]; omega
    have hu : 1 ≤ 2 ^ (d + 1) := Nat.one_le_two_pow
    have hKd : 4 * hK (d + 1) < 16777216 := by
      have : d = 0 ∨ d = 1 := by omega
      rcases this with rfl | rfl <;> decide
    rw [eu] at hx hy hM ⊢
    unfold HalfW hvC
    generalize 2 ^ (d + 1) = u at *
    have hM2 : 2 * M * u ≤ 128 := by
      have e : 2 * M * u = M * (2 * u) := by rw [Nat.mul_comm 2 M, Nat.mul_assoc]
      omega
    have hM3 : M * u ≤ 128 := by
      have e : 2 * M * u = 2 * (M * u) := Nat.mul_assoc 2 M u
      omega
    have hM4 : M ≤ 128 := Nat.le_trans (Nat.le_mul_of_pos_right M hu) hM3
    obtain ⟨l1, l2⟩ := ih (xs.take u) (ys.take u) _ _ M (el_take hx) (el_take hy) hM3
    obtain ⟨h1, h2⟩ := ih (xs.drop u) (ys.drop u) _ _ M (el_drop hx) (el_drop hy) hM3
    obtain ⟨s1, s2⟩ := el_mix (el_take hx) (el_drop hx) (by omega) (by omega)
    obtain ⟨t1, t2⟩ := el_mix (el_take hy) (el_drop hy) (by omega) (by omega)
    obtain ⟨m1, m2⟩ := ih _ _ _ _ (2 * M) s2 t2 hM2
    obtain ⟨g1, g2⟩ := halves_ex_step hu hKd m2 l2 h2
    exact ⟨⟨l1, h1, s1, t1, g1, m1⟩, g2⟩
end Go.Proofs.Ytfbekiphlaaieaa
namespace Go.Proofs.Ytfbekiphlaaieaa

theorem trimN_at (xs : List (Nat × Nat)) (r : Nat) (h1 : 1 ≤ r) (ht : r = 1 ∨ isZ (xs.getD (r - 1) (0, 0)) = false) (t : Nat) (hz : ∀ k, r ≤ k → k < r + t → isZ (xs.getD k (0, 0)) = true) : trimN xs (r + t) = r := by
  induction t with
  | zero =>
    rw [Nat.add_zero]
    obtain ⟨r', rfl⟩ : ∃ r', r = r' + 1 := ⟨r - 1, by omega⟩
    cases r' with
    | zero => rfl
    | succ r' =>
      rcases ht with h | h
      · omega
      · rw [trimN, if_neg]
        rw [show r' + 1 + 1 - 1 = r' + 1 by omega] at h
        rw [h]
        decide
  | succ t ih =>
    have e : r + (t + 1) = (r + t - 1) + 2 := by omega
    have e2 : r + t - 1 + 1 = r + t := by omega
    rw [e, trimN, e2, if_pos (hz (r + t) (by omega) (by omega))]
    exact ih fun k h2 h3 => hz k h2 (by omega)
theorem Ex.rp {x : Nat × Nat} {q : Rat × Rat} {M i : Nat} (h : Ex x q M i) : Rp x q (l1q q) 0 i := by
  obtain ⟨a, b, h1, rfl, _, _⟩ := h
  exact rp_exact h1.re h1.im (lo_cq _ _ i)
theorem ex_isZ {x : Nat × Nat} {M i : Nat} (h : Ex x (0, 0) M i) : isZ x = true := by
  obtain ⟨a, b, h1, h2, _, _⟩ := h
  have h3 : nq (cq a b (-(i : Int))) = 0 := by rw [h2]; decide +kernel
  rw [isZ_iff h1, decide_eq_true (cq_zero_of h3)]
theorem ex_num {x : Nat × Nat} {q : Rat × Rat} {M i : Nat} (h : Ex x q M i) : NumC x := h.rp.num
theorem ex_l1 {x : Nat × Nat} {q : Rat × Rat} {M : Nat} (h : Ex x q M 4) : l1q q ≤ (M : Rat) / 8 := by
  obtain ⟨a, b, _, rfl, h3, h4⟩ := h
  have e4 : (-((4 : Nat) : Int)) = -4 := rfl
  rw [l1_cq, e4]
  unfold iv2
  rw [two_m4]
  have h : (((a.natAbs : Int) + (b.natAbs : Int) : Int) : Rat) ≤ ((2 * M : Nat) : Int) := by
    have : (a.natAbs : Int) + (b.natAbs : Int) ≤ ((2 * M : Nat) : Int) := by omega
    exact_mod_cast this
  push_cast at h ⊢
  grind
theorem pad_get (d : Nat) (xs : List (Nat × Nat)) (h : xs.length ≤ 2 ^ d) (k : Nat) : (padW d xs).length = 2 ^ d ∧ (padW d xs).getD k (0, 0) = xs.getD k (0, 0) := by
  unfold padW lay splice
  have e : List.take 0 (List.replicate (2 ^ d) ((0, 0) : Nat × Nat)) = [] := rfl
  rw [e, List.nil_append, List.drop_replicate]
  refine ⟨by rw [List.length_append, List.length_replicate]; omega, ?_⟩
  by_cases hk : k < xs.length
  · simp [List.getD, List.getElem?_append_left hk]
  · rw [getD_out (xs := xs) (by omega)]
    simp only [List.getD_eq_getElem?_getD]
    rw [List.getElem?_append_right (by omega), List.getElem?_replicate]
    split <;> rfl
theorem cnv_ext {Q R : Nat → Rat × Rat} {n : Nat} (hQ : ∀ j, n ≤ j → Q j = (0, 0)) (k t : Nat) : cnv Q R k (n + t) = cnv Q R k n := by
  induction t with
  | zero => rfl
  | succ t ih =>
    rw [← Nat.add_assoc, cnv, ih, hQ (n + t) (by omega), zero_qmul, qadd_zero]
    split <;> rfl
theorem dp_el {n : Nat} {xs : List (Nat × Nat)} {c : Nat → GI} (D : Dp n xs c) : El n xs (fun k => qof (c k)) 16 2 := by
  refine ⟨D.len, fun k => ?_, fun k hk => qof_out D k hk⟩
  by_cases hk : k < n
  · exact ⟨_, _, D.cv k hk, rfl, (D.sm k).1, (D.sm k).2⟩
  · rw [getD_out (by rw [D.len]; omega), qof_out D k (by omega)]
    exact ex_zero 16 2
theorem el_trim {N r : Nat} {L : List (Nat × Nat)} {Q : Nat → Rat × Rat} {M i : Nat} (h : El N L Q M i) (hr : 1 ≤ r) (hrN : r ≤ N) (h0 : ∀ k, r ≤ k → Q k = (0, 0)) (ht : 0 < l1q (Q (r - 1))) (h17 : N ≤ 17) :
    Valid (trimC L) ∧ (trimC L).length = r ∧ ∀ k, k < r → (trimC L).getD k (0, 0) = L.getD k (0, 0) := by
  obtain ⟨t, rfl⟩ : ∃ t, N = r + t := ⟨N - r, by omega⟩
  have e : trimN L L.length = r := by
    rw [h.len]
    exact trimN_at L r hr (.inr (isZ_not (h.ex (r - 1)).rp (by decide) ht)) t fun k h1 _ => ex_isZ ((h.ex k).cast rfl (h0 k h1))
  exact ⟨valid_trim (by rw [h.len]; omega) (by rw [h.len]; exact h17) (fun j _ => ex_num (h.ex j)), by rw [trimC_len, e], fun k hk => trimC_get L k (by rw [e]; exact hk)⟩
section
variable {n m : Nat} {xs ys : List (Nat × Nat)} {c d : Nat → GI}
theorem top_prod (D : Dp n xs c) (E : Dp m ys d) : 0 < l1q (cnv (fun k => qof (c k)) (fun k => qof (d k)) (n + m - 2) n) := by
  rw [← cvC_cnv _ _ m _ (fun j hj => qof_out E j hj) n, cvC_top _ _ m n E.one D.one]
  obtain ⟨s, s0, es⟩ := top_real D
  obtain ⟨t, t0, et⟩ := top_real E
  rw [es, et]
  have hst := Rat.mul_pos s0 t0
  unfold l1q qmul
  simp only
  have e1 : s * t - 0 * 0 = s * t := by grind
  rw [e1]
  unfold ab
  grind
/-- 'MulHalves' -/
theorem halves_facts (D : Dp n xs c) (E : Dp m ys d) (hn : n ≤ 6) (hm : m ≤ 6) {dd : Nat} (hdd : hvD n m = dd) :
    HalfW dd (padW dd xs) (padW dd ys) ∧ Valid (trimC (hvC dd (padW dd xs) (padW dd ys))) ∧ (trimC (hvC dd (padW dd xs) (padW dd ys))).length = n + m - 1 ∧
      ∀ k, k < n + m - 1 → ∃ f, FarW ((trimC (prodC xs ys n m)).getD k (0, 0)) ((trimC (hvC dd (padW dd xs) (padW dd ys))).getD k (0, 0)) (farG ((trimC (prodC xs ys n m)).getD k (0, 0)) ((trimC (hvC dd (padW dd xs) (padW dd ys))).getD k (0, 0))) ∧
        V .f64 (farG ((trimC (prodC xs ys n m)).getD k (0, 0)) ((trimC (hvC dd (padW dd xs) (padW dd ys))).getD k (0, 0))) f ∧ 0 ≤ f ∧ f ≤ 73 / 100000 := by
  have h1 := D.one
  have h1' := E.one
  obtain ⟨d3, dn, dm, _⟩ := hvD_spec n m (by omega) (by omega) h1
  rw [hdd] at d3 dn dm
  have d8 : 2 ^ dd ≤ 8 := by
    have : dd = 0 ∨ dd = 1 ∨ dd = 2 ∨ dd = 3 := by omega
    rcases this with rfl | rfl | rfl | rfl <;> decide
  have px : El (2 ^ dd) (padW dd xs) (fun k => qof (c k)) 16 2 :=
    ⟨(pad_get dd xs (by rw [D.len]; exact dn) 0).1, fun k => by rw [(pad_get dd xs (by rw [D.len]; exact dn) k).2]; exact (dp_el D).ex k, fun k hk => qof_out D k (by omega)⟩
  have py : El (2 ^ dd) (padW dd ys) (fun k => qof (d k)) 16 2 :=
    ⟨(pad_get dd ys (by rw [E.len]; exact dm) 0).1, fun k => by rw [(pad_get dd ys (by rw [E.len]; exact dm) k).2]; exact (dp_el E).ex k, fun k hk => qof_out E k (by omega)⟩
  obtain ⟨g1, g2⟩ := halves_ex dd d3 _ _ _ _ 16 px py (by omega)
  have ek : ∀ k, cnv (fun k => qof (c k)) (fun k => qof (d k)) k (2 ^ dd) = cnv (fun k => qof (c k)) (fun k => qof (d k)) k n := by
    intro k
    obtain ⟨t, ht⟩ : ∃ t, 2 ^ dd = n + t := ⟨2 ^ dd - n, by omega⟩
    rw [ht]
    exact cnv_ext (fun j hj => qof_out D j hj) k t
  obtain ⟨_, p2⟩ := prod_ex (dp_el D) (dp_el E) (by decide) (by decide) (by decide) (by omega)
  have ht := top_prod D E
  have er : n + m - 1 - 1 = n + m - 2 := by omega
  obtain ⟨t1, t2, t3⟩ := el_trim (r := n + m - 1) g2 (by omega) (by omega) (fun k hk => by rw [ek]; exact p2.out k hk) (by rw [er, ek]; exact ht) (by omega)
  obtain ⟨u1, u2, u3⟩ := el_trim (r := n + m - 1) p2 (by omega) (Nat.le_refl _) p2.out (by rw [er]; exact ht) (by omega)
  refine ⟨g1, t1, t2, fun k hk => ?_⟩
  rw [u3 k hk, t3 k hk]
  have r1 := (p2.ex k).rp
  have r2 := ((g2.ex k).cast rfl (ek k)).rp
  have hb := ex_l1 ((p2.ex k).up (show 2 * (16 * 16) * n ≤ 3072 by omega))
  have e3 : ((3072 : Nat) : Rat) / 8 = 384 := by decide +kernel
  rw [e3] at hb
  have hb0 := l1_nonneg (cnv (fun k => qof (c k)) (fun k => qof (d k)) k n)
  obtain ⟨f1, f, f2, f3, f4⟩ := near_f r1 r2 (by omega) (by omega) (by unfold big57; grind) (by unfold big57; grind) (M := 1) (by push_cast; grind)
  exact ⟨f, f1, f2, f3, by grind⟩
/-- 'LongOfPoly' of drawn terms -/
theorem lop_drawn (D : Dp n xs c) (hn : n ≤ 6) : LopW xs (fun k => longF (xs.getD k (0, 0))) (alF xs) ∧ ∃ l, V .f32 (alF xs n) l ∧ 0 ≤ l ∧ l ≤ 60 ∧ sumQ (fun j => l1q (qof (c j))) n ≤ 21 / 10 * l + 1 / 500 := by
  obtain ⟨w1, l, v, l0, _, ls⟩ := lop_words (u := fun k => qof (c k)) D.len (fun k hk => ⟨(D.cv k hk).re, (D.cv k hk).im, by have := dp_le8 D k; grind⟩) (by omega)
  refine ⟨w1, l, v, l0, ?_, ls⟩
  have key : ∀ k, k ≤ n → ∃ l, V .f32 (alF xs k) l ∧ 0 ≤ l ∧ l ≤ 10 * (k : Rat) := by
    intro k
    induction k with
    | zero => intro _; exact ⟨0, V_nil, Rat.le_refl, by grind⟩
    | succ k ih =>
      intro hk
      obtain ⟨l, v, l0, lb⟩ := ih (by omega)
      have hs := D.sm k
      obtain ⟨_, t, t1, t2, _, _⟩ := long_cv (D.cv k (by omega)) (by omega) (by omega) (by omega) (by omega)
      have h8 := dp_le8 D k
      have hk6 : (k : Rat) ≤ 6 := by exact_mod_cast (show k ≤ 6 by omega)
      have hq : nq (cq (c k).1 (c k).2 (-2)) ≤ 64 := by
        have e : cq (c k).1 (c k).2 (-2) = qof (c k) := rfl
        rw [e]
        have p := ab_part (qof (c k))
        have hl : l1q (qof (c k)) = ab (qof (c k)).1 + ab (qof (c k)).2 := rfl
        have s1 := ab_sq (qof (c k)).1
        have s2 := ab_sq (qof (c k)).2
        have p1 := ab_nonneg (qof (c k)).1
        have p2 := ab_nonneg (qof (c k)).2
        have hm := Rat.mul_nonneg p1 p2
        have h64 := sq_mono (l1_nonneg (qof (c k))) h8
        rw [hl] at h64
        unfold nq
        generalize ab (qof (c k)).1 = A at *
        generalize ab (qof (c k)).2 = B at *
        grind
      have ht : t ≤ 9 := by
        refine sq_anti (by decide) ?_
        have := t2.low
        have := rsq_nonneg t
        grind
      have ht0 := t2.pos
      obtain ⟨r, q, e1, r1⟩ := op_add v t1 (by rw [t60]; unfold ab; grind)
      obtain ⟨n1, n2, n3⟩ := near_pos r1.near (show 0 ≤ l + t by grind)
      have er : alF xs (k + 1) = r := getD_of e1
      refine ⟨q, by rw [er]; exact r1.val, n3, ?_⟩
      push_cast
      grind
  obtain ⟨l', v', _, lb⟩ := key n (Nat.le_refl _)
  have e := V.uniq v v'
  have hn6 : (n : Rat) ≤ 6 := by exact_mod_cast hn
  rw [e]
  grind
end
end Go.Proofs.Ytfbekiphlaaieaa
namespace Go.Proofs.Ytfbekiphlaaieaa

/-- What the words of a list are behind a subtraction. -/
theorem dvI_get (R ys : List (Nat × Nat)) (q : Nat × Nat) (j i : Nat) (h : j + i ≤ R.length) (k : Nat) : (dvI R ys q j i).getD k (0, 0) = if j ≤ k ∧ k - j < i then minusF (R.getD k (0, 0)) (mulF q (ys.getD (k - j) (0, 0))) else R.getD k (0, 0) := by
  induction i generalizing k with
  | zero => rw [if_neg (by omega)]; rfl
  | succ i ih =>
    rw [dvI]
    by_cases e : k = j + i
    · subst e
      have hl : j + i < (dvI R ys q j i).length := by rw [dvI_len]; omega
      rw [if_pos (by omega), Nat.add_sub_cancel_left]
      have e1 := ih (by omega) (j + i)
      rw [if_neg (by omega)] at e1
      rw [e1]
      simp [List.getD, hl]
    · have e1 := ih (by omega) k
      have e2 : ((dvI R ys q j i).set (j + i) (minusF ((dvI R ys q j i).getD (j + i) (0, 0)) (mulF q (ys.getD i (0, 0))))).getD k (0, 0) = (dvI R ys q j i).getD k (0, 0) := by
        simp [List.getD, List.getElem?_set_ne (Ne.symm e)]
      rw [e2, e1]
      by_cases h1 : j ≤ k ∧ k - j < i
      · rw [if_pos h1, if_pos (by omega)]
      · rw [if_neg h1, if_neg (by omega)]
/-- The sums of products of the upper s places. -/
def dsC (Q R : Nat → Rat × Rat) (m k N : Nat) : Nat → Rat × Rat
  | 0 => (0, 0)
  | s + 1 => if N - 1 - s ≤ k ∧ k - (N - 1 - s) < m then qadd (dsC Q R m k N s) (qmul (Q (N - 1 - s)) (R (k - (N - 1 - s)))) else dsC Q R m k N s
def dsR (X Y : Nat → Rat) (m k N : Nat) : Nat → Rat
  | 0 => 0
  | s + 1 => if N - 1 - s ≤ k ∧ k - (N - 1 - s) < m then dsR X Y m k N s + X (N - 1 - s) * Y (k - (N - 1 - s)) else dsR X Y m k N s
theorem dsC_cv (Q R : Nat → Rat × Rat) (m k N s : Nat) (hs : s ≤ N) : cvC Q R m k N = qadd (cvC Q R m k (N - s)) (dsC Q R m k N s) := by
  induction s with
  | zero => exact (qadd_zero _).symm
  | succ s ih =>
    rw [ih (by omega)]
    obtain ⟨t, ht⟩ : ∃ t, N - 1 - s = t := ⟨_, rfl⟩
    have e1 : N - s = t + 1 := by omega
    have e2 : N - (s + 1) = t := by omega
    rw [e1, e2, dsC, cvC, ht]
    split
    · generalize cvC Q R m k t = A
      generalize dsC Q R m k N s = B
      generalize qmul (Q t) (R (k - t)) = C
      unfold qadd
      exact Prod.ext (by simp only; grind) (by simp only; grind)
    · rfl
theorem dsR_cv (Q R : Nat → Rat) (m k N s : Nat) (hs : s ≤ N) : cvR Q R m k N = cvR Q R m k (N - s) + dsR Q R m k N s := by
  induction s with
  | zero => unfold dsR; rw [Nat.sub_zero]; grind
  | succ s ih =>
    rw [ih (by omega)]
    obtain ⟨t, ht⟩ : ∃ t, N - 1 - s = t := ⟨_, rfl⟩
    have e1 : N - s = t + 1 := by omega
    have e2 : N - (s + 1) = t := by omega
    rw [e1, e2, dsR, cvR, ht]
    split <;> grind
theorem dsC_end (Q R : Nat → Rat × Rat) (m k N : Nat) : dsC Q R m k N N = cvC Q R m k N := by
  rw [dsC_cv Q R m k N N (Nat.le_refl _), Nat.sub_self]
  exact (zero_qadd _).symm
theorem dsR_end (Q R : Nat → Rat) (m k N : Nat) : dsR Q R m k N N = cvR Q R m k N := by
  rw [dsR_cv Q R m k N N (Nat.le_refl _), Nat.sub_self]
  unfold cvR
  grind
theorem dsR_nonneg {X Y : Nat → Rat} (hX : ∀ t, 0 ≤ X t) (hY : ∀ t, 0 ≤ Y t) (m k N s : Nat) : 0 ≤ dsR X Y m k N s := by
  induction s with
  | zero => exact Rat.le_refl
  | succ s ih =>
    rw [dsR]
    have := Rat.mul_nonneg (hX (N - 1 - s)) (hY (k - (N - 1 - s)))
    split <;> grind
/-- No step has reached the place yet. -/
theorem dsR_low (X Y : Nat → Rat) (m k N s : Nat) (h : k + s < N) : dsR X Y m k N s = 0 := by
  induction s with
  | zero => rfl
  | succ s ih =>
    rw [dsR, if_neg (by omega)]
    exact ih (by omega)
/-- The numbers that words stand for. -/
noncomputable def vq (x : Nat × Nat) : Rat × Rat := (Classical.epsilon (V .f32 x.1), Classical.epsilon (V .f32 x.2))
theorem vq_of {x : Nat × Nat} {u : Rat × Rat} (h1 : V .f32 x.1 u.1) (h2 : V .f32 x.2 u.2) : vq x = u := by
  have e1 : V .f32 x.1 (Classical.epsilon (V .f32 x.1)) := Classical.epsilon_spec ⟨u.1, h1⟩
  have e2 : V .f32 x.2 (Classical.epsilon (V .f32 x.2)) := Classical.epsilon_spec ⟨u.2, h2⟩
  exact Prod.ext (V.uniq e1 h1) (V.uniq e2 h2)
/-- A quotient's words. -/
def QuoV (x y r : Nat × Nat) : Prop := QuotW x y r ∧ ∃ (v u : Rat × Rat) (t : Rat), V .f32 x.1 v.1 ∧ V .f32 x.2 v.2 ∧ V .f32 y.1 t ∧ V .f32 r.1 u.1 ∧ V .f32 r.2 u.2 ∧ l1q (qsub (qmul u (t, 0)) v) ≤ 12 * (eps * l1q v) + 200 * tau
noncomputable def quoC (x y : Nat × Nat) : Nat × Nat := Classical.epsilon (QuoV x y)
/-- The rest behind s steps and the quotients. -/
noncomputable def dvS (xs ys : List (Nat × Nat)) (N : Nat) : Nat → List (Nat × Nat)
  | 0 => xs
  | s + 1 => dvI (dvS xs ys N s) ys (quoC ((dvS xs ys N s).getD (N - 1 - s + (ys.length - 1)) (0, 0)) (ys.getD (ys.length - 1) (0, 0))) (N - 1 - s) ys.length
noncomputable def dvq (xs ys : List (Nat × Nat)) (N s : Nat) : Nat × Nat := quoC ((dvS xs ys N s).getD (N - 1 - s + (ys.length - 1)) (0, 0)) (ys.getD (ys.length - 1) (0, 0))
theorem dvR_dvS (xs ys : List (Nat × Nat)) (N s : Nat) : dvR xs ys (dvq xs ys N) N s = dvS xs ys N s := by
  induction s with
  | zero => rfl
  | succ s ih => rw [dvR, dvS, ih]; rfl
theorem dvS_len (xs ys : List (Nat × Nat)) (N s : Nat) : (dvS xs ys N s).length = xs.length := by rw [← dvR_dvS, dvR_len]
/-- The quotient's exact terms and their majorants. -/
noncomputable def dvU (xs ys : List (Nat × Nat)) (N : Nat) (j : Nat) : Rat × Rat := if j < N then vq (dvq xs ys N (N - 1 - j)) else (0, 0)
noncomputable def dvX (xs ys : List (Nat × Nat)) (N : Nat) (j : Nat) : Rat := if j < N then l1q (dvU xs ys N j) + 1 / 1048576 else 0
theorem dvX_nonneg (xs ys : List (Nat × Nat)) (N j : Nat) : 0 ≤ dvX xs ys N j := by
  unfold dvX
  have := l1_nonneg (dvU xs ys N j)
  split <;> grind
theorem two_n20 : two (-((20 : Nat) : Int)) = 1 / 1048576 := by decide +kernel
def g18 : Nat → Rat
  | 0 => 8
  | s + 1 => 18 * g18 s
theorem g18_le {s : Nat} (h : s ≤ 6) : 8 ≤ g18 s ∧ g18 s ≤ 280000000 := by
  have : s = 0 ∨ s = 1 ∨ s = 2 ∨ s = 3 ∨ s = 4 ∨ s = 5 ∨ s = 6 := by omega
  rcases this with rfl | rfl | rfl | rfl | rfl | rfl | rfl <;> decide +kernel
theorem g18_four {s : Nat} (h : s ≤ 4) : g18 s ≤ 839808 := by
  have : s = 0 ∨ s = 1 ∨ s = 2 ∨ s = 3 ∨ s = 4 := by omega
  rcases this with rfl | rfl | rfl | rfl | rfl <;> decide +kernel
section
variable {n m : Nat} {xs ys : List (Nat × Nat)} {c d : Nat → GI}
/-- What is known of one step. -/
structure DvW (xs ys : List (Nat × Nat)) (c d : Nat → GI) (m N s : Nat) : Prop where
  quot : QuotW ((dvS xs ys N s).getD (N - 1 - s + (m - 1)) (0, 0)) (ys.getD (m - 1) (0, 0)) (dvq xs ys N s)
  v1 : V .f32 (dvq xs ys N s).1 (dvU xs ys N (N - 1 - s)).1
  v2 : V .f32 (dvq xs ys N s).2 (dvU xs ys N (N - 1 - s)).2
  le : l1q (dvU xs ys N (N - 1 - s)) ≤ 1800000
  near : l1q (qsub (qsub (qof (c (N - 1 - s + (m - 1)))) (dsC (dvU xs ys N) (fun k => qof (d k)) m (N - 1 - s + (m - 1)) N s)) (qmul (dvU xs ys N (N - 1 - s)) (qof (d (m - 1))))) ≤ 34 * eps * (l1q (qof (c (N - 1 - s + (m - 1)))) + dsR (dvX xs ys N) (fun k => l1q (qof (d k))) m (N - 1 - s + (m - 1)) N s) + 200 * tau
  words : ∀ i, i < m → MulW (dvq xs ys N s) (ys.getD i (0, 0)) (mulF (dvq xs ys N s) (ys.getD i (0, 0))) ∧ MinusW ((dvS xs ys N s).getD (N - 1 - s + i) (0, 0)) (mulF (dvq xs ys N s) (ys.getD i (0, 0))) (minusF ((dvS xs ys N s).getD (N - 1 - s + i) (0, 0)) (mulF (dvq xs ys N s) (ys.getD i (0, 0))))
/-- One quotient. -/
theorem quo_step {x : Nat × Nat} {ρ : Rat × Rat} {T : Rat} {a : Nat} (hx : Rp x ρ T a 22) (ha : a ≤ 20) (hT : T ≤ 839808) {y : Nat × Nat} {k : Int} (hk : 1 ≤ k) (hk8 : k ≤ 8) (hy : CV y (2 * k) 0 (-2)) :
    QuotW x y (quoC x y) ∧ V .f32 (quoC x y).1 (vq (quoC x y)).1 ∧ V .f32 (quoC x y).2 (vq (quoC x y)).2 ∧ l1q (vq (quoC x y)) ≤ 2001 / 1000 * T + 1 / 1000000 ∧
      l1q (qsub ρ (qmul (vq (quoC x y)) ((k : Rat) / 2, 0))) ≤ 34 * eps * T + 200 * tau := by
  obtain ⟨v1, v2, a1, a2, a3, a4⟩ := rp_bound hx (by omega)
  have hT0 := hx.lo.nonneg
  have hv : l1q (v1, v2) ≤ 16777216 := by grind
  have zt : iv2 (2 * k) (-2) = (k : Rat) / 2 := by rw [iv2_q]; push_cast; grind
  have hyt : V .f32 y.1 ((k : Rat) / 2) := by rw [← zt]; exact hy.re
  obtain ⟨r, q1, u, q2, q3, q4⟩ := quo_word (v := (v1, v2)) a1 a2 hv hk hk8 hy
  have hQ : QuoV x y (quoC x y) := Classical.epsilon_spec ⟨r, q1, (v1, v2), u, (k : Rat) / 2, a1, a2, hyt, q2, q3, q4⟩
  obtain ⟨w1, v', u', t', b1, b2, b3, b4, b5, b6⟩ := hQ
  have ev : v' = (v1, v2) := Prod.ext (V.uniq b1 a1) (V.uniq b2 a2)
  have et : t' = (k : Rat) / 2 := V.uniq b3 hyt
  have eu : vq (quoC x y) = u' := vq_of b4 b5
  rw [eu]
  subst ev et
  have ht : (1 : Rat) / 2 ≤ (k : Rat) / 2 := by
    have : (1 : Rat) ≤ (k : Rat) := by exact_mod_cast hk
    grind
  generalize (k : Rat) / 2 = t at *
  have ha20 : (a : Rat) ≤ 20 := by exact_mod_cast ha
  have hae : (a : Rat) * eps * T ≤ 20 * eps * T := by
    have h1 := Rat.mul_le_mul_of_nonneg_right ha20 (show 0 ≤ eps * T from Rat.mul_nonneg (Rat.le_of_lt eps_pos) hT0)
    grind
  have tp := tau_pos
  have ts := tau_small
  have h3 := l1_sub_tri ρ (v1, v2) (qmul u' (t, 0))
  have h4 : l1q (qsub ρ (v1, v2)) = l1q (qsub (v1, v2) ρ) := by
    unfold l1q qsub
    simp only
    have e1 : ρ.1 - v1 = -(v1 - ρ.1) := by grind
    have e2 : ρ.2 - v2 = -(v2 - ρ.2) := by grind
    rw [e1, e2, ab_neg, ab_neg]
  have h5 : l1q (qsub (v1, v2) (qmul u' (t, 0))) = l1q (qsub (qmul u' (t, 0)) (v1, v2)) := by
    unfold l1q qsub
    simp only
    have e1 : v1 - (qmul u' (t, 0)).1 = -((qmul u' (t, 0)).1 - v1) := by grind
    have e2 : v2 - (qmul u' (t, 0)).2 = -((qmul u' (t, 0)).2 - v2) := by grind
    rw [e1, e2, ab_neg, ab_neg]
  have h6 := l1_tri (qmul u' (t, 0)) (v1, v2)
  have h7 : l1q (qmul u' (t, 0)) = l1q u' * t := by
    unfold l1q qmul
    simp only
    have e1 : u'.1 * t - u'.2 * 0 = u'.1 * t := by grind
    have e2 : u'.1 * 0 + u'.2 * t = u'.2 * t := by grind
    have e3 : ab t = t := by unfold ab; grind
    rw [e1, e2, ab_mul, ab_mul, e3]
    grind
  have h8 : l1q u' * (1 / 2) ≤ l1q u' * t := Rat.mul_le_mul_of_nonneg_left ht (l1_nonneg u')
  rw [← h7] at h8
  rw [eps_val] at *
  refine ⟨w1, b4, b5, by grind, ?_⟩
  rw [h4, h5] at h3
  grind
set_option maxHeartbeats 1000000 in
theorem dv_inv (D : Dp n xs c) (E : Dp m ys d) (hn : n ≤ 6) {N : Nat} (hN : n + 1 = N + m) (s : Nat) : s ≤ N → (∀ t, t < s → DvW xs ys c d m N t) ∧ ∀ k, k < n →
    Rp ((dvS xs ys N s).getD k (0, 0)) (qsub (qof (c k)) (dsC (dvU xs ys N) (fun k => qof (d k)) m k N s)) (l1q (qof (c k)) + dsR (dvX xs ys N) (fun k => l1q (qof (d k))) m k N s) (8 + 2 * s) 22 ∧
      l1q (qof (c k)) + dsR (dvX xs ys N) (fun k => l1q (qof (d k))) m k N s ≤ g18 s := by
  have hm1 := E.one
  induction s with
  | zero =>
    intro _
    refine ⟨fun t ht => absurd ht (Nat.not_lt_zero _), fun k hk => ?_⟩
    have e1 : qsub (qof (c k)) (dsC (dvU xs ys N) (fun k => qof (d k)) m k N 0) = qof (c k) := by
      unfold dsC qsub
      exact Prod.ext (by simp only; grind) (by simp only; grind)
    have e2 : l1q (qof (c k)) + dsR (dvX xs ys N) (fun k => l1q (qof (d k))) m k N 0 = l1q (qof (c k)) := by unfold dsR; grind
    rw [e1, e2]
    exact ⟨((dp_ap D).rp k).up (by omega) (by omega), dp_le8 D k⟩
  | succ s ih =>
    intro hs
    obtain ⟨i1, i2⟩ := ih (by omega)
    obtain ⟨j, hj⟩ : ∃ j, N - 1 - s = j := ⟨_, rfl⟩
    have hjN : j < N := by omega
    have hk0 : j + (m - 1) < n := by omega
    obtain ⟨r1, r2⟩ := i2 (j + (m - 1)) hk0
    have hT : l1q (qof (c (j + (m - 1)))) + dsR (dvX xs ys N) (fun k => l1q (qof (d k))) m (j + (m - 1)) N s ≤ 839808 := by
      by_cases h1 : m = 1
      · rw [dsR_low _ _ _ _ _ _ (by omega)]
        have := dp_le8 D (j + (m - 1))
        grind
      · exact Rat.le_trans r2 (g18_four (by omega))
    obtain ⟨K, k1, k2, k3, _⟩ := E.top
    have hy : CV (ys.getD (m - 1) (0, 0)) (2 * K) 0 (-2) := by
      have h := E.cv (m - 1) (by omega)
      rw [k3] at h
      exact h
    obtain ⟨q1, q2, q3, q4, q5⟩ := quo_step r1 (by omega) hT k1 k2 hy
    have eq : quoC ((dvS xs ys N s).getD (j + (m - 1)) (0, 0)) (ys.getD (m - 1) (0, 0)) = dvq xs ys N s := by
      unfold dvq
      rw [E.len, hj]
    have eU : dvU xs ys N j = vq (dvq xs ys N s) := by
      unfold dvU
      rw [if_pos hjN]
      have e : N - 1 - j = s := by omega
      rw [e]
    have eX : dvX xs ys N j = l1q (dvU xs ys N j) + 1 / 1048576 := by
      unfold dvX
      rw [if_pos hjN]
    have eR : qof (d (m - 1)) = ((K : Rat) / 2, 0) := by
      rw [k3]
      unfold qof cq
      rw [iv2_q, iv2_q]
      exact Prod.ext (by simp only; push_cast; grind) (by simp only; push_cast; grind)
    rw [eq, ← eU] at q2 q3 q4 q5
    rw [eq] at q1
    rw [← eR] at q5
    have hU0 := l1_nonneg (dvU xs ys N j)
    have hU : Rp (dvq xs ys N s) (dvU xs ys N j) (dvX xs ys N j) 0 20 := by
      rw [eX]
      refine ⟨⟨dvU xs ys N j, q2, q3, ?_⟩, by grind, .inr (by rw [two_n20]; grind)⟩
      have e : l1q (qsub (dvU xs ys N j) (dvU xs ys N j)) = 0 := by
        unfold qsub
        have e1 : (dvU xs ys N j).1 - (dvU xs ys N j).1 = 0 := by grind
        have e2 : (dvU xs ys N j).2 - (dvU xs ys N j).2 = 0 := by grind
        rw [e1, e2, l1_zero]
      rw [e]
      push_cast
      grind
    have hg := g18_le (show s ≤ 6 by omega)
    have hX8 : dvX xs ys N j * 8 ≤ 1601 / 100 * g18 s := by rw [eX]; grind
    have hX0 := dvX_nonneg xs ys N j
    have key : ∀ k, k < n → j ≤ k → k - j < m → (MulW (dvq xs ys N s) (ys.getD (k - j) (0, 0)) (mulF (dvq xs ys N s) (ys.getD (k - j) (0, 0))) ∧ MinusW ((dvS xs ys N s).getD k (0, 0)) (mulF (dvq xs ys N s) (ys.getD (k - j) (0, 0))) (minusF ((dvS xs ys N s).getD k (0, 0)) (mulF (dvq xs ys N s) (ys.getD (k - j) (0, 0))))) ∧
        Rp (minusF ((dvS xs ys N s).getD k (0, 0)) (mulF (dvq xs ys N s) (ys.getD (k - j) (0, 0)))) (qsub (qsub (qof (c k)) (dsC (dvU xs ys N) (fun k => qof (d k)) m k N s)) (qmul (dvU xs ys N j) (qof (d (k - j))))) (l1q (qof (c k)) + dsR (dvX xs ys N) (fun k => l1q (qof (d k))) m k N s + dvX xs ys N j * l1q (qof (d (k - j)))) (8 + 2 * s + 2) 22 ∧
        dvX xs ys N j * l1q (qof (d (k - j))) ≤ 1601 / 100 * g18 s := by
      intro k hk h1 h2
      obtain ⟨c1, c2⟩ := i2 k hk
      have b8 := dp_le8 E (k - j)
      have hb : dvX xs ys N j * l1q (qof (d (k - j))) ≤ 1601 / 100 * g18 s := Rat.le_trans (Rat.mul_le_mul_of_nonneg_left b8 hX0) hX8
      obtain ⟨m1, m2⟩ := rp_mul hU ((dp_ap E).rp (k - j)) (by omega) (by omega) (by omega) (by unfold big57; grind) (by unfold big57; grind) (by unfold big57; grind)
      obtain ⟨p1, p2⟩ := rp_minus (c := 8 + 2 * s) (k := 22) c1 m2 (Nat.le_refl _) (by omega) (by omega) (Nat.le_refl _) (by omega) (by omega) (by unfold big57; grind) (by unfold big57; grind)
      exact ⟨⟨m1, p1⟩, p2, hb⟩
    refine ⟨fun t ht => ?_, fun k hk => ?_⟩
    · by_cases e : t = s
      · subst e
        refine ⟨by rw [hj]; exact q1, by rw [hj]; exact q2, by rw [hj]; exact q3, by rw [hj]; grind, by rw [hj]; exact q5, fun i hi => ?_⟩
        rw [hj]
        have h := (key (j + i) (by omega) (by omega) (by omega)).1
        rw [Nat.add_sub_cancel_left] at h
        exact h
      · exact i1 t (by omega)
    · obtain ⟨c1, c2⟩ := i2 k hk
      have eS : dvS xs ys N (s + 1) = dvI (dvS xs ys N s) ys (dvq xs ys N s) j m := by
        rw [dvS]
        unfold dvq
        rw [hj, E.len]
      rw [eS, dvI_get _ _ _ _ _ (by rw [dvS_len, D.len]; omega), dsC, dsR, hj, g18]
      by_cases h1 : j ≤ k ∧ k - j < m
      · rw [if_pos h1, if_pos h1, if_pos h1]
        obtain ⟨_, p2, p3⟩ := key k hk h1.1 h1.2
        refine ⟨(p2.cast ?_ ?_).up (by omega) (Nat.le_refl _), by grind⟩
        · generalize dsC (dvU xs ys N) (fun k => qof (d k)) m k N s = A
          unfold qsub qadd
          exact Prod.ext (by simp only; grind) (by simp only; grind)
        · grind
      · rw [if_neg h1, if_neg h1, if_neg h1]
        exact ⟨c1.up (by omega) (Nat.le_refl _), by grind⟩
end
end Go.Proofs.Ytfbekiphlaaieaa
namespace Go.Proofs.Ytfbekiphlaaieaa

theorem lp_all {N : Nat} {L : List (Nat × Nat)} {Q : Nat → Rat × Rat} {X : Nat → Rat} {a i : Nat} (H : Lp N L Q X a i) (h0 : ∀ k, N ≤ k → Q k = (0, 0) ∧ X k = 0) (k : Nat) : Rp (L.getD k (0, 0)) (Q k) (X k) a i := by
  by_cases hk : k < N
  · exact H.rp k hk
  · obtain ⟨e1, e2⟩ := h0 k (by omega)
    rw [getD_out (by rw [H.len]; omega), e1, e2]
    exact rp_nil.up (Nat.zero_le _) (Nat.le_refl _)
theorem rp_trim {L : List (Nat × Nat)} {Q : Nat → Rat × Rat} {X : Nat → Rat} {a i : Nat} (H : ∀ k, Rp (L.getD k (0, 0)) (Q k) (X k) a i) (k : Nat) : Rp ((trimC L).getD k (0, 0)) (Q k) (X k) a i := by
  by_cases hk : k < trimN L L.length
  · rw [trimC_get L k hk]; exact H k
  · rw [getD_out (by rw [trimC_len]; omega)]
    by_cases h2 : k < L.length
    · have h3 := rp_of_zero (H k) (trimN_zero L L.length k (by omega) h2)
      refine ⟨⟨(0, 0), V_nil, V_nil, ?_⟩, (H k).maj, (H k).lo⟩
      have e : l1q (qsub (0, 0) (Q k)) = l1q (Q k) := by
        unfold l1q qsub
        simp only
        have e1 : 0 - (Q k).1 = -(Q k).1 := by grind
        have e2 : 0 - (Q k).2 = -(Q k).2 := by grind
        rw [e1, e2, ab_neg, ab_neg]
      rw [e]; exact h3
    · have h := H k
      rw [getD_out (by omega)] at h
      exact h
theorem plus_nil : plusF (0, 0) (0, 0) = (0, 0) := by decide +kernel
/-- Sums of two lists of different lengths. -/
theorem add_lists {us es : List (Nat × Nat)} {Q R : Nat → Rat × Rat} {X Y : Nat → Rat} {a b c i j k : Nat} (hx : ∀ t, Rp (us.getD t (0, 0)) (Q t) (X t) a i) (hy : ∀ t, Rp (es.getD t (0, 0)) (R t) (Y t) b j) (hac : a ≤ c) (hbc : b ≤ c) (hc : c ≤ 498) (hik : i ≤ k) (hjk : j ≤ k) (hk : k ≤ 100) (bX : ∀ t, X t ≤ big57) (bY : ∀ t, Y t ≤ big57)
    (h1 : 1 ≤ us.length) (h17 : us.length ≤ 17) (h17' : es.length ≤ 17) {r : Nat} (hr : max us.length es.length = r) :
    (∀ t, PlusW (us.getD t (0, 0)) (es.getD t (0, 0)) (sumF us es t)) ∧ Valid (trimC (zipW r (sumF us es))) ∧ ∀ t, Rp ((trimC (zipW r (sumF us es))).getD t (0, 0)) (qadd (Q t) (R t)) (X t + Y t) (c + 2) k := by
  have key : ∀ t, PlusW (us.getD t (0, 0)) (es.getD t (0, 0)) (sumF us es t) ∧ Rp (sumF us es t) (qadd (Q t) (R t)) (X t + Y t) (c + 2) k := fun t =>
    rp_plus (hx t) (hy t) hac hbc (by omega) hik hjk hk (bX t) (bY t)
  refine ⟨fun t => (key t).1, lp_valid (lp_zip fun t _ => (key t).2) (by omega) (by omega), rp_trim fun t => ?_⟩
  by_cases ht : t < r
  · rw [zipW_get r _ t ht]; exact (key t).2
  · rw [getD_out (by rw [zipW_len]; omega)]
    have h := (key t).2
    have e : sumF us es t = (0, 0) := by
      unfold sumF
      rw [getD_out (by omega), getD_out (by omega), plus_nil]
    rw [e] at h
    exact h
/-- Quotient times divisor plus rest. -/
theorem back_core {m N : Nat} {ql ys el : List (Nat × Nat)} {d : Nat → GI} {U e : Nat → Rat × Rat} {X Z : Nat → Rat} (E : Dp m ys d) (hm : m ≤ 6) (hq : Ap ql U X 0 20 10000000) (hN1 : 1 ≤ N) (hN6 : N ≤ 6) (he : ∀ k, Rp (el.getD k (0, 0)) (e k) (Z k) 24 22) (hZ : ∀ k, Z k ≤ big57) (h6 : el.length ≤ 6)
    {ag : List (Nat × Nat)} (hag : trimC (prodC ql ys N m) = ag) {r : Nat} (hr : max ag.length el.length = r) (hX0 : ∀ k, 0 ≤ X k) :
    ProdW ql ys N m ∧ Valid ag ∧ (∀ t, PlusW (ag.getD t (0, 0)) (el.getD t (0, 0)) (sumF ag el t)) ∧ Valid (trimC (zipW r (sumF ag el))) ∧
      ∀ k, Rp ((trimC (zipW r (sumF ag el))).getD k (0, 0)) (qadd (cvC U (fun k => qof (d k)) m k N) (e k)) (cvR X (fun k => l1q (qof (d k))) m k N + Z k) 26 22 := by
  have hm1 := E.one
  obtain ⟨p1, p2⟩ := prod_lp hq (dp_ap E) (by omega) (by decide) (by decide) N m (by omega) (by omega)
  have hall := rp_trim (lp_all p2 (fun k hk => ⟨cvC_out _ _ m k N (by omega), cvR_out _ _ m k N (by omega)⟩))
  rw [hag] at hall
  have hv : Valid ag := by rw [← hag]; exact lp_valid p2 (by omega) (by omega)
  have hl : ag.length ≤ 17 := hv.most
  have hb : ∀ t, cvR X (fun k => l1q (qof (d k))) m t N ≤ big57 := by
    intro t
    have h := (cvR_le (X := X) (Y := fun k => l1q (qof (d k))) (M := 10000000) (N := 8) m t (fun k => ⟨hX0 k, hq.le k⟩) (fun k => ⟨l1_nonneg _, dp_le8 E k⟩) N).2
    have hn6 : (N : Rat) ≤ 6 := by exact_mod_cast hN6
    unfold big57
    grind
  obtain ⟨s1, s2, s3⟩ := add_lists (c := 24) (k := 22) hall he (by omega) (by omega) (by omega) (by omega) (by omega) (by omega) hb hZ hv.one hl (by omega) hr
  exact ⟨p1, hv, s1, s2, s3⟩
end Go.Proofs.Ytfbekiphlaaieaa
namespace Go.Proofs.Ytfbekiphlaaieaa

section
variable {n m : Nat} {xs ys : List (Nat × Nat)} {c d : Nat → GI}
theorem dv_rp {N s : Nat} (h : DvW xs ys c d m N s) (hs : s < N) : Rp (dvq xs ys N s) (dvU xs ys N (N - 1 - s)) (dvX xs ys N (N - 1 - s)) 0 20 := by
  have hU0 := l1_nonneg (dvU xs ys N (N - 1 - s))
  have eX : dvX xs ys N (N - 1 - s) = l1q (dvU xs ys N (N - 1 - s)) + 1 / 1048576 := by
    unfold dvX
    rw [if_pos (by omega)]
  rw [eX]
  refine ⟨⟨_, h.v1, h.v2, ?_⟩, by grind, .inr (by rw [two_n20]; grind)⟩
  have e : l1q (qsub (dvU xs ys N (N - 1 - s)) (dvU xs ys N (N - 1 - s))) = 0 := by
    unfold qsub
    have e1 : (dvU xs ys N (N - 1 - s)).1 - (dvU xs ys N (N - 1 - s)).1 = 0 := by grind
    have e2 : (dvU xs ys N (N - 1 - s)).2 - (dvU xs ys N (N - 1 - s)).2 = 0 := by grind
    rw [e1, e2, l1_zero]
  rw [e]
  push_cast
  grind
theorem div_words (D : Dp n xs c) (E : Dp m ys d) (hn : n ≤ 6) {N : Nat} (hN : n + 1 = N + m) : DivW xs ys (dvq xs ys N) N := by
  have hw := (dv_inv D E hn hN N (Nat.le_refl _)).1
  have hm1 := E.one
  intro s hs
  have h := hw s hs
  rw [dvR_dvS, E.len]
  refine ⟨h.quot, ⟨⟨_, h.v1⟩, ⟨_, h.v2⟩⟩, fun i hi => ?_⟩
  rw [dvI_get _ _ _ _ _ (by rw [dvS_len, D.len]; omega), if_neg (by omega)]
  exact h.words i hi
theorem dvQ_all (qs : Nat → Nat × Nat) (N k : Nat) (hk : k < N) : (dvQ qs N N).getD k (0, 0) = qs (N - 1 - k) := by
  unfold dvQ
  rw [zipW_get _ _ _ hk, if_pos (by omega)]
/-- The quotient. -/
theorem div_quo (D : Dp n xs c) (E : Dp m ys d) (hn : n ≤ 6) {N : Nat} (hN : n + 1 = N + m) (hN1 : 1 ≤ N) :
    Ap (dvQ (dvq xs ys N) N N) (dvU xs ys N) (dvX xs ys N) 0 20 10000000 ∧ trimC (dvQ (dvq xs ys N) N N) = dvQ (dvq xs ys N) N N ∧ Valid (dvQ (dvq xs ys N) N N) ∧ ∀ k, k < N → V .f32 ((dvQ (dvq xs ys N) N N).getD k (0, 0)).1 (dvU xs ys N k).1 ∧ V .f32 ((dvQ (dvq xs ys N) N N).getD k (0, 0)).2 (dvU xs ys N k).2 ∧ l1q (dvU xs ys N k) ≤ 1800000 := by
  have hw := (dv_inv D E hn hN N (Nat.le_refl _)).1
  have hm1 := E.one
  have hl : (dvQ (dvq xs ys N) N N).length = N := zipW_len _ _
  have hv : ∀ k, k < N → Rp ((dvQ (dvq xs ys N) N N).getD k (0, 0)) (dvU xs ys N k) (dvX xs ys N k) 0 20 ∧ V .f32 ((dvQ (dvq xs ys N) N N).getD k (0, 0)).1 (dvU xs ys N k).1 ∧ V .f32 ((dvQ (dvq xs ys N) N N).getD k (0, 0)).2 (dvU xs ys N k).2 ∧ l1q (dvU xs ys N k) ≤ 1800000 := by
    intro k hk
    have h := hw (N - 1 - k) (by omega)
    have h2 := dv_rp h (by omega)
    have h3 := h.v1
    have h4 := h.v2
    have h5 := h.le
    have e : N - 1 - (N - 1 - k) = k := by omega
    rw [e] at h2 h3 h4 h5
    rw [dvQ_all _ _ _ hk]
    exact ⟨h2, h3, h4, h5⟩
  have ha : Ap (dvQ (dvq xs ys N) N N) (dvU xs ys N) (dvX xs ys N) 0 20 10000000 := by
    refine ⟨fun k => ?_, fun k => ?_⟩
    · by_cases hk : k < N
      · exact (hv k hk).1
      · have e1 : dvU xs ys N k = (0, 0) := by unfold dvU; rw [if_neg hk]
        have e2 : dvX xs ys N k = 0 := by unfold dvX; rw [if_neg hk]
        rw [getD_out (by rw [hl]; omega), e1, e2]
        exact rp_nil
    · unfold dvX
      split
      · rename_i hk
        have := (hv k hk).2.2.2
        grind
      · decide
  have ht : isZ ((dvQ (dvq xs ys N) N N).getD (N - 1) (0, 0)) = false := by
    cases hz : isZ ((dvQ (dvq xs ys N) N N).getD (N - 1) (0, 0)) with
    | false => rfl
    | true =>
      exfalso
      have h0 := rp_of_zero (hv (N - 1) (by omega)).1 hz
      have e0 : ((0 : Nat) : Rat) * eps * dvX xs ys N (N - 1) = 0 := by push_cast; grind
      rw [e0] at h0
      have hU : dvU xs ys N (N - 1) = (0, 0) := Prod.ext (l1_eq_zero h0).1 (l1_eq_zero h0).2
      have h := (hw 0 hN1).near
      obtain ⟨t, t0, et⟩ := top_real D
      have ek : N - 1 - 0 + (m - 1) = n - 1 := by omega
      have eN : N - 1 - 0 = N - 1 := by omega
      rw [ek, eN, hU, zero_qmul, et] at h
      unfold dsC dsR at h
      have e1 : qsub (qsub (t, 0) (0, 0)) (0, 0) = (t, 0) := by
        unfold qsub
        exact Prod.ext (by simp only; grind) (by simp only; grind)
      rw [e1] at h
      have e2 : l1q (t, 0) = t := by
        unfold l1q
        simp only
        unfold ab
        grind
      rw [e2] at h
      have tt : (1 : Rat) / 2 ≤ t := by
        obtain ⟨x, x1, _, x3, _⟩ := D.top
        rw [x3] at et
        have e3 : qof (2 * x, 0) = ((x : Rat) / 2, 0) := by
          unfold qof cq
          rw [iv2_q, iv2_q]
          exact Prod.ext (by simp only; push_cast; grind) (by simp only; push_cast; grind)
        rw [e3] at et
        have e4 : (x : Rat) / 2 = t := congrArg Prod.fst et
        have : (1 : Rat) ≤ (x : Rat) := by exact_mod_cast x1
        grind
      have ts := tau_small
      rw [eps_val] at h
      grind
  have htr : trimC (dvQ (dvq xs ys N) N N) = dvQ (dvq xs ys N) N N := trimC_id (by rw [hl]; exact hN1) (.inr (by rw [hl]; exact ht))
  refine ⟨ha, htr, ?_, fun k hk => (hv k hk).2⟩
  rw [← htr]
  exact lp_valid ⟨hl, fun k hk => (hv k hk).1⟩ hN1 (by omega)
/-- The rest. -/
theorem div_rest (D : Dp n xs c) (E : Dp m ys d) (hn : n ≤ 6) {N : Nat} (hN : n + 1 = N + m) (hN1 : 1 ≤ N) :
    Valid (trimC (dvE xs ys (dvq xs ys N) N)) ∧ ((trimC (dvE xs ys (dvq xs ys N) N)).length < m ∨ m = 1) ∧ (trimC (dvE xs ys (dvq xs ys N) N)).length ≤ 6 ∧
      ∀ k, Rp ((trimC (dvE xs ys (dvq xs ys N) N)).getD k (0, 0)) (if k + 1 < m then qsub (qof (c k)) (cvC (dvU xs ys N) (fun k => qof (d k)) m k N) else (0, 0)) (if k + 1 < m then l1q (qof (c k)) + cvR (dvX xs ys N) (fun k => l1q (qof (d k))) m k N else 0) 24 22 := by
  have hi := (dv_inv D E hn hN N (Nat.le_refl _)).2
  have hm1 := E.one
  have hE : (dvE xs ys (dvq xs ys N) N).length = max 1 (m - 1) ∧ ∀ k, Rp ((dvE xs ys (dvq xs ys N) N).getD k (0, 0)) (if k + 1 < m then qsub (qof (c k)) (cvC (dvU xs ys N) (fun k => qof (d k)) m k N) else (0, 0)) (if k + 1 < m then l1q (qof (c k)) + cvR (dvX xs ys N) (fun k => l1q (qof (d k))) m k N else 0) 24 22 := by
    unfold dvE
    rw [E.len]
    by_cases h1 : m = 1
    · rw [if_pos h1]
      refine ⟨by simp; omega, fun k => ?_⟩
      rw [if_neg (by omega), if_neg (by omega)]
      have e : ([(0, 0)] : List (Nat × Nat)).getD k (0, 0) = (0, 0) := by
        cases k with
        | zero => rfl
        | succ k => exact getD_out (by simp)
      rw [e]
      exact rp_nil.up (Nat.zero_le _) (Nat.le_refl _)
    · rw [if_neg h1, dvR_dvS]
      have hl : (List.take (m - 1) (dvS xs ys N N)).length = m - 1 := by rw [List.length_take, dvS_len, D.len]; omega
      refine ⟨by rw [hl]; omega, fun k => ?_⟩
      by_cases hk : k + 1 < m
      · rw [if_pos hk, if_pos hk]
        have h := (hi k (by omega)).1
        rw [dsC_end, dsR_end] at h
        have e : (List.take (m - 1) (dvS xs ys N N)).getD k (0, 0) = (dvS xs ys N N).getD k (0, 0) := by
          simp only [List.getD_eq_getElem?_getD, List.getElem?_take]
          rw [if_pos (by omega)]
        rw [e]
        exact h.up (by omega) (Nat.le_refl _)
      · rw [if_neg hk, if_neg hk, getD_out (by rw [hl]; omega)]
        exact rp_nil.up (Nat.zero_le _) (Nat.le_refl _)
  have ht : (trimC (dvE xs ys (dvq xs ys N) N)).length ≤ max 1 (m - 1) := by
    rw [trimC_len]
    exact Nat.le_trans (trimN_le _ _) (Nat.le_of_eq hE.1)
  refine ⟨valid_trim (by rw [hE.1]; omega) (by rw [hE.1]; omega) (fun k _ => (hE.2 k).num), by omega, by omega, rp_trim hE.2⟩
/-- The top places: nothing is left. -/
theorem div_near (D : Dp n xs c) (E : Dp m ys d) (hn : n ≤ 6) {N : Nat} (hN : n + 1 = N + m) {k : Nat} (hk : k < n) (hkm : m ≤ k + 1) :
    l1q (qsub (cvC (dvU xs ys N) (fun k => qof (d k)) m k N) (qof (c k))) ≤ 36 * eps * (l1q (qof (c k)) + cvR (dvX xs ys N) (fun k => l1q (qof (d k))) m k N) := by
  have hm1 := E.one
  obtain ⟨j, rfl⟩ : ∃ j, k = j + (m - 1) := ⟨k - (m - 1), by omega⟩
  have hs : N - 1 - j < N := by omega
  have h := ((dv_inv D E hn hN N (Nat.le_refl _)).1 (N - 1 - j) hs).near
  have e : N - 1 - (N - 1 - j) = j := by omega
  rw [e] at h
  have e1 := dsC_cv (dvU xs ys N) (fun k => qof (d k)) m (j + (m - 1)) N (N - 1 - j + 1) (by omega)
  have e2 := dsR_cv (dvX xs ys N) (fun k => l1q (qof (d k))) m (j + (m - 1)) N (N - 1 - j + 1) (by omega)
  have eN : N - (N - 1 - j + 1) = j := by omega
  rw [eN, cvC_out _ _ m _ j (by omega), zero_qadd, dsC, e, if_pos (by omega), Nat.add_sub_cancel_left] at e1
  rw [eN, cvR_out _ _ m _ j (by omega), dsR, e, if_pos (by omega), Nat.add_sub_cancel_left] at e2
  have hX : 1 / 1048576 ≤ dvX xs ys N j := by
    unfold dvX
    rw [if_pos (by omega)]
    have := l1_nonneg (dvU xs ys N j)
    grind
  have hY : 1 / 4 ≤ l1q (qof (d (m - 1))) := by
    have h0 := top_pos E
    have h1 := l1_qof_lo (d (m - 1))
    rcases h1 with h1 | h1
    · grind
    · have e5 : two (-((2 : Nat) : Int)) = 1 / 4 := by decide +kernel
      rw [e5] at h1; exact h1
  have hXY : 1 / 1048576 * (1 / 4) ≤ dvX xs ys N j * l1q (qof (d (m - 1))) := by
    have g1 := Rat.mul_le_mul_of_nonneg_right hX (show (0 : Rat) ≤ 1 / 4 by decide +kernel)
    have g2 := Rat.mul_le_mul_of_nonneg_left hY (dvX_nonneg xs ys N j)
    grind
  have ha := l1_nonneg (qof (c (j + (m - 1))))
  have hd := dsR_nonneg (X := dvX xs ys N) (Y := fun k => l1q (qof (d k))) (dvX_nonneg xs ys N) (fun k => l1_nonneg _) m (j + (m - 1)) N (N - 1 - j)
  have ts := tau_small
  have e3 : l1q (qsub (cvC (dvU xs ys N) (fun k => qof (d k)) m (j + (m - 1)) N) (qof (c (j + (m - 1))))) = l1q (qsub (qsub (qof (c (j + (m - 1)))) (dsC (dvU xs ys N) (fun k => qof (d k)) m (j + (m - 1)) N (N - 1 - j))) (qmul (dvU xs ys N j) (qof (d (m - 1))))) := by
    rw [e1]
    generalize dsC (dvU xs ys N) (fun k => qof (d k)) m (j + (m - 1)) N (N - 1 - j) = A
    generalize qmul (dvU xs ys N j) (qof (d (m - 1))) = B
    generalize qof (c (j + (m - 1))) = C
    unfold l1q qsub qadd
    simp only
    have f1 : A.1 + B.1 - C.1 = -(C.1 - A.1 - B.1) := by grind
    have f2 : A.2 + B.2 - C.2 = -(C.2 - A.2 - B.2) := by grind
    rw [f1, f2, ab_neg, ab_neg]
  rw [e3, e2]
  rw [eps_val] at h ⊢
  grind
/-- Back. -/
theorem div_back (D : Dp n xs c) (E : Dp m ys d) (hn : n ≤ 6) (hm : m ≤ 6) {N : Nat} (hN : n + 1 = N + m) (hN1 : 1 ≤ N) {ag : List (Nat × Nat)} (hag : trimC (prodC (dvQ (dvq xs ys N) N N) ys N m) = ag) {r : Nat} (hr : max ag.length (trimC (dvE xs ys (dvq xs ys N) N)).length = r) :
    ProdW (dvQ (dvq xs ys N) N N) ys N m ∧ Valid ag ∧ (∀ t, PlusW (ag.getD t (0, 0)) ((trimC (dvE xs ys (dvq xs ys N) N)).getD t (0, 0)) (sumF ag (trimC (dvE xs ys (dvq xs ys N) N)) t)) ∧ Valid (trimC (zipW r (sumF ag (trimC (dvE xs ys (dvq xs ys N) N))))) ∧
      ∀ k, k < n → Rp ((trimC (zipW r (sumF ag (trimC (dvE xs ys (dvq xs ys N) N))))).getD k (0, 0)) (qof (c k)) (l1q (qof (c k)) + 2 * cvR (dvX xs ys N) (fun k => l1q (qof (d k))) m k N) 70 22 := by
  obtain ⟨q1, _, _, _⟩ := div_quo D E hn hN hN1
  obtain ⟨_, _, r3, r4⟩ := div_rest D E hn hN hN1
  have hi := (dv_inv D E hn hN N (Nat.le_refl _)).2
  have hm1 := E.one
  have hT : ∀ k, k < n → l1q (qof (c k)) + cvR (dvX xs ys N) (fun k => l1q (qof (d k))) m k N ≤ 280000000 := by
    intro k hk
    have h := (hi k hk).2
    rw [dsR_end] at h
    exact Rat.le_trans h (g18_le (by omega)).2
  obtain ⟨b1, b2, b3, b4, b5⟩ := back_core E hm q1 hN1 (by omega) r4 (fun k => by
    split
    · have := hT k (by omega)
      unfold big57
      grind
    · decide) r3 hag hr (dvX_nonneg xs ys N)
  refine ⟨b1, b2, b3, b4, fun k hk => ?_⟩
  have h := b5 k
  by_cases h1 : k + 1 < m
  · rw [if_pos h1, if_pos h1] at h
    refine (h.cast ?_ ?_).up (by omega) (Nat.le_refl _)
    · generalize cvC (dvU xs ys N) (fun k => qof (d k)) m k N = A
      unfold qadd qsub
      exact Prod.ext (by simp only; grind) (by simp only; grind)
    · grind
  · rw [if_neg h1, if_neg h1, qadd_zero] at h
    have hn' := div_near D E hn hN hk (by omega)
    have hl := (hi k hk).1.lo
    rw [dsR_end] at hl
    have hl2 := h.lo
    have e0 : cvR (dvX xs ys N) (fun k => l1q (qof (d k))) m k N + 0 = cvR (dvX xs ys N) (fun k => l1q (qof (d k))) m k N := by grind
    rw [e0] at h hl2
    have hS := hl2.nonneg
    have ha := l1_nonneg (qof (c k))
    obtain ⟨u, u1, u2, u3⟩ := h.val
    refine ⟨⟨u, u1, u2, ?_⟩, by grind, ?_⟩
    · have h3 := l1_sub_tri u (cvC (dvU xs ys N) (fun k => qof (d k)) m k N) (qof (c k))
      push_cast at u3 ⊢
      rw [eps_val] at *
      grind
    · have e1 : l1q (qof (c k)) + 2 * cvR (dvX xs ys N) (fun k => l1q (qof (d k))) m k N = (l1q (qof (c k)) + cvR (dvX xs ys N) (fun k => l1q (qof (d k))) m k N) + cvR (dvX xs ys N) (fun k => l1q (qof (d k))) m k N := by grind
      rw [e1]
      exact hl.add hl2
end
end Go.Proofs.Ytfbekiphlaaieaa
namespace Go.Proofs.Ytfbekiphlaaieaa
open Go.RowKit

set_option maxHeartbeats 4000000 in
set_option maxRecDepth 10000 in
theorem divPolys_short (A : Option Addr) (n c : Nat) (xs : List (Nat × Nat)) (A1 : Option Addr) (m c1 : Nat) (ys : List (Nat × Nat)) (w : World) (h : CRd w w.heap.size A n c xs) (h1 : CRd w w.heap.size A1 m c1 ys) (hv : Valid xs) (hv1 : Valid ys) (hz : m = 1 → isZ (ys.getD 0 (0, 0)) = false) (hN : n < m) :
    Calls Try.prog 28 #[.agg #[.slice A n c], .agg #[.slice A1 m c1]] w fun e w' => ∃ A' n' c' A2 n2 c2, e = .returned (.tuple #[.agg #[.slice A' n' c'], .agg #[.slice A2 n2 c2], .bool true]) ∧ CRd w' w'.heap.size A' n' c' [(0, 0)] ∧ CRd w' w'.heap.size A2 n2 c2 xs ∧ Below w.heap.size w w' := by
  have hn : 1 ≤ n := by have := hv.one; rwa [h.len] at this
  have hn17 : n ≤ 17 := by have := hv.most; rwa [h.len] at this
  have hm : 1 ≤ m := by have := hv1.one; rwa [h1.len] at this
  have hm17 : m ≤ 17 := by have := hv1.most; rwa [h1.len] at this
  obtain ⟨d, hd⟩ : ∃ d, m - 1 = d := ⟨_, rfl⟩
  have hdi : (m : Int) - 1 = (d : Int) := by omega
  have hnd : (n : Int) ≤ (d : Int) := by omega
  have HR := Lib.hid h
  have HS := Lib.hid h1
  have HV := Lib.hid hv
  have HV1 := Lib.hid hv1
  have HZ := Lib.hid (fun W H => isZero_no A1 m c1 ys W H hz)
  clear h h1 hv hv1 hz hd hN
  go_enter Try.func28, Try.ntmps28
  go_wp2_with fail
  refine (valid_any A n c xs _ (HR.out.in_' (al4 w _ _ _ _)) HV.out).mono ?_
  rintro e w1 ⟨rfl, b1⟩
  have KA1 := Lib.hid (Blk.kept (Blk.alloc (Blk.alloc (Blk.alloc (Blk.new w 28 #[.slice A n c]) _) _) _) b1)
  have KB1 : Hid (Blk w1 (w.heap.size + 1) 28 #[.slice A1 m c1]) := Blk.kept (Blk.alloc (Blk.alloc (Blk.new_at (w.alloc _) _ _ (by simp)) _) _) b1
  have KR1 : Hid (Blk w1 (w.heap.size + 1 + 1) 28 #[.slice none 0 0]) := Blk.kept (Blk.alloc (Blk.new_at ((w.alloc _).alloc _) _ _ (by simp)) _) b1
  have KS1 : Hid (Blk w1 (w.heap.size + 1 + 1 + 1) 28 #[.slice none 0 0]) := Blk.kept (Blk.new_at (((w.alloc _).alloc _).alloc _) _ _ (by simp)) b1
  have cb1 := KB1.out.cell0
  have B1 := Lib.hid (bthen (al4 w _ _ _ _) b1)
  clear b1
  go_wp2_with fail
  refine (valid_any _ m c1 ys _ (HS.out.in_' B1.out) HV1.out).mono ?_
  rintro e w2 ⟨rfl, b2⟩
  have KB2 := Lib.hid (Blk.kept KB1.out b2)
  have cb2 := KB2.out.cell0
  have B2 := Lib.hid (bthen B1.out b2)
  have BX2 := Lib.hid b2
  clear b2 cb1
  go_wp2_with fail
  refine (HZ.out _ (HS.out.in_' B2.out)).mono ?_
  rintro e w3 ⟨rfl, b3⟩
  have BX3 := Lib.hid (bthen BX2.out b3)
  have KA3 := Lib.hid (Blk.kept KA1.out BX3.out)
  have KB3 := Lib.hid (Blk.kept KB1.out BX3.out)
  have KR3 := Lib.hid (Blk.kept KR1.out BX3.out)
  have KS3 := Lib.hid (Blk.kept KS1.out BX3.out)
  have B3 := Lib.hid (bthen B2.out b3)
  have ca3 := KA3.out.cell0
  have cb3 := KB3.out.cell0
  clear b3 cb2 KA1 KB1 KR1 KS1 KB2 BX2 BX3 B1 B2 HZ
  go_wp2_with fail
  refine (cloneC_any A n c xs _ (HR.out.in_' B3.out) hn (by omega)).mono ?_
  rintro e w4 ⟨A4, c4, rfl, o4, b4⟩
  have R4 := Lib.hid (COwn.rd o4)
  have KR4 := Lib.hid (Blk.kept KR3.out b4)
  have KS4 := Lib.hid (Blk.kept KS3.out b4)
  have B4 := Lib.hid (bthen B3.out b4)
  clear o4 b4 ca3 cb3 KA3 KB3 KR3 KS3
  have KR5 := Lib.hid (KR4.out.alloc (.cells #[.complex .f32 0 0] 34))
  have KS5 := Lib.hid (KS4.out.alloc (.cells #[.complex .f32 0 0] 34))
  have c4' := KR5.out.cell0
  have c5' := KS5.out.cell0
  have f4 := KR5.out.frozen0
  have f5 := KS5.out.frozen0
  have d1 : ¬ w.heap.size + 1 + 1 = w.heap.size + 1 + 1 + 1 := by omega
  have d2 : ¬ w.heap.size + 1 + 1 + 1 = w.heap.size + 1 + 1 := by omega
  go_wp2_with fail
  have BL := Lib.hid (al1 w4 (.cells #[.complex .f32 0 0] 34))
  have RL : Hid (CRd (w4.alloc (.cells #[.complex .f32 0 0] 34)) (w4.alloc (.cells #[.complex .f32 0 0] 34)).heap.size (some ⟨w4.heap.size, 0, none⟩) 1 1 [(0, 0)]) := crd_lit w4 [(0, 0)] 34 1 rfl (by simp [maxLen])
  have RX := Lib.hid (R4.out.in_' BL.out)
  have BW := Lib.hid (bthen B4.out BL.out)
  generalize w4.heap.size = gl at RL ⊢
  generalize w4.alloc (.cells #[.complex .f32 0 0] 34) = w5 at RL RX BW KR5 KS5 c4' c5' f4 f5 ⊢
  have KSx : Blk (w5.setCell ⟨w.heap.size + 1 + 1, 0, none⟩ (.slice (some ⟨gl, 0, none⟩) 1 1)) (w.heap.size + 1 + 1 + 1) 28 #[.slice none 0 0] := (heap_setCell_other w5 ⟨w.heap.size + 1 + 1, 0, none⟩ (w.heap.size + 1 + 1 + 1) _ (by show w.heap.size + 1 + 1 + 1 ≠ w.heap.size + 1 + 1; omega)).trans KS5.out
  have c5x := KSx.cell0
  refine bodyPost_ret (v := .tuple #[.agg #[.slice (some ⟨gl, 0, none⟩) 1 1], .agg #[.slice A4 n c4], .bool true]) (by simp [results, Try.results28, go_sem, c4', c5']) rfl ⟨_, _, _, _, _, _, rfl, ?_, ?_, ?_⟩
  · have h9 := RL.out.set_other c4' (by intro p e; unfold cx at e; cases e) (.slice (some ⟨gl, 0, none⟩) 1 1)
    have h10 := h9.set_other c5x (by intro p e; unfold cx at e; cases e) (.slice A4 n c4)
    simpa using h10
  · have h9 := RX.out.set_other c4' (by intro p e; unfold cx at e; cases e) (.slice (some ⟨gl, 0, none⟩) 1 1)
    have h10 := h9.set_other c5x (by intro p e; unfold cx at e; cases e) (.slice A4 n c4)
    simpa using h10
  · exact Below.setCell (Below.setCell BW.out (by show w.heap.size ≤ w.heap.size + 1 + 1; omega) _) (by show w.heap.size ≤ w.heap.size + 1 + 1 + 1; omega) _
end Go.Proofs.Ytfbekiphlaaieaa
namespace Go.Proofs.Ytfbekiphlaaieaa

theorem sumQ_nonneg {X : Nat → Rat} (hX : ∀ k, 0 ≤ X k) (n : Nat) : 0 ≤ sumQ X n := by
  induction n with
  | zero => exact Rat.le_refl
  | succ n ih => have := hX n; rw [sumQ]; grind
theorem sumQ_ge {X : Nat → Rat} (hX : ∀ k, 0 ≤ X k) (n k : Nat) (hk : k < n) : X k ≤ sumQ X n := by
  induction n with
  | zero => omega
  | succ n ih =>
    rw [sumQ]
    have h1 := hX n
    have h2 := sumQ_nonneg hX n
    by_cases e : k = n
    · subst e; grind
    · have := ih (by omega); grind
theorem cvR_sum {X Y : Nat → Rat} {B : Rat} (m k : Nat) (hX : ∀ t, 0 ≤ X t) (hY : ∀ t, t < m → 0 ≤ Y t ∧ Y t ≤ B) (hB : 0 ≤ B) (n : Nat) : 0 ≤ cvR X Y m k n ∧ cvR X Y m k n ≤ sumQ X n * B := by
  induction n with
  | zero => exact ⟨Rat.le_refl, by unfold cvR sumQ; grind⟩
  | succ n ih =>
    rw [cvR, sumQ]
    have h1 := hX n
    have h4 := Rat.mul_nonneg h1 hB
    split
    · rename_i h
      have h2 := hY (k - n) h.2
      have h3 := Rat.mul_le_mul_of_nonneg_left h2.2 h1
      have h5 := Rat.mul_nonneg h1 h2.1
      constructor <;> grind
    · constructor <;> grind
/-- The comparison with the long sides of a, the quotient and b. -/
theorem div_cmp {x y : Nat × Nat} {q : Rat × Rat} {Y S lA lB lQ sB : Rat} {wA wB wQ : Nat} (hx : Rp x q (Y + 2 * S) 70 22) (hy : Rp y q Y 0 2) (hA : V .f32 wA lA) (hB : V .f32 wB lB) (hQ : V .f32 wQ lQ) (A0 : 0 ≤ lA) (A1 : lA ≤ 60) (B0 : 0 ≤ lB) (B1 : lB ≤ 60) (Q0 : 0 ≤ lQ) (Q1 : lQ ≤ 2380000000)
    (hY : Y ≤ 21 / 10 * lA + 1 / 500) (hS : S ≤ (21 / 10 * lQ + 21 / 10000) * sB) (hsB : sB ≤ 21 / 10 * lB + 1 / 500) (hsB2 : 1 / 2 ≤ sB) :
    cv64 wA = some (u64w wA) ∧ cv64 wB = some (u64w wB) ∧ cv64 wQ = some (u64w wQ) ∧ ∃ o e o2 mi, FarW x y (farG x y) ∧ floatBits .add .f64 4607182418800017408 (u64w wA) = some o ∧ floatBits .mul .f64 (u64w wQ) (u64w wB) = some e ∧ floatBits .add .f64 o e = some o2 ∧
      floatBits .mul .f64 4562254508917369340 o2 = some mi ∧ (FloatKind.f64.format.order (farG x y) mi == some .gt) = false := by
  obtain ⟨A, A', eA, fA, vA, nA⟩ := up_near hA (by unfold ab; grind)
  obtain ⟨B, B', eB, fB, vB, nB⟩ := up_near hB (by unfold ab; grind)
  obtain ⟨Q, Q', eQ, fQ, vQ, nQ⟩ := up_near hQ (by unfold ab; grind)
  rw [fA, fB, fQ]
  obtain ⟨a1, a2, a3⟩ := near_pos nA A0
  obtain ⟨b1, b2, b3⟩ := near_pos nB B0
  obtain ⟨q1, q2, q3⟩ := near_pos nQ Q0
  have hP0 := Rat.mul_nonneg q3 b3
  have hPb : Q' * B' ≤ 2390000000 * 61 := by
    have g1 := Rat.mul_le_mul_of_nonneg_right (show Q' ≤ 2390000000 by grind) b3
    have g2 := Rat.mul_le_mul_of_nonneg_left (show B' ≤ 61 by grind) (show (0 : Rat) ≤ 2390000000 by decide)
    grind
  obtain ⟨e, υ, e1, r1⟩ := op_mul vQ vB (by rw [t60]; unfold ab; grind)
  obtain ⟨u1, u2, u3⟩ := near_pos r1.near hP0
  have hlB : 237 / 1000 ≤ lB := by grind
  have hQB : 237 / 1000 * lQ ≤ lQ * lB := by
    have := Rat.mul_le_mul_of_nonneg_left hlB Q0
    grind
  have hQB2 : lQ * lB ≤ 60 * lQ := by
    have := Rat.mul_le_mul_of_nonneg_left B1 Q0
    grind
  have hQBv : lQ * lB ≤ 100001 / 100000 * (Q' * B') + 1 / 1000000 := by
    have q2' : lQ ≤ Q' + Q' / 1000000 + 1 / 100000000000000000000 := by grind
    have b2' : lB ≤ B' + B' / 1000000 + 1 / 100000000000000000000 := by grind
    have g1 := Rat.mul_le_mul_of_nonneg_right q2' B0
    have g2 := Rat.mul_le_mul_of_nonneg_left b2' (show 0 ≤ Q' + Q' / 1000000 + 1 / 100000000000000000000 by grind)
    have e2 : (Q' + Q' / 1000000 + 1 / 100000000000000000000) * (B' + B' / 1000000 + 1 / 100000000000000000000) = Q' * B' + 2 / 1000000 * (Q' * B') + 1 / 1000000000000 * (Q' * B') + 1 / 100000000000000000000 * ((1000001 / 1000000) * Q') + 1 / 100000000000000000000 * ((1000001 / 1000000) * B') + 1 / 100000000000000000000 * (1 / 100000000000000000000) := by grind
    rw [e2] at g2
    grind
  have hS2 : S ≤ 441 / 100 * (lQ * lB) + 42 / 10000 * lQ + 441 / 100000 * lB + 42 / 10000000 := by
    have g1 := Rat.mul_le_mul_of_nonneg_left hsB (show 0 ≤ 21 / 10 * lQ + 21 / 10000 by grind)
    have e2 : (21 / 10 * lQ + 21 / 10000) * (21 / 10 * lB + 1 / 500) = 441 / 100 * (lQ * lB) + 42 / 10000 * lQ + 441 / 100000 * lB + 42 / 10000000 := by grind
    rw [e2] at g1
    grind
  have hY0 := hy.lo.nonneg
  generalize lQ * lB = P at *
  generalize Q' * B' = P' at *
  obtain ⟨f1, f, f2, f3, f4⟩ := near_f hx hy (by omega) (by omega) (by unfold big57; grind) (by unfold big57; grind) (M := 1 + lA + P) (by push_cast; grind)
  obtain ⟨o, o2, mi, c1, c2, c3, c4⟩ := chk_sum f2 vA r1.val a3 (by grind) u3 (by grind) (by grind)
  exact ⟨eA, eB, eQ, o, e, o2, mi, f1, c1, e1, c2, c3, c4⟩
/-- What DivPolys gives back, in both cases. -/
def DvF (n m : Nat) (xs ys ql el : List (Nat × Nat)) : Prop :=
  (∃ N qs, n + 1 = N + m ∧ 1 ≤ N ∧ DivW xs ys qs N ∧ Valid (trimC (dvQ qs N N)) ∧ Valid (trimC (dvE xs ys qs N)) ∧ trimC (dvQ qs N N) = ql ∧ trimC (dvE xs ys qs N) = el) ∨ (n < m ∧ ql = [(0, 0)] ∧ el = xs)
/-- The lists on the way back. -/
def plAg (m : Nat) (ql ys : List (Nat × Nat)) : List (Nat × Nat) := trimC (prodC ql ys ql.length m)
def plBk (m : Nat) (ql ys el : List (Nat × Nat)) : List (Nat × Nat) := trimC (zipW (max (plAg m ql ys).length el.length) (sumF (plAg m ql ys) el))
/-- All that the law asks of division. -/
structure DvA (n m : Nat) (xs ys ql el : List (Nat × Nat)) : Prop where
  dv : DvF n m xs ys ql el
  qv : Valid ql
  ev : Valid el
  eLen : el.length < m ∨ m = 1
  agW : ProdW ql ys ql.length m
  agV : Valid (plAg m ql ys)
  bkW : ∀ t, PlusW ((plAg m ql ys).getD t (0, 0)) (el.getD t (0, 0)) (sumF (plAg m ql ys) el t)
  bkV : Valid (plBk m ql ys el)
  lqW : LopW ql (fun k => longF (ql.getD k (0, 0))) (alF ql)
  cmp : ∀ k, k < n → cv64 (alF xs n) = some (u64w (alF xs n)) ∧ cv64 (alF ys m) = some (u64w (alF ys m)) ∧ cv64 (alF ql ql.length) = some (u64w (alF ql ql.length)) ∧ ∃ o e o2 mi, FarW ((plBk m ql ys el).getD k (0, 0)) (xs.getD k (0, 0)) (farG ((plBk m ql ys el).getD k (0, 0)) (xs.getD k (0, 0))) ∧ floatBits .add .f64 4607182418800017408 (u64w (alF xs n)) = some o ∧ floatBits .mul .f64 (u64w (alF ql ql.length)) (u64w (alF ys m)) = some e ∧ floatBits .add .f64 o e = some o2 ∧
      floatBits .mul .f64 4562254508917369340 o2 = some mi ∧ (FloatKind.f64.format.order (farG ((plBk m ql ys el).getD k (0, 0)) (xs.getD k (0, 0))) mi == some .gt) = false
section
variable {n m : Nat} {xs ys : List (Nat × Nat)} {c d : Nat → GI}
theorem sum_low (E : Dp m ys d) : 1 / 2 ≤ sumQ (fun k => l1q (qof (d k))) m := by
  have h1 := E.one
  have h := sumQ_ge (X := fun k => l1q (qof (d k))) (fun k => l1_nonneg _) m (m - 1) (by omega)
  obtain ⟨x, x1, _, x3, _⟩ := E.top
  have e3 : l1q (qof (d (m - 1))) = (x : Rat) / 2 := by
    rw [x3, l1_qof]
    have e : (((2 * x).natAbs + (0 : Int).natAbs : Nat) : Int) = 2 * x := by omega
    have e2 : ((((2 * x).natAbs + (0 : Int).natAbs : Nat) : Nat) : Rat) = 2 * (x : Rat) := by
      rw [← Rat.intCast_natCast, e]
      push_cast
      rfl
    rw [e2]
    grind
  have : (1 : Rat) ≤ (x : Rat) := by exact_mod_cast x1
  rw [e3] at h
  grind
theorem div_facts (D : Dp n xs c) (E : Dp m ys d) (hn : n ≤ 6) (hm : m ≤ 6) : ∃ ql el, DvA n m xs ys ql el := by
  have h1 := D.one
  have h1' := E.one
  obtain ⟨_, lA, vA, A0, A1, hA⟩ := lop_drawn D hn
  obtain ⟨_, lB, vB, B0, B1, hB⟩ := lop_drawn E hm
  have hY : ∀ k, k < n → l1q (qof (c k)) ≤ 21 / 10 * lA + 1 / 500 := fun k hk => Rat.le_trans (sumQ_ge (X := fun k => l1q (qof (c k))) (fun k => l1_nonneg _) n k hk) hA
  have hs2 := sum_low E
  by_cases hnm : n < m
  · have hq : Ap [(0, 0)] (fun _ => ((0, 0) : Rat × Rat)) (fun _ => 0) 0 20 10000000 := by
      refine ⟨fun k => ?_, fun k => by decide⟩
      have e : ([(0, 0)] : List (Nat × Nat)).getD k (0, 0) = (0, 0) := by
        cases k with
        | zero => rfl
        | succ k => exact getD_out (by simp)
      rw [e]
      exact rp_nil
    obtain ⟨b1, b2, b3, b4, b5⟩ := back_core (N := 1) (el := xs) (e := fun k => qof (c k)) (Z := fun k => l1q (qof (c k))) E hm hq (by omega) (by omega) (fun k => ((dp_ap D).rp k).up (by omega) (by omega)) (fun k => by have := dp_le8 D k; unfold big57; grind) (by rw [D.len]; exact hn) (ag := plAg m [(0, 0)] ys) rfl rfl (fun k => Rat.le_refl)
    have hv1 : Valid [(0, 0)] := by
      exact ⟨by simp, by simp, fun j _ => (hq.rp j).num, .inl rfl⟩
    obtain ⟨w1, l, v, l0, lb, _⟩ := lop_words (n := 1) (xs := [(0, 0)]) (u := fun _ => (0, 0)) rfl (fun k hk => by
      have : k = 0 := by omega
      subst this
      exact ⟨V_nil, V_nil, by decide +kernel⟩) (by omega)
    have hxv := dp_valid D hn
    refine ⟨[(0, 0)], xs, .inr ⟨hnm, rfl, rfl⟩, hv1, hxv, .inl (by rw [D.len]; exact hnm), b1, b2, b3, b4, w1, fun k hk => ?_⟩
    have e1 : cvC (fun _ => ((0, 0) : Rat × Rat)) (fun k => qof (d k)) m k 1 = (0, 0) := by
      rw [cvC]
      split
      · rw [zero_qmul]; exact qadd_zero _
      · rfl
    have e2 : cvR (fun _ => 0) (fun k => l1q (qof (d k))) m k 1 = 0 := by
      rw [cvR]
      split <;> (unfold cvR; grind)
    have hx : Rp ((plBk m [(0, 0)] ys xs).getD k (0, 0)) (qof (c k)) (l1q (qof (c k)) + 2 * 0) 70 22 := by
      have h := b5 k
      rw [e1, e2, zero_qadd] at h
      exact (h.cast rfl (by grind)).up (by omega) (Nat.le_refl _)
    exact div_cmp (wA := alF xs n) (wB := alF ys m) (wQ := alF [(0, 0)] 1) hx ((dp_ap D).rp k) vA vB v A0 A1 B0 B1 l0 lb (hY k hk) (Rat.mul_nonneg (by grind) (by grind)) hB hs2
  · obtain ⟨N, hN⟩ : ∃ N, n + 1 = N + m := ⟨n + 1 - m, by omega⟩
    have hN1 : 1 ≤ N := by omega
    obtain ⟨q1, q2, q3, q4⟩ := div_quo D E hn hN hN1
    obtain ⟨r1, r2, r3, _⟩ := div_rest D E hn hN hN1
    have hl : (dvQ (dvq xs ys N) N N).length = N := zipW_len _ _
    obtain ⟨b1, b2, b3, b4, b5⟩ := div_back D E hn hm hN hN1 (ag := plAg m (dvQ (dvq xs ys N) N N) ys) (by unfold plAg; rw [hl]) rfl
    obtain ⟨w1, l, v, l0, lb, ls⟩ := lop_words (n := N) (xs := dvQ (dvq xs ys N) N N) (u := dvU xs ys N) hl (fun k hk => ⟨(q4 k hk).1, (q4 k hk).2.1, by have := (q4 k hk).2.2; grind⟩) (by omega)
    refine ⟨dvQ (dvq xs ys N) N N, trimC (dvE xs ys (dvq xs ys N) N), .inl ⟨N, dvq xs ys N, hN, hN1, div_words D E hn hN, by rw [q2]; exact q3, r1, q2, rfl⟩, q3, r1, r2, by rw [hl]; exact b1, b2, b3, b4, w1, fun k hk => ?_⟩
    have hX : sumQ (dvX xs ys N) N ≤ 21 / 10 * l + 21 / 10000 := by
      have key : ∀ t, t ≤ N → sumQ (dvX xs ys N) t = sumQ (fun j => l1q (dvU xs ys N j)) t + (t : Rat) / 1048576 := by
        intro t
        induction t with
        | zero => intro _; unfold sumQ; grind
        | succ t ih =>
          intro ht
          rw [sumQ, sumQ, ih (by omega)]
          have e : dvX xs ys N t = l1q (dvU xs ys N t) + 1 / 1048576 := by
            unfold dvX
            rw [if_pos (by omega)]
          rw [e]
          push_cast
          grind
      rw [key N (Nat.le_refl _)]
      have hN6 : (N : Rat) ≤ 6 := by exact_mod_cast (show N ≤ 6 by omega)
      grind
    have hS := cvR_sum (X := dvX xs ys N) (Y := fun k => l1q (qof (d k))) (B := sumQ (fun k => l1q (qof (d k))) m) m k (dvX_nonneg xs ys N) (fun t ht => ⟨l1_nonneg _, sumQ_ge (X := fun k => l1q (qof (d k))) (fun k => l1_nonneg _) m t ht⟩) (by grind) N
    rw [hl]
    exact div_cmp (wA := alF xs n) (wB := alF ys m) (wQ := alF (dvQ (dvq xs ys N) N N) N) (b5 k hk) ((dp_ap D).rp k) vA vB v A0 A1 B0 B1 l0 lb (hY k hk) (Rat.le_trans hS.2 (Rat.mul_le_mul_of_nonneg_right hX (by grind))) hB hs2
end
end Go.Proofs.Ytfbekiphlaaieaa
namespace Go.Proofs.Ytfbekiphlaaieaa

theorem isZ_nil : isZ (0, 0) = true := by decide +kernel
/-- Something small that is left out. -/
theorem rp_extra {x : Nat × Nat} {q p : Rat × Rat} {X P : Rat} {a i : Nat} (h : Rp x q X a i) (hs : l1q p ≤ (a : Rat) * eps * P) (hp : l1q p ≤ P) (hl : Lo P i) : Rp x (qadd q p) (X + P) a i := by
  obtain ⟨u, h1, h2, h3⟩ := h.val
  refine ⟨⟨u, h1, h2, ?_⟩, ?_, h.lo.add hl⟩
  · have g := qadd_diff u (0, 0) q p
    have e : qadd u (0, 0) = u := by unfold qadd; exact Prod.ext (by simp only; grind) (by simp only; grind)
    have e2 : l1q (qsub (0, 0) p) = l1q p := by
      unfold l1q qsub
      simp only
      have e3 : ∀ x : Rat, (0 : Rat) - x = -x := fun x => by grind
      rw [e3, e3, ab_neg, ab_neg]
    rw [e, e2] at g
    have e4 : (a : Rat) * eps * (X + P) = (a : Rat) * eps * X + (a : Rat) * eps * P := by grind
    rw [e4]
    grind
  · have g := qadd_diff q p (0, 0) (0, 0)
    have e : ∀ y : Rat × Rat, qsub y (0, 0) = y := fun y => by unfold qsub; exact Prod.ext (by simp only; grind) (by simp only; grind)
    have e2 : qadd ((0, 0) : Rat × Rat) (0, 0) = (0, 0) := by unfold qadd; exact Prod.ext (by simp only; grind) (by simp only; grind)
    rw [e2, e, e, e] at g
    have := h.maj
    grind
/-- Terms that are left out since their words are zeros. -/
theorem prA_ext {x : Nat × Nat} {Q R : Nat → Rat × Rat} {X Y : Nat → Rat} {m k t a A i j : Nat} (h : Rp x (cvC Q R m k t) (cvR X Y m k t) A (i + j)) (ha : a ≤ A) (hQ : ∀ s, t ≤ s → l1q (Q s) ≤ (a : Rat) * eps * X s) (hX : ∀ s, l1q (Q s) ≤ X s ∧ Lo (X s) i) (hY : ∀ s, l1q (R s) ≤ Y s ∧ Lo (Y s) j) (s : Nat) :
    Rp x (cvC Q R m k (t + s)) (cvR X Y m k (t + s)) A (i + j) := by
  induction s with
  | zero => exact h
  | succ s ih =>
    rw [← Nat.add_assoc, cvC, cvR]
    split
    · have h1 := l1_mul (Q (t + s)) (R (k - (t + s)))
      have h2 := hQ (t + s) (by omega)
      have hX1 := hX (t + s)
      have hY1 := hY (k - (t + s))
      have y0 := hY1.2.nonneg
      have x0 := hX1.2.nonneg
      have q0 := l1_nonneg (Q (t + s))
      have r0 := l1_nonneg (R (k - (t + s)))
      have g0 := Rat.mul_le_mul_of_nonneg_left hY1.1 q0
      refine rp_extra ih ?_ ?_ (hX1.2.mul hY1.2)
      · have g1 := Rat.mul_le_mul_of_nonneg_right h2 y0
        have g2 := units_nonneg a (Rat.mul_nonneg x0 y0)
        have haA : (a : Rat) ≤ (A : Rat) := by exact_mod_cast ha
        have g3 := Rat.mul_le_mul_of_nonneg_right haA (Rat.mul_nonneg (Rat.le_of_lt eps_pos) (Rat.mul_nonneg x0 y0))
        have e1 : (a : Rat) * eps * X (t + s) * Y (k - (t + s)) = (a : Rat) * (eps * (X (t + s) * Y (k - (t + s)))) := by grind
        have e2 : (A : Rat) * eps * (X (t + s) * Y (k - (t + s))) = (A : Rat) * (eps * (X (t + s) * Y (k - (t + s)))) := by grind
        rw [e1] at g1
        rw [e2]
        exact Rat.le_trans h1 (Rat.le_trans g0 (Rat.le_trans g1 g3))
      · have g1 := Rat.mul_le_mul_of_nonneg_right hX1.1 y0
        exact Rat.le_trans h1 (Rat.le_trans g0 g1)
    · exact ih
theorem prA_out (xs ys : List (Nat × Nat)) (m k n : Nat) (h : n + m ≤ k + 1) : prA xs ys m k n = (0, 0) := by
  induction n with
  | zero => rfl
  | succ n ih =>
    rw [prA, if_neg (by omega)]
    exact ih (by omega)
theorem prodC_get (xs ys : List (Nat × Nat)) (n m k : Nat) (h : 1 ≤ n + m) : (prodC xs ys n m).getD k (0, 0) = prA xs ys m k n := by
  by_cases hk : k < n + m - 1
  · exact zipW_get _ _ k hk
  · rw [prA_out xs ys m k n (by omega)]
    exact getD_out (by unfold prodC; rw [zipW_len]; omega)
/-- One step. -/
theorem cmp_step {L ys : List (Nat × Nat)} {Q R : Nat → Rat × Rat} {X Y : Nat → Rat} {a i N m : Nat} {M : Rat} (hL : Ap L Q X a i M) (hv : Valid L) (hLN : L.length ≤ N) (hN : N ≤ 5) (hY : Ap ys R Y 0 2 8) (hm1 : 1 ≤ m) (hm : m ≤ 3) {x : Nat × Nat} {q : Rat × Rat} (hx : Rp x q (l1q q) 0 2) (bx : l1q q ≤ 8) (hM : M ≤ 10000000) (ha : a ≤ 400) (hi : i ≤ 90)
    {us : List (Nat × Nat)} (hus : trimC (prodC L ys L.length m) = us) :
    ProdW L ys L.length m ∧ Valid us ∧ (∀ t, PlusW (us.getD t (0, 0)) ([x].getD t (0, 0)) (sumF us [x] t)) ∧ Valid (trimC (zipW us.length (sumF us [x]))) ∧ (trimC (zipW us.length (sumF us [x]))).length ≤ N + m - 1 ∧
      Ap (trimC (zipW us.length (sumF us [x]))) (fun k => qadd (cvC Q R m k N) (if k = 0 then q else (0, 0))) (fun k => cvR X Y m k N + (if k = 0 then l1q q else 0)) (a + 20) (i + 2) (40 * M + 8) := by
  have hl1 := hv.one
  have hX : ∀ t, 0 ≤ X t ∧ X t ≤ M := fun t => ⟨(hL.rp t).lo.nonneg, hL.le t⟩
  have hYb : ∀ t, 0 ≤ Y t ∧ Y t ≤ 8 := fun t => ⟨(hY.rp t).lo.nonneg, hY.le t⟩
  have hM0 : 0 ≤ M := by have := hX 0; grind
  have hpr := fun k => prod_rp hL hY (show i + 2 ≤ 100 by omega) hM (by decide) m k L.length (by omega) (by omega)
  obtain ⟨T, hT⟩ : ∃ T, N = L.length + T := ⟨N - L.length, by omega⟩
  have hall : ∀ k, Rp (prA L ys m k L.length) (cvC Q R m k N) (cvR X Y m k N) (a + 16) (i + 2) := by
    intro k
    rw [hT]
    exact prA_ext (a := a) ((hpr k).1.up (show a + 0 + 6 + 2 * L.length ≤ a + 16 by omega) (Nat.le_refl _)) (by omega) (fun s hs => rp_of_zero (hL.rp s) (by rw [getD_out hs]; exact isZ_nil)) (fun s => ⟨(hL.rp s).maj, (hL.rp s).lo⟩) (fun s => ⟨(hY.rp s).maj, (hY.rp s).lo⟩) T
  have hall2 : ∀ k, Rp ((prodC L ys L.length m).getD k (0, 0)) (cvC Q R m k N) (cvR X Y m k N) (a + 16) (i + 2) := fun k => by
    rw [prodC_get L ys L.length m k (by omega)]; exact hall k
  have hlen : (prodC L ys L.length m).length = L.length + m - 1 := by unfold prodC; rw [zipW_len]
  have hvu : Valid us := by
    rw [← hus]
    exact valid_trim (by omega) (by omega) (fun j _ => (hall2 j).num)
  have h3 := rp_trim hall2
  rw [hus] at h3
  have hu1 := hvu.one
  have hul : us.length ≤ L.length + m - 1 := by
    rw [← hus, trimC_len, ← hlen]
    exact trimN_le _ _
  have hcb : ∀ t, cvR X Y m t N ≤ 40 * M := by
    intro t
    have h := (cvR_le m t hX hYb N).2
    have hn5 : (N : Rat) ≤ 5 := by exact_mod_cast hN
    have g := Rat.mul_le_mul_of_nonneg_right hn5 (Rat.mul_nonneg hM0 (show (0 : Rat) ≤ 8 by decide))
    grind
  have hone : ∀ t, Rp ([x].getD t (0, 0)) (if t = 0 then q else (0, 0)) (if t = 0 then l1q q else 0) 0 2 := by
    intro t
    by_cases h : t = 0
    · subst h; exact hx
    · rw [if_neg h, if_neg h, getD_out (by simp only [List.length_singleton]; omega)]
      exact rp_nil
  obtain ⟨s1, s2, s3⟩ := add_lists (c := a + 16) (k := i + 2) (r := us.length) h3 hone (Nat.le_refl _) (by omega) (by omega) (Nat.le_refl _) (by omega) (by omega) (fun t => Rat.le_trans (hcb t) (by unfold big57; grind)) (fun t => by split <;> (unfold big57; grind)) hu1 hvu.most (by simp only [List.length_singleton]; omega) (by simp only [List.length_singleton]; omega)
  refine ⟨fun k s hs hsk hsm => (hpr k).2 s hs hsk hsm, hvu, s1, s2, ?_, fun k => (s3 k).up (by omega) (Nat.le_refl _), fun k => ?_⟩
  · rw [trimC_len]
    have := trimN_le (zipW us.length (sumF us [x])) (zipW us.length (sumF us [x])).length
    rw [zipW_len] at this
    rw [zipW_len]
    omega
  · have := hcb k
    split <;> grind
/-- The composition's exact terms, and majorants. -/
def cmQ (Q R : Nat → Rat × Rat) (n m : Nat) : Nat → Nat → Rat × Rat
  | 0 => fun k => if k = 0 then Q (n - 1) else (0, 0)
  | c + 1 => fun k => qadd (cvC (cmQ Q R n m c) R m k (1 + c * (m - 1))) (if k = 0 then Q (n - 2 - c) else (0, 0))
def cmX (X Y : Nat → Rat) (n m : Nat) : Nat → Nat → Rat
  | 0 => fun k => if k = 0 then X (n - 1) else 0
  | c + 1 => fun k => cvR (cmX X Y n m c) Y m k (1 + c * (m - 1)) + (if k = 0 then X (n - 2 - c) else 0)
theorem hsC_one (q z : Rat × Rat) (N : Nat) : hsC (fun k => if k = 0 then q else (0, 0)) z 0 (N + 1) = q := by
  rw [hsC_succ, hsC_zero _ z N (0 + 1) (fun i h1 _ => if_neg (by omega)), if_pos rfl]
  unfold qadd qmul
  exact Prod.ext (by simp only; grind) (by simp only; grind)
theorem hsR_one (q z : Rat) (N : Nat) : hsR (fun k => if k = 0 then q else 0) z 0 (N + 1) = q := by
  rw [hsR_succ, hsR_zero _ z N (0 + 1) (fun i h1 _ => if_neg (by omega)), if_pos rfl]
  grind
theorem cmQ_val (Q R : Nat → Rat × Rat) (z : Rat × Rat) (n m : Nat) (hm : 1 ≤ m) (c : Nat) (hc : c + 1 ≤ n) : hsC (cmQ Q R n m c) z 0 (1 + c * (m - 1)) = hsC Q (hsC R z 0 m) (n - 1 - c) (c + 1) := by
  induction c with
  | zero =>
    rw [Nat.zero_mul]
    show hsC (fun k => if k = 0 then Q (n - 1) else (0, 0)) z 0 (0 + 1) = _
    rw [hsC_one, Nat.sub_zero, hsC_succ]
    unfold hsC qadd qmul
    exact Prod.ext (by simp only; grind) (by simp only; grind)
  | succ c ih =>
    have e : 1 + (c + 1) * (m - 1) = 1 + c * (m - 1) + m - 1 := by rw [Nat.add_mul]; omega
    have e2 : 1 + c * (m - 1) + m - 1 = (c * (m - 1) + m - 1) + 1 := by omega
    show hsC (fun k => qadd (cvC (cmQ Q R n m c) R m k (1 + c * (m - 1))) (if k = 0 then Q (n - 2 - c) else (0, 0))) z 0 _ = _
    rw [e, hsC_add, cv_val (cmQ Q R n m c) R z m hm (1 + c * (m - 1)), ih (by omega), e2, hsC_one]
    have e3 : n - 1 - (c + 1) = n - 2 - c := by omega
    have e4 : n - 2 - c + 1 = n - 1 - c := by omega
    rw [e3, hsC_succ Q _ (n - 2 - c) (c + 1), e4]
theorem cmX_val (Q R : Nat → Rat) (z : Rat) (n m : Nat) (hm : 1 ≤ m) (c : Nat) (hc : c + 1 ≤ n) : hsR (cmX Q R n m c) z 0 (1 + c * (m - 1)) = hsR Q (hsR R z 0 m) (n - 1 - c) (c + 1) := by
  induction c with
  | zero =>
    rw [Nat.zero_mul]
    show hsR (fun k => if k = 0 then Q (n - 1) else 0) z 0 (0 + 1) = _
    rw [hsR_one, Nat.sub_zero, hsR_succ]
    unfold hsR
    grind
  | succ c ih =>
    have e : 1 + (c + 1) * (m - 1) = 1 + c * (m - 1) + m - 1 := by rw [Nat.add_mul]; omega
    have e2 : 1 + c * (m - 1) + m - 1 = (c * (m - 1) + m - 1) + 1 := by omega
    show hsR (fun k => cvR (cmX Q R n m c) R m k (1 + c * (m - 1)) + (if k = 0 then Q (n - 2 - c) else 0)) z 0 _ = _
    rw [e, hsR_add, cvR_val (cmX Q R n m c) R z m hm (1 + c * (m - 1)), ih (by omega), e2, hsR_one]
    have e3 : n - 1 - (c + 1) = n - 2 - c := by omega
    have e4 : n - 2 - c + 1 = n - 1 - c := by omega
    rw [e3, hsR_succ Q _ (n - 2 - c) (c + 1), e4]
def Mk : Nat → Rat
  | 0 => 8
  | c + 1 => 40 * Mk c + 8
theorem Mk_all {c : Nat} (h : c ≤ 3) : Mk c ≤ 10000000 := by
  have : c = 0 ∨ c = 1 ∨ c = 2 ∨ c = 3 := by omega
  rcases this with rfl | rfl | rfl | rfl <;> decide +kernel
section
variable {n m : Nat} {xs ys : List (Nat × Nat)} {c d : Nat → GI}
theorem cm_len (t m : Nat) (ht : t ≤ 2) (hm : m ≤ 3) : 1 + t * (m - 1) ≤ 5 := by
  have := Nat.mul_le_mul ht (show m - 1 ≤ 2 by omega)
  omega
theorem cmp_all (D : Dp n xs c) (E : Dp m ys d) (hn : n ≤ 4) (hm : m ≤ 3) (t : Nat) (ht : t < n) :
    Valid (cmpL xs ys t) ∧ (cmpL xs ys t).length ≤ 1 + t * (m - 1) ∧ Ap (cmpL xs ys t) (cmQ (fun k => qof (c k)) (fun k => qof (d k)) n m t) (cmX (fun k => l1q (qof (c k))) (fun k => l1q (qof (d k))) n m t) (20 * t) (2 + 2 * t) (Mk t) := by
  have hm1 := E.one
  induction t with
  | zero =>
    have h0 : cmpL xs ys 0 = [xs.getD (n - 1) (0, 0)] := by unfold cmpL; rw [D.len]
    have hr := (dp_ap D).rp (n - 1)
    rw [h0]
    refine ⟨⟨by simp, by simp, fun j hj => ?_, .inl rfl⟩, by simp, fun k => ?_, fun k => ?_⟩
    · have : j = 0 := by simpa using hj
      subst this
      exact hr.num
    · by_cases hk : k = 0
      · subst hk
        exact hr
      · show Rp _ (if k = 0 then _ else _) (if k = 0 then _ else _) _ _
        rw [if_neg hk, if_neg hk, getD_out (by simp only [List.length_singleton]; omega)]
        exact rp_nil
    · show (if k = 0 then _ else _) ≤ (8 : Rat)
      split
      · exact dp_le8 D _
      · decide
  | succ t ih =>
    obtain ⟨h1, h2, h3⟩ := ih (by omega)
    obtain ⟨s1, s2, s3, s4, s5, s6⟩ := cmp_step h3 h1 h2 (cm_len t m (by omega) hm) (dp_ap E) hm1 hm ((dp_ap D).rp (n - 2 - t)) (dp_le8 D _) (Mk_all (by omega)) (by omega) (by omega) rfl
    have e : cmpL xs ys (t + 1) = trimC (zipW (trimC (prodC (cmpL xs ys t) ys (cmpL xs ys t).length m)).length (sumF (trimC (prodC (cmpL xs ys t) ys (cmpL xs ys t).length m)) [xs.getD (n - 2 - t) (0, 0)])) := by rw [cmpL, D.len, E.len]
    rw [e]
    refine ⟨s4, ?_, fun k => (s6.rp k).up (by omega) (by omega), s6.le⟩
    rw [Nat.add_mul]
    omega
theorem cmp_words (D : Dp n xs c) (E : Dp m ys d) (hn : n ≤ 4) (hm : m ≤ 3) : CmpW xs ys := by
  have hm1 := E.one
  have key : ∀ t, t + 1 < n → _ := fun t ht =>
    have ⟨h1, h2, h3⟩ := cmp_all D E hn hm t (by omega)
    cmp_step h3 h1 h2 (cm_len t m (by omega) hm) (dp_ap E) hm1 hm ((dp_ap D).rp (n - 2 - t)) (dp_le8 D _) (Mk_all (by omega)) (by omega) (by omega) rfl
  have em : ∀ t, cmpM xs ys t = trimC (prodC (cmpL xs ys t) ys (cmpL xs ys t).length m) := fun t => by rw [cmpM, E.len]
  refine ⟨fun t ht => (cmp_all D E hn hm t (by rw [D.len] at ht; exact ht)).1, fun t ht => ?_, fun t ht => ?_, fun t ht k _ => ?_⟩
  · rw [D.len] at ht
    rw [E.len]
    exact (key t ht).1
  · rw [D.len] at ht
    rw [em]
    exact (key t ht).2.1
  · rw [D.len] at ht
    rw [em, D.len]
    exact (key t ht).2.2.1 k
end
end Go.Proofs.Ytfbekiphlaaieaa
namespace Go.Proofs.Ytfbekiphlaaieaa

/-- Sizes at numbers up to 1001. -/
def Hl : Nat → Rat
  | 0 => 0
  | j + 1 => 1002 * Hl j + 41
def Tl : Nat → Rat
  | 0 => 0
  | j + 1 => 1002 * Tl j + 1 / 1000000000000000000000000000
theorem Tl_all {j : Nat} (h : j ≤ 4) : 0 ≤ Tl j ∧ Tl j ≤ 1 / 1000000000000 := by
  have : j = 0 ∨ j = 1 ∨ j = 2 ∨ j = 3 ∨ j = 4 := by omega
  rcases this with rfl | rfl | rfl | rfl | rfl <;> decide +kernel
theorem Hl_all {j : Nat} (h : j ≤ 4) : 0 ≤ Hl j ∧ Hl j ≤ 1000000000000 := by
  have : j = 0 ∨ j = 1 ∨ j = 2 ∨ j = 3 ∨ j = 4 := by omega
  rcases this with rfl | rfl | rfl | rfl | rfl <;> decide +kernel
theorem size_gen3 {n : Nat} {xs : List (Nat × Nat)} {c : Nat → GI} (hcv : ∀ k, k ≤ n → CV (xs.getD k (0, 0)) (c k).1 (c k).2 (-2)) (hsm : ∀ k, (c k).1.natAbs ≤ 80 ∧ (c k).2.natAbs ≤ 80) (hn : n ≤ 3) {x : Nat} {ξ : Rat} (hx : V .f64 x ξ) (hx0 : 0 ≤ ξ) (hx8 : ξ ≤ 1001) (j : Nat) (hj : j ≤ n + 1) :
    ∃ σ, V .f64 (szF n xs x j) σ ∧ 0 ≤ σ ∧ σ ≤ Hl j ∧ Fj j * sx n (fun k => l1q (qof (c k))) ξ j ≤ σ + Tl j ∧ 0 ≤ sx n (fun k => l1q (qof (c k))) ξ j ∧
      (∀ i, i < j → floatBits .mul .f64 (szF n xs x i) x = some (pmF n xs x i) ∧ Long1W (xs.getD (n - i) (0, 0)) (long1F (xs.getD (n - i) (0, 0))) ∧ cv64 (long1F (xs.getD (n - i) (0, 0))) = some (u64w (long1F (xs.getD (n - i) (0, 0)))) ∧ floatBits .add .f64 (pmF n xs x i) (u64w (long1F (xs.getD (n - i) (0, 0)))) = some (szF n xs x (i + 1))) := by
  induction j with
  | zero => exact ⟨0, V_zero .f64 false 0, by decide, by decide, by unfold sx Tl; grind, by unfold sx; exact Rat.le_refl, fun i hi => absurd hi (Nat.not_lt_zero _)⟩
  | succ j ih =>
    obtain ⟨σ, h1, h2, h3, h4, h5, h6⟩ := ih (by omega)
    have hH := Hl_all (show j ≤ 4 by omega)
    have hT := Tl_all (show j ≤ 4 by omega)
    have hF := Fj_all (show j ≤ 6 by omega)
    have hs1 := hsm (n - j)
    obtain ⟨l1, l2, c1, c2⟩ := long1_q (hcv (n - j) (by omega)) (by omega) (by omega)
    have hw0 := l1_nonneg (qof (c (n - j)))
    have hwb := l1_qof_le hs1.1 hs1.2
    have e40 : ((80 : Nat) : Rat) / 2 = 40 := by decide +kernel
    rw [e40] at hwb
    have hσx := Rat.mul_nonneg h2 hx0
    have hσ8 : σ * ξ ≤ σ * 1001 := Rat.mul_le_mul_of_nonneg_left hx8 h2
    obtain ⟨m, π, m1, m2⟩ := op_mul h1 hx (by rw [t60]; unfold ab; grind)
    obtain ⟨n1, n2, n3⟩ := near_pos m2.near hσx
    have em : pmF n xs x j = m := getD_of m1
    obtain ⟨r, ρ, r1, r2⟩ := op_add m2.val c2 (by rw [t60]; unfold ab; grind)
    obtain ⟨q1, q2, q3⟩ := near_pos r2.near (by grind)
    have er : szF n xs x (j + 1) = r := by
      show g64 .add (pmF n xs x j) _ = r
      rw [em]
      exact getD_of r1
    have esx : sx n (fun k => l1q (qof (c k))) ξ (j + 1) = sx n (fun k => l1q (qof (c k))) ξ j * ξ + l1q (qof (c (n - j))) := rfl
    have hsx0 := Rat.mul_nonneg h5 hx0
    have hFs : Fj j * sx n (fun k => l1q (qof (c k))) ξ j * ξ ≤ (σ + Tl j) * ξ := Rat.mul_le_mul_of_nonneg_right h4 hx0
    have hT8 : Tl j * ξ ≤ Tl j * 1001 := Rat.mul_le_mul_of_nonneg_left hx8 hT.1
    have hFw : Fj j * l1q (qof (c (n - j))) ≤ 1 * l1q (qof (c (n - j))) := Rat.mul_le_mul_of_nonneg_right hF.2 hw0
    refine ⟨ρ, by rw [er]; exact r2.val, q3, ?_, ?_, ?_, ?_⟩
    · unfold Hl; grind
    · rw [esx]
      unfold Fj Tl
      have e1 : Fj j * (1 - 1 / 1000000) * (sx n (fun k => l1q (qof (c k))) ξ j * ξ + l1q (qof (c (n - j)))) = (Fj j * sx n (fun k => l1q (qof (c k))) ξ j * ξ + Fj j * l1q (qof (c (n - j)))) * (1 - 1 / 1000000) := by grind
      rw [e1]
      generalize Fj j * sx n (fun k => l1q (qof (c k))) ξ j * ξ = X at *
      generalize Fj j * l1q (qof (c (n - j))) = Y at *
      generalize l1q (qof (c (n - j))) = w at *
      have e2 : (σ + Tl j) * ξ = σ * ξ + Tl j * ξ := by grind
      rw [e2] at hFs
      generalize σ * ξ = sξ at *
      generalize Tl j * ξ = tξ at *
      grind
    · rw [esx]; grind
    · intro i hi
      by_cases e : i = j
      · subst e
        exact ⟨by rw [em]; exact m1, l1, c1, by rw [em, er]; exact r1⟩
      · exact h6 i (by omega)
theorem size_words3 {n : Nat} {xs : List (Nat × Nat)} {c : Nat → GI} (hl : xs.length = n + 1) (hcv : ∀ k, k ≤ n → CV (xs.getD k (0, 0)) (c k).1 (c k).2 (-2)) (hsm : ∀ k, (c k).1.natAbs ≤ 80 ∧ (c k).2.natAbs ≤ 80) (hn : n ≤ 3)
    {zw : Nat × Nat} {ξ : Rat} (hz : Long1W zw (long1F zw)) (hz2 : cv64 (long1F zw) = some (u64w (long1F zw))) (hx : V .f64 (u64w (long1F zw)) ξ) (hx0 : 0 ≤ ξ) (hx8 : ξ ≤ 1001) :
    SizeW xs zw (fun k => long1F (xs.getD k (0, 0))) (fun k => u64w (long1F (xs.getD k (0, 0)))) (fun k => pmF n xs (u64w (long1F zw)) (n - k)) (fun k => szF n xs (u64w (long1F zw)) (n + 1 - k)) (long1F zw) (u64w (long1F zw)) ∧
    ∃ σ, V .f64 (sizeF n xs zw) σ ∧ 0 ≤ σ ∧ σ ≤ 1000000000000 ∧ 999 / 1000 * hsR (fun k => l1q (qof (c k))) ξ 0 (n + 1) ≤ σ + 1 / 1000000000000 := by
  obtain ⟨σ, h1, h2, h3, h4, h5, h6⟩ := size_gen3 hcv hsm hn hx hx0 hx8 (n + 1) (Nat.le_refl _)
  refine ⟨⟨hz, hz2, ?_, ?_, ?_, ?_, ?_⟩, σ, h1, h2, ?_, ?_⟩
  · show szF n xs _ (n + 1 - xs.length) = 0
    rw [hl, Nat.sub_self]
    rfl
  · intro k hk
    have h7 := (h6 (n - k) (by omega)).2.1
    have e : n - (n - k) = k := by omega
    rw [e] at h7
    exact h7
  · intro k hk
    have h7 := (h6 (n - k) (by omega)).2.2.1
    have e : n - (n - k) = k := by omega
    rw [e] at h7
    exact h7
  · intro k hk
    have h7 := (h6 (n - k) (by omega)).1
    have e : n + 1 - (k + 1) = n - k := by omega
    show floatBits .mul .f64 (szF n xs _ (n + 1 - (k + 1))) _ = _
    rw [e]
    exact h7
  · intro k hk
    have h7 := (h6 (n - k) (by omega)).2.2.2
    have e : n - (n - k) = k := by omega
    have e2 : n - k + 1 = n + 1 - k := by omega
    rw [e, e2] at h7
    exact h7
  · have := Hl_all (show n + 1 ≤ 4 by omega)
    grind
  · have hF := Fj_all (show n + 1 ≤ 6 by omega)
    have hT := Tl_all (show n + 1 ≤ 4 by omega)
    have e := sx_hs n (fun k => l1q (qof (c k))) ξ (n + 1) (Nat.le_refl _)
    rw [Nat.sub_self] at e
    rw [← e]
    have h8 := Rat.mul_le_mul_of_nonneg_right hF.1 h5
    grind
theorem rmax_self {ξ : Rat} (h : 0 ≤ ξ) : rmax ξ (-ξ) = ξ := by
  unfold rmax
  rw [if_neg (by grind)]
/-- How long a real number is. -/
theorem long1_real {w : Nat} {ξ : Rat} (h : V .f32 w ξ) (h0 : 0 ≤ ξ) (hb : ξ ≤ 1000) : Long1W (w, 0) (long1F (w, 0)) ∧ cv64 (long1F (w, 0)) = some (u64w (long1F (w, 0))) ∧ ∃ η, V .f64 (u64w (long1F (w, 0))) η ∧ 0 ≤ η ∧ η ≤ 1001 ∧ 9999 / 10000 * ξ ≤ η + 1 / 100000000000000000000 := by
  have v1 := V_max h (V_neg h)
  have v2 := V_max V_nil (V_neg V_nil)
  rw [rmax_self h0] at v1
  rw [rmax_self Rat.le_refl] at v2
  obtain ⟨r, ρ, e1, r1⟩ := op_add v1 v2 (by rw [t60]; unfold ab; grind)
  obtain ⟨n1, n2, n3⟩ := near_pos r1.near (by grind)
  have e3 : long1F (w, 0) = r := getD_of e1
  rw [e3]
  obtain ⟨u, η, g1, g2, g3, g4⟩ := up_near r1.val (by unfold ab; grind)
  obtain ⟨m1, m2, m3⟩ := near_pos g4 n3
  rw [g2]
  exact ⟨⟨⟨⟨_, h⟩, ⟨_, V_nil⟩⟩, e1⟩, g1, η, g3, m3, by grind, by grind⟩
/-- A list that is trimmed already. -/
theorem ap_val {p : List (Nat × Nat)} {Q : Nat → Rat × Rat} {X : Nat → Rat} {a i : Nat} {M0 : Rat} (H : Ap p Q X a i M0) (hv : Valid p) {N : Nat} (hpN : p.length ≤ N) (hN : N ≤ 17) {zw : Nat × Nat} {z : Rat × Rat} {Z : Rat} {b e : Nat} (hz : Rp zw z Z b e)
    (ha : a + N * (b + 8) ≤ 500) (hi : i + N * e + e ≤ 100) {M W : Rat} (hX : ∀ k, k < N → X k ≤ M) (hM : 0 ≤ M) (hW : Z + 1 ≤ W) (hMW : M * pwR W (N + 1) ≤ big57) (hZb : Z ≤ big57) :
    AtW p zw (valF p zw) ∧ Rp (valF p zw) (hsC Q z 0 N) (hsR X Z 0 N) (a + N * (b + 8)) (i + N * e) := by
  have h1 := hv.one
  have hl : Lp N (zipW N fun k => p.getD k (0, 0)) Q X a i := lp_zip fun k _ => H.rp k
  obtain ⟨T, hT⟩ : ∃ T, N = p.length + T := ⟨N - p.length, by omega⟩
  have et : trimN (zipW N fun k => p.getD k (0, 0)) (zipW N fun k => p.getD k (0, 0)).length = p.length := by
    rw [zipW_len, hT]
    refine trimN_at _ p.length h1 ?_ T fun k h2 h3 => ?_
    · rcases hv.last with h | h
      · exact .inl h
      · right
        rw [zipW_get _ _ _ (by omega)]
        exact h
    · rw [zipW_get _ _ _ h3, getD_out h2]
      exact isZ_nil
  have e : trimC (zipW N fun k => p.getD k (0, 0)) = p := by
    refine List.ext_getElem (by rw [trimC_len, et]) fun j h2 h3 => ?_
    have g := trimC_get (zipW N fun k => p.getD k (0, 0)) j (by rw [et]; exact h3)
    rw [zipW_get _ _ _ (by omega)] at g
    rw [List.getD_eq_getElem?_getD, List.getD_eq_getElem?_getD, List.getElem?_eq_getElem h2, List.getElem?_eq_getElem h3] at g
    exact g
  have h := at_lpN hl (by omega) hN hz ha hi hX hM hW hMW hZb
  rw [e] at h
  exact h
theorem hsR_part {f : Nat → Rat} {Z ρ : Rat} (hZ : 0 ≤ Z) (h0 : 0 ≤ ρ) (h1 : ρ ≤ 1) (m : Nat) : ∀ k, (∀ i, k ≤ i → i < k + m → 0 ≤ f i) → pwR ρ m * hsR f Z k m ≤ hsR f (ρ * Z) k m ∧ 0 ≤ pwR ρ m ∧ pwR ρ m ≤ 1 := by
  induction m with
  | zero =>
    intro k _
    unfold pwR hsR
    exact ⟨by grind, by decide, by decide⟩
  | succ m ih =>
    intro k h
    obtain ⟨g1, g2, g3⟩ := ih (k + 1) (fun i a b => h i (by omega) (by omega))
    have hf := h k (by omega) (by omega)
    have hH := hsR_nonneg hZ m (k + 1) (fun i a b => h i (by omega) (by omega))
    rw [hsR_succ, hsR_succ, pwR]
    have hρZ := Rat.mul_nonneg h0 hZ
    have k1 := Rat.mul_le_mul_of_nonneg_right g1 hρZ
    have k2 := Rat.mul_nonneg g2 h0
    have k3 := Rat.mul_le_mul_of_nonneg_left h1 g2
    have k4 := Rat.mul_le_mul_of_nonneg_right (show pwR ρ m * ρ ≤ 1 by grind) hf
    refine ⟨?_, k2, by grind⟩
    have e1 : pwR ρ m * ρ * (hsR f Z (k + 1) m * Z + f k) = pwR ρ m * hsR f Z (k + 1) m * (ρ * Z) + pwR ρ m * ρ * f k := by grind
    rw [e1]
    grind
theorem hsR_uk {f : Nat → Rat} {z : Rat} (hz : 0 ≤ z) (h8 : z ≤ 8) (m : Nat) : ∀ k, (∀ i, k ≤ i → i < k + m → 0 ≤ f i ∧ f i ≤ 8) → 0 ≤ hsR f z k m ∧ hsR f z k m ≤ Uk m := by
  induction m with
  | zero => intro k _; exact ⟨Rat.le_refl, Rat.le_refl⟩
  | succ m ih =>
    intro k h
    obtain ⟨g1, g2⟩ := ih (k + 1) (fun i a b => h i (by omega) (by omega))
    have hf := h k (by omega) (by omega)
    have h1 := Rat.mul_nonneg g1 hz
    have h2 := Rat.mul_le_mul_of_nonneg_left h8 g1
    rw [hsR_succ, Uk]
    constructor <;> grind
theorem Uk_900 {j : Nat} (h : j ≤ 3) : Uk j ≤ 819 := by
  have : j = 0 ∨ j = 1 ∨ j = 2 ∨ j = 3 := by omega
  rcases this with rfl | rfl | rfl | rfl <;> decide +kernel
section
variable {n m : Nat} {xs ys : List (Nat × Nat)} {c d : Nat → GI} {z : Nat × Nat} {q : Rat × Rat}
theorem cm_len3 (t m : Nat) (ht : t ≤ 3) (hm : m ≤ 3) : 1 + t * (m - 1) ≤ 7 := by
  have := Nat.mul_le_mul ht (show m - 1 ≤ 2 by omega)
  omega
/-- The composition: values and sizes, and the law's last comparison. -/
theorem chk_Q (D : Dp n xs c) (E : Dp m ys d) (hn : n ≤ 4) (hm : m ≤ 3) (hz : Pt z q) :
    CmpW xs ys ∧ AtW ys z (valF ys z) ∧ AtW xs (valF ys z) (valF xs (valF ys z)) ∧ AtW (cmpL xs ys (n - 1)) z (valF (cmpL xs ys (n - 1)) z) ∧
      FarW (valF (cmpL xs ys (n - 1)) z) (valF xs (valF ys z)) (farG (valF (cmpL xs ys (n - 1)) z) (valF xs (valF ys z))) ∧
      SzW ys z (sizeF (m - 1) ys z) ∧ ∃ w s, floatToFloatBits .f64 (sizeF (m - 1) ys z) .f32 = some w ∧ SzW xs (w, 0) s ∧
        floatBits .add .f64 w1 s = some (g64 .add w1 s) ∧ floatBits .mul .f64 w001 (g64 .add w1 s) = some (g64 .mul w001 (g64 .add w1 s)) ∧
        (FloatKind.f64.format.order (farG (valF (cmpL xs ys (n - 1)) z) (valF xs (valF ys z))) (g64 .mul w001 (g64 .add w1 s)) == some .lt) = true := by
  have hn1 := D.one
  have hm1 := E.one
  have hz8 := hz.le
  have hz0 := l1_nonneg q
  -- the inner value
  obtain ⟨i1, i2⟩ := at_lp (dp_lp E) hm1 (by omega) hz.rp (by omega) (by omega) (M := 8) (W := 9) (fun k _ => dp_le8 E k) (by decide) (by grind) (by decide +kernel) (by unfold big57; grind)
  rw [dp_trim E] at i1 i2
  have i3 := i2.up (show 0 + m * (0 + 8) ≤ 24 by omega) (show 2 + m * 3 ≤ 11 by omega)
  have hI : 0 ≤ hsR (fun k => l1q (qof (d k))) (l1q q) 0 m ∧ hsR (fun k => l1q (qof (d k))) (l1q q) 0 m ≤ 819 := by
    obtain ⟨g1, g2⟩ := hsR_uk (f := fun k => l1q (qof (d k))) hz0 hz8 m 0 (fun i _ _ => ⟨l1_nonneg _, dp_le8 E i⟩)
    exact ⟨g1, Rat.le_trans g2 (Uk_900 hm)⟩
  have hlo := i3.lo
  -- the outer value
  have hp5 : 8 * pwR 820 5 ≤ big57 := by decide +kernel
  obtain ⟨o1, o2⟩ := at_lpN (dp_lp D) hn1 (by omega) i3 (by omega) (by omega) (M := 8) (W := 820) (fun k _ => dp_le8 D k) (by decide) (by grind) (by
    have h2 := pwR_up (show (1 : Rat) ≤ 820 by decide) (show n + 1 ≤ 5 by omega)
    have h3 := Rat.mul_le_mul_of_nonneg_left h2 (show (0 : Rat) ≤ 8 by decide)
    exact Rat.le_trans h3 hp5) (by unfold big57; grind)
  rw [dp_trim D] at o1 o2
  -- the composition
  obtain ⟨p1, p2, p3⟩ := cmp_all D E hn hm (n - 1) (by omega)
  have hl7 := cm_len3 (n - 1) m (by omega) hm
  have hp8 : pwR 9 8 = 43046721 := by decide +kernel
  have hX0 : ∀ k, cmX (fun k => l1q (qof (c k))) (fun k => l1q (qof (d k))) n m (n - 1) k ≤ 10000000 := fun k => Rat.le_trans (p3.le k) (Mk_all (by omega))
  obtain ⟨q1, q2⟩ := ap_val p3 p1 p2 (by omega) hz.rp (by omega) (by omega) (M := 10000000) (W := 9) (fun k _ => hX0 k) (by decide) (by grind) (by
    have h2 := pwR_up (show (1 : Rat) ≤ 9 by decide) (show 1 + (n - 1) * (m - 1) + 1 ≤ 8 by omega)
    rw [hp8] at h2
    unfold big57
    grind) (by unfold big57; grind)
  have e0 : n - 1 - (n - 1) = 0 := by omega
  have e1 : n - 1 + 1 = n := by omega
  have t1 := cmQ_val (fun k => qof (c k)) (fun k => qof (d k)) q n m hm1 (n - 1) (by omega)
  have t2 := cmX_val (fun k => l1q (qof (c k))) (fun k => l1q (qof (d k))) (l1q q) n m hm1 (n - 1) (by omega)
  rw [e0, e1] at t1 t2
  have q3 := q2.cast t1 t2
  -- sizes
  obtain ⟨s1, σ, s2, s3, s4, s5⟩ := s_pt E (by omega) hz
  have s6 : σ ≤ 900 := by
    obtain ⟨a, b, p, cv, ha, hb, hp, hp', e⟩ := hz.cv
    obtain ⟨m', rfl⟩ : ∃ m', m = m' + 1 := ⟨m - 1, by omega⟩
    obtain ⟨_, l2⟩ := long1_cv cv (by omega) (by omega) (by omega) (by omega)
    obtain ⟨_, c2⟩ := conv_up l2 (by omega) (by omega) (by omega)
    rw [← l1_cq, e] at c2
    obtain ⟨σ', g1, _, g3⟩ := size_small (fun k hk => E.cv k (by omega)) E.sm (show m' ≤ 5 by omega) c2 (l1_nonneg _) hz.le (m' + 1) (Nat.le_refl _)
    have e2 : σ = σ' := V.uniq s2 g1
    have hu := Uk_900 hm
    grind
  obtain ⟨w, ω, w1', w2⟩ := op_conv s2 (k' := .f32) (by decide) (by rw [t60]; unfold ab; grind)
  obtain ⟨w3, w4, w5⟩ := near_pos w2.near s3
  obtain ⟨l1, l2, η, l3, l4, l5, l6⟩ := long1_real w2.val w5 (by grind)
  obtain ⟨n', rfl⟩ : ∃ n', n = n' + 1 := ⟨n - 1, by omega⟩
  obtain ⟨z1, υ, z2, z3, z4, z5⟩ := size_words3 D.len (fun k hk => D.cv k (by omega)) (fun k => by have := D.sm k; omega) (show n' ≤ 3 by omega) l1 l2 l3 l4 l5
  have z6 : SzW xs (w, 0) (sizeF n' xs (w, 0)) := ⟨by rw [D.len]; omega, _, _, _, _, _, _, z1, rfl⟩
  -- the comparison
  generalize hZ : hsR (fun k => l1q (qof (d k))) (l1q q) 0 m = Z at *
  have hη : 997 / 1000 * Z ≤ η := by
    rcases hlo with h | h
    · rw [h]; grind
    · have e : two (-((11 : Nat) : Int)) = 1 / 2048 := by decide +kernel
      rw [e] at h
      grind
  have hmono := hsR_mono (f := fun k => l1q (qof (c k))) (show 0 ≤ 997 / 1000 * Z by grind) hη (n' + 1) 0 (fun i _ _ => l1_nonneg _)
  obtain ⟨hpt, _, _⟩ := hsR_part (f := fun k => l1q (qof (c k))) hI.1 (show (0 : Rat) ≤ 997 / 1000 by decide +kernel) (by decide +kernel) (n' + 1) 0 (fun i _ _ => l1_nonneg _)
  have hpp : 98 / 100 ≤ pwR (997 / 1000) (n' + 1) := by
    have : n' = 0 ∨ n' = 1 ∨ n' = 2 ∨ n' = 3 := by omega
    rcases this with rfl | rfl | rfl | rfl <;> decide +kernel
  have hMb : 0 ≤ hsR (fun k => l1q (qof (c k))) Z 0 (n' + 1) ∧ hsR (fun k => l1q (qof (c k))) Z 0 (n' + 1) ≤ big57 := by
    have h1 := hsR_bound (f := fun k => l1q (qof (c k))) hI.1 (show Z + 1 ≤ 820 by grind) (show (0 : Rat) ≤ 8 by decide) (n' + 1) 0 (fun i _ _ => ⟨l1_nonneg _, dp_le8 D i⟩)
    have h2 := pwR_up (show (1 : Rat) ≤ 820 by decide) (show n' + 1 ≤ 5 by omega)
    have h3 := Rat.mul_le_mul_of_nonneg_left h2 (show (0 : Rat) ≤ 8 by decide)
    exact ⟨hsR_nonneg hI.1 (n' + 1) 0 (fun i _ _ => l1_nonneg _), Rat.le_trans h1 (Rat.le_trans h3 hp5)⟩
  have e130 : ((130 : Nat) : Rat) = 130 := rfl
  obtain ⟨f1, f, f2, f3, f4⟩ := near_f (q3.up (show _ ≤ 130 by omega) (Nat.le_refl _)) (o2.up (show _ ≤ 130 by omega) (Nat.le_refl _)) (by omega) (by omega) hMb.2 hMb.2 (M := hsR (fun k => l1q (qof (c k))) Z 0 (n' + 1)) (by rw [e130]; grind)
  have hg := Rat.mul_le_mul_of_nonneg_right hpp hMb.1
  have hle : f ≤ 9 / 10000 * (1 + υ) := by
    generalize hsR (fun k => l1q (qof (c k))) Z 0 (n' + 1) = M at *
    generalize hsR (fun k => l1q (qof (c k))) η 0 (n' + 1) = H at *
    grind
  obtain ⟨a1, a2, _⟩ := chk f2 z2 z3 (by grind) hle
  exact ⟨cmp_words D E hn hm, i1, o1, q1, f1, s1, w, _, w1', z6, a1, a2, chk_lt f2 z2 z3 (by grind) hle⟩
end
end Go.Proofs.Ytfbekiphlaaieaa
namespace Go.Proofs.Ytfbekiphlaaieaa
open Ieee

/-- 'z / 2' -/
structure HalfZ (x r : Nat × Nat) (a b t1 t2 e t3 t4 f : Nat) : Prop where
  ha : cv64 x.1 = some a
  hb : cv64 x.2 = some b
  h1 : floatBits .mul .f64 b 0 = some t1
  h2 : floatBits .add .f64 a t1 = some t2
  h3 : floatBits .quo .f64 t2 4611686018427387904 = some e
  h4 : floatBits .mul .f64 a 0 = some t3
  h5 : floatBits .sub .f64 b t3 = some t4
  h6 : floatBits .quo .f64 t4 4611686018427387904 = some f
  h7 : cv32 e = some r.1
  h8 : cv32 f = some r.2
  hn : Op.Complex.isNaN e = false
theorem runC_quo {x1 x2 y1 y2 r1 r2 a b c d e f : Nat} (t : TypeId) (ha : cv64 x1 = some a) (hb : cv64 x2 = some b) (hc : cv64 y1 = some c) (hd : cv64 y2 = some d) (w : World) (hq : (Op.Complex.quotient a b c d).run Try.prog w = .ok (e, f) w) (h7 : cv32 e = some r1) (h8 : cv32 f = some r2) :
    (binOp .quo t (.complex .f32 x1 x2) (.complex .f32 y1 y2)).run Try.prog w = .ok (.complex .f32 r1 r2) w := by
  have k1 : (FloatKind.f32 : FloatKind) ≠ .f64 := by decide
  have k2 : (FloatKind.f64 : FloatKind) ≠ .f32 := by decide
  simp [binOp, Op.complexOp, runC_conv k1 ha w, runC_conv k1 hb w, runC_conv k1 hc w, runC_conv k1 hd w, hq, runC_conv k2 h7 w, runC_conv k2 h8 w]
theorem hz_c : cv64 1073741824 = some 4611686018427387904 := by decide +kernel
theorem hz_d : cv64 0 = some 0 := by decide +kernel
theorem hz_ge : absGe 4611686018427387904 0 = true := by decide +kernel
theorem hz_1 : floatBits .quo .f64 0 4611686018427387904 = some 0 := by decide +kernel
theorem hz_2 : floatBits .mul .f64 0 0 = some 0 := by decide +kernel
theorem hz_3 : floatBits .add .f64 4611686018427387904 0 = some 4611686018427387904 := by decide +kernel
theorem runC_half {x r : Nat × Nat} {a b t1 t2 e t3 t4 f : Nat} (t : TypeId) (h : HalfZ x r a b t1 t2 e t3 t4 f) (w : World) : (binOp .quo t (.complex .f32 x.1 x.2) (.complex .f32 1073741824 0)).run Try.prog w = .ok (.complex .f32 r.1 r.2) w :=
  runC_quo t h.ha h.hb hz_c hz_d w (run_quotient_ge w hz_ge hz_1 hz_2 hz_3 h.h1 h.h2 h.h3 h.h4 h.h5 h.h6 (by rw [h.hn]; rfl)) h.h7 h.h8
/-- A nought with either sign. -/
def noughts : List Nat := [0, 9223372036854775808]
def up4 (x : Int) : Nat := u64w (q4 x)
/-- The product with a nought. -/
def goodN (x : Int) : Bool := decide (cv64 (q4 x) = some (up4 x)) && noughts.any fun t => decide (floatBits .mul .f64 (up4 x) 0 = some t)
theorem goodN_fin : (List.range 33).all (fun k => goodN ((k : Int) - 16)) = true := by decide +kernel
def halfA (o : BinOp) (x : Int) (t : Nat) : Nat := g64 .quo (g64 o (up4 x) t) 4611686018427387904
def goodA (o : BinOp) (x : Int) (t : Nat) : Bool := decide (floatBits o .f64 (up4 x) t = some (g64 o (up4 x) t)) && decide (floatBits .quo .f64 (g64 o (up4 x) t) 4611686018427387904 = some (halfA o x t)) && decide (cv32 (halfA o x t) = some (d32 (halfA o x t))) && isV (d32 (halfA o x t)) ((x : Rat) / 8) && !(Op.Complex.isNaN (halfA o x t))
theorem goodA_fin : (List.range 33).all (fun k => noughts.all fun t => goodA .add ((k : Int) - 16) t && goodA .sub ((k : Int) - 16) t) = true := by decide +kernel
theorem goodN_all (x : Int) (h : -16 ≤ x) (h' : x ≤ 16) : cv64 (q4 x) = some (up4 x) ∧ ∃ t, t ∈ noughts ∧ floatBits .mul .f64 (up4 x) 0 = some t := by
  have h1 := List.all_eq_true.1 goodN_fin (x + 16).toNat (List.mem_range.2 (by omega))
  have e : (((x + 16).toNat : Nat) : Int) - 16 = x := by omega
  rw [e] at h1
  unfold goodN at h1
  simp only [Bool.and_eq_true, decide_eq_true_eq, List.any_eq_true] at h1
  exact h1
theorem goodA_all (x : Int) (h : -16 ≤ x) (h' : x ≤ 16) (t : Nat) (ht : t ∈ noughts) : goodA .add x t = true ∧ goodA .sub x t = true := by
  have h1 := List.all_eq_true.1 goodA_fin (x + 16).toNat (List.mem_range.2 (by omega))
  have e : (((x + 16).toNat : Nat) : Int) - 16 = x := by omega
  rw [e] at h1
  have h2 := List.all_eq_true.1 h1 t ht
  simp only [Bool.and_eq_true] at h2
  exact h2
theorem two_m3 : two (-3) = 1 / 8 := by decide +kernel
theorem half_ex {p : Nat × Nat} (h : Drawn4 p) : ∃ (r : Nat × Nat) (g : GI) (a b t1 t2 e t3 t4 f : Nat), HalfZ p r a b t1 t2 e t3 t4 f ∧ CV r g.1 g.2 (-3) ∧ g.1.natAbs ≤ 16 ∧ g.2.natAbs ≤ 16 := by
  obtain ⟨x, y, x1, x2, y1, y2, rfl⟩ := h
  obtain ⟨n1, tx, mx, n2⟩ := goodN_all x x1 x2
  obtain ⟨n3, ty, my, n4⟩ := goodN_all y y1 y2
  have a1 := (goodA_all x x1 x2 ty my).1
  have a2 := (goodA_all y y1 y2 tx mx).2
  unfold goodA at a1 a2
  simp only [Bool.and_eq_true, decide_eq_true_eq, Bool.not_eq_true'] at a1 a2
  obtain ⟨⟨⟨⟨b1, b2⟩, b3⟩, b4⟩, b5⟩ := a1
  obtain ⟨⟨⟨⟨c1, c2⟩, c3⟩, c4⟩, _⟩ := a2
  refine ⟨(d32 (halfA .add x ty), d32 (halfA .sub y tx)), (x, y), _, _, _, _, _, _, _, _, ⟨n1, n3, n4, b1, b2, n2, c1, c2, b3, c3, b5⟩, ⟨?_, ?_⟩, by simp only; omega, by simp only; omega⟩
  · have e : iv2 x (-3) = (x : Rat) / 8 := by unfold iv2; rw [two_m3]; grind
    simp only
    rw [e]
    exact isV_true b4
  · have e : iv2 y (-3) = (y : Rat) / 8 := by unfold iv2; rw [two_m3]; grind
    simp only
    rw [e]
    exact isV_true c4
end Go.Proofs.Ytfbekiphlaaieaa
namespace Go.Proofs.Ytfbekiphlaaieaa
open Go.RowKit

theorem div_any (A : Option Addr) (n c : Nat) (xs : List (Nat × Nat)) (A1 : Option Addr) (m c1 : Nat) (ys ql el : List (Nat × Nat)) (w : World) (h : CRd w w.heap.size A n c xs) (h1 : CRd w w.heap.size A1 m c1 ys) (hv : Valid xs) (hv1 : Valid ys) (hz : m = 1 → isZ (ys.getD 0 (0, 0)) = false) (hW : DvF n m xs ys ql el) :
    Calls Try.prog 28 #[.agg #[.slice A n c], .agg #[.slice A1 m c1]] w fun e w' => ∃ A' n' c' A2 n2 c2, e = .returned (.tuple #[.agg #[.slice A' n' c'], .agg #[.slice A2 n2 c2], .bool true]) ∧ CRd w' w'.heap.size A' n' c' ql ∧ CRd w' w'.heap.size A2 n2 c2 el ∧ Below w.heap.size w w' := by
  rcases hW with ⟨N, qs, h2, h3, h4, h5, h6, rfl, rfl⟩ | ⟨h2, rfl, rfl⟩
  · exact divPolys_any A n c xs A1 m c1 ys qs N w h h1 hv hv1 hz h2 h3 h4 h5 h6
  · exact divPolys_short A n c _ A1 m c1 ys w h h1 hv hv1 hz h2
/-- The lists that the law makes. -/
def plSu (r : Nat) (xs ys : List (Nat × Nat)) : List (Nat × Nat) := trimC (zipW r (sumF xs ys))
def plPr (n m : Nat) (xs ys : List (Nat × Nat)) : List (Nat × Nat) := trimC (prodC xs ys n m)
def plHa (d : Nat) (xs ys : List (Nat × Nat)) : List (Nat × Nat) := trimC (hvC d (padW d xs) (padW d ys))
def plWg (r : Nat) (xs ys : List (Nat × Nat)) : List (Nat × Nat) := trimC (zipW r (wghF xs ys (1073741824, 0) (3212836864, 0)))
/-- All that the law asks of the drawn polynomials xs and ys and the point z. -/
structure PF (n m : Nat) (xs ys : List (Nat × Nat)) (z : Nat × Nat) where
  va : Valid xs
  vb : Valid ys
  bz : m = 1 → isZ (ys.getD 0 (0, 0)) = false
  nz : NumC z
  r : Nat
  rE : max n m = r
  suW : ∀ t, PlusW (xs.getD t (0, 0)) (ys.getD t (0, 0)) (sumF xs ys t)
  suV : Valid (plSu r xs ys)
  prW : ProdW xs ys n m
  prV : Valid (plPr n m xs ys)
  prL : (plPr n m xs ys).length = n + m - 1
  d : Nat
  dE : hvD n m = d
  haW : HalfW d (padW d xs) (padW d ys)
  haV : Valid (plHa d xs ys)
  haL : (plHa d xs ys).length = n + m - 1
  ql : List (Nat × Nat)
  el : List (Nat × Nat)
  dv : DvA n m xs ys ql el
  wgW : ∀ t, MulW (xs.getD t (0, 0)) (1073741824, 0) (mulF (xs.getD t (0, 0)) (1073741824, 0)) ∧ MulW (ys.getD t (0, 0)) (3212836864, 0) (mulF (ys.getD t (0, 0)) (3212836864, 0)) ∧ PlusW (mulF (xs.getD t (0, 0)) (1073741824, 0)) (mulF (ys.getD t (0, 0)) (3212836864, 0)) (wghF xs ys (1073741824, 0) (3212836864, 0) t)
  wgV : Valid (plWg r xs ys)
  x : Nat × Nat
  y : Nat × Nat
  s : Nat × Nat
  p : Nat × Nat
  w : Nat × Nat
  xW : AtW xs z x
  yW : AtW ys z y
  sW : AtW (plSu r xs ys) z s
  pW : AtW (plPr n m xs ys) z p
  wW : AtW (plWg r xs ys) z w
  sa : Nat
  sb : Nat
  saW : SzW xs z sa
  sbW : SzW ys z sb
  xy : Nat × Nat
  xyW : PlusW x y xy
  f1 : Nat
  f1W : FarW s xy f1
  a1 : Nat
  a2 : Nat
  a3 : Nat
  a1W : floatBits .add .f64 4607182418800017408 sa = some a1
  a2W : floatBits .add .f64 a1 sb = some a2
  a3W : floatBits .mul .f64 4562254508917369340 a2 = some a3
  c1 : (FloatKind.f64.format.order f1 a3 == some .gt) = false
  mm : Nat × Nat
  mmW : MulW x y mm
  f2 : Nat
  f2W : FarW p mm f2
  b1 : Nat
  b2 : Nat
  b3 : Nat
  b1W : floatBits .mul .f64 sa sb = some b1
  b2W : floatBits .add .f64 4607182418800017408 b1 = some b2
  b3W : floatBits .mul .f64 4562254508917369340 b2 = some b3
  c2 : (FloatKind.f64.format.order f2 b3 == some .gt) = false
  tx : Nat × Nat
  txW : MulW (1073741824, 0) x tx
  ty : Nat × Nat
  tyW : MinusW tx y ty
  f3 : Nat
  f3W : FarW w ty f3
  d1 : Nat
  d2 : Nat
  d3 : Nat
  d4 : Nat
  d1W : floatBits .mul .f64 4611686018427387904 sa = some d1
  d2W : floatBits .add .f64 4607182418800017408 d1 = some d2
  d3W : floatBits .add .f64 d2 sb = some d3
  d4W : floatBits .mul .f64 4562254508917369340 d3 = some d4
  c3 : (FloatKind.f64.format.order f3 d4 == some .gt) = false
  laW : LopW xs (fun k => longF (xs.getD k (0, 0))) (alF xs)
  lbW : LopW ys (fun k => longF (ys.getD k (0, 0))) (alF ys)
  la : Nat
  lb : Nat
  laC : cv64 (alF xs n) = some la
  lbC : cv64 (alF ys m) = some lb
  e1 : Nat
  e2 : Nat
  bo : Nat
  e1W : floatBits .mul .f64 la lb = some e1
  e2W : floatBits .add .f64 4607182418800017408 e1 = some e2
  boW : floatBits .mul .f64 4562254508917369340 e2 = some bo
  fk : Nat → Nat
  fkW : ∀ k, k < n + m - 1 → FarW ((plPr n m xs ys).getD k (0, 0)) ((plHa d xs ys).getD k (0, 0)) (fk k)
  fkC : ∀ k, k < n + m - 1 → (FloatKind.f64.format.order (fk k) bo == some .gt) = false
  lq : Nat
  lqC : cv64 (alF ql ql.length) = some lq
  h1 : Nat
  h2 : Nat
  h3 : Nat
  h4 : Nat
  h1W : floatBits .add .f64 4607182418800017408 la = some h1
  h2W : floatBits .mul .f64 lq lb = some h2
  h3W : floatBits .add .f64 h1 h2 = some h3
  h4W : floatBits .mul .f64 4562254508917369340 h3 = some h4
  gk : Nat → Nat
  gkW : ∀ k, k < n → FarW ((plBk m ql ys el).getD k (0, 0)) (xs.getD k (0, 0)) (gk k)
  gkC : ∀ k, k < n → (FloatKind.f64.format.order (gk k) h4 == some .gt) = false
/-- All that the law asks of the drawn polynomials ss (the outer) and ts (the inner) and the point z. -/
structure PG (n : Nat) (ss ts : List (Nat × Nat)) (z : Nat × Nat) where
  vs : Valid ss
  vt : Valid ts
  cW : CmpW ss ts
  i : Nat × Nat
  o : Nat × Nat
  h : Nat × Nat
  iW : AtW ts z i
  oW : AtW ss i o
  hW : AtW (cmpL ss ts (n - 1)) z h
  s1 : Nat
  w : Nat
  s2 : Nat
  s1W : SzW ts z s1
  wW : floatToFloatBits .f64 s1 .f32 = some w
  s2W : SzW ss (w, 0) s2
  f : Nat
  fW : FarW h o f
  o1 : Nat
  m1 : Nat
  o1W : floatBits .add .f64 4607182418800017408 s2 = some o1
  m1W : floatBits .mul .f64 4562254508917369340 o1 = some m1
  ok : (FloatKind.f64.format.order f m1 == some .lt) = true
end Go.Proofs.Ytfbekiphlaaieaa
namespace Go.Proofs.Ytfbekiphlaaieaa

theorem bound_facts {wA wB : Nat} {lA lB : Rat} (vA : V .f32 wA lA) (vB : V .f32 wB lB) (A0 : 0 ≤ lA) (A1 : lA ≤ 60) (B0 : 0 ≤ lB) (B1 : lB ≤ 60) :
    ∃ la lb e1 e2 bo, cv64 wA = some la ∧ cv64 wB = some lb ∧ floatBits .mul .f64 la lb = some e1 ∧ floatBits .add .f64 4607182418800017408 e1 = some e2 ∧ floatBits .mul .f64 4562254508917369340 e2 = some bo ∧ ∀ fw f, V .f64 fw f → f ≤ 73 / 100000 → (FloatKind.f64.format.order fw bo == some .gt) = false := by
  obtain ⟨la, α, g1, _, g3, g4⟩ := up_near vA (by unfold ab; grind)
  obtain ⟨lb, β, g5, _, g7, g8⟩ := up_near vB (by unfold ab; grind)
  obtain ⟨a1, a2, a3⟩ := near_pos g4 A0
  obtain ⟨b1, b2, b3⟩ := near_pos g8 B0
  have hab := Rat.mul_nonneg a3 b3
  have hab2 : α * β ≤ 61 * 61 := by
    have i1 := Rat.mul_le_mul_of_nonneg_right (show α ≤ 61 by grind) b3
    grind
  obtain ⟨e1, ε, e2, r1⟩ := op_mul g3 g7 (by rw [t60]; unfold ab; grind)
  obtain ⟨n1, n2, n3⟩ := near_pos r1.near hab
  have hb : ε ≤ 100000000000000000 := by grind
  have v0 : V .f64 0 0 := V_zero .f64 false 0
  obtain ⟨k2, k3, _⟩ := chk v0 r1.val n3 hb (by grind)
  exact ⟨la, lb, e1, _, _, g1, g5, e2, k2, k3, fun fw f hf h8 => (chk hf r1.val n3 hb (by grind)).2.2⟩
theorem polys_facts (n m : Nat) (xs ys : List (Nat × Nat)) (z : Nat × Nat) (q : Rat × Rat) (h1 : 1 ≤ n) (h6 : n ≤ 6) (k1 : 1 ≤ m) (k6 : m ≤ 6) (hd : DPoly n xs) (he : DPoly m ys) (hz : Pt z q) : Nonempty (PF n m xs ys z) := by
  obtain ⟨c, D⟩ := dp_of hd h1
  obtain ⟨d, E⟩ := dp_of he k1
  obtain ⟨r, hr⟩ : ∃ r, max n m = r := ⟨_, rfl⟩
  obtain ⟨dd, hdd⟩ : ∃ dd, hvD n m = dd := ⟨_, rfl⟩
  obtain ⟨S1, S2, S3, S4, S5, o1, o2, o3, S6, S7, S8, S9⟩ := chk_S D E h6 k6 hz hr
  obtain ⟨P1, P2, P3, P4, P5, sl, P6, P7⟩ := chk_P D E h6 k6 hz
  obtain ⟨W1, W2, W3, W4, W5, W6, w1', w2', w3', w4', W7, W8, W9, W10, W11⟩ := chk_W D E h6 k6 hz hr
  obtain ⟨H1, H2, H3, H4⟩ := halves_facts D E h6 k6 hdd
  obtain ⟨ql, el, Q⟩ := div_facts D E h6 k6
  obtain ⟨v1, _⟩ := v_pt D h6 hz
  obtain ⟨v2, _⟩ := v_pt E k6 hz
  obtain ⟨z1, _⟩ := s_pt D h6 hz
  obtain ⟨z2, _⟩ := s_pt E k6 hz
  obtain ⟨f1, f2⟩ := prod_full D E h6 k6
  obtain ⟨L1, lA, vA, A0, A1, _⟩ := lop_drawn D h6
  obtain ⟨L2, lB, vB, B0, B1, _⟩ := lop_drawn E k6
  obtain ⟨la, lb, e1, e2, bo, g1, g5, y7, y8, y9, hbo⟩ := bound_facts vA vB A0 A1 B0 B1
  have hlq := (Q.cmp 0 (by omega)).2.2.1
  obtain ⟨o, e, oo, mi, y1, y2, y3, y4, y5, y6⟩ := (Q.cmp 0 (by omega)).2.2.2
  have el1 : u64w (alF xs n) = la := getD_of g1
  have el2 : u64w (alF ys m) = lb := getD_of g5
  rw [el1] at y2
  rw [el2] at y3
  exact ⟨{
    va := dp_valid D h6
    vb := dp_valid E k6
    bz := fun e => by
      have h9 := dp_top E
      rw [e] at h9
      exact h9
    nz := hz.rp.num
    r := r
    rE := hr
    suW := S1
    suV := S2
    prW := P1
    prV := P2
    prL := by unfold plPr; rw [f1]; exact f2
    d := dd
    dE := hdd
    haW := H1
    haV := H2
    haL := H3
    ql := ql
    el := el
    dv := Q
    wgW := W1
    wgV := W2
    x := _
    y := _
    s := _
    p := _
    w := _
    xW := v1
    yW := v2
    sW := S3
    pW := P3
    wW := W3
    sa := _
    sb := _
    saW := z1
    sbW := z2
    xy := _
    xyW := S4
    f1 := _
    f1W := S5
    a1 := _
    a2 := _
    a3 := _
    a1W := S6
    a2W := S7
    a3W := S8
    c1 := S9
    mm := _
    mmW := P4
    f2 := _
    f2W := P5
    b1 := _
    b2 := _
    b3 := _
    b1W := P6
    b2W := P7.add
    b3W := P7.mul
    c2 := P7.ok
    tx := _
    txW := W4
    ty := _
    tyW := W5
    f3 := _
    f3W := W6
    d1 := _
    d2 := _
    d3 := _
    d4 := _
    d1W := W7
    d2W := W8
    d3W := W9
    d4W := W10
    c3 := W11
    laW := L1
    lbW := L2
    la := la
    lb := lb
    laC := g1
    lbC := g5
    e1 := e1
    e2 := e2
    bo := bo
    e1W := y7
    e2W := y8
    boW := y9
    fk := fun k => farG ((plPr n m xs ys).getD k (0, 0)) ((plHa dd xs ys).getD k (0, 0))
    fkW := fun k hk => by obtain ⟨f, f5, f6, f7, f8⟩ := H4 k hk; exact f5
    fkC := fun k hk => by
      obtain ⟨f, f5, f6, f7, f8⟩ := H4 k hk
      exact hbo _ f f6 f8
    lq := _
    lqC := hlq
    h1 := o
    h2 := e
    h3 := oo
    h4 := mi
    h1W := y2
    h2W := y3
    h3W := y4
    h4W := y5
    gk := fun k => farG ((plBk m ql ys el).getD k (0, 0)) (xs.getD k (0, 0))
    gkW := fun k hk => by
      obtain ⟨o', e', oo', mi', i1, _⟩ := (Q.cmp k hk).2.2.2
      exact i1
    gkC := fun k hk => by
      obtain ⟨o', e', oo', mi', i1, i2, i3, i4, i5, i6⟩ := (Q.cmp k hk).2.2.2
      rw [el1] at i2
      rw [el2] at i3
      have j1 : o = o' := Option.some.inj (y2.symm.trans i2)
      have j2 : e = e' := Option.some.inj (y3.symm.trans i3)
      subst j1 j2
      have j3 : oo = oo' := Option.some.inj (y4.symm.trans i4)
      subst j3
      have j4 : mi = mi' := Option.some.inj (y5.symm.trans i5)
      subst j4
      exact i6 }⟩
theorem comp_facts (n m : Nat) (ss ts : List (Nat × Nat)) (z : Nat × Nat) (q : Rat × Rat) (h1 : 1 ≤ n) (h4 : n ≤ 4) (k1 : 1 ≤ m) (k3 : m ≤ 3) (hd : DPoly n ss) (he : DPoly m ts) (hz : Pt z q) : Nonempty (PG n ss ts z) := by
  obtain ⟨c, D⟩ := dp_of hd h1
  obtain ⟨d, E⟩ := dp_of he k1
  obtain ⟨C1, C2, C3, C4, C5, C6, w, s, C7, C8, C9, C10, C11⟩ := chk_Q D E h4 k3 hz
  exact ⟨{
    vs := dp_valid D (by omega)
    vt := dp_valid E (by omega)
    cW := C1
    i := _
    o := _
    h := _
    iW := C2
    oW := C3
    hW := C4
    s1 := _
    w := w
    s2 := s
    s1W := C6
    wW := C7
    s2W := C8
    f := _
    fW := C5
    o1 := _
    m1 := _
    o1W := C9
    m1W := C10
    ok := C11 }⟩
end Go.Proofs.Ytfbekiphlaaieaa
