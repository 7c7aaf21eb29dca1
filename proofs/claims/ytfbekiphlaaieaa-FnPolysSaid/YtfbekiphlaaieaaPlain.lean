/- Plain words on lists of integers, no program in sight: what the functions of this seat compute. No condition. -/
import Init
namespace Go.Proofs.Ytfbekiphlaaieaa

/-- n is from lo to hi. -/
def inB (n lo hi : Int) : Bool := decide (lo ≤ n ∧ n ≤ hi)
theorem inB_true {n lo hi : Int} : inB n lo hi = true ↔ lo ≤ n ∧ n ≤ hi := by simp [inB]
theorem inB_false {n lo hi : Int} : inB n lo hi = false ↔ n < lo ∨ hi < n := by
  simp only [inB, decide_eq_false_iff_not]; omega

def lastOf (xs : List Int) : Int := xs.getD (xs.length - 1) 0
def allIn (lo hi : Int) (xs : List Int) : Bool := xs.all fun x => inB x lo hi
theorem allIn_iff {lo hi : Int} {xs : List Int} : allIn lo hi xs = true ↔ ∀ j, j < xs.length → inB (xs.getD j 0) lo hi = true := by
  unfold allIn
  rw [List.all_eq_true]
  constructor
  · intro h j hj
    have : xs.getD j 0 = xs[j] := by simp [List.getD, hj]
    rw [this]
    exact h _ (List.getElem_mem hj)
  · intro h x hx
    obtain ⟨j, hj, rfl⟩ := List.mem_iff_getElem.1 hx
    have := h j hj
    simpa [List.getD, hj] using this
theorem allIn_false {lo hi : Int} {xs : List Int} {j : Nat} (hj : j < xs.length) (h : inB (xs.getD j 0) lo hi = false) : allIn lo hi xs = false := by
  cases ha : allIn lo hi xs with
  | false => rfl
  | true => rw [allIn_iff.1 ha j hj] at h; cases h
theorem any_not_allIn (lo hi : Int) (xs : List Int) : (xs.any fun t => !inB t lo hi) = !allIn lo hi xs := by
  induction xs with
  | nil => rfl
  | cons x xs ih =>
    simp only [allIn, List.any_cons, List.all_cons] at ih ⊢
    rw [ih]
    cases inB x lo hi <;> simp

/-- The terms of a valid Real (most 9, 1000): of 1 to most terms, the last one not 0. -/
def okR (xs : List Int) : Bool := decide (1 ≤ xs.length ∧ xs.length ≤ 9 ∧ lastOf xs ≠ 0) && allIn (-1000) 1000 xs
/-- The terms of a valid Whole. -/
def okW (xs : List Int) : Bool := decide (1 ≤ xs.length ∧ xs.length ≤ 17 ∧ (xs.length = 1 ∨ lastOf xs ≠ 0)) && allIn (-1000000) 1000000 xs
theorem okR_true {xs : List Int} : okR xs = true ↔ (1 ≤ xs.length ∧ xs.length ≤ 9 ∧ lastOf xs ≠ 0) ∧ allIn (-1000) 1000 xs = true := by simp [okR]
theorem okW_true {xs : List Int} : okW xs = true ↔ (1 ≤ xs.length ∧ xs.length ≤ 17 ∧ (xs.length = 1 ∨ lastOf xs ≠ 0)) ∧ allIn (-1000000) 1000000 xs = true := by simp [okW]

theorem getD_eq {xs : List Int} {j : Nat} (h : j < xs.length) : xs.getD j 0 = xs[j] := by simp [List.getD, h]
theorem ext_getD {xs ys : List Int} (hl : xs.length = ys.length) (h : ∀ j, j < xs.length → xs.getD j 0 = ys.getD j 0) : xs = ys := by
  apply List.ext_getElem hl
  intro j h1 h2
  have := h j h1
  rwa [getD_eq h1, getD_eq h2] at this
theorem getD_set (xs : List Int) (i j : Nat) (x : Int) (h : j < xs.length) : (xs.set i x).getD j 0 = if i = j then x else xs.getD j 0 := by
  rw [getD_eq (by simpa using h), getD_eq h, List.getElem_set]
theorem getD_append (xs ys : List Int) (j : Nat) (h : j < xs.length) : (xs ++ ys).getD j 0 = xs.getD j 0 := by
  simp [List.getD, List.getElem?_append_left h]
theorem take_succ_getD (xs : List Int) (k : Nat) (h : k < xs.length) : xs.take (k + 1) = xs.take k ++ [xs.getD k 0] := by
  rw [getD_eq h, List.take_succ_eq_append_getElem h]

/-- A list whose first k are those of xs, and the others 0: what a copying loop has made so far. -/
def upto (xs : List Int) (k : Nat) : List Int := xs.take k ++ List.replicate (xs.length - k) 0
theorem upto_zero (xs : List Int) : upto xs 0 = List.replicate xs.length 0 := by simp [upto]
theorem upto_all (xs : List Int) : upto xs xs.length = xs := by simp [upto]
theorem upto_len (xs : List Int) (k : Nat) (h : k ≤ xs.length) : (upto xs k).length = xs.length := by simp [upto]; omega
theorem upto_set (xs : List Int) (k : Nat) (h : k < xs.length) : (upto xs k).set k (xs.getD k 0) = upto xs (k + 1) := by
  unfold upto
  rw [take_succ_getD xs k h, List.set_append_right _ _ (by simp; omega), List.append_assoc]
  have e : xs.length - k = (xs.length - (k + 1)) + 1 := by omega
  have e2 : k - (xs.take k).length = 0 := by simp; omega
  rw [e, e2, List.replicate_succ]
  rfl

/-- The marks k, k + 1, .. (n of them). -/
def marks (k : Int) : Nat → List Int
  | 0 => []
  | n + 1 => k :: marks (k + 1) n
theorem marks_len (k : Int) (n : Nat) : (marks k n).length = n := by
  induction n generalizing k with
  | zero => rfl
  | succ n ih => simp [marks, ih]
theorem marks_getD (k : Int) (n j : Nat) (h : j < n) : (marks k n).getD j 0 = k + j := by
  induction n generalizing k j with
  | zero => omega
  | succ n ih =>
    cases j with
    | zero => simp [marks]
    | succ j =>
      have := ih (k + 1) j (by omega)
      simp only [marks, List.getD_cons_succ]
      rw [this]; omega
/-- What marking has made of xs so far. -/
def marked (xs : List Int) (k : Int) (i : Nat) : List Int := marks k i ++ xs.drop i
theorem marked_zero (xs : List Int) (k : Int) : marked xs k 0 = xs := by simp [marked, marks]
theorem marked_all (xs : List Int) (k : Int) : marked xs k xs.length = marks k xs.length := by simp [marked]
theorem marked_len (xs : List Int) (k : Int) (i : Nat) (h : i ≤ xs.length) : (marked xs k i).length = xs.length := by simp [marked, marks_len]; omega
theorem marks_snoc (k : Int) (n : Nat) : marks k (n + 1) = marks k n ++ [k + n] := by
  induction n generalizing k with
  | zero => simp [marks]
  | succ n ih =>
    have := ih (k + 1)
    rw [marks, this, marks]
    simp; omega
theorem marked_set (xs : List Int) (k : Int) (i : Nat) (h : i < xs.length) : (marked xs k i).set i (k + i) = marked xs k (i + 1) := by
  unfold marked
  rw [List.set_append_right _ _ (by rw [marks_len]; exact Nat.le_refl _), marks_len, Nat.sub_self, marks_snoc, List.append_assoc]
  rw [List.drop_eq_getElem_cons h]
  rfl

theorem mul_bd {a b : Int} (A B : Nat) (h1 : -(A : Int) ≤ a) (h2 : a ≤ A) (h3 : -(B : Int) ≤ b) (h4 : b ≤ B) : -((A * B : Nat) : Int) ≤ a * b ∧ a * b ≤ ((A * B : Nat) : Int) := by
  have h : (a * b).natAbs ≤ A * B := by
    rw [Int.natAbs_mul]
    exact Nat.mul_le_mul (by omega) (by omega)
  generalize a * b = c at h ⊢
  generalize A * B = C at h ⊢
  omega
theorem okW_len {xs : List Int} (h : okW xs = true) : 1 ≤ xs.length ∧ xs.length ≤ 17 := ⟨(okW_true.1 h).1.1, (okW_true.1 h).1.2.1⟩
theorem okW_bd {xs : List Int} (h : okW xs = true) (j : Nat) : -1000000 ≤ xs.getD j 0 ∧ xs.getD j 0 ≤ 1000000 := by
  by_cases hj : j < xs.length
  · exact inB_true.1 (allIn_iff.1 (okW_true.1 h).2 j hj)
  · simp only [List.getD, List.getElem?_eq_none (Nat.le_of_not_lt hj)]; simp
theorem okR_len {xs : List Int} (h : okR xs = true) : 1 ≤ xs.length ∧ xs.length ≤ 9 := ⟨(okR_true.1 h).1.1, (okR_true.1 h).1.2.1⟩
theorem okR_bd {xs : List Int} (h : okR xs = true) (j : Nat) : -1000 ≤ xs.getD j 0 ∧ xs.getD j 0 ≤ 1000 := by
  by_cases hj : j < xs.length
  · exact inB_true.1 (allIn_iff.1 (okR_true.1 h).2 j hj)
  · simp only [List.getD, List.getElem?_eq_none (Nat.le_of_not_lt hj)]; simp

/-- The value by Horner's rule from v on, the terms k - 1 .. 0 still to come; (0, false) where one on the way is too great. -/
def hz (xs : List Int) (x : Int) : Nat → Int → Int × Bool
  | 0, v => (v, true)
  | k + 1, v => if inB (v * x + xs.getD k 0) (-1000000000000000) 1000000000000000 then hz xs x k (v * x + xs.getD k 0) else (0, false)
def wholeAtF (xs : List Int) (x : Int) : Int × Bool := if okW xs && inB x (-1000) 1000 then hz xs x (xs.length - 1) (lastOf xs) else (0, false)

/-- How many terms are left of the first n where the zeros at their end go, all but one. -/
def tlen (xs : List Int) : Nat → Nat
  | 0 => 0
  | 1 => 1
  | n + 2 => if xs.getD (n + 1) 0 = 0 then tlen xs (n + 1) else n + 2
def trimL (xs : List Int) : List Int := xs.take (tlen xs xs.length)
theorem tlen_le (xs : List Int) (n : Nat) : tlen xs n ≤ n := by
  induction n with
  | zero => simp [tlen]
  | succ n ih =>
    cases n with
    | zero => simp [tlen]
    | succ n =>
      unfold tlen
      split
      · omega
      · omega
theorem tlen_pos (xs : List Int) (n : Nat) (h : 1 ≤ n) : 1 ≤ tlen xs n := by
  induction n with
  | zero => omega
  | succ n ih =>
    cases n with
    | zero => simp [tlen]
    | succ n =>
      unfold tlen
      split
      · exact ih (by omega)
      · omega
theorem tlen_zero (xs : List Int) (n : Nat) (h1 : 1 < n) (h : xs.getD (n - 1) 0 = 0) : tlen xs n = tlen xs (n - 1) := by
  obtain ⟨m, rfl⟩ : ∃ m, n = m + 2 := ⟨n - 2, by omega⟩
  have h' : xs.getD (m + 1) 0 = 0 := h
  rw [tlen, if_pos h']
  rfl
theorem tlen_stop (xs : List Int) (n : Nat) (h1 : 1 < n) (h : ¬ xs.getD (n - 1) 0 = 0) : tlen xs n = n := by
  obtain ⟨m, rfl⟩ : ∃ m, n = m + 2 := ⟨n - 2, by omega⟩
  have h' : ¬ xs.getD (m + 1) 0 = 0 := h
  rw [tlen, if_neg h']
theorem tlen_one (xs : List Int) : tlen xs 1 = 1 := rfl
theorem trimL_len (xs : List Int) : (trimL xs).length = tlen xs xs.length := by
  unfold trimL
  rw [List.length_take]
  have := tlen_le xs xs.length
  omega
/-- A list, if its terms are those of a valid Whole. -/
def checkF (xs : List Int) : List Int × Bool := if okW xs then (xs, true) else ([], false)
theorem checkF_len (xs : List Int) : (checkF xs).1.length ≤ 17 := by
  unfold checkF
  cases h : okW xs
  · simp
  · exact (okW_len h).2

theorem tlen_last (xs : List Int) (n : Nat) : tlen xs n ≤ 1 ∨ ¬ xs.getD (tlen xs n - 1) 0 = 0 := by
  induction n with
  | zero => left; simp [tlen]
  | succ n ih =>
    cases n with
    | zero => left; simp [tlen]
    | succ n =>
      by_cases h : xs.getD (n + 1) 0 = 0
      · rw [tlen, if_pos h]; exact ih
      · rw [tlen, if_neg h]; right; exact h
theorem getD_take (xs : List Int) (k j : Nat) (h : j < k) : (xs.take k).getD j 0 = xs.getD j 0 := by
  simp [List.getD, h]
theorem trimL_idem (xs : List Int) : trimL (trimL xs) = trimL xs := by
  have hl := trimL_len xs
  have hle := tlen_le xs xs.length
  have key : tlen (trimL xs) (trimL xs).length = (trimL xs).length := by
    rcases tlen_last xs xs.length with h | h
    · rw [hl]
      have h01 : tlen xs xs.length = 0 ∨ tlen xs xs.length = 1 := by omega
      rcases h01 with e | e <;> rw [e] <;> rfl
    · by_cases h1 : tlen xs xs.length ≤ 1
      · rw [hl]
        have h01 : tlen xs xs.length = 0 ∨ tlen xs xs.length = 1 := by omega
        rcases h01 with e | e <;> rw [e] <;> rfl
      · apply tlen_stop
        · rw [hl]; omega
        · rw [hl]
          unfold trimL
          rw [getD_take _ _ _ (by omega)]
          exact h
  show (trimL xs).take (tlen (trimL xs) (trimL xs).length) = trimL xs
  rw [key, List.take_length]

/-- The terms of the slope: 1 x_1, 2 x_2, .. up to the index m. -/
def slopeU (xs : List Int) : Nat → List Int
  | 0 => []
  | m + 1 => slopeU xs m ++ [((m + 1 : Nat) : Int) * xs.getD (m + 1) 0]
theorem slopeU_len (xs : List Int) (m : Nat) : (slopeU xs m).length = m := by
  induction m with
  | zero => rfl
  | succ m ih => simp [slopeU, ih]
/-- The slope's terms, 0 where there is none. -/
def slopeP (xs : List Int) : List Int := if xs.length ≤ 1 then [0] else slopeU xs (xs.length - 1)
def slopeF (xs : List Int) : List Int × Bool := if okW xs then checkF (trimL (slopeP xs)) else ([], false)
theorem slope_len (xs : List Int) : (slopeF xs).1.length ≤ 1048576 := by
  unfold slopeF
  cases okW xs
  · simp
  · have := checkF_len (trimL (slopeP xs))
    simp only [if_true]
    omega
end Go.Proofs.Ytfbekiphlaaieaa
