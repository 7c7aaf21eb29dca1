/- Facts of single precision: whole numbers from -1000 to 1000 made floats, and the marks that the laws lay into complex numbers. Condition: the numbers lie in those bounds. -/
import Derived.Test.YtlfjnpioamcbhaaCBase
namespace Go.Proofs.Ytlfjnpioamcbhaa
open Go.RowKit

/-- The number as a float in double precision, by way of single precision. -/
def up64 (x : Int) : Nat := (floatToFloatBits .f32 (floatOfInt .f32 x) .f64).getD 0
/-- All that is wanted of it. -/
def goodN (x : Int) : Bool := decide (floatToFloatBits .f32 (floatOfInt .f32 x) .f64 = some (up64 x)) && (FloatKind.f64.format.order (up64 x) (up64 x) == some .eq) && (up64 x == 0 || !(FloatKind.f64.format.order (up64 x) 0 == some .eq))
theorem goodN_fin : (List.range 2001).all (fun k => goodN ((k : Int) - 1000)) = true := by decide +kernel
theorem goodN_all (x : Int) (h : -1000 ≤ x) (h' : x ≤ 1000) : floatToFloatBits .f32 (floatOfInt .f32 x) .f64 = some (up64 x) ∧ (FloatKind.f64.format.order (up64 x) (up64 x) == some .eq) = true ∧ (up64 x = 0 ∨ (FloatKind.f64.format.order (up64 x) 0 == some .eq) = false) := by
  have h1 := List.all_eq_true.1 goodN_fin (x + 1000).toNat (List.mem_range.2 (by omega))
  have e : (((x + 1000).toNat : Nat) : Int) - 1000 = x := by omega
  rw [e] at h1
  unfold goodN at h1
  simp only [Bool.and_eq_true, decide_eq_true_eq, Bool.or_eq_true, beq_iff_eq, Bool.not_eq_true'] at h1
  obtain ⟨⟨a, b⟩, c⟩ := h1
  exact ⟨a, by simpa using b, c⟩
/-- The pair of words of a whole number. -/
def pt (x : Int) : Nat × Nat := (floatOfInt .f32 x, 0)
theorem pt_conv (x : Int) (h : -1000 ≤ x) (h' : x ≤ 1000) : cConvBits .f32 (floatOfInt .f32 x) 0 .f64 = some (up64 x, 0) := by
  unfold cConvBits
  rw [(goodN_all x h h').1]
  have e : floatToFloatBits .f32 0 .f64 = some 0 := by decide +kernel
  simp [e]

/-- The mark's real part. -/
def mk32 (k : Int) : Nat := (floatToFloatBits .f64 (floatOfInt .f64 k) .f32).getD 0
def goodK (k : Int) : Bool := decide (floatToFloatBits .f64 (floatOfInt .f64 k) .f32 = some (mk32 k)) && (FloatKind.f32.format.order (mk32 k) (mk32 k) == some .eq)
theorem goodK_fin : (List.range 101).all (fun k => goodK (k : Int)) = true := by decide +kernel
theorem goodK_all (k : Int) (h : 0 ≤ k) (h' : k ≤ 100) : cConvBits .f64 (floatOfInt .f64 k) 4607182418800017408 .f32 = some (mk32 k, 1065353216) ∧ (FloatKind.f32.format.order (mk32 k) (mk32 k) == some .eq) = true := by
  have h1 := List.all_eq_true.1 goodK_fin k.toNat (List.mem_range.2 (by omega))
  have e : ((k.toNat : Nat) : Int) = k := by omega
  rw [e] at h1
  unfold goodK at h1
  simp only [Bool.and_eq_true, decide_eq_true_eq] at h1
  refine ⟨?_, h1.2⟩
  unfold cConvBits
  rw [h1.1]
  have e : floatToFloatBits .f64 4607182418800017408 .f32 = some 1065353216 := by decide +kernel
  simp [e]
theorem one_eq : (FloatKind.f32.format.order 1065353216 1065353216 == some .eq) = true := by decide +kernel
theorem quo_one_zero : floatBits .quo .f64 4607182418800017408 0 = some 9218868437227405312 := by decide +kernel

/-- The marks of complex slices. -/
def cmarks (k : Int) : Nat → List (Nat × Nat)
  | 0 => []
  | n + 1 => (mk32 k, 1065353216) :: cmarks (k + 1) n
theorem cmarks_len (k : Int) (n : Nat) : (cmarks k n).length = n := by
  induction n generalizing k with
  | zero => rfl
  | succ n ih => simp [cmarks, ih]
theorem cmarks_getD (k : Int) (n j : Nat) (h : j < n) : (cmarks k n).getD j (0, 0) = (mk32 (k + j), 1065353216) := by
  induction n generalizing k j with
  | zero => omega
  | succ n ih =>
    cases j with
    | zero => simp [cmarks]
    | succ j =>
      rw [cmarks]
      simp only [List.getD_cons_succ]
      rw [ih (k + 1) j (by omega)]
      congr 2
      push_cast
      omega
def cmarked (xs : List (Nat × Nat)) (k : Int) (i : Nat) : List (Nat × Nat) := cmarks k i ++ xs.drop i
theorem cmarked_zero (xs : List (Nat × Nat)) (k : Int) : cmarked xs k 0 = xs := by simp [cmarked, cmarks]
theorem cmarked_all (xs : List (Nat × Nat)) (k : Int) : cmarked xs k xs.length = cmarks k xs.length := by simp [cmarked]
theorem cmarks_snoc (k : Int) (n : Nat) : cmarks k (n + 1) = cmarks k n ++ [(mk32 (k + n), 1065353216)] := by
  induction n generalizing k with
  | zero => simp [cmarks]
  | succ n ih =>
    have e := ih (k + 1)
    have e1 : k + 1 + (n : Int) = k + ((n + 1 : Nat) : Int) := by omega
    rw [e1] at e
    rw [cmarks, e, cmarks]
    rfl
theorem cmarked_set (xs : List (Nat × Nat)) (k : Int) (i : Nat) (h : i < xs.length) : (cmarked xs k i).set i (mk32 (k + i), 1065353216) = cmarked xs k (i + 1) := by
  unfold cmarked
  rw [List.set_append_right _ _ (by rw [cmarks_len]; exact Nat.le_refl _), cmarks_len, Nat.sub_self, cmarks_snoc, List.append_assoc]
  rw [List.drop_eq_getElem_cons h]
  rfl
end Go.Proofs.Ytlfjnpioamcbhaa
