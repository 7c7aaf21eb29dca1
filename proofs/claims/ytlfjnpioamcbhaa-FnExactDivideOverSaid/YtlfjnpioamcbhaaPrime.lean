/- Contracts of the tests of a prime, the program's (slices.Contains) and the reference's. No condition. -/
import Derived.Test.YtlfjnpioamcbhaaBase
import Derived.Test.YtlfjnpioamcbhaaPlain
import Derived.BigQuiet
import Derived.Deep.QuietTactic
namespace Go.Proofs.Ytlfjnpioamcbhaa
open Go.RowKit

def primes : List Int := [2, 3, 5, 7, 11, 13]
def primeB (p : Int) : Bool := decide (p ∈ primes)

set_option maxHeartbeats 1000000 in
theorem index_any (A : Option Addr) (n c : Nat) (xs : List Int) (x : Int) (w : World) (h : Rd w w.heap.size A n c xs) :
    Calls Try.prog 80 #[.slice A n c, .int .i64 x] w fun e w' => ∃ r : Int, e = .returned (.int .i64 r) ∧ decide (0 ≤ r) = decide (x ∈ xs) ∧ w = w' := by
  have hmax : n ≤ 9223372036854775807 := by have h1 := h.cap; have h2 := h.most; unfold maxLen at h2; omega
  have hlen := Lib.hid h.len
  generalize hr : decide (x ∈ xs) = r
  have HR := Lib.hid hr
  clear hr
  go_enter Try.func80, Try.ntmps80
  go_wp2
  go_loopg [8] n (fun gg s8 wr => ∃ kk : Nat, kk ≤ n ∧ n - kk ≤ gg ∧ s8 = .int .i64 kk ∧ wr = w ∧ Aside (∀ j, j < kk → xs.getD j 0 ≠ x))
  case atStart => exact ⟨0, Nat.zero_le _, by omega, rfl, rfl, fun j hj => absurd hj (Nat.not_lt_zero _)⟩
  case round =>
    obtain ⟨kk, hkk, hg, rfl, rfl, A0⟩ := hrel
    by_cases hlt : kk < n
    · have hltz : (kk : Int) < (n : Int) := by omega
      obtain ⟨b, o, rfl, hbl, hc⟩ := h.at_ (by omega)
      have hcell := hc kk hlt
      clear hc h
      generalize hy : xs.getD kk 0 = y at hcell
      have B : Aside (xs.getD kk 0 = y) := hy
      clear hy
      by_cases hxy : x = y
      · have HX := Lib.hid hxy
        subst hxy
        go_wp2
        go_ret
        refine ⟨_, rfl, ?_, rfl⟩
        rw [← HR.out, decide_eq_true (by omega)]
        symm
        rw [decide_eq_true_iff]
        have hk : kk < xs.length := by rw [hlen.out]; exact hlt
        rw [← B.out, getD_eq hk]
        exact List.getElem_mem hk
      · have hne : (x == y) = false := by simpa using hxy
        have HX := Lib.hid hxy
        clear hxy
        go_wp2
        go_roundg (n - (kk + 1))
        case measure => omega
        case rel =>
          refine ⟨kk + 1, by omega, by omega, by go_num, rfl, (show Aside _ from fun j hj => ?_)⟩
          by_cases e : j = kk
          · subst e
            rw [B.out]; exact fun e => HX.out e.symm
          · exact A0.out j (by omega)
    · have hltz : ¬ (kk : Int) < (n : Int) := by omega
      have : kk = n := by omega
      subst this
      go_wp2
      go_ret
      refine ⟨-1, rfl, ?_, rfl⟩
      rw [← HR.out, decide_eq_false (by omega)]
      symm
      rw [decide_eq_false_iff_not]
      intro hx
      obtain ⟨j, hj, rfl⟩ := List.mem_iff_getElem.1 hx
      have := A0.out j (by rw [hlen.out] at hj; exact hj)
      rw [getD_eq hj] at this
      exact this rfl

theorem contains_any (A : Option Addr) (n c : Nat) (xs : List Int) (x : Int) (w : World) (h : Rd w w.heap.size A n c xs) :
    Calls Try.prog 70 #[.slice A n c, .int .i64 x] w fun e w' => e = .returned (.bool (decide (x ∈ xs))) ∧ w = w' := by
  generalize hr : decide (x ∈ xs) = r
  have HR := Lib.hid hr
  clear hr
  go_enter Try.func70, Try.ntmps70
  go_wp2_with fail
  refine (index_any A n c xs x w h).mono ?_
  rintro e w1 ⟨r', rfl, hr', rfl⟩
  rw [HR.out] at hr'
  go_wp2_with fail
  go_ret
  exact ⟨rfl, rfl⟩

theorem isPrime_own (p : Int) (w : World) :
    Calls Try.prog 51 #[.int .i64 p] w fun e w' => e = .returned (.bool (primeB p)) ∧ Below w.heap.size w w' := by
  have hcon := contains_any (some ⟨w.heap.size, 0, none⟩) 6 6 primes p
  change ∀ W, _ → Calls _ _ _ _ fun e w' => e = .returned (.bool (primeB p)) ∧ W = w' at hcon
  generalize primeB p = r at hcon ⊢
  go_enter Try.func51, Try.ntmps51
  go_wp2_with fail
  refine (hcon _ (rd_lit w primes 2 6 rfl (by simp [maxLen]))).mono ?_
  rintro e w1 ⟨rfl, rfl⟩
  go_wp2_with fail
  go_ret
  exact ⟨rfl, al1 w _⟩

theorem isPrime_ref (p : Int) (w : World) :
    Calls Try.prog 47 #[.int .i64 p] w fun e w' => e = .returned (.bool (primeB p)) ∧ w = w' := by
  have hf : ∀ b : Bool, (p == 2 || (p == 3 || (p == 5 || (p == 7 || (p == 11 || p == 13))))) = b → primeB p = b := by
    intro b hb
    rw [← hb]
    simp [primeB, primes]
    rw [Bool.eq_iff_iff]
    simp
  generalize primeB p = r at hf ⊢
  have HF := Lib.hid hf
  clear hf
  by_cases h2 : p = 2
  · subst h2
    go_enter Try.func47, Try.ntmps47
    go_wp2
    go_ret
    exact ⟨ret_bool (HF.out _ (by simp)).symm, rfl⟩
  have e2 : (p == 2) = false := by simpa using h2
  by_cases h3 : p = 3
  · subst h3
    go_enter Try.func47, Try.ntmps47
    go_wp2
    go_ret
    exact ⟨ret_bool (HF.out _ (by simp)).symm, rfl⟩
  have e3 : (p == 3) = false := by simpa using h3
  by_cases h5 : p = 5
  · subst h5
    go_enter Try.func47, Try.ntmps47
    go_wp2
    go_ret
    exact ⟨ret_bool (HF.out _ (by simp)).symm, rfl⟩
  have e5 : (p == 5) = false := by simpa using h5
  by_cases h7 : p = 7
  · subst h7
    go_enter Try.func47, Try.ntmps47
    go_wp2
    go_ret
    exact ⟨ret_bool (HF.out _ (by simp)).symm, rfl⟩
  have e7 : (p == 7) = false := by simpa using h7
  by_cases h11 : p = 11
  · subst h11
    go_enter Try.func47, Try.ntmps47
    go_wp2
    go_ret
    exact ⟨ret_bool (HF.out _ (by simp)).symm, rfl⟩
  have e11 : (p == 11) = false := by simpa using h11
  by_cases h13 : p = 13
  · subst h13
    go_enter Try.func47, Try.ntmps47
    go_wp2
    go_ret
    exact ⟨ret_bool (HF.out _ (by simp)).symm, rfl⟩
  have e13 : (p == 13) = false := by simpa using h13
  have HE := Lib.hid (HF.out _ (by rw [e2, e3, e5, e7, e11, e13]))
  clear h2 h3 h5 h7 h11 h13 HF
  go_enter Try.func47, Try.ntmps47
  go_wp2
  go_ret
  exact ⟨ret_bool HE.out.symm, rfl⟩
end Go.Proofs.Ytlfjnpioamcbhaa
