/- Contracts of the tests whether wholes are over a prime, and of 0. No condition. -/
import Derived.Test.YtlfjnpioamcbhaaAreOver
namespace Go.Proofs.Ytlfjnpioamcbhaa
open Go.RowKit

/-- The terms of 0. -/
def zeroB (xs : List Int) : Bool := decide (xs.length = 1) && decide (xs.getD 0 0 = 0)

theorem areOver_own (L : List Sl) (m : Nat) (hm : L.length = m) (hmb : m ≤ 1048576) (bl : Nat) (p : Int) (w : World)
    (hc : ∀ j s, L[j]? = some s → w.cell? ⟨bl, j, none⟩ = some (.slice s.A s.n s.c) ∧ Rd w w.heap.size s.A s.n s.c s.xs) :
    Calls Try.prog 42 #[.int .i64 p, .slice (some ⟨bl, 0, none⟩) m m] w fun e w' => e = .returned (.bool (primeB p && !(L.any fun s => !overB s.xs p))) ∧ Below w.heap.size w w' := by
  cases hp : primeB p
  · go_enter Try.func42, Try.ntmps42
    go_wp2_with fail
    refine (isPrime_own p _).mono ?_
    rintro e w1 ⟨rfl, b1⟩
    have B1 := bthen (al1 w _) b1
    clear b1
    go_wp2_with fail
    go_ret
    exact ⟨rfl, B1⟩
  · have hcon := fun bp W => containsWholes L m hm hmb bl bp p W (prime_range hp)
    have HCC := Lib.hid hc
    clear hc
    generalize hr : (L.any fun s => !overB s.xs p) = r at hcon
    have HC := Lib.hid hcon
    clear hr hcon hm
    go_enter Try.func42, Try.ntmps42
    go_wp2_with fail
    refine (isPrime_own p _).mono ?_
    rintro e w1 ⟨rfl, b1⟩
    have B1 := bthen (al1 w _) b1
    have kp := cell_kept (b := w.heap.size) (o := 0) (v := .int .i64 p) b1 (by simp)
    clear b1
    go_wp2_with fail
    refine (HC.out _ _ kp (fun j s hs => ⟨cell_kept B1 (HCC.out j s hs).1, (HCC.out j s hs).2.in_ B1⟩)).mono ?_
    rintro e w2 ⟨rfl, b2⟩
    have B2 := bthen B1 b2
    clear b2
    go_wp2_with fail
    go_ret
    exact ⟨rfl, B2⟩

set_option maxHeartbeats 1000000 in
theorem over_spec (A : Option Addr) (n c : Nat) (xs : List Int) (p : Int) (b : Nat) (w : World) (h : Rd w w.heap.size A n c xs) (hb : w.cell? ⟨b, 0, none⟩ = some (.slice A n c)) :
    Calls Try.prog 40 #[.pointer (some ⟨b, 0, none⟩), .int .i64 p] w fun e w' => e = .returned (.bool (primeB p && overB xs p)) ∧ w = w' := by
  have hmax : n ≤ 9223372036854775807 := by have h1 := h.cap; have h2 := h.most; unfold maxLen at h2; omega
  have hlen := Lib.hid h.len
  cases hp : primeB p
  · go_enter Try.func40, Try.ntmps40
    go_wp2_with fail
    refine (isPrime_ref p _).mono ?_
    rintro e w1 ⟨rfl, rfl⟩
    go_wp2_with fail
    go_ret
    exact ⟨rfl, rfl⟩
  have hpr := prime_range hp
  have hcon := isWhole_ref A n c xs b w h hb
  cases hok : okW xs
  · rw [hok] at hcon
    have HO : Hid ((true && overB xs p) = false) := by
      show (true && overB xs p) = false
      unfold overB; rw [hok]; rfl
    have HC := Lib.hid hcon
    clear hcon hok
    go_enter Try.func40, Try.ntmps40
    go_wp2_with fail
    refine (isPrime_ref p _).mono ?_
    rintro e w1 ⟨rfl, rfl⟩
    go_wp2_with fail
    refine (HC.out).mono ?_
    rintro e w1 ⟨rfl, rfl⟩
    go_wp2_with fail
    go_ret
    exact ⟨ret_bool HO.out.symm, rfl⟩
  rw [hok] at hcon
  have HC := Lib.hid hcon
  have hO : (true && overB xs p) = allIn 0 (p - 1) xs := by
    unfold overB; rw [hok]; rfl
  rw [hO]
  generalize hr : allIn 0 (p - 1) xs = r
  have HR := Lib.hid hr
  clear hcon hok hO hr
  go_enter Try.func40, Try.ntmps40
  go_wp2_with fail
  refine (isPrime_ref p _).mono ?_
  rintro e w1 ⟨rfl, rfl⟩
  go_wp2_with fail
  refine (HC.out).mono ?_
  rintro e w1 ⟨rfl, rfl⟩
  go_wp2_with fail
  go_loopg [19] n (fun g s wr => ∃ k : Nat, k ≤ n ∧ n - k ≤ g ∧ s = .int .i64 k ∧ Aside (∀ j, j < k → inB (xs.getD j 0) 0 (p - 1) = true) ∧ wr = w)
  case atStart => exact ⟨0, Nat.zero_le _, by omega, rfl, fun j hj => absurd hj (Nat.not_lt_zero _), rfl⟩
  case round =>
    clear HC
    obtain ⟨k, hk, hg, rfl, hall, rfl⟩ := hrel
    by_cases hlt : k < n
    · have hltz : (k : Int) < (n : Int) := by omega
      obtain ⟨b', o, rfl, hbl, hc⟩ := h.at_ (by omega)
      have hx := hc k hlt
      clear hc h
      generalize ex : xs.getD k 0 = x at hx
      have HX := Lib.hid ex
      clear ex
      cases hin : inB x 0 (p - 1)
      · go_wp2_with (go_at_call 58; refine (in_ref _ _ _ _).mono ?_; rintro e w' ⟨rfl, rfl⟩)
        go_ret
        refine ⟨ret_bool ?_, rfl⟩
        rw [← HR.out, allIn_false (j := k) (by rw [hlen.out]; exact hlt) (by rw [HX.out]; exact hin)]
      · go_wp2_with (go_at_call 58; refine (in_ref _ _ _ _).mono ?_; rintro e w' ⟨rfl, rfl⟩)
        go_roundg (n - (k + 1))
        case measure => omega
        case rel =>
          refine ⟨k + 1, by omega, by omega, by go_num, (show Aside _ from fun j hj => ?_), rfl⟩
          by_cases e : j = k
          · subst e
            rw [HX.out]; exact hin
          · exact hall.out j (by omega)
    · have hltz : ¬ (k : Int) < (n : Int) := by omega
      have hkn : k = n := by omega
      subst hkn
      go_wp2
      go_ret
      refine ⟨ret_bool ?_, rfl⟩
      rw [← HR.out]
      symm
      exact allIn_iff.2 fun j hj => hall.out j (by rw [hlen.out] at hj; exact hj)

theorem zero_ref (A : Option Addr) (n c : Nat) (xs : List Int) (w : World) (h : Rd w w.heap.size A n c xs) :
    Calls Try.prog 41 #[.slice A n c] w fun e w' => e = .returned (.bool (zeroB xs)) ∧ w = w' := by
  have hmax : n ≤ 9223372036854775807 := by have h1 := h.cap; have h2 := h.most; unfold maxLen at h2; omega
  have hf : ∀ b : Bool, (decide (n = 1) && decide (xs.getD 0 0 = 0)) = b → zeroB xs = b := by
    intro b hb
    rw [← hb]
    unfold zeroB
    rw [h.len]
  generalize zeroB xs = r at hf ⊢
  have HF := Lib.hid hf
  clear hf
  by_cases h1 : n = 1
  · subst h1
    obtain ⟨b, o, rfl, hbl, hc⟩ := h.at_ (by omega)
    have hx := hc 0 (by omega)
    rw [Nat.add_zero] at hx
    clear hc
    have _tok := True.intro
    generalize xs.getD 0 0 = y at hx HF
    by_cases hy : y = 0
    · subst hy
      go_enter Try.func41, Try.ntmps41
      go_wp2_with fail
      go_ret
      exact ⟨ret_bool (HF.out _ (by simp)).symm, rfl⟩
    · have hne : (y == 0) = false := by simpa using hy
      have HN := Lib.hid hy
      clear hy
      go_enter Try.func41, Try.ntmps41
      go_wp2_with fail
      go_ret
      exact ⟨ret_bool (HF.out _ (by simp [HN.out])).symm, rfl⟩
  · have hne : ((n : Int) == 1) = false := by simp; omega
    go_enter Try.func41, Try.ntmps41
    go_wp2_with fail
    go_ret
    exact ⟨ret_bool (HF.out _ (by simp [h1])).symm, rfl⟩

theorem zero_own (A : Option Addr) (n c : Nat) (xs : List Int) (w : World) (h : Rd w w.heap.size A n c xs) :
    Calls Try.prog 43 #[.agg #[.slice A n c]] w fun e w' => e = .returned (.bool (zeroB xs)) ∧ Below w.heap.size w w' := by
  have hmax : n ≤ 9223372036854775807 := by have h1 := h.cap; have h2 := h.most; unfold maxLen at h2; omega
  have hf : ∀ b : Bool, (decide (n = 1) && decide (xs.getD 0 0 = 0)) = b → zeroB xs = b := by
    intro b hb
    rw [← hb]
    unfold zeroB
    rw [h.len]
  generalize zeroB xs = r at hf ⊢
  have HF := Lib.hid hf
  clear hf
  by_cases h1 : n = 1
  · subst h1
    obtain ⟨b, o, rfl, hbl, hc⟩ := h.at_ (by omega)
    have hx := hc 0 (by omega)
    rw [Nat.add_zero] at hx
    clear hc
    have hxA : ∀ T, (w.alloc (.cells #[.slice (some ⟨b, o, none⟩) 1 c] T)).cell? ⟨b, o, none⟩ = some (.int .i64 (xs.getD 0 0)) := fun T => cell_kept (al1 w _) hx
    clear hx
    generalize xs.getD 0 0 = y at hxA HF
    by_cases hy : y = 0
    · subst hy
      go_enter Try.func43, Try.ntmps43
      go_wp2_with fail
      go_ret
      exact ⟨ret_bool (HF.out _ (by simp)).symm, al1 w _⟩
    · have hne : (y == 0) = false := by simpa using hy
      have HN := Lib.hid hy
      clear hy
      go_enter Try.func43, Try.ntmps43
      go_wp2_with fail
      go_ret
      exact ⟨ret_bool (HF.out _ (by simp [HN.out])).symm, al1 w _⟩
  · have hne : ((n : Int) == 1) = false := by simp; omega
    go_enter Try.func43, Try.ntmps43
    go_wp2_with fail
    go_ret
    exact ⟨ret_bool (HF.out _ (by simp [h1])).symm, al1 w _⟩
end Go.Proofs.Ytlfjnpioamcbhaa
