/- Contracts of the tests of a Real, the reference's and the program's: 'okR' of its terms. No condition. -/
import Derived.Test.YtlfjnpioamcbhaaFind
import Derived.Test.YtlfjnpioamcbhaaIn
import Derived.BigQuiet
import Derived.Deep.QuietTactic
namespace Go.Proofs.Ytlfjnpioamcbhaa
open Go.RowKit

theorem last_cell {w : World} {B b o n c : Nat} {xs : List Int} (h : Rd w B (some ⟨b, o, none⟩) n c xs) (hn : 0 < n) : w.cell? ⟨b, o + (n - 1), none⟩ = some (.int .i64 (lastOf xs)) := by
  obtain ⟨b', o', e, _, hc⟩ := h.at_ hn
  obtain ⟨rfl, rfl⟩ : b = b' ∧ o = o' := by simpa using e
  have := hc (n - 1) (by omega)
  unfold lastOf
  rw [h.len]
  exact this

set_option maxHeartbeats 1000000 in
theorem isReal_ref (A : Option Addr) (n c : Nat) (xs : List Int) (b : Nat) (w : World) (h : Rd w w.heap.size A n c xs) (hb : w.cell? ⟨b, 0, none⟩ = some (.slice A n c)) :
    Calls Try.prog 34 #[.pointer (some ⟨b, 0, none⟩)] w fun e w' => e = .returned (.bool (okR xs)) ∧ w = w' := by
  generalize hr : okR xs = r
  have HR := Lib.hid hr
  clear hr
  have hmax : n ≤ 9223372036854775807 := by have h1 := h.cap; have h2 := h.most; unfold maxLen at h2; omega
  have hlen := Lib.hid h.len
  go_enter Try.func34, Try.ntmps34
  go_wp2
  go_loopg [4] n (fun g s4 wr => ∃ k : Nat, k ≤ n ∧ n - k ≤ g ∧ s4 = .int .i64 k ∧ Aside (∀ j, j < k → inB (xs.getD j 0) (-1000) 1000 = true) ∧ wr = w)
  case atStart => exact ⟨0, Nat.zero_le _, by omega, rfl, fun j hj => absurd hj (Nat.not_lt_zero _), rfl⟩
  case round =>
    obtain ⟨k, hk, hg, rfl, hall, rfl⟩ := hrel
    by_cases hlt : k < n
    · have hltz : (k : Int) < (n : Int) := by omega
      obtain ⟨b', o, rfl, hbl, hc⟩ := h.at_ (by omega)
      have hx := hc k hlt
      clear hc h
      generalize ex : xs.getD k 0 = x at hx
      have HX := Lib.hid ex
      clear ex
      cases hin : inB x (-1000) 1000
      · go_wp2_with (go_at_call 58; refine (in_ref _ _ _ _).mono ?_; rintro e w' ⟨rfl, rfl⟩)
        go_ret
        refine ⟨ret_bool ?_, rfl⟩
        rw [← HR.out]
        unfold okR
        rw [allIn_false (j := k) (by rw [hlen.out]; exact hlt) (by rw [HX.out]; exact hin)]
        simp
      · go_wp2_with (go_at_call 58; refine (in_ref _ _ _ _).mono ?_; rintro e w' ⟨rfl, rfl⟩)
        go_roundg (n - (k + 1))
        case measure => omega
        case rel =>
          refine ⟨k + 1, by omega, by omega, by go_num, (show Aside _ from fun j hj => ?_), rfl⟩
          by_cases e : j = k
          · subst e
            rw [HX.out]; exact hin
          · exact hall.out j (by omega)
    · have hltz : ¬ (k : Int) < (n : Int) := by omega
      have hkn : k = n := by omega
      subst hkn
      have hal : Hid (allIn (-1000) 1000 xs = true) := allIn_iff.2 fun j hj => hall.out j (by rw [hlen.out] at hj; exact hj)
      clear hall hg hk
      have hfin : ∀ b : Bool, decide (1 ≤ k ∧ k ≤ 9 ∧ lastOf xs ≠ 0) = b → r = b := by
        intro b hb'
        rw [← HR.out, ← hb']
        unfold okR
        rw [hal.out, hlen.out, Bool.and_true]
      have HF := Lib.hid hfin
      clear hfin hal
      by_cases h1 : 1 ≤ k
      · obtain ⟨b', o, rfl, hbl, hc⟩ := h.at_ (by omega)
        have hl := last_cell h (by omega)
        have hz1 : (1 : Int) ≤ (k : Int) := by omega
        clear hc h
        generalize hz : lastOf xs = z at hl HF
        clear hz
        by_cases h9 : k ≤ 9
        · have hz9 : (k : Int) ≤ 9 := by omega
          by_cases h0 : z = 0
          · subst h0
            go_wp2
            go_ret
            exact ⟨ret_bool (HF.out _ (by simp)).symm, rfl⟩
          · have hne : (z != 0) = true := by simpa using h0
            have HN := Lib.hid h0
            clear h0
            go_wp2
            go_ret
            exact ⟨ret_bool (HF.out _ (by simp [h1, h9, HN.out])).symm, rfl⟩
        · have hz9 : ¬ (k : Int) ≤ 9 := by omega
          go_wp2
          go_ret
          exact ⟨ret_bool (HF.out _ (by simp [h9])).symm, rfl⟩
      · have hz1 : ¬ (1 : Int) ≤ (k : Int) := by omega
        go_wp2
        go_ret
        exact ⟨ret_bool (HF.out _ (by simp [h1])).symm, rfl⟩


theorem realTest (w : World) : Tells 60 #[] (fun t => !inB t (-1000) 1000) w := by
  intro x q
  show Calls Try.prog 60 #[.int .i64 x] _ _
  go_enter Try.func60, Try.ntmps60
  go_wp2_with (go_at_call 61; refine (in_own _ _ _ _).mono ?_; rintro e w' ⟨rfl, rfl⟩)
  go_ret
  exact ⟨rfl, 0, rfl⟩
theorem realTest_enters : ∀ args w, (callFunc 60 args).run Try.prog w = .ok (.enter 60 args) w := enters_of Try.func60 (by kernel_rfl) rfl

set_option maxHeartbeats 1000000 in
theorem validReal_own (A : Option Addr) (n c : Nat) (xs : List Int) (w : World) (h : Rd w w.heap.size A n c xs) :
    Calls Try.prog 36 #[.agg #[.slice A n c]] w fun e w' => e = .returned (.bool (okR xs)) ∧ Below w.heap.size w w' := by
  generalize hr : okR xs = r
  have hmax : n ≤ 9223372036854775807 := by have h1 := h.cap; have h2 := h.most; unfold maxLen at h2; omega
  have hfin : ∀ b : Bool, (decide (1 ≤ n ∧ n ≤ 9 ∧ lastOf xs ≠ 0) && !(xs.any fun t => !inB t (-1000) 1000)) = b → r = b := by
    intro b hb'
    rw [← hr, ← hb', any_not_allIn, Bool.not_not]
    unfold okR
    rw [h.len]
  have HF := Lib.hid hfin
  clear hfin hr
  by_cases h1 : 1 ≤ n
  · obtain ⟨b', o, rfl, hbl, hc⟩ := h.at_ (by omega)
    have hl := last_cell h (by omega)
    have hz1 : (1 : Int) ≤ (n : Int) := by omega
    have hlA : ∀ T, (w.alloc (.cells #[.slice (some ⟨b', o, none⟩) n c] T)).cell? ⟨b', o + (n - 1), none⟩ = some (.int .i64 (lastOf xs)) := fun T => cell_kept (al1 w _) hl
    clear hc hl
    generalize hz : lastOf xs = z at hlA HF
    clear hz
    by_cases h9 : n ≤ 9
    · have hz9 : (n : Int) ≤ 9 := by omega
      by_cases h0 : z = 0
      · subst h0
        go_enter Try.func36, Try.ntmps36
        go_wp2_with fail
        go_ret
        exact ⟨ret_bool (HF.out _ (by simp)).symm, al1 w _⟩
      · have hne : (z != 0) = true := by simpa using h0
        have HN := Lib.hid h0
        clear h0
        have hcon := containsFunc_any 60 #[] realTest_enters (fun t => !inB t (-1000) 1000) (some ⟨b', o, none⟩) n c xs
        generalize hq : (xs.any fun t => !inB t (-1000) 1000) = qq at hcon HF
        clear hq
        go_enter Try.func36, Try.ntmps36
        go_wp2_with (go_at_call 59; refine (hcon _ (realTest _) (h.in_ (al1 w _))).mono ?_; rintro e w' ⟨rfl, q, rfl⟩)
        go_ret
        exact ⟨ret_bool (HF.out _ (by simp [h1, h9, HN.out])).symm, drewN_below (al1 w _) q⟩
    · have hz9 : ¬ (n : Int) ≤ 9 := by omega
      go_enter Try.func36, Try.ntmps36
      go_wp2_with fail
      go_ret
      exact ⟨ret_bool (HF.out _ (by simp [h9])).symm, al1 w _⟩
  · have hz1 : ¬ (1 : Int) ≤ (n : Int) := by omega
    go_enter Try.func36, Try.ntmps36
    go_wp2_with fail
    go_ret
    exact ⟨ret_bool (HF.out _ (by simp [h1])).symm, al1 w _⟩
end Go.Proofs.Ytlfjnpioamcbhaa
