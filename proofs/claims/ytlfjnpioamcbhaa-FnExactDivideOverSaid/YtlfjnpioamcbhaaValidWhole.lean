/- Contracts of the tests of a Whole, the reference's and the program's: 'okW' of its terms. No condition. -/
import Derived.Test.YtlfjnpioamcbhaaFind
import Derived.Test.YtlfjnpioamcbhaaIn
import Derived.BigQuiet
import Derived.Deep.QuietTactic
namespace Go.Proofs.Ytlfjnpioamcbhaa
open Go.RowKit

theorem last_cellW {w : World} {B b o n c : Nat} {xs : List Int} (h : Rd w B (some ⟨b, o, none⟩) n c xs) (hn : 0 < n) : w.cell? ⟨b, o + (n - 1), none⟩ = some (.int .i64 (lastOf xs)) := by
  obtain ⟨b', o', e, _, hc⟩ := h.at_ hn
  obtain ⟨rfl, rfl⟩ : b = b' ∧ o = o' := by simpa using e
  have := hc (n - 1) (by omega)
  unfold lastOf
  rw [h.len]
  exact this

set_option maxHeartbeats 1000000 in
theorem isTerms_ref (A : Option Addr) (n c : Nat) (xs : List Int) (w : World) (h : Rd w w.heap.size A n c xs) :
    Calls Try.prog 66 #[.slice A n c] w fun e w' => e = .returned (.bool (okW xs)) ∧ w = w' := by
  generalize hr : okW xs = r
  have HR := Lib.hid hr
  clear hr
  have hmax : n ≤ 9223372036854775807 := by have h1 := h.cap; have h2 := h.most; unfold maxLen at h2; omega
  have hlen := Lib.hid h.len
  by_cases h1 : 1 ≤ n
  · have hz1 : (1 : Int) ≤ (n : Int) := by omega
    by_cases h17 : n ≤ 17
    · have hz17 : (n : Int) ≤ 17 := by omega
      go_enter Try.func66, Try.ntmps66
      go_wp2
      go_loopg [15] n (fun g s wr => ∃ k : Nat, k ≤ n ∧ n - k ≤ g ∧ s = .int .i64 k ∧ Aside (∀ j, j < k → inB (xs.getD j 0) (-1000000) 1000000 = true) ∧ wr = w)
      case atStart => exact ⟨0, Nat.zero_le _, by omega, rfl, fun j hj => absurd hj (Nat.not_lt_zero _), rfl⟩
      case round =>
        obtain ⟨k, hk, hg, rfl, hall, rfl⟩ := hrel
        by_cases hlt : k < n
        · have hltz : (k : Int) < (n : Int) := by omega
          obtain ⟨b', o, rfl, hbl, hc⟩ := h.at_ (by omega)
          have hx := hc k hlt
          clear hc h
          generalize ex : xs.getD k 0 = x at hx
          have HX := Lib.hid ex
          clear ex
          cases hin : inB x (-1000000) 1000000
          · go_wp2_with (go_at_call 58; refine (in_ref _ _ _ _).mono ?_; rintro e w' ⟨rfl, rfl⟩)
            go_ret
            refine ⟨ret_bool ?_, rfl⟩
            rw [← HR.out]
            unfold okW
            rw [allIn_false (j := k) (by rw [hlen.out]; exact hlt) (by rw [HX.out]; exact hin)]
            simp
          · go_wp2_with (go_at_call 58; refine (in_ref _ _ _ _).mono ?_; rintro e w' ⟨rfl, rfl⟩)
            go_roundg (n - (k + 1))
            case measure => omega
            case rel =>
              refine ⟨k + 1, by omega, by omega, by go_num, (show Aside _ from fun j hj => ?_), rfl⟩
              by_cases e : j = k
              · subst e
                rw [HX.out]; exact hin
              · exact hall.out j (by omega)
        · have hltz : ¬ (k : Int) < (n : Int) := by omega
          have hkn : k = n := by omega
          subst hkn
          have hal : Hid (allIn (-1000000) 1000000 xs = true) := allIn_iff.2 fun j hj => hall.out j (by rw [hlen.out] at hj; exact hj)
          clear hall hg hk
          have hfin : ∀ b : Bool, decide (1 ≤ k ∧ k ≤ 17 ∧ (k = 1 ∨ lastOf xs ≠ 0)) = b → r = b := by
            intro b hb'
            rw [← HR.out, ← hb']
            unfold okW
            rw [hal.out, hlen.out, Bool.and_true]
          have HF := Lib.hid hfin
          clear hfin hal
          obtain ⟨b', o, rfl, hbl, hc⟩ := h.at_ (by omega)
          have hl := last_cellW h (by omega)
          clear hc h
          generalize hz : lastOf xs = z at hl HF
          clear hz
          by_cases h0 : k = 1
          · have he : ((k : Int) == 1) = true := by simp; omega
            have HK := Lib.hid h0
            clear h0
            go_wp2
            go_ret
            exact ⟨ret_bool (HF.out _ (by simp [HK.out])).symm, rfl⟩
          · have he : ((k : Int) == 1) = false := by simp; omega
            by_cases hz0 : z = 0
            · subst hz0
              go_wp2
              go_ret
              exact ⟨ret_bool (HF.out _ (by simp [h0])).symm, rfl⟩
            · have hne : (z != 0) = true := by simpa using hz0
              have HN := Lib.hid hz0
              clear hz0
              go_wp2
              go_ret
              exact ⟨ret_bool (HF.out _ (by simp [h1, h17, HN.out])).symm, rfl⟩
    · have hz17 : ¬ (n : Int) ≤ 17 := by omega
      go_enter Try.func66, Try.ntmps66
      go_wp2
      go_ret
      refine ⟨ret_bool ?_, rfl⟩
      rw [← HR.out]
      unfold okW
      rw [hlen.out]
      simp [h17]
  · have hz1 : ¬ (1 : Int) ≤ (n : Int) := by omega
    go_enter Try.func66, Try.ntmps66
    go_wp2
    go_ret
    refine ⟨ret_bool ?_, rfl⟩
    rw [← HR.out]
    unfold okW
    rw [hlen.out]
    simp [h1]

theorem isWhole_ref (A : Option Addr) (n c : Nat) (xs : List Int) (b : Nat) (w : World) (h : Rd w w.heap.size A n c xs) (hb : w.cell? ⟨b, 0, none⟩ = some (.slice A n c)) :
    Calls Try.prog 46 #[.pointer (some ⟨b, 0, none⟩)] w fun e w' => e = .returned (.bool (okW xs)) ∧ w = w' := by
  have hcon := isTerms_ref A n c xs
  generalize hr : okW xs = r at hcon ⊢
  clear hr
  go_enter Try.func46, Try.ntmps46
  go_wp2_with (go_at_call 66; refine (hcon _ h).mono ?_; rintro e w' ⟨rfl, rfl⟩)
  go_ret
  exact ⟨rfl, rfl⟩


theorem wholeTest (w : World) : Tells 69 #[] (fun t => !inB t (-1000000) 1000000) w := by
  intro x q
  show Calls Try.prog 69 #[.int .i64 x] _ _
  go_enter Try.func69, Try.ntmps69
  go_wp2_with (go_at_call 61; refine (in_own _ _ _ _).mono ?_; rintro e w' ⟨rfl, rfl⟩)
  go_ret
  exact ⟨rfl, 0, rfl⟩
theorem wholeTest_enters : ∀ args w, (callFunc 69 args).run Try.prog w = .ok (.enter 69 args) w := enters_of Try.func69 (by kernel_rfl) rfl

set_option maxHeartbeats 1000000 in
theorem validWhole_own (A : Option Addr) (n c : Nat) (xs : List Int) (w : World) (h : Rd w w.heap.size A n c xs) :
    Calls Try.prog 50 #[.agg #[.slice A n c]] w fun e w' => e = .returned (.bool (okW xs)) ∧ Below w.heap.size w w' := by
  generalize hr : okW xs = r
  have hmax : n ≤ 9223372036854775807 := by have h1 := h.cap; have h2 := h.most; unfold maxLen at h2; omega
  have hfin : ∀ b : Bool, (decide (1 ≤ n ∧ n ≤ 17 ∧ (n = 1 ∨ lastOf xs ≠ 0)) && !(xs.any fun t => !inB t (-1000000) 1000000)) = b → r = b := by
    intro b hb'
    rw [← hr, ← hb', any_not_allIn, Bool.not_not]
    unfold okW
    rw [h.len]
  have HF := Lib.hid hfin
  clear hfin hr
  have hcon := fun W H => containsFunc_any 69 #[] wholeTest_enters (fun t => !inB t (-1000000) 1000000) A n c xs W (wholeTest W) H
  generalize hq : (xs.any fun t => !inB t (-1000000) 1000000) = qq at hcon HF
  clear hq
  have HC := Lib.hid hcon
  clear hcon
  by_cases h1 : 1 ≤ n
  · have hz1 : (1 : Int) ≤ (n : Int) := by omega
    by_cases h17 : n ≤ 17
    · have hz17 : (n : Int) ≤ 17 := by omega
      by_cases h0 : n = 1
      · have HK := Lib.hid h0
        have hz0 : ¬ (1 : Int) < (n : Int) := by omega
        clear h0
        go_enter Try.func50, Try.ntmps50
        go_wp2_with (go_at_call 59; refine (HC.out _ (h.in_ (al1 w _))).mono ?_; rintro e w' ⟨rfl, q, rfl⟩)
        go_ret
        exact ⟨ret_bool (HF.out _ (by simp [HK.out])).symm, drewN_below (al1 w _) q⟩
      · have hz0 : (1 : Int) < (n : Int) := by omega
        obtain ⟨b', o, rfl, hbl, hc⟩ := h.at_ (by omega)
        have hl := last_cellW h (by omega)
        have hlA : ∀ T, (w.alloc (.cells #[.slice (some ⟨b', o, none⟩) n c] T)).cell? ⟨b', o + (n - 1), none⟩ = some (.int .i64 (lastOf xs)) := fun T => cell_kept (al1 w _) hl
        clear hc hl
        generalize hz : lastOf xs = z at hlA HF
        clear hz
        by_cases hzz : z = 0
        · subst hzz
          go_enter Try.func50, Try.ntmps50
          go_wp2_with fail
          go_ret
          exact ⟨ret_bool (HF.out _ (by simp [h0])).symm, al1 w _⟩
        · have hne : (z == 0) = false := by simpa using hzz
          have HN := Lib.hid hzz
          clear hzz
          go_enter Try.func50, Try.ntmps50
          go_wp2_with (go_at_call 59; refine (HC.out _ (h.in_ (al1 w _))).mono ?_; rintro e w' ⟨rfl, q, rfl⟩)
          go_ret
          exact ⟨ret_bool (HF.out _ (by simp [h1, h17, HN.out])).symm, drewN_below (al1 w _) q⟩
    · have hz17 : ¬ (n : Int) ≤ 17 := by omega
      go_enter Try.func50, Try.ntmps50
      go_wp2_with fail
      go_ret
      exact ⟨ret_bool (HF.out _ (by simp [h17])).symm, al1 w _⟩
  · have hz1 : ¬ (1 : Int) ≤ (n : Int) := by omega
    go_enter Try.func50, Try.ntmps50
    go_wp2_with fail
    go_ret
    exact ⟨ret_bool (HF.out _ (by simp [h1])).symm, al1 w _⟩
end Go.Proofs.Ytlfjnpioamcbhaa
