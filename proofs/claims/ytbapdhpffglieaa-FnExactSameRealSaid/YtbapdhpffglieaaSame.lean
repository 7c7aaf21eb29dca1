/- Contracts of the comparisons of two lists: the program's slices.Equal and the reference's two loops: one bool, whether the lists are equal. No condition. -/
import Derived.Test.YtbapdhpffglieaaMem
namespace Go.Proofs.Ytbapdhpffglieaa
open Go.RowKit

set_option maxHeartbeats 1000000 in
theorem equal_own (A : Option Addr) (n c : Nat) (xs : List Int) (A' : Option Addr) (m c' : Nat) (ys : List Int) (w : World) (h : Rd w w.heap.size A n c xs) (h' : Rd w w.heap.size A' m c' ys) :
    Calls Try.prog 33 #[.slice A n c, .slice A' m c'] w fun e w' => e = .returned (.bool (decide (xs = ys))) ∧ ∃ q, w' = w.drewN q := by
  generalize hr : decide (xs = ys) = r
  have HR := Lib.hid hr
  clear hr
  have hmax : n ≤ 9223372036854775807 := by have h1 := h.cap; have h2 := h.most; unfold maxLen at h2; omega
  by_cases hnm : n = m
  · subst hnm
    have hlen := Lib.hid h.len
    have hlen' := Lib.hid h'.len
    go_enter Try.func33, Try.ntmps33
    go_wp2
    go_loopg [13] n (fun g i wr => ∃ k q : Nat, k ≤ n ∧ n - k ≤ g ∧ i = .int .i64 k ∧ Aside (∀ j, j < k → xs.getD j 0 = ys.getD j 0) ∧ wr = w.drewN q)
    case atStart => exact ⟨0, 0, Nat.zero_le _, by omega, rfl, fun j hj => absurd hj (Nat.not_lt_zero _), rfl⟩
    case round =>
      obtain ⟨k, q, hk, hg, rfl, hall, rfl⟩ := hrel
      by_cases hlt : k < n
      · have hltz : (k : Int) < (n : Int) := by omega
        obtain ⟨b, o, rfl, hbl, hc⟩ := h.at_ (by omega)
        obtain ⟨b', o', rfl, hbl', hc'⟩ := h'.at_ (by omega)
        have hx := hc k hlt
        have hy := hc' k hlt
        clear hc hc' h h'
        generalize ex : xs.getD k 0 = x at hx
        generalize ey : ys.getD k 0 = y at hy
        have HX := Lib.hid ex
        have HY := Lib.hid ey
        clear ex ey
        by_cases hxy : x = y
        · subst hxy
          go_wp2
          go_quiet (fail)
          go_wp2
          go_roundg (n - (k + 1))
          case measure => omega
          case rel =>
            refine ⟨k + 1, _, by omega, by omega, by go_num, (show Aside _ from fun j hj => ?_), rfl⟩
            by_cases e : j = k
            · subst e
              exact HX.out.trans HY.out.symm
            · exact hall.out j (by omega)
        · have hne : (x != y) = true := by simpa using hxy
          have HN := Lib.hid hxy
          clear hxy
          go_wp2
          go_quiet (fail)
          go_wp2
          go_ret
          refine ⟨ret_bool ?_, _, World.drewN_drewN _ _ _⟩
          rw [← HR.out]
          symm
          rw [decide_eq_false_iff_not]
          intro e
          apply HN.out
          rw [← HX.out, ← HY.out, e]
      · have hltz : ¬ (k : Int) < (n : Int) := by omega
        have hkn : k = n := by omega
        subst hkn
        go_wp2
        go_ret
        refine ⟨ret_bool ?_, _, rfl⟩
        rw [← HR.out]
        symm
        rw [decide_eq_true_iff]
        exact ext_getD (hlen.out.trans hlen'.out.symm) fun j hj => hall.out j (by rw [hlen.out] at hj; exact hj)
  · have hne : ((n : Int) != (m : Int)) = true := by simp; omega
    have hmm : m ≤ 9223372036854775807 := by have h1 := h'.cap; have h2 := h'.most; unfold maxLen at h2; omega
    have HL : Hid (xs ≠ ys) := by
      intro e
      apply hnm
      rw [← h.len, ← h'.len, e]
    clear hnm h h'
    go_enter Try.func33, Try.ntmps33
    go_wp2
    go_ret
    refine ⟨ret_bool ?_, 0, rfl⟩
    rw [← HR.out]
    symm
    rw [decide_eq_false_iff_not]
    exact HL.out

set_option maxHeartbeats 1000000 in
theorem equal_ref4 (A : Option Addr) (n c : Nat) (xs : List Int) (A' : Option Addr) (m c' : Nat) (ys : List Int) (w : World) (h : Rd w w.heap.size A n c xs) (h' : Rd w w.heap.size A' m c' ys) :
    Calls Try.prog 31 #[.slice A n c, .slice A' m c'] w fun e w' => e = .returned (.bool (decide (xs = ys))) ∧ ∃ q, w' = w.drewN q := by
  generalize hr : decide (xs = ys) = r
  have HR := Lib.hid hr
  clear hr
  have hmax : n ≤ 9223372036854775807 := by have h1 := h.cap; have h2 := h.most; unfold maxLen at h2; omega
  by_cases hnm : n = m
  · subst hnm
    have hlen := Lib.hid h.len
    have hlen' := Lib.hid h'.len
    go_enter Try.func31, Try.ntmps31
    go_wp2
    go_loopg [5] n (fun g i wr => ∃ k q : Nat, k ≤ n ∧ n - k ≤ g ∧ i = .int .i64 k ∧ Aside (∀ j, j < k → xs.getD j 0 = ys.getD j 0) ∧ wr = w.drewN q)
    case atStart => exact ⟨0, 0, Nat.zero_le _, by omega, rfl, fun j hj => absurd hj (Nat.not_lt_zero _), rfl⟩
    case round =>
      obtain ⟨k, q, hk, hg, rfl, hall, rfl⟩ := hrel
      by_cases hlt : k < n
      · have hltz : (k : Int) < (n : Int) := by omega
        obtain ⟨b, o, rfl, hbl, hc⟩ := h.at_ (by omega)
        obtain ⟨b', o', rfl, hbl', hc'⟩ := h'.at_ (by omega)
        have hx := hc k hlt
        have hy := hc' k hlt
        clear hc hc' h h'
        generalize ex : xs.getD k 0 = x at hx
        generalize ey : ys.getD k 0 = y at hy
        have HX := Lib.hid ex
        have HY := Lib.hid ey
        clear ex ey
        by_cases hxy : x = y
        · subst hxy
          go_wp2
          go_quiet (fail)
          go_wp2
          go_roundg (n - (k + 1))
          case measure => omega
          case rel =>
            refine ⟨k + 1, _, by omega, by omega, by go_num, (show Aside _ from fun j hj => ?_), rfl⟩
            by_cases e : j = k
            · subst e
              exact HX.out.trans HY.out.symm
            · exact hall.out j (by omega)
        · have hne : (x != y) = true := by simpa using hxy
          have HN := Lib.hid hxy
          clear hxy
          go_wp2
          go_quiet (fail)
          go_wp2
          go_ret
          refine ⟨ret_bool ?_, _, World.drewN_drewN _ _ _⟩
          rw [← HR.out]
          symm
          rw [decide_eq_false_iff_not]
          intro e
          apply HN.out
          rw [← HX.out, ← HY.out, e]
      · have hltz : ¬ (k : Int) < (n : Int) := by omega
        have hkn : k = n := by omega
        subst hkn
        go_wp2
        go_ret
        refine ⟨ret_bool ?_, _, rfl⟩
        rw [← HR.out]
        symm
        rw [decide_eq_true_iff]
        exact ext_getD (hlen.out.trans hlen'.out.symm) fun j hj => hall.out j (by rw [hlen.out] at hj; exact hj)
  · have hne : ((n : Int) != (m : Int)) = true := by simp; omega
    have hmm : m ≤ 9223372036854775807 := by have h1 := h'.cap; have h2 := h'.most; unfold maxLen at h2; omega
    have HL : Hid (xs ≠ ys) := by
      intro e
      apply hnm
      rw [← h.len, ← h'.len, e]
    clear hnm h h'
    go_enter Try.func31, Try.ntmps31
    go_wp2
    go_ret
    refine ⟨ret_bool ?_, 0, rfl⟩
    rw [← HR.out]
    symm
    rw [decide_eq_false_iff_not]
    exact HL.out

set_option maxHeartbeats 1000000 in
theorem equal_ref0 (A : Option Addr) (n c : Nat) (xs : List Int) (A' : Option Addr) (m c' : Nat) (ys : List Int) (w : World) (h : Rd w w.heap.size A n c xs) (h' : Rd w w.heap.size A' m c' ys) :
    Calls Try.prog 35 #[.slice A n c, .slice A' m c'] w fun e w' => e = .returned (.bool (decide (xs = ys))) ∧ ∃ q, w' = w.drewN q := by
  generalize hr : decide (xs = ys) = r
  have HR := Lib.hid hr
  clear hr
  have hmax : n ≤ 9223372036854775807 := by have h1 := h.cap; have h2 := h.most; unfold maxLen at h2; omega
  by_cases hnm : n = m
  · subst hnm
    have hlen := Lib.hid h.len
    have hlen' := Lib.hid h'.len
    go_enter Try.func35, Try.ntmps35
    go_wp2
    go_loopg [5] n (fun g i wr => ∃ k q : Nat, k ≤ n ∧ n - k ≤ g ∧ i = .int .i64 k ∧ Aside (∀ j, j < k → xs.getD j 0 = ys.getD j 0) ∧ wr = w.drewN q)
    case atStart => exact ⟨0, 0, Nat.zero_le _, by omega, rfl, fun j hj => absurd hj (Nat.not_lt_zero _), rfl⟩
    case round =>
      obtain ⟨k, q, hk, hg, rfl, hall, rfl⟩ := hrel
      by_cases hlt : k < n
      · have hltz : (k : Int) < (n : Int) := by omega
        obtain ⟨b, o, rfl, hbl, hc⟩ := h.at_ (by omega)
        obtain ⟨b', o', rfl, hbl', hc'⟩ := h'.at_ (by omega)
        have hx := hc k hlt
        have hy := hc' k hlt
        clear hc hc' h h'
        generalize ex : xs.getD k 0 = x at hx
        generalize ey : ys.getD k 0 = y at hy
        have HX := Lib.hid ex
        have HY := Lib.hid ey
        clear ex ey
        by_cases hxy : x = y
        · subst hxy
          go_wp2
          go_quiet (fail)
          go_wp2
          go_roundg (n - (k + 1))
          case measure => omega
          case rel =>
            refine ⟨k + 1, _, by omega, by omega, by go_num, (show Aside _ from fun j hj => ?_), rfl⟩
            by_cases e : j = k
            · subst e
              exact HX.out.trans HY.out.symm
            · exact hall.out j (by omega)
        · have hne : (x != y) = true := by simpa using hxy
          have HN := Lib.hid hxy
          clear hxy
          go_wp2
          go_quiet (fail)
          go_wp2
          go_ret
          refine ⟨ret_bool ?_, _, World.drewN_drewN _ _ _⟩
          rw [← HR.out]
          symm
          rw [decide_eq_false_iff_not]
          intro e
          apply HN.out
          rw [← HX.out, ← HY.out, e]
      · have hltz : ¬ (k : Int) < (n : Int) := by omega
        have hkn : k = n := by omega
        subst hkn
        go_wp2
        go_ret
        refine ⟨ret_bool ?_, _, rfl⟩
        rw [← HR.out]
        symm
        rw [decide_eq_true_iff]
        exact ext_getD (hlen.out.trans hlen'.out.symm) fun j hj => hall.out j (by rw [hlen.out] at hj; exact hj)
  · have hne : ((n : Int) != (m : Int)) = true := by simp; omega
    have hmm : m ≤ 9223372036854775807 := by have h1 := h'.cap; have h2 := h'.most; unfold maxLen at h2; omega
    have HL : Hid (xs ≠ ys) := by
      intro e
      apply hnm
      rw [← h.len, ← h'.len, e]
    clear hnm h h'
    go_enter Try.func35, Try.ntmps35
    go_wp2
    go_ret
    refine ⟨ret_bool ?_, 0, rfl⟩
    rw [← HR.out]
    symm
    rw [decide_eq_false_iff_not]
    exact HL.out

theorem sameReal_ref (A : Option Addr) (n c : Nat) (xs : List Int) (A' : Option Addr) (m c' : Nat) (ys : List Int) (w : World) (h : Rd w w.heap.size A n c xs) (h' : Rd w w.heap.size A' m c' ys) :
    Calls Try.prog 14 #[.agg #[.slice A n c], .agg #[.slice A' m c']] w fun e w' => e = .returned (.bool (decide (xs = ys))) ∧ Below w.heap.size w w' := by
  have hs := equal_ref4 A n c xs A' m c' ys
  generalize hr : decide (xs = ys) = r at hs ⊢
  clear hr
  go_enter Try.func14, Try.ntmps14
  go_wp2_with (go_at_call 31; refine (hs _ (h.in_ (al2 w _ _)) (h'.in_ (al2 w _ _))).mono ?_; rintro e w' ⟨rfl, q, rfl⟩)
  go_ret
  exact ⟨rfl, drewN_below (al2 w _ _) q⟩

theorem sameWhole_ref (A : Option Addr) (n c : Nat) (xs : List Int) (A' : Option Addr) (m c' : Nat) (ys : List Int) (w : World) (h : Rd w w.heap.size A n c xs) (h' : Rd w w.heap.size A' m c' ys) :
    Calls Try.prog 19 #[.agg #[.slice A n c], .agg #[.slice A' m c']] w fun e w' => e = .returned (.bool (decide (xs = ys))) ∧ Below w.heap.size w w' := by
  have hs := equal_ref0 A n c xs A' m c' ys
  generalize hr : decide (xs = ys) = r at hs ⊢
  clear hr
  go_enter Try.func19, Try.ntmps19
  go_wp2_with (go_at_call 35; refine (hs _ (h.in_ (al2 w _ _)) (h'.in_ (al2 w _ _))).mono ?_; rintro e w' ⟨rfl, q, rfl⟩)
  go_ret
  exact ⟨rfl, drewN_below (al2 w _ _) q⟩

theorem sameReal_own (A : Option Addr) (n c : Nat) (xs : List Int) (A' : Option Addr) (m c' : Nat) (ys : List Int) (w : World) (h : Rd w w.heap.size A n c xs) (h' : Rd w w.heap.size A' m c' ys) :
    Calls Try.prog 16 #[.agg #[.slice A n c], .agg #[.slice A' m c']] w fun e w' => e = .returned (.bool (decide (xs = ys))) ∧ Below w.heap.size w w' := by
  have hs := equal_own A n c xs A' m c' ys
  generalize hr : decide (xs = ys) = r at hs ⊢
  clear hr
  go_enter Try.func16, Try.ntmps16
  go_wp2_with (go_at_call 33; refine (hs _ (h.in_ (al2 w _ _)) (h'.in_ (al2 w _ _))).mono ?_; rintro e w' ⟨rfl, q, rfl⟩)
  go_ret
  exact ⟨rfl, drewN_below (al2 w _ _) q⟩

theorem sameWhole_own (A : Option Addr) (n c : Nat) (xs : List Int) (A' : Option Addr) (m c' : Nat) (ys : List Int) (w : World) (h : Rd w w.heap.size A n c xs) (h' : Rd w w.heap.size A' m c' ys) :
    Calls Try.prog 21 #[.agg #[.slice A n c], .agg #[.slice A' m c']] w fun e w' => e = .returned (.bool (decide (xs = ys))) ∧ Below w.heap.size w w' := by
  have hs := equal_own A n c xs A' m c' ys
  generalize hr : decide (xs = ys) = r at hs ⊢
  clear hr
  go_enter Try.func21, Try.ntmps21
  go_wp2_with (go_at_call 33; refine (hs _ (h.in_ (al2 w _ _)) (h'.in_ (al2 w _ _))).mono ?_; rintro e w' ⟨rfl, q, rfl⟩)
  go_ret
  exact ⟨rfl, drewN_below (al2 w _ _) q⟩

end Go.Proofs.Ytbapdhpffglieaa
