/- Contracts of the law's own helpers: a copy of a slice, the comparison of two, marks laid and read again. Condition: at most 1048576 terms where a copy is made or marks are laid. -/
import Derived.Test.YtlfjnpioamcbhaaBase
import Derived.Test.YtlfjnpioamcbhaaPlain
import Derived.Deep.QuietTactic
import Derived.BigQuiet
namespace Go.Proofs.Ytlfjnpioamcbhaa
open Go.RowKit

set_option maxHeartbeats 1000000 in
theorem toInts (A : Option Addr) (n c : Nat) (xs : List Int) (w : World) (h : Rd w w.heap.size A n c xs) (hn : n ≤ 1048576) :
    Calls Try.prog 35 #[.slice A n c] w fun e w' => ∃ A' c', e = .returned (.slice A' n c') ∧ Mine w' w.heap.size A' n c' xs ∧ Below w.heap.size w w' := by
  obtain ⟨i0, hi0, hz0, hz1, hz2⟩ := info_parts int64_info
  have hlen := Lib.hid h.len
  go_enter Try.func35, Try.ntmps35
  go_wp2_with (at_make; go_must (refine wpList_make_full _ rfl _ _ 22 rfl w.heap.size 2 i0 _ 1 Try.underlying22 hi0 hz0 hz1 .i64 .i64 _ _ n rfl rfl rfl rfl (by rw [hz2]; omega) (by simp [maxLen]; omega) (Nat.le_refl _) ?_); intro w1 hown hgr)
  have hown0 : Own w1 w.heap.size (some ⟨w.heap.size, 0, none⟩) n n (upto xs 0) := by
    have e : (madeCells (Value.int .i64 0).cells (n * 1)).toList = iv (upto xs 0) := by rw [zeros_iv, upto_zero, hlen.out]
    rw [e] at hown
    exact hown
  have hbel : Below w.heap.size w w1 := (Below.refl _ _).grown hgr (Nat.le_refl _) (by simp)
  clear hown hgr hi0 hz0 hz1 hz2
  go_loopg [4] n (fun g i wr => ∃ k : Nat, k ≤ n ∧ n - k ≤ g ∧ i = .int .i64 k ∧ Own wr w.heap.size (some ⟨w.heap.size, 0, none⟩) n n (upto xs k) ∧ Below w.heap.size w wr)
  case atStart => exact ⟨0, Nat.zero_le _, by omega, rfl, hown0, hbel⟩
  case round =>
    clear hown0 hbel
    obtain ⟨k, hk, hg, rfl, ho, hb⟩ := hrel
    by_cases hlt : k < n
    · have hltz : (k : Int) < (n : Int) := by omega
      obtain ⟨b, o, rfl, hbl, hc⟩ := h.at_ (by omega)
      have hck := (hb.cell (p := ⟨b, o + k, none⟩) hbl).trans (hc k hlt)
      have hst := World.ownsRow.stored (n := n) ho k (.int .i64 (xs.getD k 0))
      have hat := World.ownsRow.cellAt (n := n) ho k (by omega)
      have hfr := World.ownsRow.frozenAt (n := n) ho k
      rw [iv_get _ _ (by rw [upto_len _ _ (by rw [hlen.out]; omega), hlen.out]; exact hlt)] at hat
      rw [iv_set, upto_set _ _ (by rw [hlen.out]; exact hlt)] at hst
      have HS := Lib.hid hst
      have HB := Lib.hid (hb.setCell (p := ⟨w.heap.size, k, none⟩) (Nat.le_refl _) (.int .i64 (xs.getD k 0)))
      clear hst hc hb ho h
      generalize xs.getD k 0 = y at hck HS HB
      generalize (upto xs k).getD k 0 = z at hat
      go_wp2
      go_roundg (n - (k + 1))
      case measure => omega
      case rel => exact ⟨k + 1, by omega, by omega, by go_num, HS.out.1, HB.out⟩
    · have hltz : ¬ (k : Int) < (n : Int) := by omega
      have hkn : k = n := by omega
      subst hkn
      have e : upto xs k = xs := by
        have e1 := upto_all xs
        rwa [hlen.out] at e1
      rw [e] at ho
      clear e
      go_wp2
      go_ret
      exact ⟨_, _, rfl, Own.mine ho, hb⟩

set_option maxHeartbeats 1000000 in
theorem eqInts (A : Option Addr) (n c : Nat) (xs : List Int) (A' : Option Addr) (m c' : Nat) (ys : List Int) (w : World) (h : Rd w w.heap.size A n c xs) (h' : Rd w w.heap.size A' m c' ys) :
    Calls Try.prog 21 #[.slice A n c, .slice A' m c'] w fun e w' => e = .returned (.bool (decide (xs = ys))) ∧ ∃ q, w' = w.drewN q := by
  generalize hr : decide (xs = ys) = r
  have HR := Lib.hid hr
  clear hr
  have hmax : n ≤ 9223372036854775807 := by have h1 := h.cap; have h2 := h.most; unfold maxLen at h2; omega
  by_cases hnm : n = m
  · subst hnm
    have hlen := Lib.hid h.len
    have hlen' := Lib.hid h'.len
    go_enter Try.func21, Try.ntmps21
    go_wp2
    go_loopg [5] n (fun g i wr => ∃ k q : Nat, k ≤ n ∧ n - k ≤ g ∧ i = .int .i64 k ∧ Aside (∀ j, j < k → xs.getD j 0 = ys.getD j 0) ∧ wr = w.drewN q)
    case atStart => exact ⟨0, 0, Nat.zero_le _, by omega, rfl, fun j hj => absurd hj (Nat.not_lt_zero _), rfl⟩
    case round =>
      obtain ⟨k, q, hk, hg, rfl, hall, rfl⟩ := hrel
      by_cases hlt : k < n
      · have hltz : (k : Int) < (n : Int) := by omega
        obtain ⟨b, o, rfl, hbl, hc⟩ := h.at_ (by omega)
        obtain ⟨b', o', rfl, hbl', hc'⟩ := h'.at_ (by omega)
        have hx := hc k hlt
        have hy := hc' k hlt
        clear hc hc' h h'
        generalize ex : xs.getD k 0 = x at hx
        generalize ey : ys.getD k 0 = y at hy
        have HX := Lib.hid ex
        have HY := Lib.hid ey
        clear ex ey
        by_cases hxy : x = y
        · subst hxy
          go_wp2
          go_quiet (fail)
          go_wp2
          go_roundg (n - (k + 1))
          case measure => omega
          case rel =>
            refine ⟨k + 1, _, by omega, by omega, by go_num, (show Aside _ from fun j hj => ?_), rfl⟩
            by_cases e : j = k
            · subst e
              exact HX.out.trans HY.out.symm
            · exact hall.out j (by omega)
        · have hne : (x != y) = true := by simpa using hxy
          have HN := Lib.hid hxy
          clear hxy
          go_wp2
          go_quiet (fail)
          go_wp2
          go_ret
          refine ⟨ret_bool ?_, _, World.drewN_drewN _ _ _⟩
          rw [← HR.out]
          symm
          rw [decide_eq_false_iff_not]
          intro e
          apply HN.out
          rw [← HX.out, ← HY.out, e]
      · have hltz : ¬ (k : Int) < (n : Int) := by omega
        have hkn : k = n := by omega
        subst hkn
        go_wp2
        go_ret
        refine ⟨ret_bool ?_, _, rfl⟩
        rw [← HR.out]
        symm
        rw [decide_eq_true_iff]
        exact ext_getD (hlen.out.trans hlen'.out.symm) fun j hj => hall.out j (by rw [hlen.out] at hj; exact hj)
  · have hne : ((n : Int) != (m : Int)) = true := by simp; omega
    have hmm : m ≤ 9223372036854775807 := by have h1 := h'.cap; have h2 := h'.most; unfold maxLen at h2; omega
    have HL : Hid (xs ≠ ys) := by
      intro e
      apply hnm
      rw [← h.len, ← h'.len, e]
    clear hnm h h'
    go_enter Try.func21, Try.ntmps21
    go_wp2
    go_ret
    refine ⟨ret_bool ?_, 0, rfl⟩
    rw [← HR.out]
    symm
    rw [decide_eq_false_iff_not]
    exact HL.out

theorem szInts (A : Option Addr) (n c : Nat) (left : Int) (w : World) (hn : n ≤ 9223372036854775807) (h0 : 0 ≤ left) (h1 : left ≤ 1048576) :
    Calls Try.prog 33 #[.slice A n c, .int .i64 left] w fun e w' => e = .returned (.int .i64 (if left < n then -1 else left - n)) ∧ w = w' := by
  by_cases h : left < n
  · rw [if_pos h]
    go_enter Try.func33, Try.ntmps33
    go_wp2
    go_ret
    exact ⟨rfl, rfl⟩
  · rw [if_neg h]
    go_enter Try.func33, Try.ntmps33
    go_wp2
    go_ret
    exact ⟨rfl, rfl⟩

end Go.Proofs.Ytlfjnpioamcbhaa
