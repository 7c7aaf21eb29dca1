/- Contracts of what trims a list and of what gives a Whole where it is valid, the program's and the reference's. Condition: 1 to 1048576 terms. -/
import Derived.Test.YtlfjnpioamcbhaaValidWhole
import Derived.Test.YtlfjnpioamcbhaaAppend
import Derived.Test.YtlfjnpioamcbhaaMark
namespace Go.Proofs.Ytlfjnpioamcbhaa
open Go.RowKit

theorem clip_any (A : Option Addr) (n c : Nat) (w : World) (hn : n ≤ c) (_hc : c ≤ maxLen) (hp : 0 < n) :
    Calls Try.prog 81 #[.slice A n c] w fun e w' => e = .returned (.slice A n n) ∧ w = w' := by
  unfold maxLen at _hc
  go_enter Try.func81, Try.ntmps81
  go_wp2_with fail
  go_ret
  exact ⟨rfl, rfl⟩

set_option maxHeartbeats 1000000 in
theorem whole_own (A : Option Addr) (n c : Nat) (xs : List Int) (base : Nat) (w : World) (h : Mine w base A n c xs) (hn : n ≤ 1048576) (hp : 0 < n) :
    Calls Try.prog 71 #[.slice A n c] w fun e w' => ∃ k, e = .returned (.agg #[.slice A k k]) ∧ Mine w' base A k k (trimL xs) ∧ Below w.heap.size w w' := by
  have hlen := Lib.hid h.len
  have hcap := h.cap
  have hmost := h.most
  unfold maxLen at hmost
  go_enter Try.func71, Try.ntmps71
  go_wp2_with fail
  go_loopg [3] n (fun g s3 wr => ∃ k : Nat, 1 ≤ k ∧ k ≤ n ∧ k ≤ g ∧ s3 = .int .i64 k ∧ Aside (tlen xs k = tlen xs n) ∧ wr = w.alloc (.cells #[.slice none 0 0] 42))
  case atStart => exact ⟨n, by omega, Nat.le_refl _, Nat.le_refl _, rfl, rfl, rfl⟩
  case round =>
    obtain ⟨k, hk1, hk, hgk, rfl, hA, rfl⟩ := hrel
    obtain ⟨g, rfl, hg1, hg2⟩ := h.at_ (by omega)
    by_cases h1 : k = 1
    · have HE : Hid (k = tlen xs n) := by
        show k = tlen xs n
        rw [← hA.out, h1]
        rfl
      have hz : ¬ (1 : Int) < (k : Int) := by omega
      clear h1
      go_wp2_with fail
      refine (clip_any (some ⟨g, 0, none⟩) k c _ (by omega) h.most (by omega)).mono ?_
      rintro e w1 ⟨rfl, rfl⟩
      go_wp2_with fail
      refine bodyPost_ret (v := .agg #[.slice (some ⟨g, 0, none⟩) k k]) (by simp [results, Try.results71, go_sem]) rfl ⟨k, rfl, ?_, al1 w _⟩
      have hk2 : trimL xs = xs.take k := by
        unfold trimL
        rw [hlen.out, ← HE.out]
      rw [hk2]
      exact Mine.alloc (h.cut (by omega) (Nat.le_refl _) (by omega)) _
    · have hz : (1 : Int) < (k : Int) := by omega
      have hx := cell_kept (al1 w (.cells #[.slice none 0 0] 42)) (h.cell (j := k - 1) (by omega))
      by_cases hy : xs.getD (k - 1) 0 = 0
      · have HT := Lib.hid (tlen_zero xs k (by omega) hy)
        rw [hy] at hx
        clear hy
        go_wp2_with fail
        go_roundg (k - 1)
        case measure => omega
        case rel => exact ⟨k - 1, by omega, by omega, by omega, by go_num, by show tlen xs (k - 1) = _; rw [← HT.out]; exact hA.out, rfl⟩
      · have HE : Hid (k = tlen xs n) := by
          show k = tlen xs n
          rw [← hA.out, tlen_stop xs k (by omega) hy]
        generalize xs.getD (k - 1) 0 = y at hx hy
        have hne : (y == 0) = false := by simpa using hy
        clear hy
        go_wp2_with fail
        refine (clip_any (some ⟨g, 0, none⟩) k c _ (by omega) h.most (by omega)).mono ?_
        rintro e w1 ⟨rfl, rfl⟩
        go_wp2_with fail
        refine bodyPost_ret (v := .agg #[.slice (some ⟨g, 0, none⟩) k k]) (by simp [results, Try.results71, go_sem]) rfl ⟨k, rfl, ?_, al1 w _⟩
        have hk2 : trimL xs = xs.take k := by
          unfold trimL
          rw [hlen.out, ← HE.out]
        rw [hk2]
        exact Mine.alloc (h.cut (by omega) (Nat.le_refl _) (by omega)) _

/-- checkedWhole: the same slice where it is valid. -/
theorem checked_own (A : Option Addr) (n c : Nat) (xs : List Int) (base : Nat) (w : World) (h : Mine w base A n c xs) :
    Calls Try.prog 54 #[.agg #[.slice A n c]] w fun e w' => ∃ A' n' c', e = .returned (.tuple #[.agg #[.slice A' n' c'], .bool (checkF xs).2]) ∧ Mine w' base A' n' c' (checkF xs).1 ∧ Below w.heap.size w w' := by
  have hcon := fun W H => validWhole_own A n c xs W H
  unfold checkF
  cases hok : okW xs
  · rw [hok] at hcon
    have HC := Lib.hid hcon
    clear hcon
    go_enter Try.func54, Try.ntmps54
    go_wp2_with fail
    refine (HC.out _ (h.rd.in_ (al2 w _ _))).mono ?_
    rintro e w1 ⟨rfl, b1⟩
    have B1 := bthen (al2 w _ _) b1
    have br1 : Blk w1 (w.heap.size + 1) 42 #[.slice none 0 0] := Blk.kept (Blk.new_at (w.alloc _) _ _ (by simp)) b1
    have cr := br1.cell0
    have fr := br1.frozen0
    clear b1 br1
    go_wp2_with fail
    refine bodyPost_ret (v := .tuple #[.agg #[.slice none 0 0], .bool false]) (by simp [results, Try.results54, go_sem, cr]) rfl ⟨none, 0, 0, rfl, Mine.none_ _ _, ?_⟩
    exact B1.setCell (by simp) _
  · rw [hok] at hcon
    have HC := Lib.hid hcon
    clear hcon
    go_enter Try.func54, Try.ntmps54
    go_wp2_with fail
    refine (HC.out _ (h.rd.in_ (al2 w _ _))).mono ?_
    rintro e w1 ⟨rfl, b1⟩
    have B1 := bthen (al2 w _ _) b1
    have bp1 : Blk w1 w.heap.size 42 #[.slice A n c] := Blk.kept (Blk.alloc (Blk.new w _ _) _) b1
    have br1 : Blk w1 (w.heap.size + 1) 42 #[.slice none 0 0] := Blk.kept (Blk.new_at (w.alloc _) _ _ (by simp)) b1
    have cp := bp1.cell0
    have cr := br1.cell0
    have fr := br1.frozen0
    have H1 := Lib.hid (Mine.below h B1)
    have AR := Lib.hid (Blk.apart br1 H1.out (by decide))
    clear b1 br1 bp1 h
    go_wp2_with fail
    refine bodyPost_ret (v := .tuple #[.agg #[.slice A n c], .bool true]) (by simp [results, Try.results54, go_sem, cr]) rfl ⟨A, n, c, rfl, ?_, ?_⟩
    · exact mine_set H1.out AR.out _
    · exact B1.setCell (by simp) _

set_option maxHeartbeats 1000000 in
theorem trim_ref (A : Option Addr) (n c : Nat) (xs : List Int) (w : World) (h : Rd w w.heap.size A n c xs) (hn : n ≤ 1048576) (hp : 0 < n) :
    Calls Try.prog 67 #[.slice A n c] w fun e w' => ∃ A' n' c', e = .returned (.slice A' n' c') ∧ Mine w' w.heap.size A' n' c' (trimL xs) ∧ Below w.heap.size w w' := by
  have hlen := Lib.hid h.len
  have hcap := h.cap
  have hmost := h.most
  unfold maxLen at hmost
  go_enter Try.func67, Try.ntmps67
  go_wp2_with fail
  go_loopg [3] n (fun g s3 wr => ∃ k : Nat, 1 ≤ k ∧ k ≤ n ∧ k ≤ g ∧ s3 = .int .i64 k ∧ Aside (tlen xs k = tlen xs n) ∧ wr = w)
  case atStart => exact ⟨n, by omega, Nat.le_refl _, Nat.le_refl _, rfl, rfl, rfl⟩
  case round =>
    obtain ⟨k, hk1, hk, hgk, rfl, hA, rfl⟩ := hrel
    have hk0 : ((k : Int) == 0) = false := by simp; omega
    obtain ⟨b, o, rfl, hbl, hc⟩ := h.at_ (by omega)
    by_cases h1 : k = 1
    · have HE : Hid (k = tlen xs n) := by
        show k = tlen xs n
        rw [← hA.out, h1]
        rfl
      have hz : ¬ (1 : Int) < (k : Int) := by omega
      clear h1 hc
      go_wp2_with (at_builtin; go_must (refine wpList_append_rd rfl _ _ rfl wr.heap.size _ _ _ _ rfl (own_empty wr) _ _ _ _ _ rfl ((h.cut (k := k) (c' := c) (by omega) (by omega) h.most).in_ (al1 wr _)) (by omega) (by simp) ?_); intro A' c' w1 ho hg; have HB := Lib.hid (bgrown (al1 wr _) (own_empty wr) (Nat.le_refl _) hg); have HO := Lib.hid ho; clear ho hg)
      go_ret
      have hk2 : trimL xs = xs.take k := by
        unfold trimL
        rw [hlen.out, ← HE.out]
      have h1 := HO.out
      rw [Nat.zero_add, List.nil_append] at h1
      rw [hk2]
      exact ⟨A', k, c', by simp, Own.mine h1, HB.out⟩
    · have hz : (1 : Int) < (k : Int) := by omega
      have hx := hc (k - 1) (by omega)
      clear hc
      by_cases hy : xs.getD (k - 1) 0 = 0
      · have HT := Lib.hid (tlen_zero xs k (by omega) hy)
        rw [hy] at hx
        clear hy
        go_wp2_with fail
        go_roundg (k - 1)
        case measure => omega
        case rel => exact ⟨k - 1, by omega, by omega, by omega, by go_num, by show tlen xs (k - 1) = _; rw [← HT.out]; exact hA.out, rfl⟩
      · have HE : Hid (k = tlen xs n) := by
          show k = tlen xs n
          rw [← hA.out, tlen_stop xs k (by omega) hy]
        generalize xs.getD (k - 1) 0 = y at hx hy
        have hne : (y == 0) = false := by simpa using hy
        clear hy
        go_wp2_with (at_builtin; go_must (refine wpList_append_rd rfl _ _ rfl wr.heap.size _ _ _ _ rfl (own_empty wr) _ _ _ _ _ rfl ((h.cut (k := k) (c' := c) (by omega) (by omega) h.most).in_ (al1 wr _)) (by omega) (by simp) ?_); intro A' c' w1 ho hg; have HB := Lib.hid (bgrown (al1 wr _) (own_empty wr) (Nat.le_refl _) hg); have HO := Lib.hid ho; clear ho hg)
        go_ret
        have hk2 : trimL xs = xs.take k := by
          unfold trimL
          rw [hlen.out, ← HE.out]
        have h1 := HO.out
        rw [Nat.zero_add, List.nil_append] at h1
        rw [hk2]
        exact ⟨A', k, c', by simp, Own.mine h1, HB.out⟩

theorem trim_ref0 (A : Option Addr) (c : Nat) (w : World) :
    Calls Try.prog 67 #[.slice A 0 c] w fun e w' => ∃ A' n' c', e = .returned (.slice A' n' c') ∧ Mine w' w.heap.size A' n' c' [0] ∧ Below w.heap.size w w' := by
  go_enter Try.func67, Try.ntmps67
  go_wp2_with fail
  go_loopg [3] 1 (fun _ s3 wr => s3 = .int .i64 0 ∧ wr = w)
  case atStart => exact ⟨rfl, rfl⟩
  case round =>
    obtain ⟨rfl, rfl⟩ := hrel
    have hk0 : ((0 : Int) == 0) = true := rfl
    go_wp2_with fail
    go_ret
    exact ⟨_, 1, 1, rfl, Own.mine (own_lit wr [0] 1 rfl (by simp [maxLen])), al1 wr _⟩

/-- l03Give: a whole of the terms, trimmed, where it is valid. -/
def giveF (xs : List Int) : List Int × Bool := checkF (trimL xs)
set_option maxHeartbeats 1000000 in
theorem give_ref (A : Option Addr) (n c : Nat) (xs : List Int) (w : World) (h : Rd w w.heap.size A n c xs) (hn : n ≤ 1048576) (hp : 0 < n) :
    Calls Try.prog 48 #[.slice A n c] w fun e w' => ∃ A' n' c', e = .returned (.tuple #[.agg #[.slice A' n' c'], .bool (giveF xs).2]) ∧ Mine w' w.heap.size A' n' c' (giveF xs).1 ∧ Below w.heap.size w w' := by
  have hcon := fun A' n' c' b W H hb => isWhole_ref A' n' c' (trimL xs) b W H hb
  unfold giveF checkF
  cases hok : okW (trimL xs)
  all_goals
    rw [hok] at hcon
    have HC := Lib.hid hcon
    clear hcon
    go_enter Try.func48, Try.ntmps48
    go_wp2_with fail
    refine (trim_ref A n c xs _ (h.in_ (al1 w _)) hn hp).mono ?_
    rintro e w1 ⟨A', n', c', rfl, u1, b1⟩
    have B1 := bthen (al1 w _) b1
    have br1 : Blk w1 w.heap.size 42 #[.slice none 0 0] := Blk.kept (Blk.new w _ _) b1
    have br2 := Blk.alloc br1 (.cells #[.slice A' n' c'] 42)
    have cr := br2.cell0
    have fr := br2.frozen0
    have co : (w1.alloc (.cells #[.slice A' n' c'] 42)).cell? ⟨w1.heap.size, 0, none⟩ = some (.slice A' n' c') := by simp
    have U2 := Lib.hid (Mine.alloc u1 (.cells #[.slice A' n' c'] 42))
    have AR := Lib.hid (Blk.apart br2 U2.out (by decide))
    have B2 := Lib.hid (B1.alloc B1.size (.cells #[.slice A' n' c'] 42))
    have R2 := Mine.rd U2.out
    clear b1 u1 br1 br2 B1 h
    go_wp2_with fail
    refine (HC.out _ _ _ _ _ R2 co).mono ?_
    rintro e w2 ⟨rfl, rfl⟩
    go_wp2_with fail
  · refine bodyPost_ret (v := .tuple #[.agg #[.slice none 0 0], .bool false]) (by simp [results, Try.results48, go_sem, cr]) rfl ⟨none, 0, 0, rfl, Mine.none_ _ _, ?_⟩
    exact B2.out.setCell (by simp) _
  · refine bodyPost_ret (v := .tuple #[.agg #[.slice A' n' c'], .bool true]) (by simp [results, Try.results48, go_sem, cr]) rfl ⟨A', n', c', rfl, ?_, ?_⟩
    · exact (mine_set U2.out AR.out _).low (by simp)
    · exact B2.out.setCell (by simp) _
end Go.Proofs.Ytlfjnpioamcbhaa
