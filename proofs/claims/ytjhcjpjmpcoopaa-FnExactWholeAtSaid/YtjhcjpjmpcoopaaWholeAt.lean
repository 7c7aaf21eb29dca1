/- Contracts of WholeAt, the reference's and the program's: 'wholeAtF'. Condition: the integer fits int64. -/
import Derived.Test.YtjhcjpjmpcoopaaValidWhole
namespace Go.Proofs.Ytjhcjpjmpcoopaa
open Go.RowKit

set_option maxHeartbeats 2000000 in
theorem wholeAt_ref (A : Option Addr) (n c : Nat) (xs : List Int) (x : Int) (w : World) (h : Rd w w.heap.size A n c xs) (bd : -9223372036854775808 ≤ x ∧ x ≤ 9223372036854775807) :
    Calls Try.prog 14 #[.agg #[.slice A n c], .int .i64 x] w fun e w' => e = .returned (.tuple #[.int .i64 (wholeAtF xs x).1, .bool (wholeAtF xs x).2]) ∧ Below w.heap.size w w' := by
  generalize hR : wholeAtF xs x = R
  have HR := Lib.hid hR
  clear hR
  have hcon := fun b W H hb => isWhole_ref A n c xs b W H hb
  have hlen := Lib.hid h.len
  cases hok : okW xs
  · rw [hok] at hcon
    have HC := Lib.hid hcon
    clear hcon
    go_enter Try.func14, Try.ntmps14
    go_wp2_with fail
    refine (HC.out _ _ (h.in_ (al1 w _)) (by simp)).mono ?_
    rintro e wV ⟨rfl, rfl⟩
    have BV : Below w.heap.size w (w.alloc (.cells #[.slice A n c] 27)) := al1 w _
    have bV : Below (w.alloc (.cells #[.slice A n c] 27)).heap.size (w.alloc (.cells #[.slice A n c] 27)) (w.alloc (.cells #[.slice A n c] 27)) := Below.refl _ _
    go_wp2_with fail
    go_ret2
    refine ⟨?_, BV⟩
    rw [← HR.out]
    unfold wholeAtF
    rw [hok]
    rfl
  rw [hok] at hcon
  have HC := Lib.hid hcon
  clear hcon
  cases hin : inB x (-1000) 1000
  · go_enter Try.func14, Try.ntmps14
    go_wp2_with fail
    refine (HC.out _ _ (h.in_ (al1 w _)) (by simp)).mono ?_
    rintro e wV ⟨rfl, rfl⟩
    have BV : Below w.heap.size w (w.alloc (.cells #[.slice A n c] 27)) := al1 w _
    have bV : Below (w.alloc (.cells #[.slice A n c] 27)).heap.size (w.alloc (.cells #[.slice A n c] 27)) (w.alloc (.cells #[.slice A n c] 27)) := Below.refl _ _
    go_wp2_with fail
    refine (in_ref _ _ _ _).mono ?_
    rintro e w2 ⟨rfl, rfl⟩
    go_wp2_with fail
    go_ret2
    refine ⟨?_, BV⟩
    rw [← HR.out]
    unfold wholeAtF
    rw [hok, hin]
    rfl
  have hx := inB_true.1 hin
  have hln := okW_len hok
  rw [hlen.out] at hln
  have hbdl : -1000000 ≤ lastOf xs ∧ lastOf xs ≤ 1000000 := okW_bd hok _
  have hbds := fun j => okW_bd hok j
  have HB := Lib.hid hbds
  clear hbds
  have HF : Hid (hz xs x (n - 1) (lastOf xs) = R) := by
    rw [← HR.out]
    unfold wholeAtF
    rw [hok, hin, hlen.out]
    rfl
  clear HR
  obtain ⟨b, o, rfl, hbl, hc⟩ := h.at_ (by omega)
  have hl := last_cellW h (by omega)
  clear hc
  go_enter Try.func14, Try.ntmps14
  go_wp2_with fail
  refine (HC.out _ _ (h.in_ (al1 w _)) (by simp)).mono ?_
  rintro e wV ⟨rfl, rfl⟩
  have BV : Below w.heap.size w (w.alloc (.cells #[.slice (some ⟨b, o, none⟩) n c] 27)) := al1 w _
  have bV : Below (w.alloc (.cells #[.slice (some ⟨b, o, none⟩) n c] 27)).heap.size (w.alloc (.cells #[.slice (some ⟨b, o, none⟩) n c] 27)) (w.alloc (.cells #[.slice (some ⟨b, o, none⟩) n c] 27)) := Below.refl _ _
  go_wp2_with fail
  refine (in_ref _ _ _ _).mono ?_
  rintro e w2 ⟨rfl, rfl⟩
  have hl1 := cell_kept bV (cell_kept (al1 w _) hl)
  have k1 := cell_kept (b := w.heap.size) (o := 0) (v := .slice (some ⟨b, o, none⟩) n c) bV (by simp)
  have R1 := h.in_ BV
  clear h hl HC
  generalize hzz : lastOf xs = zl at hl1 HF hbdl
  clear hzz
  go_wp2_with fail
  go_loopg [8, 7] n (fun g s8 s7 wr => ∃ (k : Nat) (i v : Int), k + 1 ≤ n ∧ k ≤ g ∧ i = (k : Int) - 1 ∧ s8 = .int .i64 i ∧ s7 = .int .i64 v ∧ (-1000000000000000 ≤ v ∧ v ≤ 1000000000000000) ∧ Aside (hz xs x k v = R) ∧ wr = w.alloc (.cells #[.slice (some ⟨b, o, none⟩) n c] 27))
  case atStart => exact ⟨n - 1, _, _, by omega, by omega, by omega, rfl, rfl, by omega, HF.out, rfl⟩
  case round =>
    obtain ⟨k, i, v, hkn, hkg, hi, rfl, rfl, hv, hA, rfl⟩ := hrel
    by_cases hk0 : k = 0
    · obtain rfl : i = -1 := by omega
      have HH : Hid ((v, true) = R) := by
        have := hA.out
        rw [hk0] at this
        exact this
      clear hi hA hk0
      go_wp2_with fail
      go_ret2
      refine ⟨?_, BV⟩
      rw [← HH.out]
      rfl
    · obtain ⟨k', rfl⟩ : ∃ k', k = k' + 1 := ⟨k - 1, by omega⟩
      obtain rfl : i = (k' : Int) := by omega
      clear hi hk0
      have hcell := (R1.at_ (by omega))
      obtain ⟨b2, o2, hbo, hbl2, hc2⟩ := hcell
      obtain ⟨rfl, rfl⟩ : b = b2 ∧ o = o2 := by simpa using hbo
      have hy := hc2 k' (by omega)
      have hyb := HB.out k'
      have hvx := mul_bd 1000000000000000 1000 (by omega) (by omega) (by omega) (by omega) (a := v) (b := x)
      have hA2 := hA.out
      unfold hz at hA2
      clear hA hc2 hbo
      generalize xs.getD k' 0 = y at hy hyb hA2
      have HA2 := Lib.hid hA2
      clear hA2
      have hs1 : -1000000000000000000 ≤ v * x := by omega
      have hs2 : v * x ≤ 1000000000000000000 := by omega
      clear hvx
      cases hi2 : inB (v * x + y) (-1000000000000000) 1000000000000000
      · have HH : Hid ((0, false) = R) := by
          have := HA2.out
          rw [hi2] at this
          exact this
        clear HA2
        go_wp2_with fail
        refine (in_ref _ _ _ _).mono ?_
        rintro e w5 ⟨rfl, rfl⟩
        go_wp2_with fail
        go_ret2
        refine ⟨?_, BV⟩
        rw [← HH.out]
        rfl
      · have HH : Hid (hz xs x k' (v * x + y) = R) := by
          have := HA2.out
          rw [hi2] at this
          exact this
        have hvb := inB_true.1 hi2
        clear HA2
        go_wp2_with fail
        refine (in_ref _ _ _ _).mono ?_
        rintro e w5 ⟨rfl, rfl⟩
        go_wp2_with fail
        go_roundg k'
        case measure => omega
        case rel => exact ⟨k', (k' : Int) - 1, v * x + y, by omega, by omega, rfl, rfl, rfl, by omega, HH.out, rfl⟩

theorem isValue_any (v : Int) (w : World) : Calls Try.prog 42 #[.int .i64 v] w fun e w' => e = .returned (.bool (inB v (-1000000000000000) 1000000000000000)) ∧ w = w' := by
  go_enter Try.func42, Try.ntmps42
  go_wp2_with (go_at_call 38; refine (in_own _ _ _ _).mono ?_; rintro e w' ⟨rfl, rfl⟩)
  go_ret
  exact ⟨rfl, rfl⟩
theorem last_any (A : Option Addr) (n c : Nat) (xs : List Int) (w : World) (h : Rd w w.heap.size A n c xs) (hn : 0 < n) :
    Calls Try.prog 40 #[.agg #[.slice A n c]] w fun e w' => e = .returned (.int .i64 (lastOf xs)) ∧ Below w.heap.size w w' := by
  have hmax : n ≤ 9223372036854775807 := by have h1 := h.cap; have h2 := h.most; unfold maxLen at h2; omega
  obtain ⟨b, o, rfl, hbl, hc⟩ := h.at_ hn
  have hl := last_cellW h hn
  have hlA : ∀ T, (w.alloc (.cells #[.slice (some ⟨b, o, none⟩) n c] T)).cell? ⟨b, o + (n - 1), none⟩ = some (.int .i64 (lastOf xs)) := fun T => cell_kept (al1 w _) hl
  clear hc hl
  generalize lastOf xs = z at hlA ⊢
  have hz1 : (1 : Int) ≤ (n : Int) := by omega
  go_enter Try.func40, Try.ntmps40
  go_wp2_with fail
  go_ret
  exact ⟨rfl, al1 w _⟩
theorem degree_any (A : Option Addr) (n c : Nat) (w : World) (hn : n ≤ 9223372036854775807) :
    Calls Try.prog 41 #[.agg #[.slice A n c]] w fun e w' => e = .returned (.int .i64 ((n : Int) - 1)) ∧ Below w.heap.size w w' := by
  go_enter Try.func41, Try.ntmps41
  go_wp2_with fail
  go_ret
  exact ⟨rfl, al1 w _⟩

set_option maxHeartbeats 2000000 in
theorem wholeAt_own (A : Option Addr) (n c : Nat) (xs : List Int) (x : Int) (w : World) (h : Rd w w.heap.size A n c xs) (bd : -9223372036854775808 ≤ x ∧ x ≤ 9223372036854775807) :
    Calls Try.prog 15 #[.agg #[.slice A n c], .int .i64 x] w fun e w' => e = .returned (.tuple #[.int .i64 (wholeAtF xs x).1, .bool (wholeAtF xs x).2]) ∧ Below w.heap.size w w' := by
  generalize hR : wholeAtF xs x = R
  have HR := Lib.hid hR
  clear hR
  have hcon := fun W H => validWhole_own A n c xs W H
  have hlen := Lib.hid h.len
  cases hok : okW xs
  · rw [hok] at hcon
    have HC := Lib.hid hcon
    clear hcon
    go_enter Try.func15, Try.ntmps15
    go_wp2_with fail
    refine (HC.out _ (h.in_ (al1 w _))).mono ?_
    rintro e wV ⟨rfl, bV⟩
    have BV := bthen (al1 w _) bV
    go_wp2_with fail
    go_ret2
    refine ⟨?_, BV⟩
    rw [← HR.out]
    unfold wholeAtF
    rw [hok]
    rfl
  rw [hok] at hcon
  have HC := Lib.hid hcon
  clear hcon
  cases hin : inB x (-1000) 1000
  · go_enter Try.func15, Try.ntmps15
    go_wp2_with fail
    refine (HC.out _ (h.in_ (al1 w _))).mono ?_
    rintro e wV ⟨rfl, bV⟩
    have BV := bthen (al1 w _) bV
    go_wp2_with fail
    refine (in_own _ _ _ _).mono ?_
    rintro e w2 ⟨rfl, rfl⟩
    go_wp2_with fail
    go_ret2
    refine ⟨?_, BV⟩
    rw [← HR.out]
    unfold wholeAtF
    rw [hok, hin]
    rfl
  have hx := inB_true.1 hin
  have hln := okW_len hok
  rw [hlen.out] at hln
  have hbdl : -1000000 ≤ lastOf xs ∧ lastOf xs ≤ 1000000 := okW_bd hok _
  have hbds := fun j => okW_bd hok j
  have HB := Lib.hid hbds
  clear hbds
  have HF : Hid (hz xs x (n - 1) (lastOf xs) = R) := by
    rw [← HR.out]
    unfold wholeAtF
    rw [hok, hin, hlen.out]
    rfl
  clear HR
  obtain ⟨b, o, rfl, hbl, hc⟩ := h.at_ (by omega)
  have hl := last_cellW h (by omega)
  clear hc
  go_enter Try.func15, Try.ntmps15
  go_wp2_with fail
  refine (HC.out _ (h.in_ (al1 w _))).mono ?_
  rintro e wV ⟨rfl, bV⟩
  have BV := bthen (al1 w _) bV
  go_wp2_with fail
  refine (in_own _ _ _ _).mono ?_
  rintro e w2 ⟨rfl, rfl⟩
  have hl1 := cell_kept bV (cell_kept (al1 w _) hl)
  have k1 := cell_kept (b := w.heap.size) (o := 0) (v := .slice (some ⟨b, o, none⟩) n c) bV (by simp)
  have R1 := h.in_ BV
  clear h hl HC
  go_wp2_with fail
  refine (last_any (some ⟨b, o, none⟩) n c xs _ R1 (by omega)).mono ?_
  rintro e w3 ⟨rfl, b3⟩
  have B3 := bthen BV b3
  have k3 := cell_kept b3 k1
  have R3 := R1.in_ b3
  go_wp2_with fail
  refine (degree_any (some ⟨b, o, none⟩) n c _ (by omega)).mono ?_
  rintro e w4 ⟨rfl, b4⟩
  have B4 := bthen B3 b4
  have k4 := cell_kept b4 k3
  have R4 := R3.in_ b4
  clear R1 R3 k1 k3 b3 b4 B3 hl1
  generalize hzz : lastOf xs = zl at HF hbdl ⊢
  clear hzz
  go_wp2_with fail
  go_loopg [7, 6] n (fun g s8 s7 wr => ∃ (k : Nat) (i v : Int), k + 1 ≤ n ∧ k ≤ g ∧ i = (k : Int) - 1 ∧ s8 = .int .i64 i ∧ s7 = .int .i64 v ∧ (-1000000000000000 ≤ v ∧ v ≤ 1000000000000000) ∧ Aside (hz xs x k v = R) ∧ wr = w4)
  case atStart => exact ⟨n - 1, _, _, by omega, by omega, by omega, rfl, rfl, by omega, HF.out, rfl⟩
  case round =>
    obtain ⟨k, i, v, hkn, hkg, hi, rfl, rfl, hv, hA, rfl⟩ := hrel
    by_cases hk0 : k = 0
    · obtain rfl : i = -1 := by omega
      have HH : Hid ((v, true) = R) := by
        have := hA.out
        rw [hk0] at this
        exact this
      clear hi hA hk0
      go_wp2_with fail
      go_ret2
      refine ⟨?_, B4⟩
      rw [← HH.out]
      rfl
    · obtain ⟨k', rfl⟩ : ∃ k', k = k' + 1 := ⟨k - 1, by omega⟩
      obtain rfl : i = (k' : Int) := by omega
      clear hi hk0
      have hcell := (R4.at_ (by omega))
      obtain ⟨b2, o2, hbo, hbl2, hc2⟩ := hcell
      obtain ⟨rfl, rfl⟩ : b = b2 ∧ o = o2 := by simpa using hbo
      have hy := hc2 k' (by omega)
      have hyb := HB.out k'
      have hvx := mul_bd 1000000000000000 1000 (by omega) (by omega) (by omega) (by omega) (a := v) (b := x)
      have hA2 := hA.out
      unfold hz at hA2
      clear hA hc2 hbo
      generalize xs.getD k' 0 = y at hy hyb hA2
      have HA2 := Lib.hid hA2
      clear hA2
      have hs1 : -1000000000000000000 ≤ v * x := by omega
      have hs2 : v * x ≤ 1000000000000000000 := by omega
      clear hvx
      cases hi2 : inB (v * x + y) (-1000000000000000) 1000000000000000
      · have HH : Hid ((0, false) = R) := by
          have := HA2.out
          rw [hi2] at this
          exact this
        clear HA2
        go_wp2_with fail
        refine (isValue_any _ _).mono ?_
        rintro e w5 ⟨rfl, rfl⟩
        go_wp2_with fail
        go_ret2
        refine ⟨?_, B4⟩
        rw [← HH.out]
        rfl
      · have HH : Hid (hz xs x k' (v * x + y) = R) := by
          have := HA2.out
          rw [hi2] at this
          exact this
        have hvb := inB_true.1 hi2
        clear HA2
        go_wp2_with fail
        refine (isValue_any _ _).mono ?_
        rintro e w5 ⟨rfl, rfl⟩
        go_wp2_with fail
        go_roundg k'
        case measure => omega
        case rel => exact ⟨k', (k' : Int) - 1, v * x + y, by omega, by omega, rfl, rfl, rfl, by omega, HH.out, rfl⟩
end Go.Proofs.Ytjhcjpjmpcoopaa
