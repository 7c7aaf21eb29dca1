/- Contracts of trim, slices.Clip, polyOf and termAt. Condition: the trimmed polynomial is valid. -/
import Derived.Test.YtfbekiphlaaieaaCr
namespace Go.Proofs.Ytfbekiphlaaieaa
open Go.RowKit

/-- How many of the first n numbers trim leaves. -/
def trimN (xs : List (Nat × Nat)) : Nat → Nat
  | 0 => 0
  | 1 => 1
  | n + 2 => if isZ (xs.getD (n + 1) (0, 0)) = true then trimN xs (n + 1) else n + 2
theorem trimN_le (xs : List (Nat × Nat)) (n : Nat) : trimN xs n ≤ n := by
  induction n using trimN.induct xs with
  | case1 => simp [trimN]
  | case2 => simp [trimN]
  | case3 n h ih => rw [trimN, if_pos h]; omega
  | case4 n h => rw [trimN, if_neg h]; omega
theorem trimN_pos (xs : List (Nat × Nat)) (n : Nat) (h : 1 ≤ n) : 1 ≤ trimN xs n := by
  induction n using trimN.induct xs with
  | case1 => omega
  | case2 => simp [trimN]
  | case3 n h1 ih => rw [trimN, if_pos h1]; exact ih (by omega)
  | case4 n h1 => rw [trimN, if_neg h1]; omega
def trimC (xs : List (Nat × Nat)) : List (Nat × Nat) := xs.take (trimN xs xs.length)

set_option maxHeartbeats 1000000 in
theorem trim_any (A : Option Addr) (n c : Nat) (xs : List (Nat × Nat)) (w : World) (h : CRd w w.heap.size A n c xs) (hn : 1 ≤ n) :
    Calls Try.prog 84 #[.slice A n c] w fun e w' => e = .returned (.slice A (trimN xs n) c) ∧ w = w' := by
  have hmax : n ≤ 9223372036854775807 := by have h1 := h.cap; have h2 := h.most; unfold maxLen at h2; omega
  have hcap := h.cap
  obtain ⟨b, o, rfl, hbl, hc⟩ := h.at_ (by omega)
  generalize hr : trimN xs n = r
  have HR := Lib.hid hr
  have hr0 := trimN_pos xs n hn
  have hr1 := trimN_le xs n
  rw [hr] at hr0 hr1
  clear hr h
  go_enter Try.func84, Try.ntmps84
  go_wp2
  go_loopg [3] n (fun g s3 wr => ∃ k : Nat, 1 ≤ k ∧ k ≤ n ∧ k ≤ g ∧ s3 = .int .i64 k ∧ Aside (trimN xs k = r) ∧ wr = w)
  case atStart => exact ⟨n, by omega, by omega, by omega, rfl, HR.out, rfl⟩
  case round =>
    obtain ⟨k, hk1, hk, hg, rfl, HT, rfl⟩ := hrel
    by_cases h1 : k = 1
    · subst h1
      have hz : ¬ (1 : Int) < ((1 : Nat) : Int) := by omega
      have er : r = 1 := by rw [← HT.out]; rfl
      have hle : (1 : Int) ≤ (c : Int) := by omega
      clear HT
      subst er
      go_wp2
      go_ret
      exact ⟨rfl, rfl⟩
    · obtain ⟨m, rfl⟩ : ∃ m, k = m + 2 := ⟨k - 2, by omega⟩
      have hz : (1 : Int) < ((m + 2 : Nat) : Int) := by omega
      have hi1 : (0 : Int) ≤ ((m + 1 : Nat) : Int) := by omega
      have hi2 : ((m + 1 : Nat) : Int) < (n : Int) := by omega
      have hidx : ((m + 2 : Nat) : Int) - 1 = ((m + 1 : Nat) : Int) := by omega
      have hcm := hc (m + 1) (by omega)
      have hT := HT.out
      rw [trimN] at hT
      clear HT
      unfold isZ at hT
      unfold cx at hcm
      generalize xs.getD (m + 1) (0, 0) = y at hcm hT
      cases hb : (FloatKind.f32.format.order y.1 0 == some .eq) && (FloatKind.f32.format.order y.2 0 == some .eq)
      · rw [hb] at hT
        have er : r = m + 2 := by rw [← hT]; simp
        clear hT
        subst er
        have hle : ((m + 2 : Nat) : Int) ≤ (c : Int) := by omega
        have hle0 : (0 : Int) ≤ ((m + 2 : Nat) : Int) := by omega
        go_wp2
        go_ret
        exact ⟨rfl, rfl⟩
      · rw [hb, if_pos rfl] at hT
        have HT := Lib.hid hT
        clear hT
        go_wp2
        go_roundg (m + 1)
        case measure => omega
        case rel => exact ⟨m + 1, by omega, by omega, by omega, by go_num, HT.out, rfl⟩

theorem clip_any (A : Option Addr) (n c : Nat) (w : World) (hn : n ≤ c) (hc : c ≤ maxLen) :
    Calls Try.prog 83 #[.slice A n c] w fun e w' => e = .returned (.slice A n n) ∧ w = w' := by
  have hmax : n ≤ 9223372036854775807 := by unfold maxLen at hc; omega
  have hle : (n : Int) ≤ (c : Int) := by omega
  have hle0 : (0 : Int) ≤ (n : Int) := by omega
  go_enter Try.func83, Try.ntmps83
  go_wp2
  go_ret
  exact ⟨by simp, rfl⟩

theorem termAt_any (A : Option Addr) (n c : Nat) (xs : List (Nat × Nat)) (k : Nat) (w : World) (h : CRd w w.heap.size A n c xs) :
    Calls Try.prog 49 #[.slice A n c, .int .i64 k] w fun e w' => e = .returned (cx (xs.getD k (0, 0))) ∧ w = w' := by
  have hmax : n ≤ 9223372036854775807 := by have h1 := h.cap; have h2 := h.most; unfold maxLen at h2; omega
  have h0 : ¬ (k : Int) < 0 := by omega
  by_cases hk : k < n
  · have h1 : ¬ (n : Int) ≤ (k : Int) := by omega
    have h2 : (k : Int) < (n : Int) := by omega
    obtain ⟨b, o, rfl, hbl, hc⟩ := h.at_ (by omega)
    have hcm := hc k hk
    unfold cx at hcm ⊢
    generalize xs.getD k (0, 0) = y at hcm ⊢
    clear h hc
    go_enter Try.func49, Try.ntmps49
    go_wp2
    go_ret
    exact ⟨rfl, rfl⟩
  · have h1 : (n : Int) ≤ (k : Int) := by omega
    have e : xs.getD k (0, 0) = (0, 0) := by
      simp only [List.getD, List.getElem?_eq_none (by rw [h.len]; omega : xs.length ≤ k)]
      rfl
    rw [e]
    clear h e
    go_enter Try.func49, Try.ntmps49
    go_wp2
    go_ret
    exact ⟨rfl, rfl⟩
theorem termAt_under (A : Option Addr) (n c : Nat) (w : World) :
    Calls Try.prog 49 #[.slice A n c, .int .i64 (-1)] w fun e w' => e = .returned (cx (0, 0)) ∧ w = w' := by
  unfold cx
  go_enter Try.func49, Try.ntmps49
  go_wp2
  go_ret
  exact ⟨rfl, rfl⟩

set_option maxHeartbeats 1000000 in
theorem polyOf_any (A : Option Addr) (n c : Nat) (xs : List (Nat × Nat)) (w : World) (h : CRd w w.heap.size A n c xs) (hn : 1 ≤ n) (hv : Valid (trimC xs)) :
    Calls Try.prog 51 #[.slice A n c] w fun e w' => e = .returned (.tuple #[.agg #[.slice A (trimN xs n) (trimN xs n)], .bool true]) ∧ CRd w' w'.heap.size A (trimN xs n) (trimN xs n) (trimC xs) ∧ Below w.heap.size w w' := by
  have hle := trimN_le xs n
  have hr : CRd w w.heap.size A (trimN xs n) (trimN xs n) (trimC xs) := by
    unfold trimC
    rw [h.len]
    exact h.cut hle (Nat.le_refl _) (Nat.le_trans hle (Nat.le_trans h.cap h.most))
  have hcap := h.cap
  have hmost := h.most
  have HR := Lib.hid hr
  have H0 := Lib.hid h
  have HV := Lib.hid hv
  have HT := Lib.hid (fun W H => trim_any A n c xs W H hn)
  generalize trimN xs n = r at HR hle HT ⊢
  have HC := Lib.hid (fun W => clip_any A r c W (by omega) hmost)
  clear h hr hv
  go_enter Try.func51, Try.ntmps51
  go_wp2_with (first | (go_at_call 84; refine (HT.out _ (H0.out.in_' (al1 w _))).mono ?_; rintro e w' ⟨rfl, rfl⟩) | (go_at_call 83; refine (HC.out _).mono ?_; rintro e w' ⟨rfl, rfl⟩))
  refine (valid_any A r r (trimC xs) _ (HR.out.in_' (al2 w _ _)) HV.out).mono ?_
  rintro e w1 ⟨rfl, b1⟩
  have k4 : Blk w1 (w.heap.size + 1) 28 #[.slice A r r] := Blk.kept (Blk.new_at (w.alloc _) _ _ (by simp)) b1
  have k2 : Blk w1 w.heap.size 28 #[.slice none 0 0] := Blk.kept (Blk.alloc (Blk.new w _ _) _) b1
  have c4 := k4.cell0
  have c2 := k2.cell0
  have f2 := k2.frozen0
  have B1 := Lib.hid (bthen (al2 w _ _) b1)
  clear b1 k4 k2
  go_wp2_with fail
  have B2 := Lib.hid (B1.out.setCell (p := ⟨w.heap.size, 0, none⟩) (by simp) (.slice A r r))
  refine bodyPost_ret (v := .tuple #[.agg #[.slice A r r], .bool true]) (by simp [results, Try.results51, go_sem, c2]) rfl ⟨rfl, ?_, ?_⟩
  · exact HR.out.in_' B2.out
  · exact B2.out
end Go.Proofs.Ytfbekiphlaaieaa
