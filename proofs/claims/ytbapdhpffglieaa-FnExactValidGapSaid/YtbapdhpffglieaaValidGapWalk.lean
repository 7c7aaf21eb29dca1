/- ValidGap: the program and the reference tell one bool of three integers. Condition: none (the three fit int64). -/
import Derived.Test.YtbapdhpffglieaaBase
import Derived.Test.YtbapdhpffglieaaIn
namespace Go.Proofs.Ytbapdhpffglieaa
open Go.RowKit

def gapB (a b s : Int) : Bool := (((inB a (-1099511627776) 1099511627776) && (inB b (-1099511627776) 1099511627776)) && decide (a < b)) && inB s 0 30

theorem gap_ref (a b s : Int) (w : World) :
    Calls Try.prog 25 #[.agg #[.int .i64 a, .int .i64 b, .int .i64 s]] w fun e w' => e = .returned (.bool (gapB a b s)) ∧ Below w.heap.size w w' := by
  unfold gapB
  have hal : ∀ o : Obj, Below w.heap.size w (w.alloc o) := fun o => (Below.refl _ _).alloc (Nat.le_refl _) o
  cases h1 : inB a (-1099511627776) 1099511627776 <;> cases h2 : inB b (-1099511627776) 1099511627776 <;> by_cases h3 : a < b <;> cases h4 : inB s 0 30
  all_goals
    go_enter Try.func25, Try.ntmps25
    go_wp2_with (first | (go_at_call 27; refine (in_ref _ _ _ _).mono ?_; rintro e w' ⟨rfl, rfl⟩))
    go_ret
    exact ⟨by simp [h3], hal _⟩

theorem gap_spec (a b s : Int) (w : World) :
    Calls Try.prog 8 #[.agg #[.int .i64 a, .int .i64 b, .int .i64 s]] w fun e w' => e = .returned (.bool (gapB a b s)) ∧ Below w.heap.size w w' := by
  go_enter Try.func8, Try.ntmps8
  go_wp2_with (first | (go_at_call 25; refine (gap_ref _ _ _ _).mono ?_; rintro e w1 ⟨rfl, hb⟩))
  go_ret
  exact ⟨rfl, ((Below.refl _ _).alloc (Nat.le_refl _) _).trans (hb.mono (by simp))⟩

theorem gap_own (a b s : Int) (w : World) :
    Calls Try.prog 10 #[.agg #[.int .i64 a, .int .i64 b, .int .i64 s]] w fun e w' => e = .returned (.bool (gapB a b s)) ∧ Below w.heap.size w w' := by
  unfold gapB
  have hal : ∀ o : Obj, Below w.heap.size w (w.alloc o) := fun o => (Below.refl _ _).alloc (Nat.le_refl _) o
  cases h1 : inB a (-1099511627776) 1099511627776 <;> cases h2 : inB b (-1099511627776) 1099511627776 <;> by_cases h3 : a < b <;> cases h4 : inB s 0 30
  all_goals
    go_enter Try.func10, Try.ntmps10
    go_wp2_with (first | (go_at_call 26; refine (in_own _ _ _ _).mono ?_; rintro e w' ⟨rfl, rfl⟩))
    go_ret
    exact ⟨by simp [h3], hal _⟩

theorem toGap_any (a b s : Int) (w : World) :
    Calls Try.prog 9 #[.agg #[.int .i64 a, .int .i64 b, .int .i64 s]] w fun e w' => e = .returned (.agg #[.int .i64 a, .int .i64 b, .int .i64 s]) ∧ Below w.heap.size w w' := by
  go_enter Try.func9, Try.ntmps9
  go_wp2
  exact bodyPost_ret (v := .agg #[.int .i64 a, .int .i64 b, .int .i64 s]) (by simp [results, Try.results9, go_sem]) rfl ⟨rfl, ((((Below.refl _ _).alloc (Nat.le_refl _) _).alloc (by simp) _).alloc (by simp; omega) _)⟩

set_option maxHeartbeats 400000 in
theorem walkValidGap (a b s : Int) (w : World) (_ha : -9223372036854775808 ≤ a ∧ a ≤ 9223372036854775807) (_hb : -9223372036854775808 ≤ b ∧ b ≤ 9223372036854775807) (_hs : -9223372036854775808 ≤ s ∧ s ≤ 9223372036854775807) :
    Calls Try.prog 3 #[.agg #[.int .i64 a, .int .i64 b, .int .i64 s]] w fun e w' => e = .returned (.bool true) ∧ Below w.heap.size w w' := by
  have a0 : ∀ t, (w.alloc (.cells #[.int .i64 a, .int .i64 b, .int .i64 s] t)).cell? ⟨w.heap.size, 0, none⟩ = some (.int .i64 a) := by simp
  have b0 : ∀ t, (w.alloc (.cells #[.int .i64 a, .int .i64 b, .int .i64 s] t)).cell? ⟨w.heap.size, 1, none⟩ = some (.int .i64 b) := by simp
  have c0 : ∀ t, (w.alloc (.cells #[.int .i64 a, .int .i64 b, .int .i64 s] t)).cell? ⟨w.heap.size, 2, none⟩ = some (.int .i64 s) := by simp
  have hbw : ∀ o : Obj, Below w.heap.size w (w.alloc o) := fun o => (Below.refl _ _).alloc (Nat.le_refl _) o
  go_enter Try.func3, Try.ntmps3
  go_wp2_with fail
  refine (toGap_any a b s _).mono ?_
  rintro e w1 ⟨rfl, hb1⟩
  have a1 := cell_later hb1 (a0 _); have b1 := cell_later hb1 (b0 _); have c1 := cell_later hb1 (c0 _)
  have hbw1 := (hbw _).trans (hb1.mono (by simp))
  clear a0 b0 c0 hbw hb1
  go_wp2_with fail
  refine (gap_spec a b s _).mono ?_
  rintro e w2 ⟨rfl, hb2⟩
  have a2 := cell_later hb2 a1; have b2 := cell_later hb2 b1; have c2 := cell_later hb2 c1
  have hbw2 := hbw1.trans (hb2.mono hbw1.size)
  clear a1 b1 c1 hb2 hbw1
  go_wp2_with fail
  refine (toGap_any a b s _).mono ?_
  rintro e w3 ⟨rfl, hb3⟩
  have hbw3 := hbw2.trans (hb3.mono hbw2.size)
  clear a2 b2 c2 hb3 hbw2
  go_wp2_with fail
  refine (gap_own a b s _).mono ?_
  rintro e w4 ⟨rfl, hb4⟩
  have hbw4 := hbw3.trans (hb4.mono hbw3.size)
  clear hb4 hbw3
  generalize gapB a b s = r
  cases r
  all_goals
    go_wp2_with fail
    go_ret
    exact ⟨rfl, hbw4⟩
end Go.Proofs.Ytbapdhpffglieaa
