/- Contracts of the law's helpers on a struct of one slice: a copy, the comparison, its size. Condition: at most 1048576 terms where a copy is made. -/
import Derived.Test.YtlfjnpioamcbhaaMem
namespace Go.Proofs.Ytlfjnpioamcbhaa
open Go.RowKit

set_option maxHeartbeats 400000 in
theorem toReal_any (A : Option Addr) (n c : Nat) (xs : List Int) (w : World) (h : Rd w w.heap.size A n c xs) (hn : n ≤ 1048576) :
    Calls Try.prog 10 #[.agg #[.slice A n c]] w fun e w' => ∃ A' c', e = .returned (.agg #[.slice A' n c']) ∧ Mine w' w.heap.size A' n c' xs ∧ Below w.heap.size w w' := by
  go_enter Try.func10, Try.ntmps10
  go_wp2_with fail
  refine (toInts A n c xs _ (h.in_ (al3 w _ _ _)) hn).mono ?_
  rintro e w1 ⟨A', c', rfl, ho, hb⟩
  have k3 := cell_kept (b := w.heap.size + 1 + 1) (o := 0) (v := .slice none 0 0) hb (by simp [go_sem])
  have f3 := frozen_kept (b := w.heap.size + 1 + 1) (o := 0) hb (by simp [go_sem]) (by simp [go_sem])
  have k2 := cell_kept (b := w.heap.size + 1) (o := 0) (v := .slice none 0 0) hb (by simp [go_sem])
  have f2 := frozen_kept (b := w.heap.size + 1) (o := 0) hb (by simp [go_sem]) (by simp [go_sem])
  have HB := Lib.hid (bthen (al3 w _ _ _) hb)
  have HO := Lib.hid ho
  clear ho hb h
  go_wp2
  refine bodyPost_ret (v := .agg #[.slice A' n c']) (by simp [results, Try.results10, go_sem, k2]) rfl ⟨A', c', rfl, ?_, ?_⟩
  · exact (((HO.out).set_ (by simp) _).set_ (by simp) _).low (by simp; omega)
  · exact ((HB.out).setCell (by simp; omega) _).setCell (by simp) _

theorem szReal_any (A : Option Addr) (n c : Nat) (left : Int) (w : World) (hn : n ≤ 9223372036854775807) (h0 : 0 ≤ left) (h1 : left ≤ 1048576) :
    Calls Try.prog 8 #[.agg #[.slice A n c], .int .i64 left] w fun e w' => e = .returned (.int .i64 (if left < n then -1 else left - n)) ∧ Below w.heap.size w w' := by
  have hs := szInts A n c left
  by_cases h : left < n
  · rw [if_pos h] at hs ⊢
    go_enter Try.func8, Try.ntmps8
    go_wp2_with (go_at_call 33; refine (hs _ hn h0 h1).mono ?_; rintro e w' ⟨rfl, rfl⟩)
    go_ret
    exact ⟨rfl, al1 w _⟩
  · rw [if_neg h] at hs ⊢
    go_enter Try.func8, Try.ntmps8
    go_wp2_with (go_at_call 33; refine (hs _ hn h0 h1).mono ?_; rintro e w' ⟨rfl, rfl⟩)
    go_ret
    exact ⟨rfl, al1 w _⟩

theorem eqReal_any (A : Option Addr) (n c : Nat) (xs : List Int) (A' : Option Addr) (m c' : Nat) (ys : List Int) (w : World) (h : Rd w w.heap.size A n c xs) (h' : Rd w w.heap.size A' m c' ys) :
    Calls Try.prog 13 #[.agg #[.slice A n c], .agg #[.slice A' m c']] w fun e w' => e = .returned (.bool (decide (xs = ys))) ∧ Below w.heap.size w w' := by
  have hs := eqInts A n c xs A' m c' ys
  generalize hr : decide (xs = ys) = r at hs ⊢
  clear hr
  cases r
  all_goals
    go_enter Try.func13, Try.ntmps13
    go_wp2_with (go_at_call 21; refine (hs _ (h.in_ (al2 w _ _)) (h'.in_ (al2 w _ _))).mono ?_; rintro e w' ⟨rfl, q, rfl⟩)
    go_ret
    exact ⟨rfl, drewN_below (al2 w _ _) q⟩

theorem szReal_big (A : Option Addr) (n c : Nat) (left : Int) (w : World) (hn : n ≤ 9223372036854775807) (h0 : 0 ≤ left) (h1 : left ≤ 1048576) (h : left < n) :
    Calls Try.prog 8 #[.agg #[.slice A n c], .int .i64 left] w fun e w' => e = .returned (.int .i64 (-1)) ∧ Below w.heap.size w w' := by
  have hs := szReal_any A n c left w hn h0 h1
  rwa [if_pos h] at hs
theorem szReal_fits (A : Option Addr) (n c : Nat) (left : Int) (w : World) (hn : n ≤ 9223372036854775807) (h0 : 0 ≤ left) (h1 : left ≤ 1048576) (h : (n : Int) ≤ left) :
    Calls Try.prog 8 #[.agg #[.slice A n c], .int .i64 left] w fun e w' => e = .returned (.int .i64 (left - n)) ∧ Below w.heap.size w w' := by
  have hs := szReal_any A n c left w hn h0 h1
  rwa [if_neg (by omega)] at hs
end Go.Proofs.Ytlfjnpioamcbhaa
