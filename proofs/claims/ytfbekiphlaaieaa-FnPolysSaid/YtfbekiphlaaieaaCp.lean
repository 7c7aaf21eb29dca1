/- Contracts about lists of complex numbers: allFinite, ValidPoly, finite, checked, nested, PolyAt. Condition: the words stand for numbers; the polynomial is valid. -/
import Derived.Test.YtfbekiphlaaieaaCs
import Derived.Deep.QuietTactic
import Derived.BigQuiet
namespace Go.Proofs.Ytfbekiphlaaieaa
open Go.RowKit

def isZ (x : Nat × Nat) : Bool := (FloatKind.f32.format.order x.1 0 == some .eq) && (FloatKind.f32.format.order x.2 0 == some .eq)
def AllNum (xs : List (Nat × Nat)) : Prop := ∀ j, j < xs.length → NumC (xs.getD j (0, 0))
structure Valid (xs : List (Nat × Nat)) : Prop where
  one : 1 ≤ xs.length
  most : xs.length ≤ 17
  nums : AllNum xs
  last : xs.length = 1 ∨ isZ (xs.getD (xs.length - 1) (0, 0)) = false
theorem CRd.in_' {w w' : World} {A : Option Addr} {n c : Nat} {xs : List (Nat × Nat)} (h : CRd w w.heap.size A n c xs) (hb : Below w.heap.size w w') : CRd w' w'.heap.size A n c xs := (h.below hb).more hb.size

theorem notFiniteC_no (x : Nat × Nat) (h : NumC x) : SaysNo 80 (cx x) := by
  intro w
  unfold cx
  go_enter Try.func80, Try.ntmps80
  go_wp2_with (go_at_call 81; refine (isFiniteC_any x _ h).mono ?_; rintro e w' ⟨rfl, b⟩)
  go_ret
  exact ⟨rfl, b⟩
theorem notFiniteC_enters : ∀ args w, (callFunc 80 args).run Try.prog w = .ok (.enter 80 args) w := enters_of Try.func80 (by kernel_rfl) rfl
theorem allFinite_any (A : Option Addr) (n c : Nat) (xs : List (Nat × Nat)) (w : World) (h : CRd w w.heap.size A n c xs) (hn : AllNum xs) :
    Calls Try.prog 47 #[.slice A n c] w fun e w' => e = .returned (.bool true) ∧ Below w.heap.size w w' := by
  have HN := Lib.hid (fun j (hj : j < n) => notFiniteC_no (xs.getD j (0, 0)) (hn j (by rw [h.len]; exact hj)))
  clear hn
  go_enter Try.func47, Try.ntmps47
  go_wp2_with (go_at_call 79; refine (containsC_none _ notFiniteC_enters A n c _ _ HN.out h.srd).mono ?_; rintro e w' ⟨rfl, b⟩)
  go_ret
  exact ⟨rfl, b⟩
theorem finite_any (x : Nat × Nat) (w : World) (h : NumC x) :
    Calls Try.prog 54 #[.complex .f32 x.1 x.2] w fun e w' => e = .returned (.tuple #[.complex .f32 x.1 x.2, .bool true]) ∧ Below w.heap.size w w' := by
  have HH := Lib.hid h
  clear h
  go_enter Try.func54, Try.ntmps54
  go_wp2_with (go_at_call 81; refine (isFiniteC_any x _ HH.out).mono ?_; rintro e w' ⟨rfl, b⟩)
  exact bodyPost_ret (v := .tuple #[.complex .f32 x.1 x.2, .bool true]) (by simp [results, Try.results54, go_sem]) rfl ⟨rfl, b⟩
theorem checked_any (x : Nat) (w : World) (h : Num .f32 x) :
    Calls Try.prog 53 #[.float .f32 x] w fun e w' => e = .returned (.tuple #[.float .f32 x, .bool true]) ∧ w = w' := by
  have HH := Lib.hid h
  clear h
  go_enter Try.func53, Try.ntmps53
  go_wp2_with (go_at_call 76; refine (isFinite_any x _ HH.out).mono ?_; rintro e w' ⟨rfl, rfl⟩)
  exact bodyPost_ret (v := .tuple #[.float .f32 x, .bool true]) (by simp [results, Try.results53, go_sem]) rfl ⟨rfl, rfl⟩

set_option maxHeartbeats 1000000 in
theorem valid_any (A : Option Addr) (n c : Nat) (xs : List (Nat × Nat)) (w : World) (h : CRd w w.heap.size A n c xs) (hv : Valid xs) :
    Calls Try.prog 52 #[.agg #[.slice A n c]] w fun e w' => e = .returned (.bool true) ∧ Below w.heap.size w w' := by
  obtain ⟨v1, v2, v3, v4⟩ := hv
  rw [h.len] at v1 v2 v4
  have HN := Lib.hid v3
  have HR := Lib.hid h
  have hz1 : (1 : Int) ≤ (n : Int) := by omega
  have hz2 : (n : Int) ≤ 17 := by omega
  obtain ⟨b, o, rfl, hbl, hc⟩ := h.at_ (by omega)
  have hl := hc (n - 1) (by omega)
  have hlA : ∀ w1, Below w.heap.size w w1 → w1.cell? ⟨b, o + (n - 1), none⟩ = some (cx (xs.getD (n - 1) (0, 0))) := fun w1 hb => (hb.cell hbl).trans hl
  have HL := Lib.hid hlA
  clear v3 h hc hl hlA
  by_cases hn1 : n = 1
  · subst hn1
    clear v4 HL
    go_enter Try.func52, Try.ntmps52
    go_wp2_with (go_at_call 47; refine (allFinite_any _ _ c xs _ (HR.out.in_' (al1 w _)) HN.out).mono ?_; rintro e w' ⟨rfl, b1⟩; have B1 := bthen (al1 w _) b1; clear b1)
    go_ret
    exact ⟨rfl, B1⟩
  · have v5 := v4.resolve_left hn1
    have hne : ((n : Int) == 1) = false := by simp; omega
    clear v4
    unfold isZ at v5
    unfold cx at HL
    generalize xs.getD (n - 1) (0, 0) = y at v5 HL
    go_enter Try.func52, Try.ntmps52
    go_wp2_with (go_at_call 47; refine (allFinite_any _ _ c xs _ (HR.out.in_' (al1 w _)) HN.out).mono ?_; rintro e w' ⟨rfl, b1⟩; have cb := cell_kept (v := .slice (some ⟨b, o, none⟩) n c) (b := w.heap.size) (o := 0) b1 (by simp [go_sem]); have B1 := bthen (al1 w _) b1; have cl := HL.out _ B1; clear b1)
    go_ret
    exact ⟨rfl, B1⟩

/-- 'nested': vs k is the value behind the k-th step from below, ms k the product in it. -/
structure Horner (xs : List (Nat × Nat)) (z : Nat × Nat) (vs ms : Nat → Nat × Nat) : Prop where
  top : vs (xs.length - 1) = xs.getD (xs.length - 1) (0, 0)
  mul : ∀ k, k + 1 < xs.length → MulW (vs (k + 1)) z (ms k)
  add : ∀ k, k + 1 < xs.length → PlusW (ms k) (xs.getD k (0, 0)) (vs k)

set_option maxHeartbeats 1000000 in
theorem nested_any (A : Option Addr) (n c : Nat) (xs : List (Nat × Nat)) (z : Nat × Nat) (vs ms : Nat → Nat × Nat) (w : World) (h : CRd w w.heap.size A n c xs) (hn : 1 ≤ n) (hH : Horner xs z vs ms) :
    Calls Try.prog 55 #[.slice A n c, .complex .f32 z.1 z.2] w fun e w' => e = .returned (.complex .f32 (vs 0).1 (vs 0).2) ∧ ∃ q, w' = w.drewN q := by
  obtain ⟨t1, t2, t3⟩ := hH
  rw [h.len] at t1 t2 t3
  have hmax : n ≤ 9223372036854775807 := by have h1 := h.cap; have h2 := h.most; unfold maxLen at h2; omega
  have HM := Lib.hid t2
  have HA := Lib.hid t3
  obtain ⟨b, o, rfl, hbl, hc⟩ := h.at_ (by omega)
  have hl := hc (n - 1) (by omega)
  rw [← t1] at hl
  unfold cx at hl
  have HC := Lib.hid hc
  clear t1 t2 t3 h hc
  have hz1 : (0 : Int) ≤ (n : Int) - 1 := by omega
  have hz2 : (n : Int) - 1 < (n : Int) := by omega
  have hj : (n : Int) - 1 = ((n - 1 : Nat) : Int) := by omega
  go_enter Try.func55, Try.ntmps55
  go_wp2
  go_loopg [6, 7] n (fun g s6 s7 wr => ∃ k q : Nat, k < n ∧ k ≤ g ∧ s7 = .int .i64 ((k : Int) - 1) ∧ s6 = .complex .f32 (vs k).1 (vs k).2 ∧ wr = w.drewN q)
  case atStart => exact ⟨n - 1, 0, by omega, by omega, by go_num, rfl, rfl⟩
  case round =>
    obtain ⟨k, q, hk, hg, rfl, rfl, hwr⟩ := hrel
    have hcell : ∀ a, wr.cell? a = w.cell? a := by intro a; rw [hwr]; rfl
    have HW := Lib.hid hwr
    clear hwr hl
    by_cases h0 : k = 0
    · subst h0
      have hneg : ¬ (0 : Int) ≤ ((0 : Nat) : Int) - 1 := by omega
      go_wp2
      go_ret
      exact ⟨rfl, q, HW.out⟩
    · obtain ⟨m, rfl⟩ : ∃ m, k = m + 1 := ⟨k - 1, by omega⟩
      have hpos : (0 : Int) ≤ ((m + 1 : Nat) : Int) - 1 := by omega
      have hlt : ((m + 1 : Nat) : Int) - 1 < (n : Int) := by omega
      have hcm := (hcell _).trans (HC.out m (by omega))
      have HM' := Lib.hid (fun W => mul_any (vs (m + 1)) z (ms m) W (HM.out m (by omega)))
      have HA' := Lib.hid (fun W => plus_any (ms m) (xs.getD m (0, 0)) (vs m) W (HA.out m (by omega)))
      unfold cx at hcm
      generalize xs.getD m (0, 0) = y at hcm HA'
      have hidx : ((m + 1 : Nat) : Int) - 1 = (m : Int) := by omega
      rw [hidx] at hpos hlt ⊢
      clear hcell
      go_wp2
      go_quiet (first
        | (go_at_call 50; exact Calls.quiet_of_same ((HM'.out _).mono (fun _ _ h => ⟨h.1, h.2.symm⟩)))
        | (go_at_call 56; exact Calls.quiet_of_same ((HA'.out _).mono (fun _ _ h => ⟨h.1, h.2.symm⟩))))
      go_wp2
      go_roundg m
      case measure => omega
      case rel => exact ⟨m, q + nq, by omega, by omega, by go_num, rfl, by rw [HW.out, World.drewN_drewN]⟩
end Go.Proofs.Ytfbekiphlaaieaa
