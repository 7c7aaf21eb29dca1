/- Contracts of the law's helpers on slices of complex numbers: the comparison of two, marks laid and read again. Condition: the numbers compared are whole ones from -1000 to 1000; marks go to 100. -/
import Derived.Test.YtlfjnpioamcbhaaCNum
import Derived.Deep.QuietTactic
import Derived.BigQuiet
namespace Go.Proofs.Ytlfjnpioamcbhaa
open Go.RowKit

set_option maxHeartbeats 1000000 in
theorem sameF (b : Nat) (w : World) (h1 : (FloatKind.f64.format.order b b == some .eq) = true) (h2 : b = 0 ∨ (FloatKind.f64.format.order b 0 == some .eq) = false) :
    Calls Try.prog 78 #[.float .f64 b, .float .f64 b] w fun e w' => e = .returned (.bool true) ∧ w = w' := by
  have hne : (FloatKind.f64.format.order b b != some .eq) = false := by simp only [bne, h1, Bool.not_true]
  have hq : ∀ w, (binOp .quo 86 (.float .f64 4607182418800017408) (.float .f64 0)).run Try.prog w = .ok (.float .f64 9218868437227405312) w := fun w => run_float_arith w .quo 86 .f64 _ _ _ quo_one_zero
  by_cases hz : b = 0
  · subst hz
    go_enter Try.func78, Try.ntmps78
    go_wp2_with (simp only [hq])
    all_goals
      go_ret
      exact ⟨by simp, rfl⟩
  · have h3 := h2.resolve_left hz
    clear h2 hz
    go_enter Try.func78, Try.ntmps78
    go_wp2
    go_ret
    exact ⟨by simp, rfl⟩

theorem sameC (a b : Nat) (w : World) (h1 : (FloatKind.f64.format.order a a == some .eq) = true) (h2 : a = 0 ∨ (FloatKind.f64.format.order a 0 == some .eq) = false) (g1 : (FloatKind.f64.format.order b b == some .eq) = true) (g2 : b = 0 ∨ (FloatKind.f64.format.order b 0 == some .eq) = false) :
    Calls Try.prog 62 #[.complex .f64 a b, .complex .f64 a b] w fun e w' => e = .returned (.bool true) ∧ w = w' := by
  have ha := fun W => sameF a W h1 h2
  have hb := fun W => sameF b W g1 g2
  go_enter Try.func62, Try.ntmps62
  go_wp2_with (first
    | (go_at_call_of 78 (Value.float .f64 a); refine (ha _).mono ?_; rintro e w' ⟨rfl, rfl⟩)
    | (go_at_call_of 78 (Value.float .f64 b); refine (hb _).mono ?_; rintro e w' ⟨rfl, rfl⟩))
  go_ret
  exact ⟨rfl, rfl⟩

theorem zero_eq : (FloatKind.f64.format.order 0 0 == some .eq) = true := by decide +kernel

theorem pts_getD (xs : List Int) (j : Nat) (h : j < xs.length) : (xs.map pt).getD j (0, 0) = pt (xs.getD j 0) := by
  simp [List.getD, h]

set_option maxHeartbeats 1000000 in
theorem eqC (A : Option Addr) (n c : Nat) (A' : Option Addr) (m c' : Nat) (xs : List Int) (w : World) (h : CRd w w.heap.size A n c (xs.map pt)) (h' : CRd w w.heap.size A' m c' (xs.map pt)) (hx : ∀ j, j < xs.length → -1000 ≤ xs.getD j 0 ∧ xs.getD j 0 ≤ 1000) :
    Calls Try.prog 37 #[.slice A n c, .slice A' m c'] w fun e w' => e = .returned (.bool true) ∧ ∃ q, w' = w.drewN q := by
  have hl : xs.length = n := by have := h.len; rwa [List.length_map] at this
  have hl' : xs.length = m := by have := h'.len; rwa [List.length_map] at this
  have hnm : n = m := hl.symm.trans hl'
  subst hnm
  have hlen := Lib.hid hl
  have hbd := Lib.hid hx
  have hmax : n ≤ 9223372036854775807 := by have h1 := h.cap; have h2 := h.most; unfold maxLen at h2; omega
  clear hl hl' hx
  go_enter Try.func37, Try.ntmps37
  go_wp2
  go_loopg [5] n (fun g i wr => ∃ k q : Nat, k ≤ n ∧ n - k ≤ g ∧ i = .int .i64 k ∧ wr = w.drewN q)
  case atStart => exact ⟨0, 0, Nat.zero_le _, by omega, rfl, rfl⟩
  case round =>
    obtain ⟨k, q, hk, hg, rfl, hwr⟩ := hrel
    have hcell : ∀ a, wr.cell? a = w.cell? a := by intro a; rw [hwr]; rfl
    by_cases hlt : k < n
    · have hltz : (k : Int) < (n : Int) := by omega
      obtain ⟨b, o, rfl, hbl, hc⟩ := h.at_ (by omega)
      obtain ⟨b', o', rfl, hbl', hc'⟩ := h'.at_ (by omega)
      have hx := (hcell _).trans (hc k hlt)
      have hy := (hcell _).trans (hc' k hlt)
      have HW := Lib.hid hwr
      clear hcell hwr
      have hb1 := hbd.out k (by rw [hlen.out]; exact hlt)
      rw [pts_getD xs k (by rw [hlen.out]; exact hlt)] at hx hy
      clear hc hc' h h'
      generalize xs.getD k 0 = x at hx hy hb1
      have hcv := pt_conv x hb1.1 hb1.2
      have hgd := goodN_all x hb1.1 hb1.2
      have hcc : ∀ w, (convert 57 85 (.complex .f32 (floatOfInt .f32 x) 0)).run Try.prog w = .ok (.complex .f64 (up64 x) 0) w := fun w => run_convert_complex w 57 85 .f32 .f64 _ _ _ _ (by rw [Try.underlying57]; rfl) Try.underlying85 hcv
      have hsm := Lib.hid (fun W => sameC (up64 x) 0 W hgd.2.1 hgd.2.2 zero_eq (.inl rfl))
      unfold cx pt at hx hy
      simp only at hx hy
      clear hcv hgd hb1
      go_wp2
      go_quiet (first | (simp only [hcc]; done) | (go_at_call 62; exact Calls.quiet_of_same ((hsm.out _).mono (fun _ _ h => ⟨h.1, h.2.symm⟩))))
      go_wp2
      go_roundg (n - (k + 1))
      case measure => omega
      case rel => exact ⟨k + 1, q + nq, by omega, by omega, by go_num, by rw [HW.out, World.drewN_drewN]⟩
    · have hltz : ¬ (k : Int) < (n : Int) := by omega
      have hkn : k = n := by omega
      subst hkn
      go_wp2
      go_ret
      exact ⟨rfl, _, rfl⟩

theorem mark_conv (k : Int) (h : 0 ≤ k) (h' : k ≤ 100) : ∀ w, (convert 85 57 (.complex .f64 (floatOfInt .f64 k) 4607182418800017408)).run Try.prog w = .ok (.complex .f32 (mk32 k) 1065353216) w := fun w =>
  run_convert_complex w 85 57 .f64 .f32 _ _ _ _ (by rw [Try.underlying85]; rfl) Try.underlying57 (goodK_all k h h').1
theorem mark_float (k : Int) : ∀ w, (convert 3 86 (.int .i64 k)).run Try.prog w = .ok (.float .f64 (floatOfInt .f64 k)) w := fun w =>
  run_convert_int_float w 3 86 .i64 .f64 k (by rw [Try.underlying3]; rfl) Try.underlying86

set_option maxHeartbeats 1000000 in
theorem markC (A : Option Addr) (n c : Nat) (xs : List (Nat × Nat)) (k0 : Int) (base : Nat) (w : World) (h : CMine w base A n c xs) (h0 : 0 ≤ k0) (h1 : k0 + n ≤ 100) :
    Calls Try.prog 38 #[.slice A n c, .int .i64 k0] w fun e w' => e = .returned (.int .i64 (k0 + n)) ∧ CMine w' base A n c (cmarks k0 n) ∧ w.grownBy w' (own1 A n) := by
  have hlen := Lib.hid h.len
  have hh := cmarked_zero xs k0
  have h00 : CMine w base A n c (cmarked xs k0 0) := by rw [hh]; exact h
  clear hh
  go_enter Try.func38, Try.ntmps38
  go_wp2
  go_loopg [1, 5] n (fun g s1 s5 wr => ∃ i : Nat, i ≤ n ∧ n - i ≤ g ∧ s5 = .int .i64 i ∧ s1 = .int .i64 (k0 + i) ∧ CMine wr base A n c (cmarked xs k0 i) ∧ w.grownBy wr (own1 A n))
  case atStart => exact ⟨0, Nat.zero_le _, by omega, rfl, by go_num, h00, World.grownBy.refl _ _⟩
  case round =>
    clear h00
    obtain ⟨i, hi, hg, rfl, rfl, ho, hb⟩ := hrel
    by_cases hlt : i < n
    · have hltz : (i : Int) < (n : Int) := by omega
      obtain ⟨gb, rfl, hbase, hsz⟩ := h.at_ (by omega)
      have hst := CMine.stored ho (by omega) i (mk32 (k0 + i), 1065353216)
      have hat := CMine.cell ho hlt
      have hfr := CMine.frozen ho (by omega) i
      rw [cmarked_set _ _ _ (by rw [hlen.out]; exact hlt)] at hst
      have e1 : own1 (some (⟨gb, 0, none⟩ : Addr)) n = some gb := by unfold own1; rw [if_neg (by omega)]; rfl
      have hc1 := mark_float (k0 + i)
      have hc2 := mark_conv (k0 + i) (by omega) (by omega)
      have hst1 := fun (w : World) (a : Addr) (m : Mode) => run_store Try.prog w a (.complex .f32 (mk32 (k0 + i)) 1065353216) m rfl
      have HS := Lib.hid hst.1
      have HB := Lib.hid (grown_trans hb (by rw [e1]; exact hst.2))
      clear hst hb ho h e1
      generalize (cmarked xs k0 i).getD i (0, 0) = z at hat
      unfold cx at hat
      unfold cx at HS HB
      simp only at HS HB
      go_wp2_with (first | simp only [hc1] | simp only [hc2])
      go_roundg (n - (i + 1))
      case measure => omega
      case rel => exact ⟨i + 1, by omega, by omega, by go_num, by go_num, HS.out, HB.out⟩
    · have hltz : ¬ (i : Int) < (n : Int) := by omega
      have hkn : i = n := by omega
      subst hkn
      have e : cmarked xs k0 i = cmarks k0 i := by
        have e1 := cmarked_all xs k0
        rwa [hlen.out] at e1
      rw [e] at ho
      clear e
      go_wp2
      go_ret
      exact ⟨rfl, ho, hb⟩

set_option maxHeartbeats 1000000 in
theorem heldC (A : Option Addr) (n c : Nat) (k0 : Int) (w : World) (h : CRd w w.heap.size A n c (cmarks k0 n)) (h0 : 0 ≤ k0) (h1 : k0 + n ≤ 100) :
    Calls Try.prog 39 #[.slice A n c, .int .i64 k0] w fun e w' => e = .returned (.int .i64 (k0 + n)) ∧ w = w' := by
  go_enter Try.func39, Try.ntmps39
  go_wp2
  go_loopg [1, 5] n (fun g s1 s5 wr => ∃ i : Nat, i ≤ n ∧ n - i ≤ g ∧ s5 = .int .i64 i ∧ s1 = .int .i64 (k0 + i) ∧ wr = w)
  case atStart => exact ⟨0, Nat.zero_le _, by omega, rfl, by go_num, rfl⟩
  case round =>
    obtain ⟨i, hi, hg, rfl, rfl, rfl⟩ := hrel
    by_cases hlt : i < n
    · have hltz : (i : Int) < (n : Int) := by omega
      obtain ⟨b, o, rfl, hbl, hc⟩ := h.at_ (by omega)
      have hx := hc i hlt
      rw [cmarks_getD _ _ _ hlt] at hx
      unfold cx at hx
      simp only at hx
      have hc1 := mark_float (k0 + i)
      have hc2 := mark_conv (k0 + i) (by omega) (by omega)
      have ho1 := (goodK_all (k0 + i) (by omega) (by omega)).2
      have ho2 := one_eq
      clear hc h
      go_wp2_with (first | simp only [hc1] | simp only [hc2])
      go_roundg (n - (i + 1))
      case measure => omega
      case rel => exact ⟨i + 1, by omega, by omega, by go_num, by go_num, rfl⟩
    · have hltz : ¬ (i : Int) < (n : Int) := by omega
      have hkn : i = n := by omega
      subst hkn
      go_wp2
      go_ret
      exact ⟨rfl, rfl⟩
end Go.Proofs.Ytlfjnpioamcbhaa
