/- Contracts of PolyAt and of the laws' helpers on sizes: r8Long64, r8Gap, r8Far. Condition: nothing is left open by the words. -/
import Derived.Test.YtfbekiphlaaieaaCp
namespace Go.Proofs.Ytfbekiphlaaieaa
open Go.RowKit

set_option maxHeartbeats 1000000 in
theorem polyAt_any (A : Option Addr) (n c : Nat) (xs : List (Nat × Nat)) (z : Nat × Nat) (vs ms : Nat → Nat × Nat) (w : World) (h : CRd w w.heap.size A n c xs) (hv : Valid xs) (hz : NumC z) (hH : Horner xs z vs ms) (h0 : NumC (vs 0)) :
    Calls Try.prog 11 #[.agg #[.slice A n c], .complex .f32 z.1 z.2] w fun e w' => e = .returned (.tuple #[.complex .f32 (vs 0).1 (vs 0).2, .bool true]) ∧ Below w.heap.size w w' := by
  have HR := Lib.hid h
  have hn : 1 ≤ n := by have := hv.one; rwa [h.len] at this
  have HV := Lib.hid hv
  have HZ := Lib.hid hz
  have HH := Lib.hid hH
  have H0 := Lib.hid h0
  have kp : ∀ t u t', ((w.alloc (.cells #[.slice A n c] t)).alloc (.cells #[u] t')).cell? ⟨w.heap.size, 0, none⟩ = some (.slice A n c) := by intros; simp [go_sem]
  clear h hv hz hH h0
  go_enter Try.func11, Try.ntmps11
  go_wp2_with fail
  refine (valid_any A n c xs _ (HR.out.in_' (al1 w _)) HV.out).mono ?_
  rintro e w1 ⟨rfl, b1⟩
  have k1 := cell_kept (b := w.heap.size) (o := 0) (v := .slice A n c) b1 (by simp [go_sem])
  have l1 := World.block_lt_of_cell? _ _ k1
  have B1 := Lib.hid (bthen (al1 w _) b1)
  clear b1 kp
  go_wp2_with fail
  refine (allFinite_any (some ⟨w1.heap.size, 0, none⟩) 1 1 [z] _ (crd_lit w1 [z] 34 1 rfl (by simp [maxLen])) ?_).mono ?_
  · intro j hj
    have : j = 0 := by simp at hj; omega
    subst this
    exact HZ.out
  rintro e w2 ⟨rfl, b2⟩
  have k2 := cell_kept (b := w.heap.size) (o := 0) (v := .slice A n c) (bthen (al1 w1 _) b2) k1
  have B2 := Lib.hid (bthen B1.out (bthen (al1 w1 _) b2))
  clear k1 l1 b2 B1
  go_wp2_with fail
  refine (nested_any A n c xs z vs ms _ (HR.out.in_' B2.out) hn HH.out).mono ?_
  rintro e w3 ⟨rfl, q, rfl⟩
  go_wp2_with fail
  refine (finite_any (vs 0) _ H0.out).mono ?_
  rintro e w4 ⟨rfl, b4⟩
  have B4 := Lib.hid (bthen (drewN_below B2.out q) b4)
  clear b4 k2 B2
  go_wp2_with fail
  exact bodyPost_ret (v := .tuple #[.complex .f32 (vs 0).1 (vs 0).2, .bool true]) (by simp [results, Try.results11, go_sem]) rfl ⟨rfl, B4.out⟩

theorem run_max {k : FloatKind} {x y : Nat} (ts : Array TypeId) (t : TypeId) (hx : Num k x) (hy : Num k y) : ∀ w, (Builtin.max_ ts t #[.float k x, .float k y]).run Try.prog w = .ok (.float k (maxW k x y)) w := by
  intro w
  obtain ⟨a, ha⟩ := hx
  obtain ⟨b, hb⟩ := hy
  have ho := order_val ha hb
  unfold maxW
  have e : Builtin.max_ ts t #[.float k x, .float k y] = Builtin.max2 (.float k x) (.float k y) := by
    unfold Builtin.max_
    simp
  rw [e]
  unfold Builtin.max2
  by_cases h1 : a < b
  · rw [if_pos h1] at ho
    simp [ho]
  · rw [if_neg h1] at ho
    by_cases h2 : a = b
    · rw [if_pos h2] at ho
      simp [ho]
    · rw [if_neg h2] at ho
      simp [ho]
theorem run_min {k : FloatKind} {x y : Nat} (ts : Array TypeId) (t : TypeId) (hx : Num k x) (hy : Num k y) : ∀ w, (Builtin.min_ ts t #[.float k x, .float k y]).run Try.prog w = .ok (.float k (minW k x y)) w := by
  intro w
  obtain ⟨a, ha⟩ := hx
  obtain ⟨b, hb⟩ := hy
  have ho := order_val ha hb
  unfold minW
  have e : Builtin.min_ ts t #[.float k x, .float k y] = Builtin.min2 (.float k x) (.float k y) := by
    unfold Builtin.min_
    simp
  rw [e]
  unfold Builtin.min2
  by_cases h1 : a < b
  · rw [if_pos h1] at ho
    simp [ho]
  · rw [if_neg h1] at ho
    by_cases h2 : a = b
    · rw [if_pos h2] at ho
      simp [ho]
    · rw [if_neg h2] at ho
      simp [ho]
theorem run_neg {k : FloatKind} (x : Nat) : ∀ w, (Op.unary .neg (.float k x)).run Try.prog w = .ok (.float k (Op.negFloat k x)) w := fun _ => rfl
/-- 'r8Long64' -/
def Long1W (x : Nat × Nat) (r : Nat) : Prop := NumC x ∧ floatBits .add .f32 (maxW .f32 x.1 (Op.negFloat .f32 x.1)) (maxW .f32 x.2 (Op.negFloat .f32 x.2)) = some r
theorem num_neg {k : FloatKind} {x : Nat} (h : Num k x) : Num k (Op.negFloat k x) := by
  obtain ⟨q, hq⟩ := h
  exact ⟨_, V_neg hq⟩
theorem long1_any (x : Nat × Nat) (r : Nat) (w : World) (h : Long1W x r) :
    Calls Try.prog 40 #[.complex .f32 x.1 x.2] w fun e w' => e = .returned (.float .f32 r) ∧ w = w' := by
  obtain ⟨⟨n1, n2⟩, h1⟩ := h
  have e1 := run_max #[31, 31] 31 n1 (num_neg n1)
  have e2 := run_max #[31, 31] 31 n2 (num_neg n2)
  have e3 := runOp 31 h1
  have e4 := run_neg (k := .f32) x.1
  have e5 := run_neg (k := .f32) x.2
  clear h1 n1 n2
  go_enter Try.func40, Try.ntmps40
  go_wp2_with (first | rw [e1] | rw [e2] | rw [e3] | rw [e4] | rw [e5])
  go_ret
  exact ⟨rfl, rfl⟩
/-- 'r8Gap' -/
def GapW (a b r : Nat) : Prop := ∃ d d', floatBits .sub .f64 a b = some d ∧ floatBits .sub .f64 b a = some d' ∧ Num .f64 d ∧ Num .f64 d' ∧ r = maxW .f64 d d'
theorem gap_any (a b r : Nat) (w : World) (h : GapW a b r) :
    Calls Try.prog 57 #[.float .f64 a, .float .f64 b] w fun e w' => e = .returned (.float .f64 r) ∧ w = w' := by
  obtain ⟨d, d', h1, h2, n1, n2, rfl⟩ := h
  have e1 := runOp 35 h1
  have e2 := runOp 35 h2
  have e3 := run_max #[35, 35] 35 n1 n2
  clear h1 h2 n1 n2
  go_enter Try.func57, Try.ntmps57
  go_wp2_with (first | rw [e1] | rw [e2] | rw [e3])
  go_ret
  exact ⟨rfl, rfl⟩
/-- 'r8Far' -/
def FarW (x y : Nat × Nat) (r : Nat) : Prop := ∃ a b c d g g', cv64 x.1 = some a ∧ cv64 y.1 = some b ∧ cv64 x.2 = some c ∧ cv64 y.2 = some d ∧ GapW a b g ∧ GapW c d g' ∧ floatBits .add .f64 g g' = some r
theorem far_any (x y : Nat × Nat) (r : Nat) (w : World) (h : FarW x y r) :
    Calls Try.prog 14 #[.complex .f32 x.1 x.2, .complex .f32 y.1 y.2] w fun e w' => e = .returned (.float .f64 r) ∧ w = w' := by
  obtain ⟨a, b, c, d, g, g', h1, h2, h3, h4, hg, hg', h5⟩ := h
  have e1 := run64 h1
  have e2 := run64 h2
  have e3 := run64 h3
  have e4 := run64 h4
  have e5 := runOp 35 h5
  have G1 := Lib.hid (fun W => gap_any a b g W hg)
  have G2 := Lib.hid (fun W => gap_any c d g' W hg')
  clear h1 h2 h3 h4 h5 hg hg'
  go_enter Try.func14, Try.ntmps14
  go_wp2_with (first | (go_at_call_of 57 (Value.float .f64 a); refine (G1.out _).mono ?_; rintro e w' ⟨rfl, rfl⟩) | (go_at_call_of 57 (Value.float .f64 c); refine (G2.out _).mono ?_; rintro e w' ⟨rfl, rfl⟩) | rw [e1] | rw [e2] | rw [e3] | rw [e4] | rw [e5])
  go_ret
  exact ⟨rfl, rfl⟩
end Go.Proofs.Ytfbekiphlaaieaa
