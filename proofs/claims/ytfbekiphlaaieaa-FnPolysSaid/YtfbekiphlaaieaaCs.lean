/- Contracts of the small functions of complex numbers: times, MulComplex, plus, minus, power, Sqrt, LongOf, IsFinite. Condition: nothing is left open by the words. -/
import Derived.Test.YtfbekiphlaaieaaCw
import Derived.Test.YtfbekiphlaaieaaCFind
import Derived.Laws.Externs
namespace Go.Proofs.Ytfbekiphlaaieaa
open Go.RowKit

theorem run64 {x a : Nat} (h : cv64 x = some a) : ∀ w, (convert 31 35 (.float .f32 x)).run Try.prog w = .ok (.float .f64 a) w := fun w =>
  run_convert_float_float w 31 35 .f32 .f64 x a (by rw [Try.underlying31]; rfl) Try.underlying35 h
theorem run32 {x a : Nat} (h : cv32 x = some a) : ∀ w, (convert 35 31 (.float .f64 x)).run Try.prog w = .ok (.float .f32 a) w := fun w =>
  run_convert_float_float w 35 31 .f64 .f32 x a (by rw [Try.underlying35]; rfl) Try.underlying31 h
theorem runOp {op : BinOp} {k : FloatKind} {x y r : Nat} (t : TypeId) (h : floatBits op k x y = some r) : ∀ w, (binOp op t (.float k x) (.float k y)).run Try.prog w = .ok (.float k r) w := fun w =>
  run_float_arith w op t k x y r h

set_option maxHeartbeats 1000000 in
theorem times_any (x y : Nat × Nat) (p q : Nat) (w : World) (h : TimesW x y p q) :
    Calls Try.prog 82 #[.complex .f32 x.1 x.2, .complex .f32 y.1 y.2] w fun e w' => e = .returned (.tuple #[.float .f64 p, .float .f64 q]) ∧ w = w' := by
  obtain ⟨a, b, c, d, ac, bd, ad, bc, ha, hb, hc, hd, hac, hbd, had, hbc, hp, hq⟩ := h
  have e1 := run64 ha
  have e2 := run64 hb
  have e3 := run64 hc
  have e4 := run64 hd
  have e5 := runOp 35 hac
  have e6 := runOp 35 hbd
  have e7 := runOp 35 had
  have e8 := runOp 35 hbc
  have e9 := runOp 35 hp
  have e0 := runOp 35 hq
  clear ha hb hc hd hac hbd had hbc hp hq
  obtain ⟨x1, x2⟩ := x
  obtain ⟨y1, y2⟩ := y
  go_enter Try.func82, Try.ntmps82
  go_wp2_with (first | rw [e1] | rw [e2] | rw [e3] | rw [e4] | rw [e5] | rw [e6] | rw [e7] | rw [e8] | rw [e9] | rw [e0])
  exact bodyPost_ret (v := .tuple #[.float .f64 p, .float .f64 q]) (by simp [results, Try.results82, go_sem]) rfl ⟨rfl, rfl⟩

theorem mul_any (x y r : Nat × Nat) (w : World) (h : MulW x y r) :
    Calls Try.prog 50 #[.complex .f32 x.1 x.2, .complex .f32 y.1 y.2] w fun e w' => e = .returned (.complex .f32 r.1 r.2) ∧ w = w' := by
  obtain ⟨p, q, ⟨ht⟩, h1, h2⟩ := h
  have e1 := run32 h1
  have e2 := run32 h2
  have HT := Lib.hid (fun W => times_any x y p q W ht)
  clear h1 h2 ht
  go_enter Try.func50, Try.ntmps50
  go_wp2_with (first | (go_at_call 82; refine (HT.out _).mono ?_; rintro e w' ⟨rfl, rfl⟩) | rw [e1] | rw [e2])
  go_ret
  exact ⟨rfl, rfl⟩
theorem plus_any (x y r : Nat × Nat) (w : World) (h : PlusW x y r) :
    Calls Try.prog 56 #[.complex .f32 x.1 x.2, .complex .f32 y.1 y.2] w fun e w' => e = .returned (.complex .f32 r.1 r.2) ∧ w = w' := by
  have e1 := runOp 31 h.1
  have e2 := runOp 31 h.2
  clear h
  go_enter Try.func56, Try.ntmps56
  go_wp2_with (first | rw [e1] | rw [e2])
  go_ret
  exact ⟨rfl, rfl⟩
theorem minus_any (x y r : Nat × Nat) (w : World) (h : MinusW x y r) :
    Calls Try.prog 48 #[.complex .f32 x.1 x.2, .complex .f32 y.1 y.2] w fun e w' => e = .returned (.complex .f32 r.1 r.2) ∧ w = w' := by
  have e1 := runOp 31 h.1
  have e2 := runOp 31 h.2
  clear h
  go_enter Try.func48, Try.ntmps48
  go_wp2_with (first | rw [e1] | rw [e2])
  go_ret
  exact ⟨rfl, rfl⟩
theorem power_any (x : Nat × Nat) (r : Nat) (w : World) (h : PowerW x r) :
    Calls Try.prog 59 #[.complex .f32 x.1 x.2] w fun e w' => e = .returned (.float .f64 r) ∧ w = w' := by
  obtain ⟨a, b, aa, bb, ha, hb, haa, hbb, hr⟩ := h
  have e1 := run64 ha
  have e2 := run64 hb
  have e3 := runOp 35 haa
  have e4 := runOp 35 hbb
  have e5 := runOp 35 hr
  clear ha hb haa hbb hr
  go_enter Try.func59, Try.ntmps59
  go_wp2_with (first | rw [e1] | rw [e2] | rw [e3] | rw [e4] | rw [e5])
  go_ret
  exact ⟨rfl, rfl⟩

theorem run_sqrt (x r : Nat) (h : FloatKind.f64.format.sqrt x = some r) : ∀ w, (callFunc 85 #[.float .f64 x]).run Try.prog w = .ok (.value (.float .f64 r)) w := by
  intro w
  rw [run_callFunc_extern (e := Extern.MathSqrt.sqrt) Try.func85 (by kernel_rfl) (by kernel_rfl) (by kernel_rfl) (by kernel_rfl)]
  have e : (Extern.MathSqrt.sqrt #[.float .f64 x]).run Try.prog w = .ok (.float .f64 r) w := by
    change Sem.run Try.prog (match FloatKind.f64.format.sqrt x with
      | some r => (pure (Value.float .f64 r) : Sem Value)
      | none => do pure (Value.float .f64 (← choose (.nanBits .f64 x x)))) w = _
    rw [h]
    rfl
  rw [e]
  rfl
theorem sqrt_any (x r : Nat) (w : World) (h : FloatKind.f64.format.sqrt x = some r) :
    Calls Try.prog 58 #[.float .f64 x] w fun e w' => e = .returned (.float .f64 r) ∧ w = w' := by
  have e1 := run_sqrt x r h
  clear h
  go_enter Try.func58, Try.ntmps58
  go_wp2_with (rw [e1])
  go_ret
  exact ⟨rfl, rfl⟩
theorem long_any (x : Nat × Nat) (r : Nat) (w : World) (h : LongW x r) :
    Calls Try.prog 15 #[.complex .f32 x.1 x.2] w fun e w' => e = .returned (.float .f32 r) ∧ w = w' := by
  obtain ⟨p, s, hp, hs, hr⟩ := h
  have e1 := run32 hr
  have HP := Lib.hid (fun W => power_any x p W hp)
  have HS := Lib.hid (fun W => sqrt_any p s W hs)
  clear hp hs hr
  go_enter Try.func15, Try.ntmps15
  go_wp2_with (first | (go_at_call 59; refine (HP.out _).mono ?_; rintro e w' ⟨rfl, rfl⟩) | (go_at_call 58; refine (HS.out _).mono ?_; rintro e w' ⟨rfl, rfl⟩) | rw [e1])
  go_ret
  exact ⟨rfl, rfl⟩

theorem sub_self {x : Nat} (h : Num .f32 x) : ∃ r, floatBits .sub .f32 x x = some r ∧ (FloatKind.f32.format.order r 0 == some .eq) = true := by
  obtain ⟨q, hq⟩ := h
  have e0 : q - q = 0 := by grind
  have ez : ab 0 = 0 := by unfold ab; simp
  obtain ⟨r, q', h1, h2⟩ := op_sub hq hq (by rw [e0, ez, t60]; decide)
  refine ⟨r, h1, ?_⟩
  have h3 : q' = q - q := h2.exact_ 0 0 (by rw [e0, ez]; simp) (Rat.zpow_pos (by decide)) (by decide)
  have hz : V .f32 0 0 := V_zero .f32 false 0
  rw [order_val h2.val hz, h3, e0]
  decide
theorem isFinite_any (x : Nat) (w : World) (h : Num .f32 x) :
    Calls Try.prog 76 #[.float .f32 x] w fun e w' => e = .returned (.bool true) ∧ w = w' := by
  obtain ⟨r, h1, h2⟩ := sub_self h
  have e1 := runOp 31 h1
  clear h h1
  go_enter Try.func76, Try.ntmps76
  go_wp2_with (rw [e1])
  go_ret
  exact ⟨by simp, rfl⟩
theorem notFinite_no (x : Nat) (h : Num .f32 x) : SaysNo 94 (.float .f32 x) := by
  intro w
  go_enter Try.func94, Try.ntmps94
  go_wp2_with (go_at_call 76; refine (isFinite_any x _ h).mono ?_; rintro e w' ⟨rfl, rfl⟩)
  go_ret
  exact ⟨rfl, Below.refl _ _⟩
theorem notFinite_enters : ∀ args w, (callFunc 94 args).run Try.prog w = .ok (.enter 94 args) w := enters_of Try.func94 (by kernel_rfl) rfl
theorem areFinite_any (A : Option Addr) (n c : Nat) (vs : Nat → Value) (w : World) (hp : ∀ j, j < n → ∃ x, vs j = .float .f32 x ∧ Num .f32 x) (h : SRd w w.heap.size A n c vs) :
    Calls Try.prog 91 #[.slice A n c] w fun e w' => e = .returned (.bool true) ∧ Below w.heap.size w w' := by
  have HN := Lib.hid (fun j hj => (by obtain ⟨x, e, hx⟩ := hp j hj; rw [e]; exact notFinite_no x hx : SaysNo 94 (vs j)))
  clear hp
  go_enter Try.func91, Try.ntmps91
  go_wp2_with (go_at_call 93; refine (containsF_none _ notFinite_enters A n c vs _ HN.out h).mono ?_; rintro e w' ⟨rfl, b⟩)
  go_ret
  exact ⟨rfl, b⟩
theorem isFiniteC_any (x : Nat × Nat) (w : World) (h : NumC x) :
    Calls Try.prog 81 #[.complex .f32 x.1 x.2] w fun e w' => e = .returned (.bool true) ∧ Below w.heap.size w w' := by
  have HH := Lib.hid h
  clear h
  go_enter Try.func81, Try.ntmps81
  go_wp2_with fail
  refine (areFinite_any _ 2 2 (fun j => if j = 0 then .float .f32 x.1 else .float .f32 x.2) _ ?_ ⟨by omega, by simp [maxLen], fun _ => ⟨_, 0, rfl, by simp, ?_⟩⟩).mono ?_
  · intro j hj
    by_cases h0 : j = 0
    · exact ⟨x.1, by simp [h0], HH.out.1⟩
    · exact ⟨x.2, by simp [h0], HH.out.2⟩
  · intro j hj
    have : j = 0 ∨ j = 1 := by omega
    rcases this with rfl | rfl <;> simp [go_sem]
  rintro e w1 ⟨rfl, b1⟩
  go_wp2_with fail
  go_ret
  exact ⟨rfl, bthen (al1 w _) b1⟩
end Go.Proofs.Ytfbekiphlaaieaa
