/- Contracts of PointsShared and of SamePoly at two polynomials with the same words. Condition: the words stand for numbers less than 2 to the power of 60. -/
import Derived.Test.YtfbekiphlaaieaaCy
namespace Go.Proofs.Ytfbekiphlaaieaa
open Go.RowKit Go.Lib

theorem shared_any (A : Option Addr) (n c : Nat) (xs : List (Nat × Nat)) (A1 : Option Addr) (m c1 : Nat) (zs os : List (Nat × Nat)) (vs ms : Nat → Nat → Nat × Nat) (k : Int) (w : World)
    (h : CRd w w.heap.size A n c xs) (h1 : CRd w w.heap.size A1 m c1 zs) (hv : Valid xs) (hm : m ≤ 256) (hz : AllNum zs) (ho : os.length = m) (hO : AllNum os) (hH : ∀ k, k < m → Horner xs (zs.getD k (0, 0)) (vs k) (ms k)) (hvs : ∀ k, k < m → vs k 0 = os.getD k (0, 0)) (hk1 : 1 ≤ k) (hk2 : k ≤ 8) :
    Calls Try.prog 18 #[.agg #[.slice A n c], .slice A1 m c1, .int .i64 k] w fun e w' => ∃ A' c', e = .returned (.tuple #[.slice A' m c', .bool true]) ∧ CRd w' w'.heap.size A' m c' os ∧ Below w.heap.size w w' := by
  have HP := Lib.hid (fun W H H1 => points_any A n c xs A1 m c1 zs os vs ms W H H1 hv hm hz ho hO hH hvs)
  have HW := Lib.hid (fun W => workers_any k W hk1 hk2)
  clear hv hm hz ho hO hH hvs hk1 hk2
  have HR := Lib.hid h
  have HR1 := Lib.hid h1
  clear h h1
  go_enter Try.func18, Try.ntmps18
  go_wp2_with (go_at_call 61; refine (HW.out _).mono ?_; rintro e w' ⟨rfl, rfl⟩)
  refine (HP.out _ (HR.out.in_' (al1 w _)) (HR1.out.in_' (al1 w _))).mono ?_
  rintro e w1 ⟨A', c', rfl, r1, b1⟩
  have R1 := Lib.hid r1
  have B1 := Lib.hid (bthen (al1 w _) b1)
  clear r1 b1
  go_wp2_with fail
  exact bodyPost_ret (v := .tuple #[.slice A' m c', .bool true]) (by simp [results, Try.results18, go_sem]) rfl ⟨_, _, rfl, R1.out, B1.out⟩

/-- What Signbit tells of a word. -/
def sgnB (b : Nat) : Bool := decide (wrap64 (b : Int) < 0)
theorem run_bits (x : Nat) : ∀ w, (callFunc 97 #[.float .f64 x]).run Try.prog w = .ok (.value (.int .u64 x)) w := by
  intro w
  rw [run_callFunc_extern (e := Extern.MathFloatBits.float64bits) Try.func97 (by kernel_rfl) (by kernel_rfl) (by kernel_rfl) (by kernel_rfl)]
  rfl
theorem signbit_any (x : Nat) (w : World) :
    Calls Try.prog 95 #[.float .f64 x] w fun e w' => e = .returned (.bool (sgnB x)) ∧ w = w' := by
  have e1 := run_bits x
  unfold sgnB
  go_enter Try.func95, Try.ntmps95
  go_wp2_with (rw [e1])
  go_ret
  exact ⟨by simp, rfl⟩
theorem sameNumber_any (x a : Nat) (w : World) (h : Num .f32 x) (ha : cv64 x = some a) :
    Calls Try.prog 92 #[.float .f32 x, .float .f32 x] w fun e w' => e = .returned (.bool true) ∧ w = w' := by
  have e1 := run64 ha
  have h1 := (num_eq h).1
  have h2 := (num_eq h).2
  clear h ha
  go_enter Try.func92, Try.ntmps92
  go_wp2_with (first | (go_at_call 95; refine (signbit_any a _).mono ?_; rintro e w' ⟨rfl, rfl⟩) | rw [e1])
  go_ret
  exact ⟨by simp, rfl⟩
/-- Words that go into double precision. -/
def Wide (x : Nat × Nat) : Prop := NumC x ∧ (∃ a, cv64 x.1 = some a) ∧ (∃ b, cv64 x.2 = some b)
theorem sameComplex_any (x : Nat × Nat) (w : World) (h : Wide x) :
    Calls Try.prog 88 #[.complex .f32 x.1 x.2, .complex .f32 x.1 x.2] w fun e w' => e = .returned (.bool true) ∧ w = w' := by
  obtain ⟨⟨n1, n2⟩, ⟨a, ha⟩, ⟨b, hb⟩⟩ := h
  have S1 := Lib.hid (fun W => sameNumber_any x.1 a W n1 ha)
  have S2 := Lib.hid (fun W => sameNumber_any x.2 b W n2 hb)
  clear n1 n2 ha hb
  go_enter Try.func88, Try.ntmps88
  go_wp2_with (first | (go_at_call_of 92 (Value.float .f32 x.1); refine (S1.out _).mono ?_; rintro e w' ⟨rfl, rfl⟩) | (go_at_call_of 92 (Value.float .f32 x.2); refine (S2.out _).mono ?_; rintro e w' ⟨rfl, rfl⟩))
  go_ret
  exact ⟨rfl, rfl⟩
theorem same_enters : ∀ args w, (callFunc 88 args).run Try.prog w = .ok (.enter 88 args) w := enters_of Try.func88 (by kernel_rfl) rfl

set_option maxHeartbeats 1000000 in
theorem equalFunc_any (A : Option Addr) (n c : Nat) (A1 : Option Addr) (m c1 : Nat) (xs : List (Nat × Nat)) (w : World) (h : CRd w w.heap.size A n c xs) (h1 : CRd w w.heap.size A1 m c1 xs) (hx : ∀ j, j < xs.length → Wide (xs.getD j (0, 0))) :
    Calls Try.prog 87 #[.slice A n c, .slice A1 m c1, .func (.func 88) #[] #[]] w fun e w' => e = .returned (.bool true) ∧ w = w' := by
  have hnm : n = m := h.len.symm.trans h1.len
  subst hnm
  have hmax : n ≤ 9223372036854775807 := by have h3 := h.cap; have h2 := h.most; unfold maxLen at h2; omega
  have HX := Lib.hid (fun j (hj : j < n) W => sameComplex_any (xs.getD j (0, 0)) W (hx j (by rw [h.len]; exact hj)))
  have eg := same_enters
  clear hx
  go_enter Try.func87, Try.ntmps87
  go_wp2
  go_loopg [17] n (fun gg s17 wr => ∃ k : Nat, k ≤ n ∧ n - k ≤ gg ∧ s17 = .int .i64 k ∧ wr = w)
  case atStart => exact ⟨0, by omega, by omega, rfl, rfl⟩
  case round =>
    obtain ⟨k, hk, hg, rfl, rfl⟩ := hrel
    by_cases hlt : k < n
    · have hltz : (k : Int) < (n : Int) := by omega
      obtain ⟨b, o, rfl, _, hc⟩ := h.at_ (by omega)
      obtain ⟨b', o', rfl, _, hc'⟩ := h1.at_ (by omega)
      have hx := hc k hlt
      have hy := hc' k hlt
      have HS := Lib.hid (HX.out k hlt)
      unfold cx at hx hy
      clear hc hc' h h1
      generalize xs.getD k (0, 0) = y at hx hy HS
      go_wp2_with (go_at_fn 88; refine (HS.out _).mono ?_; rintro e w' ⟨rfl, rfl⟩)
      go_roundg (n - (k + 1))
      case measure => omega
      case rel => exact ⟨k + 1, by omega, by omega, by go_num, rfl⟩
    · have hltz : ¬ (k : Int) < (n : Int) := by omega
      obtain rfl : k = n := by omega
      go_wp2
      go_ret
      exact ⟨rfl, rfl⟩
theorem samePoly_any (A : Option Addr) (n c : Nat) (A1 : Option Addr) (m c1 : Nat) (xs : List (Nat × Nat)) (w : World) (h : CRd w w.heap.size A n c xs) (h1 : CRd w w.heap.size A1 m c1 xs) (hx : ∀ j, j < xs.length → Wide (xs.getD j (0, 0))) :
    Calls Try.prog 22 #[.agg #[.slice A n c], .agg #[.slice A1 m c1]] w fun e w' => e = .returned (.bool true) ∧ Below w.heap.size w w' := by
  have HE := Lib.hid (fun W H H1 => equalFunc_any A n c A1 m c1 xs W H H1 hx)
  have hl : ∀ W, CRd W W.heap.size A n c xs → CRd W W.heap.size A1 m c1 xs → Calls Try.prog 65 #[.slice A n c, .slice A1 m c1] W fun e w' => e = .returned (.bool true) ∧ W = w' := by
    intro W H H1
    clear h h1 hx
    go_enter Try.func65, Try.ntmps65
    go_wp2_with (go_at_call 87; refine (HE.out _ H H1).mono ?_; rintro e w' ⟨rfl, rfl⟩)
    go_ret
    exact ⟨rfl, rfl⟩
  have HL := Lib.hid hl
  have HR := Lib.hid h
  have HR1 := Lib.hid h1
  clear h h1 hx hl
  go_enter Try.func22, Try.ntmps22
  go_wp2_with (go_at_call 65; refine (HL.out _ (HR.out.in_' (al2 w _ _)) (HR1.out.in_' (al2 w _ _))).mono ?_; rintro e w' ⟨rfl, rfl⟩)
  go_ret
  exact ⟨rfl, al2 w _ _⟩
end Go.Proofs.Ytfbekiphlaaieaa
