/- What the law of the roots wants of the words that its code computes, gathered; contracts of r8Long and r8At. No condition: definitions; and two small walks. -/
import Derived.Test.YtfbekiphlaaieaaDr
namespace Go.Proofs.Ytfbekiphlaaieaa
open Go.RowKit

/-- The words of 1 and of 0.001 in double precision. -/
def w1 : Nat := 4607182418800017408
def w001 : Nat := 4562254508917369340
/-- All that the law asks of the polynomial of the roots zs. -/
structure RF (n : Nat) (zs : List (Nat × Nat)) where
  P : Nat → List (Nat × Nat)
  mm : Nat → Nat → Nat × Nat
  roots : RootsW zs P mm
  len : (P n).length = n + 1
  valid : Valid (P n)
  trim : trimC (P n) = P n
  lead1 : (FloatKind.f32.format.order ((P n).getD n (0, 0)).1 1065353216 == some .eq) = true
  lead2 : (FloatKind.f32.format.order ((P n).getD n (0, 0)).2 0 == some .eq) = true
  ls : Nat → Nat
  qs : Nat → Nat
  mo : Nat → Nat
  L : Nat
  r : Nat
  within_ : WithinW (P n) ls qs mo L r
  wr : Nat
  cw : cv64 r = some wr
  wj : Nat
  addw : floatBits .add .f64 wr w001 = some wj
  vs : Nat → Nat → Nat × Nat
  ms : Nat → Nat → Nat × Nat
  lv : Nat → Nat → Nat
  fm : Nat → Nat → Nat
  es : Nat → Nat → Nat
  lz : Nat → Nat
  ba : Nat → Nat
  bb : Nat → Nat
  bd : Nat → Nat
  rb : Nat → Nat
  bound : ∀ i, i < n → BoundW (P n) (zs.getD i (0, 0)) (vs i) (ms i) (lv i) (fm i) (es i) (lz i) (ba i) (bb i) (bd i) (rb i)
  num0 : ∀ i, i < n → NumC (vs i 0)
  l1 : Nat → Nat → Nat
  ww : Nat → Nat → Nat
  pm : Nat → Nat → Nat
  ss : Nat → Nat → Nat
  l1z : Nat → Nat
  xz : Nat → Nat
  size : ∀ i, i < n → SizeW (P n) (zs.getD i (0, 0)) (l1 i) (ww i) (pm i) (ss i) (l1z i) (xz i)
  neg : ∀ i, i < n → (FloatKind.f32.format.order (rb i) 0 == some .lt) = false
  far : Nat → Nat
  hfar : ∀ i, i < n → FarW (vs i 0) (0, 0) (far i)
  on : Nat → Nat
  hon : ∀ i, i < n → floatBits .add .f64 w1 (ss i 0) = some (on i)
  mil : Nat → Nat
  hmil : ∀ i, i < n → floatBits .mul .f64 w001 (on i) = some (mil i)
  farok : ∀ i, i < n → (FloatKind.f64.format.order (far i) (mil i) == some .gt) = false
  rb64 : Nat → Nat
  hrb : ∀ i, i < n → cv64 (rb i) = some (rb64 i)
  rbok : ∀ i, i < n → (FloatKind.f64.format.order (rb64 i) (mil i) == some .gt) = false
  lz64 : Nat → Nat
  hlz : ∀ i, i < n → cv64 (lz i) = some (lz64 i)
  lzok : ∀ i, i < n → (FloatKind.f64.format.order (lz64 i) wj == some .gt) = false
  le : Nat → Nat
  le0 : le 0 = 4696837146684686336
  leS : ∀ i, i < n → le (i + 1) = minW .f64 (le i) (lz64 i)
  leN : ∀ i, i ≤ n → Num .f64 (le i)
  lzN : ∀ i, i < n → Num .f64 (lz64 i)
  beyond : isZ ((P n).getD 0 (0, 0)) = false → ∃ ls qs mo L r0 r rw64 s, 2 ≤ (trimC (P n).reverse).length ∧ WithinW (trimC (P n).reverse) ls qs mo L r0 ∧ floatBits .quo .f32 1065353216 r0 = some r ∧ Num .f32 r ∧ cv64 r = some rw64 ∧ floatBits .add .f64 (le n) w001 = some s ∧ (FloatKind.f64.format.order rw64 s == some .gt) = false
  back : Valid (trimC (P n).reverse)
  again : Valid (trimC (trimC (P n).reverse).reverse)
  same : isZ ((P n).getD 0 (0, 0)) = false → trimC (trimC (P n).reverse).reverse = P n
  made : trimC (P n ++ [(0, 0), (0, 0)]) = P n
  wide : ∀ j, j < (P n).length → Wide ((P n).getD j (0, 0))
  points : ∀ z, Drawn z → ∃ vs ms, Horner (P n) z vs ms ∧ NumC (vs 0)
theorem drawn_num {z : Nat × Nat} (h : Drawn z) : NumC z := by
  obtain ⟨x, y, _, _, _, _, h1, h2⟩ := h
  exact ⟨⟨_, h1⟩, ⟨_, h2⟩⟩

theorem long_no (A : Option Addr) (n c : Nat) (A1 : Option Addr) (m c1 : Nat) (w : World) (h : n ≤ 48) (h1 : m ≤ 48) :
    Calls Try.prog 6 #[.slice A n c, .slice A1 m c1] w fun e w' => e = .returned (.bool false) ∧ w = w' := by
  have h2 : ¬ (48 : Int) < (n : Int) := by omega
  have h3 : ¬ (48 : Int) < (m : Int) := by omega
  go_enter Try.func6, Try.ntmps6
  go_wp2
  go_ret
  exact ⟨rfl, rfl⟩
theorem long_yes (A : Option Addr) (n c : Nat) (A1 : Option Addr) (m c1 : Nat) (w : World) (h : ¬ (n ≤ 48 ∧ m ≤ 48)) :
    Calls Try.prog 6 #[.slice A n c, .slice A1 m c1] w fun e w' => e = .returned (.bool true) ∧ w = w' := by
  by_cases h2 : (48 : Int) < (n : Int)
  · clear h
    go_enter Try.func6, Try.ntmps6
    go_wp2
    go_ret
    exact ⟨rfl, rfl⟩
  · have h3 : (48 : Int) < (m : Int) := by omega
    clear h
    go_enter Try.func6, Try.ntmps6
    go_wp2
    go_ret
    exact ⟨rfl, rfl⟩
theorem at_any (A : Option Addr) (n c : Nat) (vs : Nat → Value) (k : Nat) (m : Int) (w : World) (h : SRd w w.heap.size A n c vs) (hv : Bytes n vs) (hk : k ≤ 1000) (hm : 2 ≤ m) (hm2 : m ≤ 200) :
    Calls Try.prog 7 #[.slice A n c, .int .i64 k, .int .i64 m] w fun e w' => ∃ v : Int, e = .returned (.int .i64 v) ∧ 0 ≤ v ∧ v < m ∧ w = w' := by
  have h1 : ¬ m ≤ 1 := by omega
  have hm0 : ¬ m = 0 := by omega
  have hmax : n ≤ 9223372036854775807 := by have h3 := h.cap; have h2 := h.most; unfold maxLen at h2; omega
  by_cases hlt : k < n
  · have h2 : ¬ (n : Int) ≤ (k : Int) := by omega
    have h3 : (k : Int) < (n : Int) := by omega
    obtain ⟨b, o, rfl, hbl, hc⟩ := h.at_ (by omega)
    obtain ⟨v, hvk, hv0, hv1⟩ := hv k hlt
    have hx := hc k hlt
    rw [hvk] at hx
    clear hc h hv hvk
    go_enter Try.func7, Try.ntmps7
    go_wp2
    go_ret
    refine ⟨_, rfl, ?_, ?_, rfl⟩
    · first | exact Int.tmod_nonneg _ hv0 | exact Int.emod_nonneg _ hm0
    · first | exact Int.tmod_lt_of_pos _ (by omega) | exact Int.emod_lt_of_pos _ (by omega)
  · have h2 : (n : Int) ≤ (k : Int) := by omega
    clear h hv
    go_enter Try.func7, Try.ntmps7
    go_wp2
    go_ret
    exact ⟨0, rfl, by omega, by omega, rfl⟩
end Go.Proofs.Ytfbekiphlaaieaa
