/- Contracts of the greatest common divisor of two integers and of a list, the program's and the reference's. Condition: integers from -1000000 to 1000000. -/
import Derived.Test.YtanfmhhkabdieaaValidWhole
import Derived.Lib.MinMax
namespace Go.Proofs.Ytanfmhhkabdieaa
open Go.RowKit

def gcdI (a b : Int) : Int := (Int.gcd a b : Int)
theorem gcd_step (m n : Nat) (_h : n ≠ 0) : Nat.gcd n (m % n) = Nat.gcd m n := by
  rw [Nat.gcd_comm n (m % n), ← Nat.gcd_rec, Nat.gcd_comm]
theorem igcd_step (a b : Int) (h : b ≠ 0) : Int.gcd b (a.tmod b) = Int.gcd a b := by
  unfold Int.gcd
  rw [Int.natAbs_tmod]
  exact gcd_step _ _ (by omega)
theorem gcdI_bd {a b : Int} (h1 : 0 ≤ a ∧ a ≤ 1000000) (h2 : -1000000 ≤ b ∧ b ≤ 1000000) : 0 ≤ gcdI a b ∧ gcdI a b ≤ 1000000 := by
  unfold gcdI Int.gcd
  refine ⟨by omega, ?_⟩
  by_cases hb : b.natAbs = 0
  · rw [hb, Nat.gcd_zero_right]; omega
  · have := Nat.gcd_le_right (m := a.natAbs) (n := b.natAbs) (by omega)
    omega
def contentF (xs : List Int) : Int := xs.foldl gcdI 0
def contUpto (xs : List Int) (k : Nat) : Int := (xs.take k).foldl gcdI 0
theorem contUpto_succ (xs : List Int) (k : Nat) (h : k < xs.length) : contUpto xs (k + 1) = gcdI (contUpto xs k) (xs.getD k 0) := by
  unfold contUpto
  rw [take_succ_getD xs k h, List.foldl_append]
  rfl
theorem contUpto_all (xs : List Int) : contUpto xs xs.length = contentF xs := by simp [contUpto, contentF]
theorem contUpto_bd (xs : List Int) (hb : ∀ j, -1000000 ≤ xs.getD j 0 ∧ xs.getD j 0 ≤ 1000000) (k : Nat) (hk : k ≤ xs.length) : 0 ≤ contUpto xs k ∧ contUpto xs k ≤ 1000000 := by
  induction k with
  | zero => simp [contUpto]
  | succ k ih =>
    rw [contUpto_succ xs k (by omega)]
    exact gcdI_bd (ih (by omega)) (hb k)

set_option maxHeartbeats 1000000 in
theorem common_ref (a b : Int) (w : World) (ha : -1000000 ≤ a ∧ a ≤ 1000000) (hb : -1000000 ≤ b ∧ b ≤ 1000000) :
    Calls Try.prog 62 #[.int .i64 a, .int .i64 b] w fun e w' => e = .returned (.int .i64 (gcdI a b)) ∧ w = w' := by
  generalize hR : gcdI a b = R
  have HR : Hid ((Nat.gcd a.natAbs b.natAbs : Int) = R) := hR
  clear hR
  by_cases h1 : a < 0 <;> by_cases h2 : b < 0
  all_goals
    go_enter Try.func62, Try.ntmps62
    go_wp2
    go_loopg [0, 1] (b.natAbs) (fun g s0 s1 wr => ∃ m n : Nat, m ≤ 1000000 ∧ n ≤ 1000000 ∧ n ≤ g ∧ s0 = .int .i64 m ∧ s1 = .int .i64 n ∧ Aside ((Nat.gcd m n : Int) = R) ∧ wr = w)
    case atStart => exact ⟨a.natAbs, b.natAbs, by omega, by omega, Nat.le_refl _, by rw [Value.int.injEq]; exact ⟨rfl, by omega⟩, by rw [Value.int.injEq]; exact ⟨rfl, by omega⟩, HR.out, rfl⟩
    case round =>
      obtain ⟨m, n, hm, hn, hg, rfl, rfl, hG, rfl⟩ := hrel
      by_cases hn0 : n = 0
      · subst hn0
        have HG : Hid ((m : Int) = R) := by
          have := hG.out
          rwa [Nat.gcd_zero_right] at this
        clear hG HR
        go_wp2
        go_ret
        exact ⟨ret_i64 HG.out, rfl⟩
      · have hne : ((n : Int) != 0) = true := by simp; omega
        have hm1 : 0 ≤ (m : Int) % (n : Int) := Int.emod_nonneg _ (by omega)
        have hm2 : (m : Int) % (n : Int) < (n : Int) := Int.emod_lt_of_pos _ (by omega)
        have HN := Lib.hid hn0
        clear hn0
        go_wp2
        go_roundg (n - 1)
        case measure => have := HN.out; omega
        case rel =>
          have h3 := Nat.mod_lt m (Nat.pos_of_ne_zero HN.out)
          refine ⟨n, m % n, by omega, by omega, by omega, rfl, by go_num, ?_, rfl⟩
          show ((Nat.gcd n (m % n) : Nat) : Int) = R
          rw [gcd_step _ _ HN.out]
          exact hG.out

set_option maxHeartbeats 1000000 in
theorem common_own (a b : Int) (w : World) (ha : -1000000 ≤ a ∧ a ≤ 1000000) (hb : -1000000 ≤ b ∧ b ≤ 1000000) :
    Calls Try.prog 63 #[.int .i64 a, .int .i64 b] w fun e w' => e = .returned (.int .i64 (gcdI a b)) ∧ ∃ q, w' = w.drewN q := by
  generalize hR : gcdI a b = R
  have HR : Hid ((Int.gcd a b : Int) = R) := hR
  clear hR
  go_enter Try.func63, Try.ntmps63
  go_wp2
  go_loopg [0, 1] (b.natAbs) (fun g s0 s1 wr => ∃ (x y : Int) (q : Nat), (-1000000 ≤ x ∧ x ≤ 1000000) ∧ (-1000000 ≤ y ∧ y ≤ 1000000) ∧ y.natAbs ≤ g ∧ s0 = .int .i64 x ∧ s1 = .int .i64 y ∧ Aside ((Int.gcd x y : Int) = R) ∧ wr = w.drewN q)
  case atStart => exact ⟨a, b, 0, ha, hb, Nat.le_refl _, rfl, rfl, HR.out, rfl⟩
  case round =>
    clear ha hb HR
    obtain ⟨x, y, q, hx, hy, hg, rfl, rfl, hG, rfl⟩ := hrel
    by_cases hy0 : y = 0
    · subst hy0
      have HG : Hid (max x (-x) = R) := by
        have := hG.out
        rw [Int.gcd_zero_right] at this
        show max x (-x) = R
        omega
      clear hG
      go_wp2
      go_ret
      refine ⟨?_, q, rfl⟩
      rw [← HG.out]
      rfl
    · have hne : (y != 0) = true := by simpa using hy0
      have hab : (x.tmod y).natAbs = x.natAbs % y.natAbs := Int.natAbs_tmod x y
      have hlt : x.natAbs % y.natAbs < y.natAbs := Nat.mod_lt _ (by omega)
      have hm1 : -1000000 ≤ x.tmod y := by omega
      have hm2 : x.tmod y ≤ 1000000 := by omega
      have HA : Hid ((x.tmod y).natAbs < y.natAbs) := by rw [← hab] at hlt; exact hlt
      have HY := Lib.hid hy0
      clear hab hlt
      go_wp2
      go_quiet (fail)
      go_wp2
      go_roundg (y.natAbs - 1)
      case measure => have := HA.out; omega
      case rel =>
        refine ⟨y, x.tmod y, _, hy, ⟨hm1, hm2⟩, by have := HA.out; omega, rfl, rfl, ?_, World.drewN_drewN _ _ _⟩
        show ((Int.gcd y (x.tmod y) : Nat) : Int) = R
        rw [igcd_step _ _ HY.out]
        exact hG.out

set_option maxHeartbeats 1000000 in
theorem content_ref (A : Option Addr) (n c : Nat) (xs : List Int) (w : World) (h : Rd w w.heap.size A n c xs) (hb : ∀ j, -1000000 ≤ xs.getD j 0 ∧ xs.getD j 0 ≤ 1000000) :
    Calls Try.prog 59 #[.slice A n c] w fun e w' => e = .returned (.int .i64 (contentF xs)) ∧ ∃ q, w' = w.drewN q := by
  have hmax : n ≤ 9223372036854775807 := by have h1 := h.cap; have h2 := h.most; unfold maxLen at h2; omega
  have hlen := Lib.hid h.len
  have HB := Lib.hid hb
  clear hb
  go_enter Try.func59, Try.ntmps59
  go_wp2
  go_loopg [3, 7] n (fun g s3 si wr => ∃ k q : Nat, k ≤ n ∧ n - k ≤ g ∧ si = .int .i64 k ∧ s3 = .int .i64 (contUpto xs k) ∧ wr = w.drewN q)
  case atStart => exact ⟨0, 0, Nat.zero_le _, by omega, rfl, rfl, rfl⟩
  case round =>
    obtain ⟨k, q, hk, hg, rfl, rfl, rfl⟩ := hrel
    by_cases hlt : k < n
    · have hltz : (k : Int) < (n : Int) := by omega
      obtain ⟨b, o, rfl, hbl, hc⟩ := h.at_ (by omega)
      have hx := hc k hlt
      have hyb := HB.out k
      have hub := contUpto_bd xs HB.out k (by rw [hlen.out]; omega)
      have HS := Lib.hid (contUpto_succ xs k (by rw [hlen.out]; exact hlt))
      clear hc h
      generalize xs.getD k 0 = y at hx hyb HS
      generalize contUpto xs k = v at hub HS
      go_wp2_with fail
      refine (common_ref v y _ (by omega) hyb).mono ?_
      rintro e w1 ⟨rfl, rfl⟩
      go_wp2_with fail
      go_roundg (n - (k + 1))
      case measure => omega
      case rel => exact ⟨k + 1, q, by omega, by omega, by go_num, by rw [HS.out], rfl⟩
    · have hltz : ¬ (k : Int) < (n : Int) := by omega
      have hkn : k = n := by omega
      subst hkn
      have e : contUpto xs k = contentF xs := by
        have := contUpto_all xs
        rwa [hlen.out] at this
      rw [e]
      clear e
      go_wp2_with fail
      go_ret
      exact ⟨rfl, q, rfl⟩

set_option maxHeartbeats 1000000 in
theorem content_own (A : Option Addr) (n c : Nat) (xs : List Int) (w : World) (h : Rd w w.heap.size A n c xs) (hb : ∀ j, -1000000 ≤ xs.getD j 0 ∧ xs.getD j 0 ≤ 1000000) :
    Calls Try.prog 60 #[.slice A n c] w fun e w' => e = .returned (.int .i64 (contentF xs)) ∧ ∃ q, w' = w.drewN q := by
  have hmax : n ≤ 9223372036854775807 := by have h1 := h.cap; have h2 := h.most; unfold maxLen at h2; omega
  have hlen := Lib.hid h.len
  have HB := Lib.hid hb
  clear hb
  go_enter Try.func60, Try.ntmps60
  go_wp2
  go_loopg [3, 8] n (fun g s3 si wr => ∃ k q : Nat, k ≤ n ∧ n - k ≤ g ∧ si = .int .i64 k ∧ s3 = .int .i64 (contUpto xs k) ∧ wr = w.drewN q)
  case atStart => exact ⟨0, 0, Nat.zero_le _, by omega, rfl, rfl, rfl⟩
  case round =>
    obtain ⟨k, q, hk, hg, rfl, rfl, rfl⟩ := hrel
    by_cases hlt : k < n
    · have hltz : (k : Int) < (n : Int) := by omega
      obtain ⟨b, o, rfl, hbl, hc⟩ := h.at_ (by omega)
      have hx := hc k hlt
      have hyb := HB.out k
      have hub := contUpto_bd xs HB.out k (by rw [hlen.out]; omega)
      have HS := Lib.hid (contUpto_succ xs k (by rw [hlen.out]; exact hlt))
      clear hc h
      generalize xs.getD k 0 = y at hx hyb HS
      generalize contUpto xs k = v at hub HS
      go_wp2_with fail
      refine (common_own v y _ (by omega) hyb).mono ?_
      rintro e w1 ⟨rfl, q1, rfl⟩
      go_wp2_with fail
      go_roundg (n - (k + 1))
      case measure => omega
      case rel => exact ⟨k + 1, _, by omega, by omega, by go_num, by rw [HS.out], rfl⟩
    · have hltz : ¬ (k : Int) < (n : Int) := by omega
      have hkn : k = n := by omega
      subst hkn
      have e : contUpto xs k = contentF xs := by
        have := contUpto_all xs
        rwa [hlen.out] at this
      rw [e]
      clear e
      go_wp2_with fail
      go_ret
      exact ⟨rfl, q, rfl⟩
end Go.Proofs.Ytanfmhhkabdieaa
