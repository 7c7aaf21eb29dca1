/- Contracts of ReachOf, the program's and the reference's: 'reachF'. No condition. -/
import Derived.Test.YtjhcjpjmpcoopaaValidReal
import Derived.Deep.QuietTactic
import Derived.BigQuiet
import Derived.Lib.MinMax
namespace Go.Proofs.Ytjhcjpjmpcoopaa
open Go.RowKit

@[go_sem high] theorem run_max_three {P : Program} (w : World) (ts : Array TypeId) (t : TypeId) (k k' k2 : IntKind) (x y z : Int) :
    (Builtin.max_ ts t #[.int k x, .int k' y, .int k2 z]).run P w = .ok (.int k (max (max x y) z)) w := by
  have e1 : (if y > x then y else x) = max x y := by
    rw [Int.max_def]
    split <;> split <;> omega
  have e2 : (if z > max x y then z else max x y) = max (max x y) z := by
    rw [Int.max_def (max x y) z]
    split <;> split <;> omega
  simp [Builtin.max_, Builtin.max2, e1, e2]

/-- The greatest absolute value of the first k terms. -/
def mostU (xs : List Int) : Nat → Int
  | 0 => 0
  | k + 1 => max (mostU xs k) (max (xs.getD k 0) (-(xs.getD k 0)))
theorem mostU_bd {xs : List Int} (hb : ∀ j, -1000 ≤ xs.getD j 0 ∧ xs.getD j 0 ≤ 1000) (k : Nat) : 0 ≤ mostU xs k ∧ mostU xs k ≤ 1000 := by
  induction k with
  | zero => unfold mostU; omega
  | succ k ih =>
    have := hb k
    unfold mostU
    omega
/-- The least j from k on with a * 2^j > b, if it is less than k + g. -/
def kUp (a b : Int) : Nat → Nat → Nat
  | 0, k => k
  | g + 1, k => if a * 2 ^ k ≤ b then kUp a b g (k + 1) else k
def lastA (xs : List Int) : Int := max (lastOf xs) (-(lastOf xs))
def reachI (xs : List Int) : Int := if xs.length = 1 then 0 else (kUp (lastA xs) (lastA xs + mostU xs (xs.length - 1)) 22 0 : Nat)
def reachF (xs : List Int) : Int × Bool := if okR xs then (reachI xs, true) else (0, false)
theorem pow_lt_of (a : Int) (k : Nat) (ha : 1 ≤ a) (h : a * 2 ^ k ≤ 2000) : k ≤ 10 := by
  by_cases hk : k ≤ 10
  · exact hk
  · exfalso
    obtain ⟨m, rfl⟩ : ∃ m, k = 11 + m := ⟨k - 11, by omega⟩
    have h1 : (1 : Int) ≤ 2 ^ m := Int.pow_pos (by decide)
    have h2 : (2 : Int) ^ (11 + m) = 2048 * 2 ^ m := by rw [Int.pow_add]; rfl
    rw [h2] at h
    have h3 : 1 * (2048 * (2 : Int) ^ m) ≤ a * (2048 * 2 ^ m) := Int.mul_le_mul_of_nonneg_right ha (by omega)
    omega
theorem shl_bd (a : Int) (k : Nat) (ha : 0 ≤ a ∧ a ≤ 1000) (hk : k ≤ 11) : 0 ≤ a * 2 ^ k ∧ a * 2 ^ k ≤ 2048000 := by
  have h1 : (0 : Int) ≤ 2 ^ k := Int.le_of_lt (Int.pow_pos (by decide))
  have h2 : (2 : Int) ^ k ≤ 2048 := by
    have : (2 : Nat) ^ k ≤ 2 ^ 11 := Nat.pow_le_pow_right (by decide) hk
    have h3 : ((2 ^ k : Nat) : Int) ≤ ((2 ^ 11 : Nat) : Int) := Int.ofNat_le.2 this
    simpa using h3
  refine ⟨Int.mul_nonneg ha.1 h1, ?_⟩
  have h4 : a * 2 ^ k ≤ 1000 * 2 ^ k := Int.mul_le_mul_of_nonneg_right ha.2 h1
  omega

set_option maxHeartbeats 2000000 in
theorem reach_ref (A : Option Addr) (n c : Nat) (xs : List Int) (b : Nat) (w : World) (h : Rd w w.heap.size A n c xs) (hb : w.cell? ⟨b, 0, none⟩ = some (.slice A n c)) (hok : okR xs = true) :
    Calls Try.prog 44 #[.pointer (some ⟨b, 0, none⟩)] w fun e w' => e = .returned (.int .i64 (reachI xs)) ∧ ∃ q, w' = w.drewN q := by
  have hlen := Lib.hid h.len
  have hln := okR_len hok
  rw [hlen.out] at hln
  have HBD := Lib.hid (okR_bd hok)
  have hl0 := (okR_true.1 hok).1.2.2
  obtain ⟨b', o, rfl, hbl, hc⟩ := h.at_ (by omega)
  have hl := last_cell h (by omega)
  have hlb := HBD.out (xs.length - 1)
  change -1000 ≤ lastOf xs ∧ lastOf xs ≤ 1000 at hlb
  have HR : Hid (reachI xs = if n = 1 then 0 else ((kUp (lastA xs) (lastA xs + mostU xs (n - 1)) 22 0 : Nat) : Int)) := by
    show reachI xs = _
    unfold reachI
    rw [hlen.out]
  have HRA : Hid (lastA xs = max (lastOf xs) (-(lastOf xs))) := rfl
  generalize reachI xs = R at HR
  generalize lastA xs = a at HR HRA
  have ha : 1 ≤ a ∧ a ≤ 1000 := by have := HRA.out; omega
  generalize lastOf xs = z at *
  have HC := Lib.hid hc
  clear hok hc hl0
  have he := HRA.out
  subst he
  clear HRA
  go_enter Try.func44, Try.ntmps44
  go_wp2
  go_quiet (fail)
  go_wp2
  go_loopg [5, 6] n (fun g s5 si wr => ∃ k q : Nat, k + 1 ≤ n ∧ n - k ≤ g ∧ si = .int .i64 k ∧ s5 = .int .i64 (mostU xs k) ∧ wr = w.drewN q)
  case atStart => exact ⟨0, _, by omega, by omega, rfl, rfl, by first | rfl | exact World.drewN_drewN _ _ _⟩
  case round =>
    obtain ⟨k, q, hk, hg, rfl, rfl, rfl⟩ := hrel
    have hmb := mostU_bd HBD.out k
    by_cases hlt : k + 1 < n
    · have hltz : (k : Int) + 1 < (n : Int) := by omega
      have hx := HC.out k (by omega)
      have hyb := HBD.out k
      have HS : Hid (mostU xs (k + 1) = max (mostU xs k) (max (xs.getD k 0) (-(xs.getD k 0)))) := rfl
      generalize xs.getD k 0 = y at hx hyb HS
      generalize mostU xs k = v at hmb HS
      go_wp2_with fail
      go_quiet (fail)
      go_wp2_with fail
      go_roundg (n - (k + 1))
      case measure => omega
      case rel => exact ⟨k + 1, _, by omega, by omega, by go_num, by rw [HS.out], by first | rfl | exact World.drewN_drewN _ _ _⟩
    · have hltz : ¬ (k : Int) + 1 < (n : Int) := by omega
      obtain rfl : k = n - 1 := by omega
      by_cases hn1 : n = 1
      · subst hn1
        go_wp2_with fail
        go_ret
        exact ⟨ret_i64 (by rw [HR.out]; simp), _, rfl⟩
      · have hn1z : ((n : Int) == 1) = false := by simp; omega
        have hR := HR.out
        rw [if_neg hn1] at hR
        have HR2 := Lib.hid hR
        have HN := Lib.hid hn1
        clear HR hR hn1
        generalize mostU xs (n - 1) = v at hmb HR2
        go_wp2_with fail
        go_loopg [7] 22 (fun g s7 wr => ∃ k, k ≤ 11 ∧ 22 - k ≤ g ∧ s7 = .int .i64 (k : Nat) ∧ Aside (kUp (max z (-z)) (max z (-z) + v) (22 - k) k = kUp (max z (-z)) (max z (-z) + v) 22 0) ∧ wr = w.drewN q)
        case atStart => exact ⟨0, by omega, by omega, rfl, rfl, rfl⟩
        case round =>
          obtain ⟨k, hk, hg2, rfl, hK, rfl⟩ := hrel
          have hsb := shl_bd (max z (-z)) k (by omega) hk
          by_cases hle : max z (-z) * 2 ^ k ≤ max z (-z) + v
          · have hk10 := pow_lt_of (max z (-z)) k (by omega) (by omega)
            have HK : Hid (kUp (max z (-z)) (max z (-z) + v) (22 - (k + 1)) (k + 1) = kUp (max z (-z)) (max z (-z) + v) 22 0) := by
              show _ = _
              have := hK.out
              rw [show 22 - k = (22 - (k + 1)) + 1 by omega, kUp, if_pos hle] at this
              exact this
            go_wp2_with fail
            go_roundg (22 - (k + 1))
            case measure => omega
            case rel => exact ⟨k + 1, by omega, by omega, by go_num, HK.out, rfl⟩
          · have HK : Hid (kUp (max z (-z)) (max z (-z) + v) 22 0 = k) := by
              show _ = _
              have := hK.out
              rw [show 22 - k = (22 - (k + 1)) + 1 by omega, kUp, if_neg hle] at this
              exact this.symm
            go_wp2_with fail
            go_ret
            exact ⟨ret_i64 (by rw [HR2.out, HK.out]), _, rfl⟩

set_option maxHeartbeats 2000000 in
theorem reach_impl (A : Option Addr) (n c : Nat) (xs : List Int) (w : World) (h : Rd w w.heap.size A n c xs) (hok : okR xs = true) :
    Calls Try.prog 46 #[.agg #[.slice A n c]] w fun e w' => e = .returned (.int .i64 (reachI xs)) ∧ Below w.heap.size w w' := by
  have hlen := Lib.hid h.len
  have hln := okR_len hok
  rw [hlen.out] at hln
  have HBD := Lib.hid (okR_bd hok)
  have hl0 := (okR_true.1 hok).1.2.2
  have hcap := h.cap
  obtain ⟨b', o, rfl, hbl, hc⟩ := h.at_ (by omega)
  have hl : ∀ T, (w.alloc (.cells #[.slice (some ⟨b', o, none⟩) n c] T)).cell? ⟨b', o + (n - 1), none⟩ = some (.int .i64 (lastOf xs)) := fun T => cell_kept (al1 w _) (last_cell h (by omega))
  have hlb := HBD.out (xs.length - 1)
  change -1000 ≤ lastOf xs ∧ lastOf xs ≤ 1000 at hlb
  have HR : Hid (reachI xs = if n = 1 then 0 else ((kUp (lastA xs) (lastA xs + mostU xs (n - 1)) 22 0 : Nat) : Int)) := by
    show reachI xs = _
    unfold reachI
    rw [hlen.out]
  have HRA : Hid (lastA xs = max (lastOf xs) (-(lastOf xs))) := rfl
  generalize reachI xs = R at HR
  generalize lastA xs = a at HR HRA
  have ha : 1 ≤ a ∧ a ≤ 1000 := by have := HRA.out; omega
  generalize lastOf xs = z at *
  have HC : Hid (∀ T j, j < n → (w.alloc (.cells #[.slice (some ⟨b', o, none⟩) n c] T)).cell? ⟨b', o + j, none⟩ = some (.int .i64 (xs.getD j 0))) := fun T j hj => cell_kept (al1 w _) (hc j hj)
  have HW : Hid (∀ T q, Below w.heap.size w ((w.alloc (.cells #[.slice (some ⟨b', o, none⟩) n c] T)).drewN q)) := fun T q => drewN_below (al1 w _) q
  clear hok hc hl0 h
  have he := HRA.out
  subst he
  clear HRA
  go_enter Try.func46, Try.ntmps46
  by_cases hn1 : n = 1
  · subst hn1
    go_wp2_with fail
    go_ret
    exact ⟨ret_i64 (by rw [HR.out]; simp), HW.out _ 0⟩
  have hn1z : ((n : Int) - 1 == 0) = false := by simp; omega
  have hsl : (n - 1) ≤ c := by omega
  have hR := HR.out
  rw [if_neg hn1] at hR
  have HR2 := Lib.hid hR
  clear HR hR
  have HN := Lib.hid hn1
  clear hn1
  go_wp2_with fail
  go_loopg [4, 6, 20] n (fun g s4 _s6 si wr => ∃ k q : Nat, k + 1 ≤ n ∧ n - k ≤ g ∧ si = .int .i64 k ∧ s4 = .int .i64 (mostU xs k) ∧ wr = (w.alloc (.cells #[.slice (some ⟨b', o, none⟩) n c] 37)).drewN q)
  case atStart => exact ⟨0, 0, by omega, by omega, rfl, rfl, rfl⟩
  case round =>
    obtain ⟨k, q, hk, hg, rfl, rfl, rfl⟩ := hrel
    have hmb := mostU_bd HBD.out k
    by_cases hlt : k + 1 < n
    · have hltz : (k : Int) < ((n - 1 : Nat) : Int) := by omega
      have hltn : k < n - 1 := by omega
      have hx := HC.out 37 k (by omega)
      have hyb := HBD.out k
      have HS : Hid (mostU xs (k + 1) = max (mostU xs k) (max (xs.getD k 0) (-(xs.getD k 0)))) := rfl
      generalize xs.getD k 0 = y at hx hyb HS
      generalize mostU xs k = v at hmb HS
      go_wp2_with fail
      go_roundg (n - (k + 1))
      case measure => omega
      case rel => exact ⟨k + 1, q, by omega, by omega, by go_num, by rw [HS.out], rfl⟩
    · obtain rfl : k = n - 1 := by omega
      have hltz : ¬ ((n - 1 : Nat) : Int) < ((n - 1 : Nat) : Int) := by omega
      generalize mostU xs (n - 1) = v at hmb HR2
      have hl2 := hl 37
      go_wp2_with fail
      go_quiet (fail)
      go_wp2_with fail
      go_loopg [8] 22 (fun g s8 wr => ∃ k q, k ≤ 11 ∧ 22 - k ≤ g ∧ s8 = .int .i64 (k : Nat) ∧ Aside (kUp (max z (-z)) (max z (-z) + v) (22 - k) k = kUp (max z (-z)) (max z (-z) + v) 22 0) ∧ wr = (w.alloc (.cells #[.slice (some ⟨b', o, none⟩) n c] 37)).drewN q)
      case atStart => exact ⟨0, _, by omega, by omega, rfl, rfl, by first | rfl | exact World.drewN_drewN _ _ _⟩
      case round =>
        obtain ⟨k, q, hk, hg2, rfl, hK, rfl⟩ := hrel
        have hsb := shl_bd (max z (-z)) k (by omega) hk
        by_cases hle : max z (-z) * 2 ^ k ≤ max z (-z) + v
        · have hk10 := pow_lt_of (max z (-z)) k (by omega) (by omega)
          have HK : Hid (kUp (max z (-z)) (max z (-z) + v) (22 - (k + 1)) (k + 1) = kUp (max z (-z)) (max z (-z) + v) 22 0) := by
            show _ = _
            have := hK.out
            rw [show 22 - k = (22 - (k + 1)) + 1 by omega, kUp, if_pos hle] at this
            exact this
          go_wp2_with fail
          go_roundg (22 - (k + 1))
          case measure => omega
          case rel => exact ⟨k + 1, q, by omega, by omega, by go_num, HK.out, rfl⟩
        · have HK : Hid (kUp (max z (-z)) (max z (-z) + v) 22 0 = k) := by
            show _ = _
            have := hK.out
            rw [show 22 - k = (22 - (k + 1)) + 1 by omega, kUp, if_neg hle] at this
            exact this.symm
          go_wp2_with fail
          go_ret
          exact ⟨ret_i64 (by rw [HR2.out, HK.out]), HW.out _ q⟩

set_option maxHeartbeats 1000000 in
theorem reachOf_ref (A : Option Addr) (n c : Nat) (xs : List Int) (w : World) (h : Rd w w.heap.size A n c xs) :
    Calls Try.prog 17 #[.agg #[.slice A n c]] w fun e w' => e = .returned (.tuple #[.int .i64 (reachF xs).1, .bool (reachF xs).2]) ∧ Below w.heap.size w w' := by
  have hcon := fun b W H hb => isReal_ref A n c xs b W H hb
  cases hok : okR xs
  · have he : reachF xs = (0, false) := by unfold reachF; rw [hok]; rfl
    rw [he]
    rw [hok] at hcon
    have HC := Lib.hid hcon
    clear hcon he
    go_enter Try.func17, Try.ntmps17
    go_wp2_with fail
    refine (HC.out _ _ (h.in_ (al1 w _)) (by simp)).mono ?_
    rintro e w1 ⟨rfl, rfl⟩
    go_wp2_with fail
    go_ret2
    exact ⟨rfl, al1 w _⟩
  have he : reachF xs = (reachI xs, true) := by unfold reachF; rw [hok]; rfl
  rw [he]
  rw [hok] at hcon
  have HC := Lib.hid hcon
  have HR := Lib.hid (fun b W H hb => reach_ref A n c xs b W H hb hok)
  clear hcon he hok
  go_enter Try.func17, Try.ntmps17
  go_wp2_with fail
  refine (HC.out _ _ (h.in_ (al1 w _)) (by simp)).mono ?_
  rintro e w1 ⟨rfl, rfl⟩
  go_wp2_with fail
  refine (HR.out _ _ (h.in_ (al1 w _)) (by simp)).mono ?_
  rintro e w1 ⟨rfl, q, rfl⟩
  go_wp2_with fail
  go_ret2
  exact ⟨rfl, drewN_below (al1 w _) q⟩

set_option maxHeartbeats 1000000 in
theorem reachOf_own (A : Option Addr) (n c : Nat) (xs : List Int) (w : World) (h : Rd w w.heap.size A n c xs) :
    Calls Try.prog 19 #[.agg #[.slice A n c]] w fun e w' => e = .returned (.tuple #[.int .i64 (reachF xs).1, .bool (reachF xs).2]) ∧ Below w.heap.size w w' := by
  have hcon := fun W H => validReal_own A n c xs W H
  cases hok : okR xs
  · have he : reachF xs = (0, false) := by unfold reachF; rw [hok]; rfl
    rw [he]
    rw [hok] at hcon
    have HC := Lib.hid hcon
    clear hcon he
    go_enter Try.func19, Try.ntmps19
    go_wp2_with fail
    refine (HC.out _ (h.in_ (al1 w _))).mono ?_
    rintro e w1 ⟨rfl, b1⟩
    have B1 := bthen (al1 w _) b1
    clear b1
    go_wp2_with fail
    go_ret2
    exact ⟨rfl, B1⟩
  have he : reachF xs = (reachI xs, true) := by unfold reachF; rw [hok]; rfl
  rw [he]
  rw [hok] at hcon
  have HC := Lib.hid hcon
  have HR := Lib.hid (fun W H => reach_impl A n c xs W H hok)
  clear hcon he hok
  go_enter Try.func19, Try.ntmps19
  go_wp2_with fail
  refine (HC.out _ (h.in_ (al1 w _))).mono ?_
  rintro e w1 ⟨rfl, b1⟩
  have B1 := bthen (al1 w _) b1
  have k1 := cell_kept (b := w.heap.size) (o := 0) (v := .slice A n c) b1 (by simp [go_sem])
  clear b1
  go_wp2_with fail
  refine (HR.out _ (h.in_ B1)).mono ?_
  rintro e w2 ⟨rfl, b2⟩
  have B2 := bthen B1 b2
  clear b2 k1
  go_wp2_with fail
  go_ret2
  exact ⟨rfl, B2⟩
end Go.Proofs.Ytjhcjpjmpcoopaa
