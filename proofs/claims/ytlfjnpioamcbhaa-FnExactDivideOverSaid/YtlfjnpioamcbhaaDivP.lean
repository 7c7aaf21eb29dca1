/- Division over a prime in plain Lean, and the contracts of the inverse. Condition: a prime from 2 to 13. -/
import Derived.Test.YtlfjnpioamcbhaaMods
import Derived.Test.YtlfjnpioamcbhaaOverTwo
import Derived.Test.YtlfjnpioamcbhaaMul
namespace Go.Proofs.Ytlfjnpioamcbhaa
open Go.RowKit

/-- The first y from the given one on, within so many, whose product with x leaves 1. -/
def invU (x p : Int) : Nat → Nat → Int
  | 0, _ => 0
  | f + 1, y => if (x * (y : Int)) % p = 1 then (y : Int) else invU x p f (y + 1)
def invI (x p : Int) : Int := invU x p p.toNat 0
theorem invU_bd (x p : Int) (f : Nat) : ∀ y, 0 ≤ invU x p f y ∧ invU x p f y < (y + f : Nat) + 1 := by
  induction f with
  | zero => intro y; unfold invU; omega
  | succ f ih =>
    intro y
    unfold invU
    split
    · omega
    · have := ih (y + 1)
      omega
def invOk (P X : Nat) : Bool := !(primeB (P : Int) && decide (1 ≤ X ∧ X < P)) || decide (((X : Int) * invI (X : Int) (P : Int)) % (P : Int) = 1 ∧ 0 ≤ invI (X : Int) (P : Int) ∧ invI (X : Int) (P : Int) ≤ 12)
theorem inv_all : ((List.range 14).all fun P => (List.range 14).all fun X => invOk P X) = true := by decide +kernel
theorem inv_facts (P : Nat) (hP : P < 14) (X : Nat) (hX : X < 14) (h1 : primeB (P : Int) = true) (h2 : 1 ≤ X ∧ X < P) :
    ((X : Int) * invI (X : Int) (P : Int)) % (P : Int) = 1 ∧ 0 ≤ invI (X : Int) (P : Int) ∧ invI (X : Int) (P : Int) ≤ 12 := by
  have h := List.all_eq_true.1 (List.all_eq_true.1 inv_all P (List.mem_range.2 hP)) X (List.mem_range.2 hX)
  unfold invOk at h
  rw [h1, decide_eq_true h2] at h
  exact of_decide_eq_true h
theorem inv_from1 (x : Int) {p : Int} (hp : 2 ≤ p) : invU x p (p.toNat - 1) 1 = invI x p := by
  unfold invI
  obtain ⟨P, rfl⟩ := Int.eq_ofNat_of_zero_le (show 0 ≤ p by omega)
  obtain ⟨f, rfl⟩ : ∃ f, P = f + 1 := ⟨P - 1, by omega⟩
  show invU x _ (f + 1 - 1) 1 = invU x _ (f + 1) 0
  rw [invU, if_neg (by simp)]
  rfl
theorem invI_of {d p : Int} (hp : primeB p = true) (hd : 1 ≤ d ∧ d < p) : (d * invI d p) % p = 1 ∧ 0 ≤ invI d p ∧ invI d p ≤ 12 := by
  have hr := prime_range hp
  obtain ⟨P, rfl⟩ := Int.eq_ofNat_of_zero_le (show 0 ≤ p by omega)
  obtain ⟨X, rfl⟩ := Int.eq_ofNat_of_zero_le (show 0 ≤ d by omega)
  exact inv_facts P (by omega) X (by omega) hp (by omega)
/-- The row after the first i terms of ys, times q, were taken off from place k on, over p. -/
def rowP (ys : List Int) (q p : Int) (k : Nat) (L : List Int) : Nat → List Int
  | 0 => L
  | i + 1 => (rowP ys q p k L i).set (k + i) (((rowP ys q p k L i).getD (k + i) 0 - q * ys.getD i 0) % p)
def divP (ys : List Int) (m : Nat) (v p : Int) : Nat → List Int → List Int → List Int × List Int
  | 0, L, out => (L, out)
  | k + 1, L, out => divP ys m v p k (rowP ys ((L.getD (k + (m - 1)) 0 * v) % p) p k L m) (out.set k ((L.getD (k + (m - 1)) 0 * v) % p))
def divQR (xs ys : List Int) (p : Int) : List Int × List Int :=
  if xs.length < ys.length then ([0], xs)
  else (trimL (divP ys ys.length (invI (lastOf ys) p) p (xs.length + 1 - ys.length) xs (List.replicate (xs.length + 1 - ys.length) 0)).2, trimL (divP ys ys.length (invI (lastOf ys) p) p (xs.length + 1 - ys.length) xs (List.replicate (xs.length + 1 - ys.length) 0)).1)
theorem rowP_len (ys : List Int) (q p : Int) (k : Nat) (L : List Int) (i : Nat) : (rowP ys q p k L i).length = L.length := by
  induction i with
  | zero => rfl
  | succ i ih => rw [rowP, List.length_set, ih]
theorem rowP_get (ys : List Int) (q p : Int) (k : Nat) (L : List Int) (i j : Nat) (hj : j < L.length) :
    (rowP ys q p k L i).getD j 0 = if k ≤ j ∧ j < k + i then (L.getD j 0 - q * ys.getD (j - k) 0) % p else L.getD j 0 := by
  induction i with
  | zero => rw [rowP, if_neg (by omega)]
  | succ i ih =>
    rw [rowP, getD_set _ _ _ _ (by rw [rowP_len]; exact hj)]
    by_cases h1 : k + i = j
    · subst h1
      rw [if_pos rfl, ih, if_neg (by omega), if_pos (by omega)]
      rw [show k + i - k = i by omega]
    · rw [if_neg h1, ih]
      by_cases h2 : k ≤ j ∧ j < k + i
      · rw [if_pos h2, if_pos (by omega)]
      · rw [if_neg h2, if_neg (by omega)]
theorem rowP_bd (ys : List Int) (q p : Int) (hp : 2 ≤ p) (k : Nat) (L : List Int) (hL : ∀ j, 0 ≤ L.getD j 0 ∧ L.getD j 0 < p) (i j : Nat) : 0 ≤ (rowP ys q p k L i).getD j 0 ∧ (rowP ys q p k L i).getD j 0 < p := by
  by_cases hj : j < L.length
  · rw [rowP_get _ _ _ _ _ _ _ hj]
    split
    · exact ⟨Int.emod_nonneg _ (by omega), Int.emod_lt_of_pos _ (by omega)⟩
    · exact hL j
  · rw [getD_beyond (by rw [rowP_len]; omega)]
    omega
theorem quot_zero (a d v p : Int) (h : (d * v) % p = 1) : (a - ((a * v) % p) * d) % p = 0 := by
  have h1 : ((a * v) % p * d) % p = a % p := by
    rw [Int.mul_emod, Int.emod_emod, ← Int.mul_emod]
    have h2 : a * v * d = a * (d * v) := by rw [Int.mul_assoc, Int.mul_comm v d]
    rw [h2, Int.mul_emod, h, Int.mul_one, Int.emod_emod]
  rw [Int.sub_emod, h1, Int.sub_self, Int.zero_emod]
theorem divP_zero (ys : List Int) (m : Nat) (v p : Int) (hm : 1 ≤ m) (hv : (ys.getD (m - 1) 0 * v) % p = 1) (k : Nat) :
    ∀ L out, k + (m - 1) ≤ L.length → (∀ j, k + (m - 1) ≤ j → j < L.length → L.getD j 0 = 0) → ∀ j, m - 1 ≤ j → (divP ys m v p k L out).1.getD j 0 = 0 := by
  induction k with
  | zero =>
    intro L out _ hz j hj
    show L.getD j 0 = 0
    by_cases hjl : j < L.length
    · exact hz j (by omega) hjl
    · exact getD_beyond (by omega)
  | succ k ih =>
    intro L out hk hz
    rw [divP]
    refine ih _ _ (by rw [rowP_len]; omega) ?_
    intro j hj hjl
    rw [rowP_len] at hjl
    rw [rowP_get _ _ _ _ _ _ _ hjl]
    by_cases h1 : j = k + (m - 1)
    · rw [if_pos (by omega), h1, show k + (m - 1) - k = m - 1 by omega]
      exact quot_zero _ _ _ _ hv
    · rw [if_neg (by omega)]
      exact hz j (by omega) hjl
theorem divP_len1 (ys : List Int) (m : Nat) (v p : Int) (k : Nat) : ∀ L out, (divP ys m v p k L out).1.length = L.length := by
  induction k with
  | zero => intro L out; rfl
  | succ k ih => intro L out; rw [divP, ih, rowP_len]
theorem tlen_congr (xs ys : List Int) (n : Nat) (h : ∀ j, j < n → xs.getD j 0 = ys.getD j 0) : tlen xs n = tlen ys n := by
  induction n with
  | zero => rfl
  | succ n ih =>
    cases n with
    | zero => rfl
    | succ n =>
      rw [tlen, tlen, h (n + 1) (by omega), ih (fun j hj => h j (by omega))]
theorem tlen_down (xs : List Int) (k : Nat) (hk : 1 ≤ k) (n : Nat) (hn : k ≤ n) (h : ∀ j, k ≤ j → j < n → xs.getD j 0 = 0) : tlen xs n = tlen xs k := by
  induction n with
  | zero => omega
  | succ n ih =>
    by_cases e : k = n + 1
    · rw [e]
    · rw [tlen_zero xs (n + 1) (by omega) (h n (by omega) (by omega)), Nat.add_sub_cancel]
      exact ih (by omega) (fun j h1 h2 => h j h1 (by omega))
/-- What lies from k on is 0: the list is trimmed as its first k terms are. -/
theorem trim_cut (xs : List Int) (k : Nat) (hk : 1 ≤ k) (hkn : k ≤ xs.length) (h : ∀ j, k ≤ j → xs.getD j 0 = 0) : trimL (xs.take k) = trimL xs := by
  unfold trimL
  rw [List.length_take, Nat.min_eq_left hkn, tlen_down xs k hk xs.length hkn (fun j h1 _ => h j h1), tlen_congr (xs.take k) xs k (fun j hj => getD_take _ _ _ hj), List.take_take, Nat.min_eq_left (tlen_le xs k)]
theorem trim_zeros (xs : List Int) (hn : 1 ≤ xs.length) (h : ∀ j, xs.getD j 0 = 0) : trimL xs = [0] := by
  unfold trimL
  rw [tlen_down xs 1 (Nat.le_refl _) xs.length hn (fun j _ _ => h j), tlen_one]
  cases xs with
  | nil => simp at hn
  | cons x xs =>
    have := h 0
    simp at this
    subst this
    rfl
theorem trim_okW {xs : List Int} (h : okW xs = true) : trimL xs = xs := by
  have h1 := (okW_true.1 h).1
  have key : tlen xs xs.length = xs.length := by
    by_cases e : xs.length = 1
    · rw [e]; rfl
    · apply tlen_stop _ _ (by omega)
      rcases h1.2.2 with e2 | e2
      · omega
      · exact e2
  unfold trimL
  rw [key, List.take_length]
theorem overB_lt {xs : List Int} {p : Int} (h : overB xs p = true) (hp : 2 ≤ p) (j : Nat) : 0 ≤ xs.getD j 0 ∧ xs.getD j 0 < p := by
  unfold overB at h
  rw [Bool.and_eq_true] at h
  by_cases hj : j < xs.length
  · have := inB_true.1 (allIn_iff.1 h.2 j hj)
    omega
  · rw [getD_beyond (by omega)]; omega
theorem last_pos {xs : List Int} {p : Int} (h : overB xs p = true) (hz : zeroB xs = false) (hp : 2 ≤ p) : 1 ≤ lastOf xs ∧ lastOf xs < p := by
  have hb := overB_lt h hp (xs.length - 1)
  change 0 ≤ lastOf xs ∧ lastOf xs < p at hb
  have h1 := (okW_true.1 (overB_ok h)).1
  have hne : lastOf xs ≠ 0 := by
    rcases h1.2.2 with e | e
    · intro h0
      unfold lastOf at h0
      rw [e] at h0
      unfold zeroB at hz
      have h2 : xs.getD 0 0 = 0 := h0
      rw [e, h2] at hz
      simp at hz
    · exact e
  omega

set_option maxHeartbeats 1000000 in
theorem inv_ref (x : Int) (P : Nat) (w : World) (hx : 0 ≤ x ∧ x ≤ 12) (hp : 2 ≤ P ∧ P ≤ 13) :
    Calls Try.prog 73 #[.int .i64 x, .int .i64 (P : Int)] w fun e w' => e = .returned (.int .i64 (invI x P)) ∧ w = w' := by
  have HE := Lib.hid (inv_from1 x (p := (P : Int)) (by omega))
  have hpz : ((P : Int) == 0) = false := by simp; omega
  have hpn : ¬ (P : Int) = 0 := by omega
  generalize invI x P = R at HE
  go_enter Try.func73, Try.ntmps73
  go_wp2_with fail
  go_loopg [5] P (fun g s5 wr => ∃ y : Nat, 1 ≤ y ∧ y ≤ P ∧ P - y ≤ g ∧ s5 = .int .i64 y ∧ Aside (invU x P (P - y) y = R) ∧ wr = w)
  case atStart => exact ⟨1, Nat.le_refl _, by omega, by omega, rfl, HE.out, rfl⟩
  case round =>
    obtain ⟨y, hy1, hyP, hg, rfl, hA, rfl⟩ := hrel
    by_cases hlt : y < P
    · have hltz : (y : Int) < (P : Int) := by omega
      have hA2 := hA.out
      rw [show P - y = (P - (y + 1)) + 1 by omega, invU] at hA2
      have hb := mul_bd 12 13 (a := x) (b := (y : Int)) (by omega) (by omega) (by omega) (by omega)
      have hb0 : 0 ≤ x * (y : Int) := Int.mul_nonneg hx.1 (by omega)
      have hb1 : x * (y : Int) ≤ 156 := by omega
      have hr1 : 0 ≤ (x * (y : Int)) % (P : Int) := Int.emod_nonneg _ hpn
      have hr2 : (x * (y : Int)) % (P : Int) < (P : Int) := Int.emod_lt_of_pos _ (by omega)
      clear hA HE hb
      by_cases h1 : (x * (y : Int)) % (P : Int) = 1
      · rw [if_pos h1] at hA2
        have HR : Hid ((y : Int) = R) := hA2
        clear hA2
        go_wp2_with fail
        go_ret
        exact ⟨ret_i64 HR.out, rfl⟩
      · rw [if_neg h1] at hA2
        have HR := Lib.hid hA2
        have hne : ((x * (y : Int)) % (P : Int) == 1) = false := by simpa using h1
        clear hA2 h1
        go_wp2_with fail
        go_roundg (P - (y + 1))
        case measure => omega
        case rel => exact ⟨y + 1, by omega, by omega, by omega, by go_num, HR.out, rfl⟩
    · have hltz : ¬ (y : Int) < (P : Int) := by omega
      obtain rfl : P = y := by omega
      have HR : Hid (0 = R) := by
        have h5 := hA.out
        rw [Nat.sub_self, invU] at h5
        exact h5
      clear hA
      go_wp2_with fail
      go_ret
      exact ⟨ret_i64 HR.out, rfl⟩

set_option maxHeartbeats 1000000 in
theorem inv_own (x : Int) (P : Nat) (w : World) (hx : 0 ≤ x ∧ x ≤ 12) (hp : 2 ≤ P ∧ P ≤ 13) :
    Calls Try.prog 75 #[.int .i64 x, .int .i64 (P : Int)] w fun e w' => e = .returned (.int .i64 (invI x P)) ∧ w = w' := by
  have HE : Hid (invU x P P 0 = invI x P) := rfl
  generalize invI x P = R at HE
  go_enter Try.func75, Try.ntmps75
  go_wp2_with fail
  go_loopg [5, 7] P (fun g _s5 s7 wr => ∃ y : Nat, y ≤ P ∧ P - y ≤ g ∧ s7 = .int .i64 y ∧ Aside (invU x P (P - y) y = R) ∧ wr = w)
  case atStart => exact ⟨0, by omega, by omega, rfl, HE.out, rfl⟩
  case round =>
    obtain ⟨y, hyP, hg, rfl, hA, rfl⟩ := hrel
    by_cases hlt : y < P
    · have hltz : (y : Int) < (P : Int) := by omega
      have hA2 := hA.out
      rw [show P - y = (P - (y + 1)) + 1 by omega, invU] at hA2
      have hb := mul_bd 12 13 (a := x) (b := (y : Int)) (by omega) (by omega) (by omega) (by omega)
      have hb0 : 0 ≤ x * (y : Int) := Int.mul_nonneg hx.1 (by omega)
      have hb1 : x * (y : Int) ≤ 156 := by omega
      clear hA HE hb
      by_cases h1 : (x * (y : Int)) % (P : Int) = 1
      · rw [if_pos h1] at hA2
        have HR : Hid ((y : Int) = R) := hA2
        clear hA2
        go_wp2_with fail
        refine (mod_own _ _ _ (by omega) (by omega)).mono ?_
        rintro e w6 ⟨rfl, rfl⟩
        go_wp2_with fail
        go_ret
        exact ⟨ret_i64 HR.out, rfl⟩
      · rw [if_neg h1] at hA2
        have HR := Lib.hid hA2
        have hne : ((x * (y : Int)) % (P : Int) == 1) = false := by simpa using h1
        clear hA2 h1
        go_wp2_with fail
        refine (mod_own _ _ _ (by omega) (by omega)).mono ?_
        rintro e w6 ⟨rfl, rfl⟩
        go_wp2_with fail
        go_roundg (P - (y + 1))
        case measure => omega
        case rel => exact ⟨y + 1, by omega, by omega, by go_num, HR.out, rfl⟩
    · have hltz : ¬ (y : Int) < (P : Int) := by omega
      obtain rfl : P = y := by omega
      have HR : Hid (0 = R) := by
        have h5 := hA.out
        rw [Nat.sub_self, invU] at h5
        exact h5
      clear hA
      go_wp2_with fail
      go_ret
      exact ⟨ret_i64 HR.out, rfl⟩
end Go.Proofs.Ytlfjnpioamcbhaa
