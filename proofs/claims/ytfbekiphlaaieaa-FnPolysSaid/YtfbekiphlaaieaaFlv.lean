/- Floats: the number that a word stands for; sums, products and their like of small enough numbers, rounded. Condition: the numbers are less than 2 to the power of 60. -/
import Derived.Test.YtfbekiphlaaieaaFlo
namespace Go.Proofs.Ytfbekiphlaaieaa
open Ieee

def two (e : Int) : Rat := (2 : Rat) ^ e
theorem two_pos (e : Int) : 0 < two e := Rat.zpow_pos (by decide)
theorem two_add (a b : Int) : two (a + b) = two a * two b := Rat.zpow_add (by decide) a b
theorem two_zero : two 0 = 1 := Rat.zpow_zero _
theorem two_nat (n : Nat) : two (n : Int) = ((2 ^ n : Nat) : Rat) := by
  unfold two
  rw [Rat.zpow_natCast]
  simp
theorem one_le_two (n : Nat) : 1 ≤ two (n : Int) := by
  rw [two_nat]
  have : 1 ≤ 2 ^ n := Nat.one_le_two_pow
  exact_mod_cast this
theorem two_le {a b : Int} (h : a ≤ b) : two a ≤ two b := by
  obtain ⟨n, rfl⟩ : ∃ n : Nat, b = a + n := ⟨(b - a).toNat, by omega⟩
  rw [two_add]
  have h1 := one_le_two n
  have h2 := Rat.mul_le_mul_of_nonneg_left h1 (Rat.le_of_lt (two_pos a))
  grind
def sg (s : Bool) : Rat := if s then -1 else 1
def sv (s : Bool) (m : Nat) (e : Int) : Rat := sg s * (m : Rat) * two e
/-- The word stands for the number q. -/
def V (k : FloatKind) (b : Nat) (q : Rat) : Prop := ∃ s m e, k.decode b = .number s m e ∧ q = sv s m e

theorem kept_near (f : Format) (s : Bool) (m : Nat) (e : Int) (hm : 0 < m) :
    2 * ((keptOf f s m e : Rat) * two (lastOfN f m e)) ≤ 2 * ((m : Rat) * two e) + two (lastOfN f m e) ∧ 2 * ((m : Rat) * two e) ≤ 2 * ((keptOf f s m e : Rat) * two (lastOfN f m e)) + two (lastOfN f m e) ∧
    (∀ (c : Nat) (p : Int), (m : Rat) * two e = (c : Rat) * two p → lastOfN f m e ≤ p → (keptOf f s m e : Rat) * two (lastOfN f m e) = (m : Rat) * two e) := by
  unfold keptOf
  generalize lastOfN f m e = last
  rcases Int.le_total last e with hc | hc
  · have e0 : (last - e).toNat = 0 := by omega
    rw [e0]
    obtain ⟨d, hd⟩ : ∃ d : Nat, e = last + d := ⟨(e - last).toNat, by omega⟩
    have hd' : (e - last).toNat = d := by omega
    rw [hd']
    have hn : 0 < m <<< d := by rw [Nat.shiftLeft_eq]; exact Nat.mul_pos hm (Nat.two_pow_pos _)
    have hk := (cut_near s (m <<< d) 0 hn).2.2 (m <<< d) (by simp)
    rw [hk, Nat.shiftLeft_eq, hd, two_add, two_nat]
    have hp := two_pos last
    push_cast
    refine ⟨by grind, by grind, fun c p _ _ => by grind⟩
  · have e0 : (e - last).toNat = 0 := by omega
    rw [e0]
    obtain ⟨d, hd⟩ : ∃ d : Nat, last = e + d := ⟨(last - e).toNat, by omega⟩
    have hd' : (last - e).toNat = d := by omega
    rw [hd', Nat.shiftLeft_zero]
    obtain ⟨k1, k2, k3⟩ := cut_near s m d hm
    have hp := two_pos e
    rw [hd, two_add, two_nat]
    have hex : ∀ (c : Nat) (p : Int), (m : Rat) * two e = (c : Rat) * two p → e + d ≤ p → (Toward.even.cut s m d : Rat) * ((2 ^ d : Nat) : Rat) = (m : Rat) := by
      intro c p hcp hlp
      obtain ⟨j, rfl⟩ : ∃ j : Nat, p = e + d + j := ⟨(p - (e + d)).toNat, by omega⟩
      rw [two_add, two_add, two_nat, two_nat] at hcp
      have h1 : (m : Rat) * two e = ((c : Rat) * ((2 ^ j : Nat) : Rat) * ((2 ^ d : Nat) : Rat)) * two e := by rw [hcp]; grind
      have h2 : (m : Rat) = (c : Rat) * ((2 ^ j : Nat) : Rat) * ((2 ^ d : Nat) : Rat) := by
        have h3 := congrArg (fun x => x * (two e)⁻¹) h1
        simp only [Rat.mul_assoc, Rat.mul_inv_cancel _ (Ne.symm (Rat.ne_of_lt hp)), Rat.mul_one] at h3
        rw [h3]; grind
      have h4 : m = c * 2 ^ j * 2 ^ d := by exact_mod_cast h2
      rw [k3 _ h4]
      rw [h2]
      push_cast
      rfl
    have hex' : ∀ (c : Nat) (p : Int), (m : Rat) * two e = (c : Rat) * two p → e + d ≤ p → (Toward.even.cut s m d : Rat) * (two e * ((2 ^ d : Nat) : Rat)) = (m : Rat) * two e := by
      intro c p h1 h2
      rw [← hex c p h1 h2]
      grind
    clear hex k3
    have k1' : 2 * ((Toward.even.cut s m d : Rat) * ((2 ^ d : Nat) : Rat)) ≤ 2 * (m : Rat) + ((2 ^ d : Nat) : Rat) := by exact_mod_cast k1
    have k2' : 2 * (m : Rat) ≤ 2 * ((Toward.even.cut s m d : Rat) * ((2 ^ d : Nat) : Rat)) + ((2 ^ d : Nat) : Rat) := by exact_mod_cast k2
    have k1'' := Rat.mul_le_mul_of_nonneg_right k1' (Rat.le_of_lt hp)
    have k2'' := Rat.mul_le_mul_of_nonneg_right k2' (Rat.le_of_lt hp)
    exact ⟨by grind, by grind, hex'⟩
theorem two_lt {a b : Int} (h : two a < two b) : a < b := by
  rcases Int.lt_or_le a b with h1 | h1
  · exact h1
  · have := two_le h1
    grind
def ab (x : Rat) : Rat := if x < 0 then -x else x
theorem ab_sg (s : Bool) (x : Rat) (h : 0 ≤ x) : ab (sg s * x) = x := by
  unfold ab sg
  cases s <;> grind
/-- q' is q rounded. -/
structure Near (q q' : Rat) : Prop where
  far : ab (q' - q) ≤ two (-23) * ab q + two (-140)
  pos : 0 ≤ q → 0 ≤ q'
  neg : q ≤ 0 → q' ≤ 0
def digits : FloatKind → Int
  | .f32 => 24
  | .f64 => 53
theorem V_zero (k : FloatKind) (s : Bool) (e : Int) : V k (k.encode (.number s 0 e)) 0 := by
  have h : k.encode (.number s 0 e) = k.format.word s 0 := by
    show k.format.nearest s 0 e = _
    unfold Format.nearest
    rw [if_pos rfl]
  rw [h]
  have h1 : k.decode (k.format.word s 0) = .number s 0 k.format.leastPlace := by
    cases k <;> cases s <;> decide +kernel
  refine ⟨_, _, _, h1, ?_⟩
  unfold sv
  grind
theorem rnd (k : FloatKind) (s : Bool) (m : Nat) (e : Int) (q : Rat) (hq : q = sv s m e) (hb : ab q < two 60) :
    ∃ q', V k (k.encode (.number s m e)) q' ∧ Near q q' ∧ ∀ (c : Nat) (p : Int), ab q = (c : Rat) * two p → (c : Rat) < two (digits k) → -149 ≤ p → q' = q := by
  rcases Nat.eq_zero_or_pos m with h0 | hm
  · subst h0
    have hz : q = 0 := by rw [hq]; unfold sv; grind
    refine ⟨0, V_zero k s e, ?_, fun _ _ _ _ _ => hz.symm⟩
    subst hz
    have := two_pos (-140)
    have e1 : ab 0 = 0 := by unfold ab; simp
    have e2 : (0 : Rat) - 0 = 0 := by grind
    exact ⟨by rw [e2, e1]; grind, fun _ => by grind, fun _ => by grind⟩
  have hmu : ab q = (m : Rat) * two e := by
    rw [hq]
    unfold sv
    rw [Rat.mul_assoc]
    exact ab_sg s _ (Rat.mul_nonneg (by exact_mod_cast Nat.zero_le m) (Rat.le_of_lt (two_pos e)))
  have h2 : 2 ^ m.log2 ≤ m := Nat.log2_self_le (by omega)
  have h2' : two (e + m.log2) ≤ (m : Rat) * two e := by
    rw [two_add, two_nat]
    have h3 : ((2 ^ m.log2 : Nat) : Rat) ≤ (m : Rat) := by exact_mod_cast h2
    have h4 := Rat.mul_le_mul_of_nonneg_right h3 (Rat.le_of_lt (two_pos e))
    grind
  have h60 : e + (m.log2 : Int) < 60 := two_lt (by grind)
  obtain ⟨n1, n2, n3⟩ := kept_near k.format s m e hm
  have hinf : lastOfN k.format m e - k.format.leastPlace + 3 < 2 ^ k.format.exponentBits := by
    unfold lastOfN
    cases k
    · show max (e + (m.log2 : Int) - 23) (-149) - (-149) + 3 < 256
      omega
    · show max (e + (m.log2 : Int) - 52) (-1074) - (-1074) + 3 < 2048
      omega
  obtain ⟨m', e', hr, hv⟩ := nearest_read k.format s m e hm hinf
  have hlast : two (lastOfN k.format m e) ≤ two (-23) * ((m : Rat) * two e) + two (-149) := by
    have h5 : lastOfN k.format m e ≤ e + (m.log2 : Int) - 23 ∨ lastOfN k.format m e ≤ -149 := by
      unfold lastOfN
      cases k
      · show max (e + (m.log2 : Int) - 23) (-149) ≤ _ ∨ max (e + (m.log2 : Int) - 23) (-149) ≤ _
        omega
      · show max (e + (m.log2 : Int) - 52) (-1074) ≤ _ ∨ max (e + (m.log2 : Int) - 52) (-1074) ≤ _
        omega
    have hp1 := two_pos (-149)
    have hp2 := two_pos (-23)
    rcases h5 with h5 | h5
    · have h6 := two_le h5
      have h7 : two (e + (m.log2 : Int) - 23) = two (-23) * two (e + (m.log2 : Int)) := by
        rw [← two_add]
        congr 1
        omega
      have h8 := Rat.mul_le_mul_of_nonneg_left h2' (Rat.le_of_lt hp2)
      grind
    · have h6 := two_le h5
      have h8 : 0 ≤ two (-23) * ((m : Rat) * two e) := Rat.mul_nonneg (Rat.le_of_lt hp2) (Rat.mul_nonneg (by exact_mod_cast Nat.zero_le m) (Rat.le_of_lt (two_pos e)))
      grind
  have hv' : (m' : Rat) * two e' = (keptOf k.format s m e : Rat) * two (lastOfN k.format m e) := hv
  have hn3 : ∀ (c : Nat) (p : Int), (m : Rat) * two e = (c : Rat) * two p → (c : Rat) < two (digits k) → -149 ≤ p → (keptOf k.format s m e : Rat) * two (lastOfN k.format m e) = (m : Rat) * two e := by
    intro c p h hc hp
    refine n3 c p h ?_
    have h9 : two (e + m.log2) < two (digits k + p) := by
      rw [two_add (digits k)]
      have := Rat.mul_lt_mul_of_pos_right hc (two_pos p)
      grind
    have h10 := two_lt h9
    unfold lastOfN
    cases k
    · show max (e + (m.log2 : Int) - 23) (-149) ≤ p
      have h11 : e + (m.log2 : Int) < 24 + p := h10
      omega
    · show max (e + (m.log2 : Int) - 52) (-1074) ≤ p
      have h11 : e + (m.log2 : Int) < 53 + p := h10
      omega
  have ht := two_le (show (-149 : Int) ≤ -140 by omega)
  have hmp : 0 ≤ (m : Rat) * two e := Rat.mul_nonneg (by exact_mod_cast Nat.zero_le m) (Rat.le_of_lt (two_pos e))
  have hkp : 0 ≤ (keptOf k.format s m e : Rat) * two (lastOfN k.format m e) := Rat.mul_nonneg (by exact_mod_cast Nat.zero_le _) (Rat.le_of_lt (two_pos _))
  have hqs : q = sg s * ((m : Rat) * two e) := by rw [hq]; unfold sv; grind
  have hzero : (m : Rat) * two e = 0 → (keptOf k.format s m e : Rat) * two (lastOfN k.format m e) = 0 := by
    intro h
    have h1 : 0 < (m : Rat) := by exact_mod_cast hm
    have := Rat.mul_pos h1 (two_pos e)
    grind
  clear n3 hinf h60 h2 h2' hv hb hq
  refine ⟨sg s * ((keptOf k.format s m e : Rat) * two (lastOfN k.format m e)), ⟨s, m', e', hr, ?_⟩, ⟨?_, ?_, ?_⟩, ?_⟩
  · unfold sv
    rw [← hv']
    grind
  · rw [hmu, hqs]
    generalize (keptOf k.format s m e : Rat) * two (lastOfN k.format m e) = K at *
    generalize (m : Rat) * two e = M at *
    generalize two (lastOfN k.format m e) = T at *
    generalize two (-23) * M = E at *
    generalize two (-149) = t9 at *
    generalize two (-140) = t0 at *
    unfold ab sg
    cases s <;> grind
  · intro h
    rw [hqs] at h
    generalize (keptOf k.format s m e : Rat) * two (lastOfN k.format m e) = K at *
    generalize (m : Rat) * two e = M at *
    unfold sg at *
    cases s
    · grind
    · have hM : M = 0 := by grind
      have hK : K = 0 := by
        refine Classical.byContradiction fun hK0 => ?_
        exact hK0 (hzero hM)
      grind
  · intro h
    rw [hqs] at h
    generalize (keptOf k.format s m e : Rat) * two (lastOfN k.format m e) = K at *
    generalize (m : Rat) * two e = M at *
    unfold sg at *
    cases s
    · have hM : M = 0 := by grind
      have hK : K = 0 := hzero hM
      grind
    · grind
  · intro c p h1 h2 h3
    rw [hn3 c p (hmu.symm.trans h1) h2 h3]
    exact hqs.symm
end Go.Proofs.Ytfbekiphlaaieaa
