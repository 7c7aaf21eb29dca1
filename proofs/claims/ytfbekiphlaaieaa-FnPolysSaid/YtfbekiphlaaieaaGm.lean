/- Whatever the drawn roots (one to five), all that the law of the roots asks of the words holds. No other condition. -/
import Derived.Test.YtfbekiphlaaieaaGl
namespace Go.Proofs.Ytfbekiphlaaieaa

theorem V_million : V .f64 4696837146684686336 1000000 := ⟨false, 8589934592000000, -33, by decide +kernel, by decide +kernel⟩
def leF (f : Nat → Nat) : Nat → Nat
  | 0 => 4696837146684686336
  | i + 1 => minW .f64 (leF f i) (f i)
theorem le_of {f : Nat → Nat} (n : Nat) (h : ∀ i, i < n → ∃ l, V .f64 (f i) l ∧ -1 ≤ l) (i : Nat) (hi : i ≤ n) :
    ∃ β, V .f64 (leF f i) β ∧ -1 ≤ β ∧ β ≤ 1000000 ∧ ∀ ω t : Rat, ω ≤ 1000000 + t → (∀ j, j < i → ∀ l, V .f64 (f j) l → ω ≤ l + t) → ω ≤ β + t := by
  induction i with
  | zero => exact ⟨1000000, V_million, by grind, by grind, fun ω t h _ => h⟩
  | succ i ih =>
    obtain ⟨β, h1, h2, h3, h4⟩ := ih (by omega)
    obtain ⟨l, l1, l2⟩ := h i (by omega)
    refine ⟨rmin β l, V_min h1 l1, ?_, ?_, ?_⟩
    · unfold rmin; split <;> grind
    · unfold rmin; split <;> grind
    · intro ω t a1 a2
      have b1 := h4 ω t a1 (fun j hj => a2 j (by omega))
      have b2 := a2 i (by omega) l l1
      unfold rmin
      split <;> grind

/-- What is known of a root's size. -/
theorem root_size {m : Nat} {zs : List (Nat × Nat)} {Z : Nat → GI} (R : Roots (m + 1) zs Z) (i : Nat) (hi : i < m + 1) {l : Rat} (h : Sq l (nq (cq (Z i).1 (Z i).2 (-2)))) : l ≤ 7 := by
  have h1 := R.sm i hi
  have e : two (-2 + -2) = 1 / 16 := by decide +kernel
  have h2 : nq (cq (Z i).1 (Z i).2 (-2)) ≤ 6 * 6 := by
    rw [nq_cq]
    unfold iv2
    rw [e]
    have : (((Z i).1 * (Z i).1 + (Z i).2 * (Z i).2 : Int) : Rat) ≤ ((529 : Int) : Rat) := Rat.intCast_le_intCast.2 (by unfold nrm at h1; omega)
    have e3 : ((529 : Int) : Rat) = 529 := rfl
    rw [e3] at this
    grind
  have := sq_le_of h (by grind) h2
  grind

set_option maxHeartbeats 2000000 in
theorem rooted_facts (n : Nat) (zs : List (Nat × Nat)) (h1 : 1 ≤ n) (h5 : n ≤ 5) (hl : zs.length = n) (hd : ∀ j, j < n → Drawn (zs.getD j (0, 0))) : Nonempty (RF n zs) := by
  obtain ⟨Z, R⟩ := roots_of hl h5 hd
  obtain ⟨m, rfl⟩ : ∃ m, n = m + 1 := ⟨n - 1, by omega⟩
  have T := terms_of R
  have hlen := PW_len zs (m + 1)
  have hroots := PW_roots R
  have hW := fun i hi => root_words R i hi
  have hF := fun i hi => (root_facts R i hi).2.2.1
  have hRS := fun i hi => @root_size m zs Z R i hi
  have htop := coef_top Z (m + 1)
  have hcvtop := T.cv (m + 1) (Nat.le_refl _)
  have hcv0 := T.cv 0 (by omega)
  have hnrmtop : nq (cq (coefG Z (m + 1) (m + 1)).1 (coefG Z (m + 1) (m + 1)).2 (2 * ((m + 1 : Nat) : Int) - 2 * ((m + 1 : Nat) : Int))) = 1 := by
    rw [htop, Int.sub_self, nq_cq]
    unfold iv2
    rw [show (0 : Int) + 0 = 0 from rfl, two_zero]
    decide +kernel
  have hzlast : isZ ((PW zs (m + 1)).getD (m + 1) (0, 0)) = false := by
    rw [isZ_iff hcvtop, htop]
    rfl
  have hlead : V .f32 ((PW zs (m + 1)).getD (m + 1) (0, 0)).1 1 ∧ V .f32 ((PW zs (m + 1)).getD (m + 1) (0, 0)).2 0 := by
    have a := hcvtop.re
    have b := hcvtop.im
    rw [htop] at a b
    simp only [Int.sub_self] at a b
    have e1 : iv2 1 0 = 1 := by unfold iv2; rw [two_zero]; decide +kernel
    have e2 : iv2 0 0 = 0 := by unfold iv2; simp
    rw [e1] at a
    rw [e2] at b
    exact ⟨a, b⟩
  have hlast : (PW zs (m + 1)).length = 1 ∨ isZ ((PW zs (m + 1)).getD ((PW zs (m + 1)).length - 1) (0, 0)) = false := by
    right
    rw [hlen]
    exact hzlast
  have htrim : trimC (PW zs (m + 1)) = PW zs (m + 1) := trimC_id (by omega) hlast
  have hvalid : Valid (PW zs (m + 1)) := by
    have := valid_trim (xs := PW zs (m + 1)) (by omega) (by omega) T.num
    rwa [htrim] at this
  obtain ⟨μ, ρ, w1', w2', w3', w4', w5', w6', w7'⟩ := within_of T (by rw [htop]; decide)
  rw [hnrmtop] at w7'
  obtain ⟨wr, ρ', wr1, wr2⟩ := op_conv w2' (k' := .f64) (by decide) (by rw [t60]; unfold ab; grind)
  obtain ⟨p1, p2, p3⟩ := near_pos wr2.near (by grind)
  obtain ⟨wj, ω, wj1, wj2⟩ := op_add wr2.val V_w001 (by rw [t60]; unfold ab; grind)
  obtain ⟨q1, q2, q3⟩ := near_pos wj2.near (by grind)
  have hM0 : 0 ≤ μ * (1 + 1 / 100000) := Rat.mul_nonneg w3' (by grind)
  -- each root lies within
  have hin : ∀ i, i < m + 1 → ∀ l, Sq l (nq (cq (Z i).1 (Z i).2 (-2))) → l ≤ (1 + μ * (1 + 1 / 100000)) * (1 + 1 / 1000000) := by
    intro i hi l hs
    obtain ⟨v, v1, v2, v3⟩ := hF i hi
    have hc := cauchy_up (m + 1) v _ (cq (Z i).1 (Z i).2 (-2)) (μ * (1 + 1 / 100000)) hM0 (by rw [v3, hnrmtop]; exact Rat.le_refl) v1 v2 (fun k hk => by have := w7' k hk; grind)
    exact sq_le_of hs (by grind) hc
  have hlz : ∀ i, i < m + 1 → ∃ l, V .f64 (u64w (longF (zs.getD i (0, 0)))) l ∧ -1 ≤ l := by
    intro i hi
    obtain ⟨l, l', a1, a2, a3, a4⟩ := (hW i hi).lval
    exact ⟨l', a2, by have := a1.pos; grind⟩
  obtain ⟨β, b1, b2, b3, b4⟩ := le_of (f := fun i => u64w (longF (zs.getD i (0, 0)))) (m + 1) hlz (m + 1) (Nat.le_refl _)
  have hrevT := T.rev
  have hrl : (PW zs (m + 1)).reverse.length = m + 2 := by rw [List.length_reverse]; omega
  have hrev0 : isZ ((PW zs (m + 1)).getD 0 (0, 0)) = false → trimC (PW zs (m + 1)).reverse = (PW zs (m + 1)).reverse := by
    intro hz
    refine trimC_id (by omega) (.inr ?_)
    rw [rev_get _ _ (by omega)]
    have e : (PW zs (m + 1)).length - 1 - ((PW zs (m + 1)).reverse.length - 1) = 0 := by omega
    rw [e]
    exact hz
  have hbackv : Valid (trimC (PW zs (m + 1)).reverse) := valid_trim (by omega) (by omega) (num_rev T.num)
  refine ⟨{
    P := PW zs
    mm := fun t k => mulF (zs.getD t (0, 0)) ((PW zs t).getD k (0, 0))
    roots := hroots
    len := hlen
    valid := hvalid
    trim := htrim
    lead1 := eq_true hlead.1 V_one
    lead2 := eq_true hlead.2 V_nil
    ls := _, qs := _, mo := _, L := _, r := _
    within_ := w1'
    wr := wr
    cw := wr1
    wj := wj
    addw := wj1
    vs := fun i => vsF (PW zs (m + 1)) (m + 1) (zs.getD i (0, 0))
    ms := fun i => msF (PW zs (m + 1)) (m + 1) (zs.getD i (0, 0))
    lv := fun i k => longF (vsF (PW zs (m + 1)) (m + 1) (zs.getD i (0, 0)) k)
    fm := fun i k => g32 .mul (longF (zs.getD i (0, 0))) (evF (m + 1) (PW zs (m + 1)) (zs.getD i (0, 0)) (m + 1 - k - 1))
    es := fun i k => evF (m + 1) (PW zs (m + 1)) (zs.getD i (0, 0)) (m + 1 - k)
    lz := fun i => longF (zs.getD i (0, 0))
    ba := _, bb := _, bd := _, rb := _
    bound := fun i hi => (hW i hi).bound
    num0 := fun i hi => (hW i hi).num0
    l1 := _, ww := _, pm := _, ss := _, l1z := _, xz := _
    size := fun i hi => (hW i hi).size
    neg := fun i hi => (hW i hi).neg
    far := _
    hfar := fun i hi => (hW i hi).hfar
    on := _
    hon := fun i hi => (hW i hi).hon
    mil := _
    hmil := fun i hi => (hW i hi).hmil
    farok := fun i hi => (hW i hi).farok
    rb64 := _
    hrb := fun i hi => (hW i hi).hrb
    rbok := fun i hi => (hW i hi).rbok
    lz64 := fun i => u64w (longF (zs.getD i (0, 0)))
    hlz := fun i hi => (hW i hi).hlz
    lzok := ?_
    le := leF (fun i => u64w (longF (zs.getD i (0, 0))))
    le0 := rfl
    leS := fun i _ => rfl
    leN := fun i hi => by
      obtain ⟨β', h, _⟩ := le_of (f := fun i => u64w (longF (zs.getD i (0, 0)))) (m + 1) hlz i hi
      exact ⟨β', h⟩
    lzN := fun i hi => by
      obtain ⟨l, h, _⟩ := hlz i hi
      exact ⟨l, h⟩
    beyond := ?_
    back := hbackv
    again := ?_
    same := ?_
    made := made_of (by omega) hlast
    wide := T.wide
    points := fun z hz => points_of T h5 hz }⟩
  · intro i hi
    obtain ⟨l, l', a1, a2, a3, a4⟩ := (hW i hi).lval
    refine gt_false a2 wj2.val ?_
    have c1 := hin i hi l a1
    have c2 := hRS i hi a1
    have c3 := a1.pos
    by_cases hμ : μ ≤ 10
    · grind
    · grind
  · intro hz
    have hc0 : coefG Z (m + 1) 0 ≠ (0, 0) := by
      intro e
      rw [isZ_iff hcv0, e] at hz
      simp at hz
    have hrt := hrev0 hz
    obtain ⟨μ', ρr, u1, u2, u3, u4, u5, u6, u7⟩ := within_of hrevT (by simp only [Nat.sub_self]; exact hc0)
    simp only [Nat.sub_self] at u7
    have hρ0 : 99 / 100 ≤ ρr := by grind
    obtain ⟨r, q, r1, r2, r3, r4, r5⟩ := op_div V_one u2 (by grind) (by grind) (by grind) (.inr (by grind))
    have hqb : q ≤ 11 / 10 := by
      refine Classical.byContradiction fun hn => ?_
      have : 11 / 10 * (99 / 100) ≤ q * ρr := by
        have e1 : 11 / 10 * (99 / 100) ≤ q * (99 / 100) := Rat.mul_le_mul_of_nonneg_right (by grind) (by grind)
        have e2 := Rat.mul_le_mul_of_nonneg_left hρ0 r3
        grind
      grind
    obtain ⟨r64, ω', c1, c2⟩ := op_conv r2 (k' := .f64) (by decide) (by rw [t60]; unfold ab; grind)
    obtain ⟨d1, d2, d3⟩ := near_pos c2.near r3
    have hκ : (999 / 1000000 : Rat) ≤ 4611686018427388 / 4611686018427387904 ∧ (4611686018427388 / 4611686018427387904 : Rat) ≤ 1001 / 1000000 := by constructor <;> decide +kernel
    obtain ⟨sb, σ, s1, s2⟩ := op_add b1 V_w001 (by rw [t60]; unfold ab; grind)
    rw [hrt]
    refine ⟨_, _, _, _, _, r, r64, sb, by omega, u1, r1, ⟨q, r2⟩, c1, s1, ?_⟩
    · -- q is at most a little more than each root's size
      have hqμ : q * (1 + μ') ≤ 1 + 2 / 1000000 := by
        have e2 := Rat.mul_le_mul_of_nonneg_left u5 r3
        have e3 : q * ((1 + μ') * (1 - 1 / 8000000)) = q * (1 + μ') * (1 - 1 / 8000000) := by grind
        rw [e3] at e2
        generalize q * (1 + μ') = X at *
        grind
      have hM0' : 0 ≤ μ' * (1 + 1 / 100000) := Rat.mul_nonneg u3 (by grind)
      have hlow : ∀ i, i < m + 1 → ∀ l, Sq l (nq (cq (Z i).1 (Z i).2 (-2))) → q ≤ l * (1 + 2 / 100000) := by
        intro i hi l hs
        obtain ⟨v, v1, v2, v3⟩ := hF i hi
        have hpos : 0 < nq (cq (coefG Z (m + 1) 0).1 (coefG Z (m + 1) 0).2 (2 * ((0 : Nat) : Int) - 2 * ((m + 1 : Nat) : Int))) := by
          have h0 := nq_nonneg (cq (coefG Z (m + 1) 0).1 (coefG Z (m + 1) 0).2 (2 * ((0 : Nat) : Int) - 2 * ((m + 1 : Nat) : Int)))
          have hne : nq (cq (coefG Z (m + 1) 0).1 (coefG Z (m + 1) 0).2 (2 * ((0 : Nat) : Int) - 2 * ((m + 1 : Nat) : Int))) ≠ 0 := by
            intro e
            have := cq_zero_of e
            exact hc0 (Prod.ext this.1 this.2)
          grind
        have hc := cauchy_low (m + 1) v (fun k => cq (coefG Z (m + 1) k).1 (coefG Z (m + 1) k).2 (2 * (k : Int) - 2 * ((m + 1 : Nat) : Int))) (cq (Z i).1 (Z i).2 (-2)) (μ' * (1 + 1 / 100000)) hM0' (by omega) v1 v2 v3 hpos (fun k hk1 hk2 => by
          have h7 := u7 (m + 1 - k) (by omega)
          have e : m + 1 - (m + 1 - k) = k := by omega
          rw [e] at h7
          exact h7)
        have hl0 := hs.pos
        have hh := hs.high
        -- 1 <= (l (1+e) (1+M))^2
        have hA : 0 ≤ (1 + μ' * (1 + 1 / 100000)) * (1 + μ' * (1 + 1 / 100000)) := rsq_nonneg _
        have h8 : nq (cq (Z i).1 (Z i).2 (-2)) * ((1 + μ' * (1 + 1 / 100000)) * (1 + μ' * (1 + 1 / 100000))) ≤ l * l * (1 + 1 / 1000000) * ((1 + μ' * (1 + 1 / 100000)) * (1 + μ' * (1 + 1 / 100000))) := Rat.mul_le_mul_of_nonneg_right hh hA
        have hlM := Rat.mul_nonneg hl0 (show 0 ≤ 1 + μ' * (1 + 1 / 100000) by grind)
        have h9 : (1 : Rat) ≤ l * (1 + μ' * (1 + 1 / 100000)) * (1 + 1 / 1000000) := by
          refine sq_anti (by grind) ?_
          have hsq := rsq_nonneg (l * (1 + μ' * (1 + 1 / 100000)))
          have e : l * l * (1 + 1 / 1000000) * ((1 + μ' * (1 + 1 / 100000)) * (1 + μ' * (1 + 1 / 100000))) = l * (1 + μ' * (1 + 1 / 100000)) * (l * (1 + μ' * (1 + 1 / 100000))) * (1 + 1 / 1000000) := by grind
          rw [e] at h8
          have e2 : l * (1 + μ' * (1 + 1 / 100000)) * (1 + 1 / 1000000) * (l * (1 + μ' * (1 + 1 / 100000)) * (1 + 1 / 1000000)) = l * (1 + μ' * (1 + 1 / 100000)) * (l * (1 + μ' * (1 + 1 / 100000))) * ((1 + 1 / 1000000) * (1 + 1 / 1000000)) := by grind
          rw [e2]
          generalize l * (1 + μ' * (1 + 1 / 100000)) * (l * (1 + μ' * (1 + 1 / 100000))) = X at *
          grind
        have hlμ : 0 ≤ l * μ' := Rat.mul_nonneg hl0 u3
        have h10 : (1 : Rat) ≤ l * (1 + μ') * (1 + 12 / 1000000) := by
          have e : l * (1 + μ' * (1 + 1 / 100000)) = l + l * μ' * (1 + 1 / 100000) := by grind
          have e2 : l * (1 + μ') = l + l * μ' := by grind
          rw [e] at h9
          rw [e2]
          generalize l * μ' = Y at *
          grind
        have h11 := Rat.mul_le_mul_of_nonneg_right h10 r3
        have e3 : l * (1 + μ') * (1 + 12 / 1000000) * q = l * (q * (1 + μ')) * (1 + 12 / 1000000) := by grind
        rw [e3] at h11
        have h12 := Rat.mul_le_mul_of_nonneg_left hqμ hl0
        generalize l * (q * (1 + μ')) = Y at *
        grind
      have hωβ : ω' ≤ β + 9 / 10000 := by
        refine b4 ω' (9 / 10000) (by grind) ?_
        intro j hj l2 hv2
        obtain ⟨l, l', a1, a2, a3, a4⟩ := (hW j hj).lval
        have e := V.uniq hv2 a2
        subst e
        have g1 := hlow j hj l a1
        have g2 := hRS j hj a1
        have g3 := a1.pos
        grind
      have hb0 : -1 ≤ β := b2
      refine gt_false c2.val s2.val ?_
      by_cases hβ : 0 ≤ β + 4611686018427388 / 4611686018427387904
      · obtain ⟨e1, e2, e3⟩ := near_pos s2.near hβ
        by_cases hβ10 : β ≤ 10
        · grind
        · grind
      · exfalso
        grind
  · have hn2 := hbackv.nums
    have hl2 := hbackv.one
    have hm2 := hbackv.most
    exact valid_trim (by rw [List.length_reverse]; exact hl2) (by rw [List.length_reverse]; exact hm2) (num_rev hn2)
  · intro hz
    rw [hrev0 hz, List.reverse_reverse]
    exact htrim
end Go.Proofs.Ytfbekiphlaaieaa
