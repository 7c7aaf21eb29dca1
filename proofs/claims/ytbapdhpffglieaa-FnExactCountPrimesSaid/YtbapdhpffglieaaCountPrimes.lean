/- Contracts of CountPrimes, the program's and the reference's: 'countF'. Condition: the integers fit int64. -/
import Derived.Test.YtbapdhpffglieaaCount
import Derived.Test.YtbapdhpffglieaaIn
namespace Go.Proofs.Ytbapdhpffglieaa
open Go.RowKit

theorem countF_no {d p : Int} (h : inB d 1 6 = false) : countF d p = (0, false) := by unfold countF; rw [h]; rfl
theorem countF_no' {d p : Int} (h : primeB p = false) : countF d p = (0, false) := by unfold countF; rw [h, Bool.and_false]; rfl
theorem countF_yes {D : Nat} {p : Int} (h : inB (D : Int) 1 6 = true) (h' : primeB p = true) : countF D p = (allF D p D / D, true) := by
  unfold countF; rw [h, h', Int.toNat_natCast]; rfl

set_option maxHeartbeats 2000000 in
theorem count_own (d p : Int) (w : World) (bd : -9223372036854775808 ≤ d ∧ d ≤ 9223372036854775807) (_bp : -9223372036854775808 ≤ p ∧ p ≤ 9223372036854775807) :
    Calls Try.prog 12 #[.int .i64 d, .int .i64 p] w fun e w' => e = .returned (.tuple #[.int .i64 (countF d p).1, .bool (countF d p).2]) ∧ Below w.heap.size w w' := by
  cases hin : inB d 1 6
  · rw [countF_no hin]
    go_enter Try.func12, Try.ntmps12
    go_wp2_with fail
    refine (in_own _ _ _ _).mono ?_
    rintro e w1 ⟨rfl, rfl⟩
    go_wp2_with fail
    go_ret2
    exact ⟨rfl, Below.refl _ _⟩
  cases hp : primeB p
  · rw [countF_no' hp]
    go_enter Try.func12, Try.ntmps12
    go_wp2_with fail
    refine (in_own _ _ _ _).mono ?_
    rintro e w1 ⟨rfl, rfl⟩
    go_wp2_with fail
    refine (isPrime_own _ _).mono ?_
    rintro e w1 ⟨rfl, b1⟩
    go_wp2_with fail
    go_ret2
    exact ⟨rfl, b1⟩
  have hd := inB_true.1 hin
  obtain ⟨D, rfl⟩ := Int.eq_ofNat_of_zero_le (show 0 ≤ d by omega)
  have hpm : p ∈ primes := by simpa [primeB] using hp
  have hpb := prime_bd hpm
  rw [countF_yes hin hp]
  have HPOW := Lib.hid (pow_fact p hpm)
  have HALL := Lib.hid (fun k hk => all_fact p hpm D (by omega) k hk)
  have HPM := Lib.hid hpm
  clear hpm bd
  go_enter Try.func12, Try.ntmps12
  go_wp2_with fail
  refine (in_own _ _ _ _).mono ?_
  rintro e w1 ⟨rfl, rfl⟩
  go_wp2_with fail
  refine (isPrime_own _ _).mono ?_
  rintro e w1 ⟨rfl, b1⟩
  go_wp2_with fail
  clear hin hp
  have RM := rd_lit w1 mu 2 7 rfl (by simp [maxLen])
  have B2 := Lib.hid (b1.alloc b1.size (.cells (iv mu).toArray 2))
  clear b1
  go_loopg [7, 8] D (fun g s7 s8 wr => ∃ k : Nat, k ≤ D ∧ D - k ≤ g ∧ s8 = .int .i64 ((k : Int) + 1) ∧ s7 = .int .i64 (allF D p k) ∧ wr = w1.alloc (.cells (iv mu).toArray 2))
  case atStart => exact ⟨0, Nat.zero_le _, by omega, by go_num, rfl, rfl⟩
  case round =>
    obtain ⟨k, hk, hg, rfl, rfl, rfl⟩ := hrel
    by_cases hlt : k < D
    · have hltz : (k : Int) + 1 ≤ (D : Int) := by omega
      have ha := (HALL.out k (by omega)).1
      have ha' := (HALL.out (k + 1) (by omega)).1
      by_cases hm : D % (k + 1) = 0
      · have hmb : ((D : Int) % ((k : Int) + 1) != 0) = false := by
          have : (D : Int) % ((k : Int) + 1) = ((D % (k + 1) : Nat) : Int) := by simp
          rw [this, hm]; rfl
        have hq : (D : Int) / ((k : Int) + 1) = ((D / (k + 1) : Nat) : Int) := by simp
        have hq6 : D / (k + 1) ≤ 6 := Nat.le_trans (Nat.div_le_self _ _) (by omega)
        have hrec : allF D p (k + 1) = allF D p k + mu.getD (k + 1) 0 * p ^ (D / (k + 1)) := by rw [allF, if_pos hm]
        generalize D / (k + 1) = q at hq hq6 hrec
        obtain ⟨b', o', hA, hbl, hcm⟩ := RM.at_ (by omega)
        have hcell := hcm (k + 1) (by omega)
        obtain ⟨rfl, rfl⟩ : b' = w1.heap.size ∧ o' = 0 := by
          have := hA
          simp at this
          exact ⟨this.1.symm, this.2.symm⟩
        rw [Nat.zero_add] at hcell
        have hmu : -1 ≤ mu.getD (k + 1) 0 ∧ mu.getD (k + 1) 0 ≤ 1 := by
          have : ∀ j, j < 7 → -1 ≤ mu.getD j 0 ∧ mu.getD j 0 ≤ 1 := by decide
          exact this _ (by omega)
        clear hcm hA
        generalize mu.getD (k + 1) 0 = m at hcell hmu hrec
        have hqa : 0 ≤ (D : Int) / ((k : Int) + 1) := by rw [hq]; omega
        have hqb : (D : Int) / ((k : Int) + 1) ≤ 6 := by rw [hq]; omega
        have HQ := Lib.hid hq
        have HR := Lib.hid hrec
        clear hq hrec hm
        go_wp2_with fail
        rw [HQ.out]
        clear hqa hqb
        go_loopg [9, 31] q (fun g s9 s31 wr => ∃ i : Nat, i ≤ q ∧ q - i ≤ g ∧ s31 = .int .i64 i ∧ s9 = .int .i64 (p ^ i) ∧ wr = w1.alloc (.cells (iv mu).toArray 2))
        case atStart => exact ⟨0, Nat.zero_le _, by omega, rfl, by rw [Int.pow_zero], rfl⟩
        case round =>
          obtain ⟨i, hi, hgi, rfl, rfl, rfl⟩ := hrel
          have hpi := HPOW.out i (by omega)
          by_cases hiq : i < q
          · have hltz2 : (i : Int) < (q : Int) := by omega
            have hpi' := HPOW.out (i + 1) (by omega)
            have HS := Lib.hid (Int.pow_succ p i)
            rw [HS.out] at hpi'
            generalize p ^ i = P at hpi hpi' HS
            go_wp2_with fail
            go_roundg (q - (i + 1))
            case measure => omega
            case rel => exact ⟨i + 1, by omega, by omega, by go_num, by rw [HS.out], rfl⟩
          · have hltz2 : ¬ (i : Int) < (q : Int) := by omega
            obtain rfl : i = q := by omega
            have hprod : -62748517 ≤ m * p ^ i ∧ m * p ^ i ≤ 62748517 := by
              have := mul_bd 1 62748517 (a := m) (b := p ^ i) (by omega) (by omega) (by omega) (by omega)
              omega
            have hH := HR.out
            rw [hH] at ha'
            generalize p ^ i = P at hpi hprod ha' hH
            have HH := Lib.hid hH
            clear hH HR
            go_wp2_with fail
            go_roundg (D - (k + 1))
            case measure => omega
            case rel => exact ⟨k + 1, by omega, by omega, by go_num, by rw [HH.out], rfl⟩
      · have hmb : ((D : Int) % ((k : Int) + 1) != 0) = true := by
          have : (D : Int) % ((k : Int) + 1) = ((D % (k + 1) : Nat) : Int) := by simp
          rw [this]
          simp only [bne_iff_ne, ne_eq]
          omega
        have hrec : Hid (allF D p (k + 1) = allF D p k) := by
          show allF D p (k + 1) = allF D p k
          rw [allF, if_neg hm]
        clear hm
        go_wp2_with fail
        go_roundg (D - (k + 1))
        case measure => omega
        case rel => exact ⟨k + 1, by omega, by omega, by go_num, by rw [hrec.out], rfl⟩
    · have hltz : ¬ (k : Int) + 1 ≤ (D : Int) := by omega
      obtain rfl : k = D := by omega
      have h0 := (HALL.out 0 (by omega)).2
      have ha := (HALL.out k (by omega)).1
      generalize hV : allF k p k = v at h0 ha ⊢
      have HV := Lib.hid hV
      clear hV
      have hvq : 0 ≤ v / (k : Int) ∧ v / (k : Int) ≤ 100000000 := by
        have h1 : 0 ≤ v / (k : Int) := Int.ediv_nonneg h0 (by omega)
        have h2 : v / (k : Int) ≤ v := Int.ediv_le_self _ h0
        omega
      obtain ⟨hv1, hv2⟩ := hvq
      go_wp2_with fail
      go_ret2
      refine ⟨?_, B2.out⟩
      rw [HV.out]
      rfl

/-- The table behind k rounds, zeros behind it. -/
def tab (p : Int) (D k : Nat) : List Int := cntL p k ++ List.replicate (D - k) 0
theorem tab_len (p : Int) (D k : Nat) (h : k ≤ D) : (tab p D k).length = D + 1 := by simp [tab, cntL_len]; omega
theorem tab_get (p : Int) (D k j : Nat) (h : j ≤ k) : (tab p D k).getD j 0 = (cntL p k).getD j 0 := getD_append _ _ _ (by rw [cntL_len]; omega)
theorem tab_set (p : Int) (D k : Nat) (h : k < D) : (tab p D k).set (k + 1) (leftF p (k + 1) (cntL p k) k / ((k : Int) + 1)) = tab p D (k + 1) := by
  unfold tab
  rw [List.set_append_right _ _ (by rw [cntL_len]; omega), cntL_len, Nat.sub_self, cntL, List.append_assoc]
  have e : D - k = (D - (k + 1)) + 1 := by omega
  rw [e, List.replicate_succ]
  rfl

set_option maxHeartbeats 2000000 in
theorem count_ref (d p : Int) (w : World) (bd : -9223372036854775808 ≤ d ∧ d ≤ 9223372036854775807) (_bp : -9223372036854775808 ≤ p ∧ p ≤ 9223372036854775807) :
    Calls Try.prog 11 #[.int .i64 d, .int .i64 p] w fun e w' => e = .returned (.tuple #[.int .i64 (countF d p).1, .bool (countF d p).2]) ∧ Below w.heap.size w w' := by
  cases hin : inB d 1 6
  · rw [countF_no hin]
    go_enter Try.func11, Try.ntmps11
    go_wp2_with fail
    refine (in_ref _ _ _ _).mono ?_
    rintro e w1 ⟨rfl, rfl⟩
    go_wp2_with fail
    go_ret2
    exact ⟨rfl, Below.refl _ _⟩
  cases hp : primeB p
  · rw [countF_no' hp]
    go_enter Try.func11, Try.ntmps11
    go_wp2_with fail
    refine (in_ref _ _ _ _).mono ?_
    rintro e w1 ⟨rfl, rfl⟩
    go_wp2_with fail
    refine (isPrime_ref _ _).mono ?_
    rintro e w1 ⟨rfl, rfl⟩
    go_wp2_with fail
    go_ret2
    exact ⟨rfl, Below.refl _ _⟩
  have hd := inB_true.1 hin
  obtain ⟨D, rfl⟩ := Int.eq_ofNat_of_zero_le (show 0 ≤ d by omega)
  have hpm : p ∈ primes := by simpa [primeB] using hp
  have hpb := prime_bd hpm
  rw [countF_yes hin hp]
  have HFIN : Hid ((cntL p D).getD D 0 = allF D p D / (D : Int)) := count_fact p hpm D (by omega) (by omega)
  have HPOW := Lib.hid (pow_fact p hpm)
  have HLEFT := Lib.hid (fun k (hk : k + 1 < 7) e (he : e < 7) => left_fact p hpm (k + 1) hk e he)
  have HCNT := Lib.hid (fun k (hk : k < 7) e (he : e < 7) => (left_fact p hpm k hk e he).2.2)
  clear hpm bd
  obtain ⟨i0, hi0, hz0, hz1, hz2⟩ := info_parts int64_info
  go_enter Try.func11, Try.ntmps11
  go_wp2_with fail
  refine (in_ref _ _ _ _).mono ?_
  rintro e w1 ⟨rfl, rfl⟩
  go_wp2_with fail
  refine (isPrime_ref _ _).mono ?_
  rintro e w1 ⟨rfl, rfl⟩
  go_wp2_with (at_make; go_must (refine wpList_make_full _ rfl _ _ 31 rfl w.heap.size 2 i0 _ 1 Try.underlying31 hi0 hz0 hz1 .i64 .i64 _ _ (D + 1) rfl rfl (by omega) (by omega) (by rw [hz2]; omega) (by simp [maxLen]; omega) (Nat.le_refl _) ?_); intro w1 hown hgr)
  clear hin hp
  have hown0 : Own w1 w.heap.size (some ⟨w.heap.size, 0, none⟩) (D + 1) (D + 1) (tab p D 0) := by
    have e : (madeCells (Value.int .i64 0).cells ((D + 1) * 1)).toList = iv (tab p D 0) := by
      rw [zeros_iv]
      unfold tab cntL
      rw [Nat.sub_zero, List.replicate_succ]
      rfl
    rw [e] at hown
    exact hown
  have hbel : Below w.heap.size w w1 := (Below.refl _ _).grown hgr (Nat.le_refl _) (by simp)
  clear hown hgr hi0 hz0 hz1 hz2
  go_loopg [7, 8] D (fun g s7 s8 wr => ∃ k : Nat, k ≤ D ∧ D - k ≤ g ∧ s8 = .int .i64 ((k : Int) + 1) ∧ s7 = .int .i64 (p ^ k) ∧ Own wr w.heap.size (some ⟨w.heap.size, 0, none⟩) (D + 1) (D + 1) (tab p D k) ∧ Below w.heap.size w wr)
  case atStart => exact ⟨0, Nat.zero_le _, by omega, by go_num, by rw [Int.pow_zero], hown0, hbel⟩
  case round =>
    clear hown0 hbel
    obtain ⟨k, hk, hg, rfl, rfl, ho, hb⟩ := hrel
    by_cases hlt : k < D
    · have hltz : (k : Int) + 1 ≤ (D : Int) := by omega
      have hpi' := HPOW.out (k + 1) (by omega)
      have hpi := HPOW.out k (by omega)
      have HS := Lib.hid (Int.pow_succ p k)
      have HS' : Hid (p ^ (k + 1) = p ^ k * p) := Int.pow_succ p k
      rw [HS'.out] at hpi'
      generalize p ^ k = P at hpi hpi' HS HS'
      have hroom : ((k : Int) + 1).toNat < D + 1 := by omega
      obtain ⟨wo, rfl⟩ : ∃ wo : World, wo = wr := ⟨_, rfl⟩
      go_wp2_with fail
      go_loopg [9, 10] k (fun g s9 s10 wr => ∃ d : Nat, d ≤ k ∧ k - d ≤ g ∧ s10 = .int .i64 ((d : Int) + 1) ∧ s9 = .int .i64 (leftF p (k + 1) (cntL p k) d) ∧ wr = wo)
      case atStart => exact ⟨0, Nat.zero_le _, by omega, by go_num, by rw [← HS'.out]; rfl, rfl⟩
      case round =>
        obtain ⟨d, hdk, hgd, rfl, rfl, rfl⟩ := hrel
        have hl1 := (HLEFT.out k (by omega) d (by omega)).1
        change -1000000000 ≤ leftF p (k + 1) (cntL p k) d ∧ leftF p (k + 1) (cntL p k) d ≤ 1000000000 at hl1
        by_cases hdlt : d < k
        · have hltz2 : (d : Int) + 1 < (k : Int) + 1 := by omega
          have hl2 := (HLEFT.out k (by omega) (d + 1) (by omega)).1
          change -1000000000 ≤ leftF p (k + 1) (cntL p k) (d + 1) ∧ leftF p (k + 1) (cntL p k) (d + 1) ≤ 1000000000 at hl2
          have hc1 := HCNT.out k (by omega) (d + 1) (by omega)
          have hat := World.ownsRow.cellAt (n := D + 1) ho (d + 1) (by omega)
          rw [iv_get _ _ (by rw [tab_len _ _ _ (by omega)]; omega), tab_get _ _ _ _ (by omega)] at hat
          by_cases hm : (k + 1) % (d + 1) = 0
          · have hmb : (((k : Int) + 1) % ((d : Int) + 1) == 0) = true := by
              have : ((k : Int) + 1) % ((d : Int) + 1) = (((k + 1) % (d + 1) : Nat) : Int) := by simp
              rw [this, hm]; rfl
            have hrec : leftF p (k + 1) (cntL p k) (d + 1) = leftF p (k + 1) (cntL p k) d - ((d : Int) + 1) * (cntL p k).getD (d + 1) 0 := by rw [leftF, if_pos hm]
            rw [hrec] at hl2
            generalize (cntL p k).getD (d + 1) 0 = cc at hat hc1 hrec hl2
            generalize leftF p (k + 1) (cntL p k) d = v at hl1 hrec hl2
            have hpr := mul_bd 7 10000000 (a := (d : Int) + 1) (b := cc) (by omega) (by omega) (by omega) (by omega)
            have hpr1 : -70000000 ≤ ((d : Int) + 1) * cc := by omega
            have hpr2 : ((d : Int) + 1) * cc ≤ 70000000 := by omega
            have HRC := Lib.hid hrec
            clear hrec hm hpr
            go_wp2_with fail
            go_roundg (k - (d + 1))
            case measure => omega
            case rel => exact ⟨d + 1, by omega, by omega, by go_num, by rw [HRC.out], rfl⟩
          · have hmb : (((k : Int) + 1) % ((d : Int) + 1) == 0) = false := by
              have : ((k : Int) + 1) % ((d : Int) + 1) = (((k + 1) % (d + 1) : Nat) : Int) := by simp
              rw [this]
              simp only [beq_eq_false_iff_ne, ne_eq]
              omega
            have HRC : Hid (leftF p (k + 1) (cntL p k) (d + 1) = leftF p (k + 1) (cntL p k) d) := by
              show leftF p (k + 1) (cntL p k) (d + 1) = leftF p (k + 1) (cntL p k) d
              rw [leftF, if_neg hm]
            clear hm
            go_wp2_with fail
            go_roundg (k - (d + 1))
            case measure => omega
            case rel => exact ⟨d + 1, by omega, by omega, by go_num, by rw [HRC.out], rfl⟩
        · have hltz2 : ¬ (d : Int) + 1 < (k : Int) + 1 := by omega
          obtain rfl : d = k := by omega
          have h0 := (HLEFT.out d (by omega) 0 (by omega)).2.1
          change 0 ≤ leftF p (d + 1) (cntL p d) d at h0
          have hst := World.ownsRow.stored (n := D + 1) ho (d + 1) (.int .i64 (leftF p (d + 1) (cntL p d) d / ((d : Int) + 1)))
          have hat := World.ownsRow.cellAt (n := D + 1) ho (d + 1) (by omega)
          have hfr := World.ownsRow.frozenAt (n := D + 1) ho (d + 1)
          rw [iv_get _ _ (by rw [tab_len _ _ _ (by omega)]; omega)] at hat
          rw [iv_set, tab_set _ _ _ (by omega)] at hst
          have HST := Lib.hid hst.1
          have HB := Lib.hid (hb.setCell (p := ⟨w.heap.size, d + 1, none⟩) (Nat.le_refl _) (.int .i64 (leftF p (d + 1) (cntL p d) d / ((d : Int) + 1))))
          clear hst hb ho
          generalize leftF p (d + 1) (cntL p d) d = v at hl1 h0 HST HB
          generalize (tab p D d).getD (d + 1) 0 = z at hat
          have hvq1 : 0 ≤ v / ((d : Int) + 1) := Int.ediv_nonneg h0 (by omega)
          have hvq2 : v / ((d : Int) + 1) ≤ 1000000000 := Int.le_trans (Int.ediv_le_self _ h0) (by omega)
          go_wp2_with fail
          go_roundg (D - (d + 1))
          case measure => omega
          case rel => exact ⟨d + 1, by omega, by omega, by go_num, by rw [HS'.out], HST.out, HB.out⟩
    · have hltz : ¬ (k : Int) + 1 ≤ (D : Int) := by omega
      obtain rfl : k = D := by omega
      have hat := World.ownsRow.cellAt (n := k + 1) ho k (by omega)
      rw [iv_get _ _ (by rw [tab_len _ _ _ (Nat.le_refl _)]; omega), tab_get _ _ _ _ (Nat.le_refl _), HFIN.out] at hat
      have HB := Lib.hid hb
      clear hb ho
      have hkr : (k : Int) < (k : Int) + 1 := by omega
      go_wp2_with fail
      go_ret2
      exact ⟨rfl, HB.out⟩
end Go.Proofs.Ytbapdhpffglieaa
