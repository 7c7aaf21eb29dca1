/- Contracts of RootsOver, the program's and the reference's: 'rootsF'. Condition: at most 1048576 terms. -/
import Derived.Test.YtlfjnpioamcbhaaOverTest
import Derived.Test.YtlfjnpioamcbhaaMods
import Derived.Test.YtlfjnpioamcbhaaDeg
namespace Go.Proofs.Ytlfjnpioamcbhaa
open Go.RowKit

/-- The value over the prime p by Horner's rule from v on, the terms k - 1 .. 0 still to come. -/
def hm (xs : List Int) (x p : Int) : Nat → Int → Int
  | 0, v => v
  | k + 1, v => hm xs x p k ((v * x + xs.getD k 0) % p)
def rootsU (xs : List Int) (p : Int) : Nat → List Int
  | 0 => []
  | x + 1 => rootsU xs p x ++ if hm xs x p xs.length 0 = 0 then [(x : Int)] else []
theorem rootsU_len (xs : List Int) (p : Int) (x : Nat) : (rootsU xs p x).length ≤ x := by
  induction x with
  | zero => simp [rootsU]
  | succ x ih =>
    unfold rootsU
    rw [List.length_append]
    split <;> simp <;> omega
def rootsF (xs : List Int) (p : Int) : List Int × Bool := if (primeB p && overB xs p) && !zeroB xs then (rootsU xs p p.toNat, true) else ([], false)
theorem rootsF_len (xs : List Int) (p : Int) : (rootsF xs p).1.length ≤ 1048576 := by
  unfold rootsF
  cases h : primeB p
  · simp
  · split
    · have h1 := prime_range h
      have h2 := rootsU_len xs p p.toNat
      show (rootsU xs p p.toNat).length ≤ 1048576
      omega
    · simp
theorem overB_bd {xs : List Int} {p : Int} (h : overB xs p = true) (hp : 2 ≤ p ∧ p ≤ 13) (j : Nat) : 0 ≤ xs.getD j 0 ∧ xs.getD j 0 ≤ 12 := by
  unfold overB at h
  rw [Bool.and_eq_true] at h
  by_cases hj : j < xs.length
  · have := inB_true.1 (allIn_iff.1 h.2 j hj)
    omega
  · simp only [List.getD, List.getElem?_eq_none (Nat.le_of_not_lt hj)]; simp
theorem overB_ok {xs : List Int} {p : Int} (h : overB xs p = true) : okW xs = true := by
  unfold overB at h
  rw [Bool.and_eq_true] at h
  exact h.1

theorem cell_grown_own {w w' : World} {base b o : Nat} {A : Option Addr} {n c : Nat} {xs : List Int} {v : Value} (hg : w.grownBy w' (Value.slice A n c).ownBlock) (ho : Own w base A n c xs) (h : w.cell? ⟨b, o, none⟩ = some v) (hlt : b < base) : w'.cell? ⟨b, o, none⟩ = some v :=
  World.grownBy.cell hg h (fun e => by have := (World.ownsRow.lt ho _ e.symm).1; simp only at this; omega)
theorem one_whole (A : Option Addr) (n c : Nat) (xs : List Int) (w : World) (h : Rd w w.heap.size A n c xs) (j : Nat) (s : Sl) (hs : [(⟨A, n, c, xs⟩ : Sl)][j]? = some s) :
    ((w.alloc (.cells #[.slice A n c] 42)).alloc (.cells #[.slice A n c] 42)).cell? ⟨w.heap.size + 1, j, none⟩ = some (.slice s.A s.n s.c) ∧ Rd ((w.alloc (.cells #[.slice A n c] 42)).alloc (.cells #[.slice A n c] 42)) ((w.alloc (.cells #[.slice A n c] 42)).alloc (.cells #[.slice A n c] 42)).heap.size s.A s.n s.c s.xs := by
  cases j with
  | zero =>
    simp at hs
    subst hs
    exact ⟨by simp [go_sem], h.in_ (al2 w _ _)⟩
  | succ j => simp at hs

set_option maxHeartbeats 4000000 in
theorem roots_ref (A : Option Addr) (n c : Nat) (xs : List Int) (p : Int) (w : World) (h : Rd w w.heap.size A n c xs) (_bd : -9223372036854775808 ≤ p ∧ p ≤ 9223372036854775807) (_hn : n ≤ 1048576) :
    Calls Try.prog 18 #[.agg #[.slice A n c], .int .i64 p] w fun e w' => ∃ A' n' c', e = .returned (.tuple #[.slice A' n' c', .bool (rootsF xs p).2]) ∧ Mine w' w.heap.size A' n' c' (rootsF xs p).1 ∧ Below w.heap.size w w' := by
  have hlen := Lib.hid h.len
  have hcon := fun b W H hb => over_spec A n c xs p b W H hb
  have hzc := fun W H => zero_ref A n c xs W H
  cases ho : primeB p && overB xs p
  · have he : rootsF xs p = ([], false) := by unfold rootsF; rw [ho]; rfl
    rw [he]
    rw [ho] at hcon
    have HC := Lib.hid hcon
    clear hcon he hzc
    go_enter Try.func18, Try.ntmps18
    go_wp2_with fail
    refine (HC.out _ _ (h.in_ (al1 w _)) (by simp)).mono ?_
    rintro e w1 ⟨rfl, rfl⟩
    go_wp2_with fail
    go_ret2
    exact ⟨none, 0, 0, rfl, Mine.none_ _ _, al1 w _⟩
  cases hz : zeroB xs
  case true =>
    have he : rootsF xs p = ([], false) := by unfold rootsF; rw [ho, hz]; rfl
    rw [he]
    rw [ho] at hcon
    rw [hz] at hzc
    have HC := Lib.hid hcon
    have HZ := Lib.hid hzc
    clear hcon he hzc
    go_enter Try.func18, Try.ntmps18
    go_wp2_with fail
    refine (HC.out _ _ (h.in_ (al1 w _)) (by simp)).mono ?_
    rintro e w1 ⟨rfl, rfl⟩
    go_wp2_with fail
    refine (HZ.out _ (h.in_ (al1 w _))).mono ?_
    rintro e w2 ⟨rfl, rfl⟩
    go_wp2_with fail
    go_ret2
    exact ⟨none, 0, 0, rfl, Mine.none_ _ _, al1 w _⟩
  have he : rootsF xs p = (rootsU xs p p.toNat, true) := by unfold rootsF; rw [ho, hz]; rfl
  rw [he]
  have ho2 := ho
  rw [Bool.and_eq_true] at ho2
  have hpr := prime_range ho2.1
  have HBD := Lib.hid (overB_bd ho2.2 hpr)
  have hln := okW_len (overB_ok ho2.2)
  rw [hlen.out] at hln
  rw [ho] at hcon
  rw [hz] at hzc
  have HC := Lib.hid hcon
  have HZ := Lib.hid hzc
  obtain ⟨P, rfl⟩ := Int.eq_ofNat_of_zero_le (show 0 ≤ p by omega)
  have hpz : ((P : Int) == 0) = false := by simp; omega
  have hpn : ¬ (P : Int) = 0 := by omega
  clear hcon he hzc ho ho2 hz
  go_enter Try.func18, Try.ntmps18
  go_wp2_with fail
  refine (HC.out _ _ (h.in_ (al1 w _)) (by simp)).mono ?_
  rintro e w1 ⟨rfl, rfl⟩
  go_wp2_with fail
  refine (HZ.out _ (h.in_ (al1 w _))).mono ?_
  rintro e w2 ⟨rfl, rfl⟩
  go_wp2_with fail
  have hK0 : ∀ o, ((w.alloc (.cells #[.slice A n c] 42)).alloc o).cell? ⟨w.heap.size, 0, none⟩ = some (.slice A n c) := fun o => cell_kept (al1 _ o) (by simp)
  have hW0 : w.heap.size ≤ w.heap.size + 1 := by omega
  have hW0lt : w.heap.size < w.heap.size + 1 := by omega
  go_loopg [6, 7] P (fun g s6 sx wr => ∃ (x k : Nat) (Ao : Option Addr) (co : Nat), x ≤ P ∧ P - x ≤ g ∧ sx = .int .i64 x ∧ s6 = .slice Ao k co ∧ k ≤ x ∧ Own wr (w.heap.size + 1) Ao k co (rootsU xs P x) ∧ Below w.heap.size w wr ∧ wr.cell? ⟨w.heap.size, 0, none⟩ = some (.slice A n c) ∧ (w.heap.size + 1) ≤ wr.heap.size)
  case atStart => exact ⟨0, 0, _, _, by omega, by omega, rfl, rfl, by omega, own_empty_at (w.alloc _) (by simp), al2 w _ _, hK0 _, by simp⟩
  case round =>
    clear hK0
    obtain ⟨x, k, Ao, co, hx, hg, rfl, rfl, hkx, ho, hb, hkp, hsz⟩ := hrel
    by_cases hlt : x < P
    · have hltz : (x : Int) < (P : Int) := by omega
      obtain ⟨wo, rfl⟩ : ∃ wo : World, wo = wr := ⟨_, rfl⟩
      have OI := ho
      have BI := hb
      have KI := hkp
      clear ho hb hkp
      go_wp2_with fail
      go_loopg [8, 9] n (fun g s8 s9 wr => ∃ (j : Nat) (i v : Int), j ≤ n ∧ j ≤ g ∧ i = (j : Int) - 1 ∧ s9 = .int .i64 i ∧ s8 = .int .i64 v ∧ (0 ≤ v ∧ v ≤ 12) ∧ Aside (hm xs x P j v = hm xs x P xs.length 0) ∧ wr = wo)
      case atStart => exact ⟨n, _, _, Nat.le_refl _, Nat.le_refl _, rfl, by go_num, rfl, by omega, by rw [hlen.out]; rfl, rfl⟩
      case round =>
        obtain ⟨j, i, v, hj, hgj, hi, rfl, rfl, hv, hA, rfl⟩ := hrel
        by_cases hj0 : j = 0
        · obtain rfl : i = -1 := by omega
          have hv2 : v = hm xs x P xs.length 0 := by
            have := hA.out
            rw [hj0] at this
            exact this
          clear hi hA hj0
          by_cases hv0 : v = 0
          · have HS : Hid (rootsU xs P (x + 1) = rootsU xs P x ++ [(x : Int)]) := by
              show rootsU xs P (x + 1) = _
              rw [rootsU, if_pos (by rw [← hv2]; exact hv0)]
            subst hv0
            clear hv2
            have hbs := BI.size
            go_wp2_with (at_builtin; go_must (refine wpList_append_rd rfl _ _ rfl (w.heap.size + 1) _ _ _ _ rfl (OI.alloc _) _ _ _ _ _ rfl (rd_lit wr [(x : Int)] 2 1 rfl (by simp [maxLen])) (by omega) (by simp; omega) ?_); intro A2 c2 w9 ho9 hg9; have HB := Lib.hid (bgrown (BI.alloc BI.size _) (OI.alloc _) hW0 hg9); have HK := Lib.hid (cell_grown_own hg9 (OI.alloc _) (cell_kept (al1 _ _) KI) hW0lt); have hgs := hg9.size; simp at hgs; have HO := Lib.hid ho9; clear ho9 hg9)
            go_roundg (P - (x + 1))
            case measure => omega
            case rel =>
              have h1 := HO.out
              exact ⟨x + 1, k + 1, A2, c2, by omega, by omega, by go_num, rfl, by omega, by rw [HS.out]; exact h1, HB.out, HK.out, by omega⟩
          · have HS : Hid (rootsU xs P (x + 1) = rootsU xs P x) := by
              show rootsU xs P (x + 1) = _
              rw [rootsU, if_neg (by rw [← hv2]; exact hv0), List.append_nil]
            have hne : (v == 0) = false := by simpa using hv0
            have HO := Lib.hid OI
            have HB := Lib.hid BI
            have HK := Lib.hid KI
            clear hv2 hv0
            go_wp2_with fail
            go_roundg (P - (x + 1))
            case measure => omega
            case rel => exact ⟨x + 1, k, Ao, co, by omega, by omega, by go_num, rfl, by omega, by rw [HS.out]; exact HO.out, HB.out, HK.out, by omega⟩
        · obtain ⟨j', rfl⟩ : ∃ j', j = j' + 1 := ⟨j - 1, by omega⟩
          obtain rfl : i = (j' : Int) := by omega
          clear hi hj0
          obtain ⟨b, o, rfl, hbl, hc⟩ := h.at_ (by omega)
          have hy := (BI.cell (p := ⟨b, o + j', none⟩) hbl).trans (hc j' (by omega))
          have hyb := HBD.out j'
          have hA2 : hm xs x P j' ((v * x + xs.getD j' 0) % P) = hm xs x P xs.length 0 := hA.out
          clear hA hc
          generalize xs.getD j' 0 = y at hy hyb hA2
          have HA2 : Hid (hm xs x P j' ((v * x + y) % P) = hm xs x P xs.length 0) := hA2
          clear hA2
          have hvx := mul_bd 12 13 (a := v) (b := (x : Int)) (by omega) (by omega) (by omega) (by omega)
          have hvx0 : 0 ≤ v * (x : Int) := Int.mul_nonneg hv.1 (by omega)
          have hs2 : v * (x : Int) ≤ 156 := by omega
          have hr1 : 0 ≤ (v * (x : Int) + y) % (P : Int) := Int.emod_nonneg _ hpn
          have hr2 : (v * (x : Int) + y) % (P : Int) < (P : Int) := Int.emod_lt_of_pos _ (by omega)
          clear hvx
          have hKK := KI
          go_wp2_with fail
          have _tok := True.intro
          go_roundg j'
          case measure => omega
          case rel => exact ⟨j', (j' : Int) - 1, _, by omega, by omega, rfl, rfl, rfl, by omega, HA2.out, rfl⟩
    · have hltz : ¬ (x : Int) < (P : Int) := by omega
      obtain rfl : x = P := by omega
      have u := Lib.hid ((Own.mine ho).low (base' := w.heap.size) hW0)
      have HB := Lib.hid hb
      clear ho hb hkp
      go_wp2_with fail
      go_ret2
      exact ⟨Ao, k, co, rfl, by first | exact u.out | (rw [Int.toNat_natCast]; exact u.out), HB.out⟩

set_option maxHeartbeats 4000000 in
theorem roots_own (A : Option Addr) (n c : Nat) (xs : List Int) (p : Int) (w : World) (h : Rd w w.heap.size A n c xs) (_bd : -9223372036854775808 ≤ p ∧ p ≤ 9223372036854775807) (_hn : n ≤ 1048576) :
    Calls Try.prog 20 #[.agg #[.slice A n c], .int .i64 p] w fun e w' => ∃ A' n' c', e = .returned (.tuple #[.slice A' n' c', .bool (rootsF xs p).2]) ∧ Mine w' w.heap.size A' n' c' (rootsF xs p).1 ∧ Below w.heap.size w w' := by
  have hlen := Lib.hid h.len
  have hcon := fun bl W hc => areOver_own [⟨A, n, c, xs⟩] 1 rfl (by omega) bl p W hc
  have hany : (primeB p && !([(⟨A, n, c, xs⟩ : Sl)].any fun s => !overB s.xs p)) = (primeB p && overB xs p) := by
    simp [List.any_cons]
  rw [hany] at hcon
  clear hany
  have hzc := fun W H => zero_own A n c xs W H
  cases ho : primeB p && overB xs p
  · have he : rootsF xs p = ([], false) := by unfold rootsF; rw [ho]; rfl
    rw [he]
    rw [ho] at hcon
    have HC := Lib.hid hcon
    clear hcon he hzc
    go_enter Try.func20, Try.ntmps20
    go_wp2_with fail
    refine (HC.out _ _ (one_whole A n c xs w h)).mono ?_
    rintro e w1 ⟨rfl, b1⟩
    have B1 := bthen (al2 w _ _) b1
    have k1 := cell_kept (b := w.heap.size) (o := 0) (v := .slice A n c) b1 (by simp [go_sem])
    clear b1
    go_wp2_with fail
    go_ret2
    exact ⟨none, 0, 0, rfl, Mine.none_ _ _, B1⟩
  cases hz : zeroB xs
  case true =>
    have he : rootsF xs p = ([], false) := by unfold rootsF; rw [ho, hz]; rfl
    rw [he]
    rw [ho] at hcon
    rw [hz] at hzc
    have HC := Lib.hid hcon
    have HZ := Lib.hid hzc
    clear hcon he hzc
    go_enter Try.func20, Try.ntmps20
    go_wp2_with fail
    refine (HC.out _ _ (one_whole A n c xs w h)).mono ?_
    rintro e w1 ⟨rfl, b1⟩
    have B1 := bthen (al2 w _ _) b1
    have k1 := cell_kept (b := w.heap.size) (o := 0) (v := .slice A n c) b1 (by simp [go_sem])
    clear b1
    go_wp2_with fail
    refine (HZ.out _ (h.in_ B1)).mono ?_
    rintro e w2 ⟨rfl, b2⟩
    have B2 := bthen B1 b2
    have k2 := cell_kept b2 k1
    clear b2 k1 B1
    go_wp2_with fail
    go_ret2
    exact ⟨none, 0, 0, rfl, Mine.none_ _ _, B2⟩
  have he : rootsF xs p = (rootsU xs p p.toNat, true) := by unfold rootsF; rw [ho, hz]; rfl
  rw [he]
  have ho2 := ho
  rw [Bool.and_eq_true] at ho2
  have hpr := prime_range ho2.1
  have HBD := Lib.hid (overB_bd ho2.2 hpr)
  have hln := okW_len (overB_ok ho2.2)
  rw [hlen.out] at hln
  rw [ho] at hcon
  rw [hz] at hzc
  have HC := Lib.hid hcon
  have HZ := Lib.hid hzc
  obtain ⟨P, rfl⟩ := Int.eq_ofNat_of_zero_le (show 0 ≤ p by omega)
  have hpz : ((P : Int) == 0) = false := by simp; omega
  have hpn : ¬ (P : Int) = 0 := by omega
  clear hcon he hzc ho ho2 hz
  go_enter Try.func20, Try.ntmps20
  go_wp2_with fail
  refine (HC.out _ _ (one_whole A n c xs w h)).mono ?_
  rintro e w1 ⟨rfl, b1⟩
  have B1 := bthen (al2 w _ _) b1
  have k1 := cell_kept (b := w.heap.size) (o := 0) (v := .slice A n c) b1 (by simp [go_sem])
  clear b1
  go_wp2_with fail
  refine (HZ.out _ (h.in_ B1)).mono ?_
  rintro e w2 ⟨rfl, b2⟩
  have B2 := bthen B1 b2
  have k2 := cell_kept b2 k1
  clear b2 k1 B1
  go_wp2_with fail
  have hK0 : ∀ o, (w2.alloc o).cell? ⟨w.heap.size, 0, none⟩ = some (.slice A n c) := fun o => cell_kept (al1 w2 o) k2
  have hW0 : w.heap.size ≤ w2.heap.size := B2.size
  have hW0lt : w.heap.size < w2.heap.size := World.block_lt_of_cell? _ _ k2
  go_loopg [6, 21] P (fun g s6 sx wr => ∃ (x k : Nat) (Ao : Option Addr) (co : Nat), x ≤ P ∧ P - x ≤ g ∧ sx = .int .i64 x ∧ s6 = .slice Ao k co ∧ k ≤ x ∧ Own wr w2.heap.size Ao k co (rootsU xs P x) ∧ Below w.heap.size w wr ∧ wr.cell? ⟨w.heap.size, 0, none⟩ = some (.slice A n c) ∧ w2.heap.size ≤ wr.heap.size)
  case atStart => exact ⟨0, 0, _, _, by omega, by omega, rfl, rfl, by omega, own_empty w2, B2.alloc B2.size _, hK0 _, by simp⟩
  case round =>
    clear hK0
    obtain ⟨x, k, Ao, co, hx, hg, rfl, rfl, hkx, ho, hb, hkp, hsz⟩ := hrel
    by_cases hlt : x < P
    · have hltz : (x : Int) < (P : Int) := by omega
      obtain ⟨wo, rfl⟩ : ∃ wo : World, wo = wr := ⟨_, rfl⟩
      go_wp2_with fail
      refine (degree_any A n c _ (by omega)).mono ?_
      rintro e w5 ⟨rfl, b5⟩
      have BI5 := bthen hb b5
      have OI5 := ho.below b5
      have KI5 := cell_kept b5 hkp
      have hs5 := b5.size
      clear b5 ho hb hkp
      have OI := OI5
      have BI := BI5
      have KI := KI5
      clear OI5 BI5 KI5
      go_wp2_with fail
      go_loopg [8, 9] n (fun g s8 s9 wr => ∃ (j : Nat) (i v : Int), j ≤ n ∧ j ≤ g ∧ i = (j : Int) - 1 ∧ s9 = .int .i64 i ∧ s8 = .int .i64 v ∧ (0 ≤ v ∧ v ≤ 12) ∧ Aside (hm xs x P j v = hm xs x P xs.length 0) ∧ wr = w5)
      case atStart => exact ⟨n, _, _, Nat.le_refl _, Nat.le_refl _, rfl, by go_num, rfl, by omega, by rw [hlen.out]; rfl, rfl⟩
      case round =>
        obtain ⟨j, i, v, hj, hgj, hi, rfl, rfl, hv, hA, rfl⟩ := hrel
        by_cases hj0 : j = 0
        · obtain rfl : i = -1 := by omega
          have hv2 : v = hm xs x P xs.length 0 := by
            have := hA.out
            rw [hj0] at this
            exact this
          clear hi hA hj0
          by_cases hv0 : v = 0
          · have HS : Hid (rootsU xs P (x + 1) = rootsU xs P x ++ [(x : Int)]) := by
              show rootsU xs P (x + 1) = _
              rw [rootsU, if_pos (by rw [← hv2]; exact hv0)]
            subst hv0
            clear hv2
            have hbs := BI.size
            go_wp2_with (at_builtin; go_must (refine wpList_append_rd rfl _ _ rfl w2.heap.size _ _ _ _ rfl (OI.alloc _) _ _ _ _ _ rfl (rd_lit wr [(x : Int)] 2 1 rfl (by simp [maxLen])) (by omega) (by simp; omega) ?_); intro A2 c2 w9 ho9 hg9; have HB := Lib.hid (bgrown (BI.alloc BI.size _) (OI.alloc _) hW0 hg9); have HK := Lib.hid (cell_grown_own hg9 (OI.alloc _) (cell_kept (al1 _ _) KI) hW0lt); have hgs := hg9.size; simp at hgs; have HO := Lib.hid ho9; clear ho9 hg9)
            go_roundg (P - (x + 1))
            case measure => omega
            case rel =>
              have h1 := HO.out
              exact ⟨x + 1, k + 1, A2, c2, by omega, by omega, by go_num, rfl, by omega, by rw [HS.out]; exact h1, HB.out, HK.out, by omega⟩
          · have HS : Hid (rootsU xs P (x + 1) = rootsU xs P x) := by
              show rootsU xs P (x + 1) = _
              rw [rootsU, if_neg (by rw [← hv2]; exact hv0), List.append_nil]
            have hne : (v == 0) = false := by simpa using hv0
            have HO := Lib.hid OI
            have HB := Lib.hid BI
            have HK := Lib.hid KI
            clear hv2 hv0
            go_wp2_with fail
            go_roundg (P - (x + 1))
            case measure => omega
            case rel => exact ⟨x + 1, k, Ao, co, by omega, by omega, by go_num, rfl, by omega, by rw [HS.out]; exact HO.out, HB.out, HK.out, by omega⟩
        · obtain ⟨j', rfl⟩ : ∃ j', j = j' + 1 := ⟨j - 1, by omega⟩
          obtain rfl : i = (j' : Int) := by omega
          clear hi hj0
          obtain ⟨b, o, rfl, hbl, hc⟩ := h.at_ (by omega)
          have hy := (BI.cell (p := ⟨b, o + j', none⟩) hbl).trans (hc j' (by omega))
          have hyb := HBD.out j'
          have hA2 : hm xs x P j' ((v * x + xs.getD j' 0) % P) = hm xs x P xs.length 0 := hA.out
          clear hA hc
          generalize xs.getD j' 0 = y at hy hyb hA2
          have HA2 : Hid (hm xs x P j' ((v * x + y) % P) = hm xs x P xs.length 0) := hA2
          clear hA2
          have hvx := mul_bd 12 13 (a := v) (b := (x : Int)) (by omega) (by omega) (by omega) (by omega)
          have hvx0 : 0 ≤ v * (x : Int) := Int.mul_nonneg hv.1 (by omega)
          have hs2 : v * (x : Int) ≤ 156 := by omega
          have hr1 : 0 ≤ (v * (x : Int) + y) % (P : Int) := Int.emod_nonneg _ hpn
          have hr2 : (v * (x : Int) + y) % (P : Int) < (P : Int) := Int.emod_lt_of_pos _ (by omega)
          clear hvx
          have hKK := KI
          go_wp2_with fail
          refine (mod_own _ _ _ (by omega) hpr).mono ?_
          rintro e w6 ⟨rfl, rfl⟩
          go_wp2_with fail
          go_roundg j'
          case measure => omega
          case rel => exact ⟨j', (j' : Int) - 1, _, by omega, by omega, rfl, rfl, rfl, by omega, HA2.out, rfl⟩
    · have hltz : ¬ (x : Int) < (P : Int) := by omega
      obtain rfl : x = P := by omega
      have u := Lib.hid ((Own.mine ho).low (base' := w.heap.size) hW0)
      have HB := Lib.hid hb
      clear ho hb hkp
      go_wp2_with fail
      go_ret2
      exact ⟨Ao, k, co, rfl, by first | exact u.out | (rw [Int.toNat_natCast]; exact u.out), HB.out⟩
end Go.Proofs.Ytlfjnpioamcbhaa
