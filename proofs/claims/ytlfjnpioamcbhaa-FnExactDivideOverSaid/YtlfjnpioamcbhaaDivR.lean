/- Contracts of the division over a prime, the reference's: 'divQR'. Condition: 1 to 17 terms over a prime, the divisor not 0. -/
import Derived.Test.YtlfjnpioamcbhaaDivP
import Derived.Test.YtlfjnpioamcbhaaBox
import Derived.Test.YtlfjnpioamcbhaaMarkWhole
import Derived.Deep.RegionWith
import Derived.Deep.DeepCutAuto
namespace Go.Proofs.Ytlfjnpioamcbhaa
open Go.RowKit
theorem apart_none : Apart none 0 none 0 := fun g h => by simp [own1] at h
theorem own1_of {g n : Nat} (hn : 0 < n) : own1 (some (⟨g, 0, none⟩ : Addr)) n = some g := by unfold own1; rw [if_neg (by omega)]; rfl
/-- The other row stays where one is stored to. -/
theorem mine_other {w w' : World} {b g g2 n c : Nat} {xs : List Int} (h : Mine w b (some ⟨g, 0, none⟩) n c xs) (hg : w.grownBy w' (some g2)) (hne : g ≠ g2) : Mine w' b (some ⟨g, 0, none⟩) n c xs :=
  h.kept hg (fun k hk e => by
    obtain ⟨_, a, ha, hb⟩ := own1_some hk
    injection ha with ha
    subst ha
    injection e with e
    exact hne (hb.trans e.symm))

set_option maxRecDepth 10000 in
set_option maxHeartbeats 4000000 in
theorem divo_ref (A : Option Addr) (n c : Nat) (xs : List Int) (A' : Option Addr) (m c' : Nat) (ys : List Int) (P : Nat) (w : World) (h : Rd w w.heap.size A n c xs) (h' : Rd w w.heap.size A' m c' ys)
    (hn : 1 ≤ n ∧ n ≤ 17) (hm : 1 ≤ m ∧ m ≤ 17) (hpP : primeB (P : Int) = true) (hx : ∀ j, 0 ≤ xs.getD j 0 ∧ xs.getD j 0 < (P : Int)) (hy : ∀ j, 0 ≤ ys.getD j 0 ∧ ys.getD j 0 < (P : Int)) (hd : 1 ≤ lastOf ys ∧ lastOf ys < (P : Int)) (hok : trimL xs = xs) :
    Calls Try.prog 56 #[.slice A n c, .slice A' m c', .int .i64 (P : Int)] w fun e w' => ∃ A2 n2 c2 A3 n3 c3, e = .returned (.tuple #[.slice A2 n2 c2, .slice A3 n3 c3]) ∧ Mine w' w.heap.size A2 n2 c2 (divQR xs ys P).1 ∧ Mine w' w.heap.size A3 n3 c3 (divQR xs ys P).2 ∧ Apart A2 n2 A3 n3 ∧ Below w.heap.size w w' := by
  have hlen := Lib.hid h.len
  have hlen' := Lib.hid h'.len
  have HX := Lib.hid hx
  have HY := Lib.hid hy
  have HOK := Lib.hid hok
  have hpr := prime_range hpP
  have hinv := invI_of hpP hd
  have HPP0 := Lib.hid hpP
  clear hx hy hok hpP
  obtain ⟨i0, hi0, hz0, hz1, hz2⟩ := info_parts int64_info
  have HRd := Lib.hid h
  by_cases hlt : n < m
  · have hltz : (n : Int) < (m : Int) := by omega
    have he : divQR xs ys P = ([0], xs) := by unfold divQR; rw [hlen.out, hlen'.out, if_pos hlt]
    rw [he]
    clear he hd hlt hinv
    go_enter Try.func56, Try.ntmps56
    clear h h'
    go_wp2_with (at_builtin; go_must (refine wpList_append_rd rfl _ _ rfl w.heap.size _ _ _ _ rfl (own_empty w) _ _ _ _ _ rfl (HRd.out.in_ (al1 w _)) (by omega) (by simp) ?_); intro A1 c1 w2 ho1 hg1; have B1 := Lib.hid (bgrown (al1 w _) (own_empty w) (Nat.le_refl _) hg1); have O1 : Hid (Mine w2 w.heap.size A1 n c1 xs) := (by have hh := Own.mine ho1; rw [Nat.zero_add, List.nil_append] at hh; exact hh); clear ho1 hg1)
    have ul := Own.mine (own_lit w2 [0] 1 rfl (by simp [maxLen]))
    have BL := Lib.hid (Below.alloc B1.out (Below.size B1.out) (.cells (iv [0]).toArray 2))
    refine (trim_ref A1 n c1 xs _ (Mine.rd (Mine.alloc O1.out (.cells (iv [0]).toArray 2))) (by omega) (by omega)).mono ?_
    rintro e w3 ⟨A3, n3, c3, rfl, u3, b3⟩
    rw [HOK.out] at u3
    have ap := Lib.hid (apart_of ul u3)
    have ul3 := Lib.hid (Mine.low (Mine.below ul b3) (base' := w.heap.size) B1.out.size)
    have u33 := Lib.hid (Mine.low u3 (base' := w.heap.size) BL.out.size)
    have B3 := Lib.hid (bthen BL.out b3)
    clear ul u3 b3 BL O1
    go_wp2_with fail
    go_ret2
    exact ⟨_, 1, 1, A3, n3, c3, rfl, ul3.out, u33.out, ap.out, B3.out⟩
  have hltz : ¬ (n : Int) < (m : Int) := by omega
  obtain ⟨K, hK⟩ : ∃ K : Nat, K + m = n + 1 := ⟨n + 1 - m, by omega⟩
  have HF : Hid (divQR xs ys P = (trimL (divP ys m (invI (lastOf ys) P) P K xs (List.replicate K 0)).2, trimL (divP ys m (invI (lastOf ys) P) P K xs (List.replicate K 0)).1)) := by
    show _ = _
    unfold divQR
    rw [hlen.out, hlen'.out, if_neg hlt, show n + 1 - m = K by omega]
  generalize divQR xs ys P = R at HF
  obtain ⟨b, o, rfl, hbl, hc⟩ := h.at_ (by omega)
  obtain ⟨b', o', rfl, hbl', hc'⟩ := h'.at_ (by omega)
  have HL : Hid (w.cell? ⟨b', o' + (m - 1), none⟩ = some (.int .i64 (lastOf ys))) := by
    have := hc' (m - 1) (by omega)
    show w.cell? _ = _
    rw [this]
    unfold lastOf
    rw [hlen'.out]
  have hic := fun W => inv_ref (lastOf ys) P W (by omega) (by omega)
  generalize lastOf ys = d at hd HL HF hinv hic
  generalize invI d P = v at HF hinv hic
  have HIC := Lib.hid hic
  have HC' := Lib.hid hc'
  have hKz : (n : Int) - (m : Int) + 1 = (K : Int) := by omega
  have hpn : ¬ (P : Int) = 0 := by omega
  have hpz : ((P : Int) == 0) = false := by simp; omega
  have hvb := hinv.2
  have HIV := Lib.hid hinv.1
  clear hc hc' hlt hic hinv
  go_enter Try.func56, Try.ntmps56
  clear h h'
  go_wp2_with (first
    | (at_builtin; go_must (refine wpList_append_rd rfl _ _ rfl w.heap.size _ _ _ _ rfl (own_empty w) _ _ _ _ _ rfl (HRd.out.in_ (al1 w _)) (by omega) (by simp) ?_); intro A1 c1 w2 ho1 hg1; have B1 := Lib.hid (bgrown (al1 w _) (own_empty w) (Nat.le_refl _) hg1); have O1 : Hid (Mine w2 w.heap.size A1 n c1 xs) := (by have hh := Own.mine ho1; rw [Nat.zero_add, List.nil_append] at hh; exact hh); clear ho1 hg1)
    | (at_make; go_must (refine wpList_make_full _ rfl _ _ 22 rfl w2.heap.size 2 i0 _ 1 Try.underlying22 hi0 hz0 hz1 .i64 .i64 _ _ K rfl rfl rfl rfl (by rw [hz2]; omega) (by simp [maxLen]; omega) (Nat.le_refl _) ?_); intro w3 hown hgr; have hown0 : Hid (Mine w3 w.heap.size (some ⟨w2.heap.size, 0, none⟩) K K (List.replicate K 0)) := (by show Mine _ _ _ _ _ _; have e : (madeCells (Value.int .i64 0).cells (K * 1)).toList = iv (List.replicate K 0) := (by rw [zeros_iv]); rw [e] at hown; exact Mine.low (Own.mine hown) B1.out.size); have bel2 : Below w2.heap.size w2 w3 := (Below.refl w2.heap.size w2).grown hgr (Nat.le_refl _) (by simp); have hbel := Lib.hid (bthen B1.out bel2); have O3 := Lib.hid (Mine.below O1.out bel2); have hlc := (hbel.out.cell (p := ⟨b', o' + (m - 1), none⟩) hbl').trans HL.out; clear hown hgr hi0 hz0 hz1 hz2 bel2))
  refine (HIC.out _).mono ?_
  rintro e wi ⟨rfl, rfl⟩
  go_wp2_with fail
  obtain ⟨g, rfl, hg1, hg2⟩ := O1.out.at_ (by omega)
  have hgo : w.heap.size ≤ w2.heap.size := B1.out.size
  have hne : g ≠ w2.heap.size := by omega
  clear O1 B1 hlc HIC
  generalize hgo2 : w2.heap.size = go at *
  clear hgo2
  have hKb : K ≤ 17 := by omega
  go_loopg [12, 13, 14] K (fun gg s12 _s13 _s14 wr => ∃ (k : Nat) (i : Int) (L out : List Int), k ≤ K ∧ k ≤ gg ∧ i = (k : Int) - 1 ∧ s12 = .int .i64 i ∧ Mine wr w.heap.size (some ⟨g, 0, none⟩) n c1 L ∧ Mine wr w.heap.size (some ⟨go, 0, none⟩) K K out ∧ Below w.heap.size w wr ∧ Aside (divP ys m v P k L out = divP ys m v P K xs (List.replicate K 0)) ∧ Aside (∀ j, 0 ≤ L.getD j 0 ∧ L.getD j 0 < (P : Int)))
  case atStart => exact ⟨K, _, xs, _, Nat.le_refl _, Nat.le_refl _, rfl, by go_num, O3.out, hown0.out, hbel.out, rfl, HX.out⟩
  case round =>
    clear O3 hown0 hbel
    obtain ⟨k, i, L, out, hk, hgk, hi, rfl, ho, ho2, hb, hA, hB⟩ := hrel
    by_cases hk0 : k = 0
    · obtain rfl : i = -1 := by omega
      have HE : Hid (R = (trimL out, trimL L)) := by
        show R = _
        rw [HF.out, ← hA.out, hk0]
        rfl
      have HO := Lib.hid ho
      have HO2 := Lib.hid ho2
      have HBb := Lib.hid hb
      clear hi hA hk0 ho ho2 hb hB
      go_wp2_with fail
      refine (trim_ref (some ⟨go, 0, none⟩) K K out _ (Mine.rd HO2.out) (by omega) (by omega)).mono ?_
      rintro e w4 ⟨A4, n4, c4, rfl, u4, b4⟩
      have B4 := bthen HBb.out b4
      have O4 := Mine.below HO.out b4
      have u44 := Mine.low u4 (base' := w.heap.size) HBb.out.size
      go_wp2_with fail
      refine (trim_ref (some ⟨g, 0, none⟩) n c1 L _ (Mine.rd O4) (by omega) (by omega)).mono ?_
      rintro e w5 ⟨A5, n5, c5, rfl, u5, b5⟩
      have ap := Lib.hid (apart_of u44 u5)
      have U4 := Lib.hid (Mine.below u44 b5)
      have U5 := Lib.hid (Mine.low u5 (base' := w.heap.size) B4.size)
      have B5 := Lib.hid (bthen B4 b5)
      have hR : R = (trimL out, trimL L) := HE.out
      subst hR
      clear b4 O4 u4 u44 u5 b5 B4 HE
      go_wp2_with fail
      go_ret2
      exact ⟨_, _, _, _, _, _, rfl, U4.out, U5.out, ap.out, B5.out⟩
    · obtain ⟨k', rfl⟩ : ∃ k', k = k' + 1 := ⟨k - 1, by omega⟩
      obtain rfl : i = (k' : Int) := by omega
      clear hi hk0
      obtain ⟨j, hj⟩ : ∃ j : Nat, j = k' + (m - 1) := ⟨_, rfl⟩
      have hjz : (k' : Int) + (m : Int) - 1 = (j : Int) := by omega
      have hjn : j < n := by omega
      have hat := Mine.cell ho hjn
      have hzb := hB.out j
      have HQ : Hid (divP ys m v P k' (rowP ys ((L.getD j 0 * v) % (P : Int)) P k' L m) (out.set k' ((L.getD j 0 * v) % (P : Int))) = divP ys m v P K xs (List.replicate K 0)) := by
        have hh := hA.out
        rw [divP, ← hj] at hh
        exact hh
      have HJ := Lib.hid hj
      have HBB := Lib.hid hB
      clear hA hj hB
      generalize L.getD j 0 = z at hat hzb HQ
      have hmb := mul_bd 12 12 (a := z) (b := v) (by omega) (by omega) (by omega) (by omega)
      have hs0 : 0 ≤ z * v := Int.mul_nonneg hzb.1 hvb.1
      have hs1 : z * v ≤ 144 := by omega
      have hq1 : 0 ≤ (z * v) % (P : Int) := Int.emod_nonneg _ hpn
      have hq2 : (z * v) % (P : Int) < (P : Int) := Int.emod_lt_of_pos _ (by omega)
      generalize hqq : (z * v) % (P : Int) = q at HQ hq1 hq2
      have hkK : k' < K := by omega
      have hst := Mine.stored ho2 (by omega) k' q
      have hcq := Mine.cell ho2 hkK
      have hfq := Mine.frozen ho2 (by omega) k'
      have HO2 := Lib.hid hst.1
      have HO := Lib.hid (mine_other ho hst.2 hne)
      have HB2 := Lib.hid (hb.setCell (p := ⟨go, k', none⟩) hgo (.int .i64 q))
      clear hst ho ho2 hb hmb
      generalize out.getD k' 0 = z0 at hcq
      go_wp2_with fail
      rw [hqq]
      clear hcq hfq hat hzb hs0 hs1 hqq
      go_loopg [14, 65] m (fun gg _s14 si wr => ∃ i : Nat, i ≤ m ∧ m - i ≤ gg ∧ si = .int .i64 i ∧ Mine wr w.heap.size (some ⟨g, 0, none⟩) n c1 (rowP ys q P k' L i) ∧ Mine wr w.heap.size (some ⟨go, 0, none⟩) K K (out.set k' q) ∧ Below w.heap.size w wr)
      case atStart => exact ⟨0, Nat.zero_le _, by omega, rfl, HO.out, HO2.out, HB2.out⟩
      case round =>
        clear HO HO2 HB2
        obtain ⟨i, hi, hg3, rfl, ho, ho2, hb⟩ := hrel
        by_cases hlt2 : i < m
        · have hltz2 : (i : Int) < (m : Int) := by omega
          have hyc := (hb.cell (p := ⟨b', o' + i, none⟩) hbl').trans (HC'.out i hlt2)
          have hyb := HY.out i
          have hpb := mul_bd 12 12 (a := q) (b := ys.getD i 0) (by omega) (by omega) (by omega) (by omega)
          obtain ⟨t, ht⟩ : ∃ t : Nat, t = k' + i := ⟨_, rfl⟩
          have htz : (k' : Int) + (i : Int) = (t : Int) := by omega
          have htn : t < n := by omega
          have hzb := rowP_bd ys q P (by omega) k' L HBB.out.out i t
          have hst := Mine.stored ho (by omega) t (((rowP ys q P k' L i).getD t 0 - q * ys.getD i 0) % (P : Int))
          have hat := Mine.cell ho htn
          have hfr := Mine.frozen ho (by omega) t
          have _tok := True.intro
          have HS : Hid (Mine (wr.setCell ⟨g, t, none⟩ (.int .i64 (((rowP ys q P k' L i).getD t 0 - q * ys.getD i 0) % (P : Int)))) w.heap.size (some ⟨g, 0, none⟩) n c1 (rowP ys q P k' L (i + 1))) := by
            show Mine _ _ _ _ _ _
            rw [rowP, ← ht]
            exact hst.1
          have HO2 := Lib.hid (mine_other ho2 hst.2 (Ne.symm hne))
          have HB2 := Lib.hid (hb.setCell (p := ⟨g, t, none⟩) hg1 (.int .i64 (((rowP ys q P k' L i).getD t 0 - q * ys.getD i 0) % (P : Int))))
          have HT := Lib.hid ht
          clear hst hb ho ho2 ht
          generalize ys.getD i 0 = y at hyc hyb hpb HS HO2 HB2
          generalize (rowP ys q P k' L i).getD t 0 = z at hat hzb HS HO2 HB2
          generalize hp : q * y = p at hpb HS HO2 HB2
          have HMOD := Lib.hid (fun W => mod_ref (z - p) (P : Int) W (by omega) (by omega))
          generalize hr : (z - p) % (P : Int) = r at HS HO2 HB2 HMOD
          have HPP := Lib.hid hp
          have HRR := Lib.hid hr
          clear hyb hp hr
          have hw1 : IntKind.i64.wrap p = p := IntWalk.i64_in _ (by omega)
          have hw2 : IntKind.i64.wrap (z - p) = z - p := IntWalk.i64_in _ (by omega)
          have hw4 : IntKind.i64.wrap (t : Int) = (t : Int) := IntWalk.i64_in _ (by omega)
          have hjl2 : (t : Int) < (n : Int) := by omega
          have hj02 : (0 : Int) ≤ (t : Int) := by omega
          have hpq : q * y = p := HPP.out
          go_wp2_with fail
          go_region_with (go_at_call 68; refine (HMOD.out _).mono ?_; rintro e wz ⟨rfl, rfl⟩)
          all_goals
            clear hw1 hw2 hw4 hjl2 hj02 hpq
            go_wp2_with fail
            go_roundg (m - (i + 1))
            case measure => omega
            case rel => exact ⟨i + 1, by omega, by omega, by go_num, Mine.drew HS.out, Mine.drew HO2.out, Below.drew HB2.out⟩
        · have hltz2 : ¬ (i : Int) < (m : Int) := by omega
          obtain rfl : i = m := by omega
          have HO := Lib.hid ho
          have HO2 := Lib.hid ho2
          have HB2 := Lib.hid hb
          clear ho ho2 hb
          go_wp2_with fail
          go_roundg k'
          case measure => omega
          case rel => exact ⟨k', (k' : Int) - 1, _, _, by omega, by omega, rfl, by go_num, HO.out, HO2.out, HB2.out, HQ.out, fun j => rowP_bd ys q P (by omega) k' L HBB.out.out i j⟩
end Go.Proofs.Ytlfjnpioamcbhaa
