/- Contracts of the division over a prime, the program's: 'divQR'. Condition: 1 to 17 terms over a prime, the divisor not 0. -/
import Derived.Test.YtlfjnpioamcbhaaDivR
import Derived.Test.YtlfjnpioamcbhaaDeg
import Derived.Test.YtlfjnpioamcbhaaAppend
namespace Go.Proofs.Ytlfjnpioamcbhaa
open Go.RowKit
theorem apart_ne {g g2 n n2 : Nat} (h : g ≠ g2) : Apart (some ⟨g, 0, none⟩) n (some ⟨g2, 0, none⟩) n2 := fun k h1 h2 => by
  obtain ⟨_, a, ha, hb⟩ := own1_some h1
  obtain ⟨_, a2, ha2, hb2⟩ := own1_some h2
  injection ha with ha
  injection ha2 with ha2
  subst ha
  subst ha2
  exact h (hb.trans hb2.symm)

set_option maxRecDepth 10000 in
set_option maxHeartbeats 4000000 in
theorem divo_own (A : Option Addr) (n c : Nat) (xs : List Int) (A' : Option Addr) (m c' : Nat) (ys : List Int) (P : Nat) (w : World) (h : Rd w w.heap.size A n c xs) (h' : Rd w w.heap.size A' m c' ys)
    (hn : 1 ≤ n ∧ n ≤ 17) (hm : 1 ≤ m ∧ m ≤ 17) (hpP : primeB (P : Int) = true) (hx : ∀ j, 0 ≤ xs.getD j 0 ∧ xs.getD j 0 < (P : Int)) (hy : ∀ j, 0 ≤ ys.getD j 0 ∧ ys.getD j 0 < (P : Int)) (hd : 1 ≤ lastOf ys ∧ lastOf ys < (P : Int)) (hok : trimL xs = xs) :
    Calls Try.prog 57 #[.agg #[.slice A n c], .agg #[.slice A' m c'], .int .i64 (P : Int)] w fun e w' => ∃ A2 n2 c2 A3 n3 c3, e = .returned (.tuple #[.agg #[.slice A2 n2 c2], .agg #[.slice A3 n3 c3]]) ∧ Mine w' w.heap.size A2 n2 c2 (divQR xs ys P).1 ∧ Mine w' w.heap.size A3 n3 c3 (divQR xs ys P).2 ∧ Apart A2 n2 A3 n3 ∧ Below w.heap.size w w' := by
  have hlen := Lib.hid h.len
  have hlen' := Lib.hid h'.len
  have HX := Lib.hid hx
  have HY := Lib.hid hy
  have HOK := Lib.hid hok
  have hpr := prime_range hpP
  have hinv := invI_of hpP hd
  have HPP0 := Lib.hid hpP
  clear hx hy hok hpP
  by_cases hlt : n < m
  · have hltz : (n : Int) - 1 < (m : Int) - 1 := by omega
    have he : divQR xs ys P = ([0], xs) := by unfold divQR; rw [hlen.out, hlen'.out, if_pos hlt]
    rw [he]
    clear he hd hlt hinv
    go_enter Try.func57, Try.ntmps57
    go_wp2_with fail
    refine (degree_any A' m c' _ (by omega)).mono ?_
    rintro e w1 ⟨rfl, b1⟩
    have B1 := bthen (al4 w _ _ _ _) b1
    have P0_1 : Blk w1 (w.heap.size) 42 #[.slice A n c] := Blk.kept (Blk.alloc (Blk.alloc (Blk.alloc (Blk.new w _ _) _) _) _) b1
    have cp0_1 := P0_1.cell0
    have P1_1 : Blk w1 (w.heap.size + 1) 42 #[.slice A' m c'] := Blk.kept (Blk.alloc (Blk.alloc (Blk.new_at (w.alloc _) _ _ (by simp)) _) _) b1
    have cp1_1 := P1_1.cell0
    have R0_1 : Blk w1 (w.heap.size + 1 + 1) 42 #[.slice none 0 0] := Blk.kept (Blk.alloc (Blk.new_at ((w.alloc _).alloc _) _ _ (by simp)) _) b1
    have R1_1 : Blk w1 (w.heap.size + 1 + 1 + 1) 42 #[.slice none 0 0] := Blk.kept (Blk.new_at (((w.alloc _).alloc _).alloc _) _ _ (by simp)) b1
    clear b1
    go_wp2_with fail
    refine (degree_any A n c _ (by omega)).mono ?_
    rintro e w2 ⟨rfl, b2⟩
    have B2 := bthen B1 b2
    have P0_2 : Blk w2 (w.heap.size) 42 #[.slice A n c] := Blk.kept P0_1 b2
    have cp0_2 := P0_2.cell0
    have P1_2 : Blk w2 (w.heap.size + 1) 42 #[.slice A' m c'] := Blk.kept P1_1 b2
    have cp1_2 := P1_2.cell0
    have R0_2 : Blk w2 (w.heap.size + 1 + 1) 42 #[.slice none 0 0] := Blk.kept R0_1 b2
    have R1_2 : Blk w2 (w.heap.size + 1 + 1 + 1) 42 #[.slice none 0 0] := Blk.kept R1_1 b2
    clear b2 B1 P0_1 cp0_1 P1_1 cp1_1 R0_1 R1_1
    have l0 := P0_2.lt
    have ul := Own.mine (own_lit w2 [0] 1 rfl (by simp [maxLen]))
    have BL : Below w.heap.size w (w2.alloc (.cells (iv [0]).toArray 2)) := B2.alloc B2.size _
    go_wp2_with fail
    refine (clone_any A n c xs (w2.alloc (.cells (iv [0]).toArray 2)) (h.in_ BL) (by omega)).mono ?_
    rintro e w3 ⟨A3, c3, rfl, o3, b3⟩
    have u3 := Own.mine o3
    have ap := apart_of ul u3
    have ul3 := Mine.low (Mine.below ul b3) (base' := w.heap.size) B2.size
    have u33 := Mine.low u3 (base' := w.heap.size) BL.size
    have R0_3 := Blk.kept (Blk.alloc R0_2 (.cells (iv [0]).toArray 2)) b3
    have R1_3 := Blk.kept (Blk.alloc R1_2 (.cells (iv [0]).toArray 2)) b3
    have B3 := bthen BL b3
    clear o3 ul u3 b3 BL R0_2 R1_2 P0_2 P1_2 cp0_2 cp1_2 l0 B2
    have AR0 := Lib.hid (Blk.apart R0_3 ul3 (by decide))
    have AR1 := Lib.hid (Blk.apart R1_3 ul3 (by decide))
    have AS0 := Lib.hid (Blk.apart R0_3 u33 (by decide))
    have AS1 := Lib.hid (Blk.apart R1_3 u33 (by decide))
    have U2 := Lib.hid ul3
    have U3 := Lib.hid u33
    have AP := Lib.hid ap
    have BB := Lib.hid B3
    have cr0 := R0_3.cell0
    have fr0 := R0_3.frozen0
    have cr1 := R1_3.cell0
    have fr1 := R1_3.frozen0
    go_wp2_with fail
    refine bodyPost_ret (v := .tuple #[.agg #[.slice (some ⟨w2.heap.size, 0, none⟩) 1 1], .agg #[.slice A3 n c3]]) (by simp [results, Try.results57, go_sem, cr0, cr1]) rfl ⟨(some ⟨w2.heap.size, 0, none⟩), 1, 1, A3, n, c3, rfl, ?_, ?_, AP.out, ?_⟩
    · exact mine_set (mine_set U2.out AR0.out _) AR1.out _
    · exact mine_set (mine_set U3.out AS0.out _) AS1.out _
    · exact (BB.out.setCell (by simp <;> omega) _).setCell (by simp <;> omega) _
  have hltz : ¬ (n : Int) - 1 < (m : Int) - 1 := by omega
  obtain ⟨K, hK⟩ : ∃ K : Nat, K + m = n + 1 := ⟨n + 1 - m, by omega⟩
  have HF : Hid (divQR xs ys P = (trimL (divP ys m (invI (lastOf ys) P) P K xs (List.replicate K 0)).2, trimL (divP ys m (invI (lastOf ys) P) P K xs (List.replicate K 0)).1)) := by
    show _ = _
    unfold divQR
    rw [hlen.out, hlen'.out, if_neg hlt, show n + 1 - m = K by omega]
  have HZ : Hid (∀ j, m - 1 ≤ j → (divP ys m (invI (lastOf ys) P) P K xs (List.replicate K 0)).1.getD j 0 = 0) := by
    show ∀ j, _
    refine divP_zero ys m _ P hm.1 ?_ K xs _ (by rw [hlen.out]; omega) (fun j h1 h2 => by rw [hlen.out] at h2; omega)
    have h5 := hinv.1
    unfold lastOf at h5
    rw [hlen'.out] at h5
    unfold lastOf
    rw [hlen'.out]
    exact h5
  generalize divQR xs ys P = R at HF
  have hic := fun W => inv_own (lastOf ys) P W (by omega) (by omega)
  have hlc := fun W H => last_any A' m c' ys W H (by omega)
  generalize lastOf ys = d at hd HF HZ hinv hic hlc
  generalize invI d P = v at HF HZ hinv hic
  have HIC := Lib.hid hic
  have HLC := Lib.hid hlc
  have hpn : ¬ (P : Int) = 0 := by omega
  have hpz : ((P : Int) == 0) = false := by simp; omega
  have hvb := hinv.2
  have HIV := Lib.hid hinv.1
  obtain ⟨i0, hi0, hz0, hz1, hz2⟩ := info_parts int64_info
  clear hlt hic hinv hlc
  go_enter Try.func57, Try.ntmps57
  go_wp2_with fail
  refine (degree_any A' m c' _ (by omega)).mono ?_
  rintro e w1 ⟨rfl, b1⟩
  have B1 := bthen (al4 w _ _ _ _) b1
  have P0_1 : Blk w1 (w.heap.size) 42 #[.slice A n c] := Blk.kept (Blk.alloc (Blk.alloc (Blk.alloc (Blk.new w _ _) _) _) _) b1
  have cp0_1 := P0_1.cell0
  have P1_1 : Blk w1 (w.heap.size + 1) 42 #[.slice A' m c'] := Blk.kept (Blk.alloc (Blk.alloc (Blk.new_at (w.alloc _) _ _ (by simp)) _) _) b1
  have cp1_1 := P1_1.cell0
  have R0_1 : Blk w1 (w.heap.size + 1 + 1) 42 #[.slice none 0 0] := Blk.kept (Blk.alloc (Blk.new_at ((w.alloc _).alloc _) _ _ (by simp)) _) b1
  have R1_1 : Blk w1 (w.heap.size + 1 + 1 + 1) 42 #[.slice none 0 0] := Blk.kept (Blk.new_at (((w.alloc _).alloc _).alloc _) _ _ (by simp)) b1
  clear b1
  go_wp2_with fail
  refine (degree_any A n c _ (by omega)).mono ?_
  rintro e w2 ⟨rfl, b2⟩
  have B2 := bthen B1 b2
  have P0_2 : Blk w2 (w.heap.size) 42 #[.slice A n c] := Blk.kept P0_1 b2
  have cp0_2 := P0_2.cell0
  have P1_2 : Blk w2 (w.heap.size + 1) 42 #[.slice A' m c'] := Blk.kept P1_1 b2
  have cp1_2 := P1_2.cell0
  have R0_2 : Blk w2 (w.heap.size + 1 + 1) 42 #[.slice none 0 0] := Blk.kept R0_1 b2
  have R1_2 : Blk w2 (w.heap.size + 1 + 1 + 1) 42 #[.slice none 0 0] := Blk.kept R1_1 b2
  clear b2 B1 P0_1 cp0_1 P1_1 cp1_1 R0_1 R1_1
  go_wp2_with fail
  refine (HLC.out _ (h'.in_ B2)).mono ?_
  rintro e w3 ⟨rfl, b3⟩
  have B3 := bthen B2 b3
  have P0_3 : Blk w3 (w.heap.size) 42 #[.slice A n c] := Blk.kept P0_2 b3
  have cp0_3 := P0_3.cell0
  have P1_3 : Blk w3 (w.heap.size + 1) 42 #[.slice A' m c'] := Blk.kept P1_2 b3
  have cp1_3 := P1_3.cell0
  have R0_3 : Blk w3 (w.heap.size + 1 + 1) 42 #[.slice none 0 0] := Blk.kept R0_2 b3
  have R1_3 : Blk w3 (w.heap.size + 1 + 1 + 1) 42 #[.slice none 0 0] := Blk.kept R1_2 b3
  clear b3 B2 P0_2 cp0_2 P1_2 cp1_2 R0_2 R1_2
  go_wp2_with fail
  refine (HIC.out _).mono ?_
  rintro e wi ⟨rfl, rfl⟩
  go_wp2_with fail
  refine (clone_any A n c xs _ (h.in_ B3) (by omega)).mono ?_
  rintro e w4 ⟨A1, c1, rfl, o4, b4⟩
  obtain ⟨g, rfl, hg1, hg2⟩ := (Own.mine o4).at_ (by omega)
  have l0 := b4.size
  have U4 := Lib.hid (Own.mine o4)
  have B4 := Lib.hid b4
  have P1 := Lib.hid P1_3
  have R0 := Lib.hid R0_3
  have R1 := Lib.hid R1_3
  have BB3 := Lib.hid B3
  have H1 := Lib.hid h'
  have hWG : w.heap.size ≤ w3.heap.size := B3.size
  clear b4 o4 P0_3 P1_3 R0_3 R1_3 cp0_3 cp1_3 B3 h h' HIC HLC
  go_wp2_with (at_make; go_must (refine wpList_make_full _ rfl _ _ 22 rfl w4.heap.size 2 i0 _ 1 Try.underlying22 hi0 hz0 hz1 .i64 .i64 _ _ K rfl rfl (by omega) (by omega) (by rw [hz2]; omega) (by simp [maxLen]; omega) (Nat.le_refl _) ?_); intro w8 hown hgr; have hown0 : Hid (Mine w8 w3.heap.size (some ⟨w4.heap.size, 0, none⟩) K K (List.replicate K 0)) := (by show Mine _ _ _ _ _ _; have e : (madeCells (Value.int .i64 0).cells (K * 1)).toList = iv (List.replicate K 0) := (by rw [zeros_iv]); rw [e] at hown; exact Mine.low (Own.mine hown) l0); have bel2 : Below w4.heap.size w4 w8 := (Below.refl w4.heap.size w4).grown hgr (Nat.le_refl _) (by simp); have hbel := Lib.hid (bthen B4.out bel2); have O3 := Lib.hid (Mine.below U4.out bel2); clear hown hgr hi0 hz0 hz1 hz2 bel2)
  have hne : g ≠ w4.heap.size := by omega
  clear B4 U4
  generalize hgo2 : w4.heap.size = go at *
  clear hgo2
  have hKb : K ≤ 17 := by omega
  go_loopg [12, 13, 14] K (fun gg s12 _s13 _s14 wr => ∃ (k : Nat) (i : Int) (L out : List Int), k ≤ K ∧ k ≤ gg ∧ i = (k : Int) - 1 ∧ s12 = .int .i64 i ∧ Mine wr w3.heap.size (some ⟨g, 0, none⟩) n c1 L ∧ Mine wr w3.heap.size (some ⟨go, 0, none⟩) K K out ∧ Below w3.heap.size w3 wr ∧ Aside (divP ys m v P k L out = divP ys m v P K xs (List.replicate K 0)) ∧ Aside (∀ j, 0 ≤ L.getD j 0 ∧ L.getD j 0 < (P : Int)))
  case atStart => exact ⟨K, _, xs, _, Nat.le_refl _, Nat.le_refl _, rfl, by go_num, O3.out, hown0.out, hbel.out, rfl, HX.out⟩
  case round =>
    clear O3 hown0 hbel
    obtain ⟨k, i, L, out, hk, hgk, hi, rfl, ho, ho2, hb, hA, hB⟩ := hrel
    by_cases hk0 : k = 0
    · obtain rfl : i = -1 := by omega
      have hDE : divP ys m v P K xs (List.replicate K 0) = (L, out) := by
        rw [← hA.out, hk0]
        rfl
      have HE : Hid (R = (trimL out, trimL L)) := by
        show R = _
        rw [HF.out, hDE]
      have HZL : Hid (∀ j, m - 1 ≤ j → L.getD j 0 = 0) := by
        have h5 := HZ.out
        rw [hDE] at h5
        exact h5
      have HO := Lib.hid ho
      have HO2 := Lib.hid ho2
      have HBb := Lib.hid hb
      have R0w := Blk.kept R0.out hb
      have R1w := Blk.kept R1.out hb
      have Bw := bthen BB3.out hb
      have hLl := ho.len
      have hgo3 : go < wr.heap.size := (ho2.lt go (own1_of (by omega))).2
      have hcp := ho.cap
      clear hi hA hk0 ho ho2 hb hB hDE
      by_cases hm1 : m = 1
      · have hmz : ((m : Int) - 1 == 0) = true := by rw [hm1]; rfl
        have hT : trimL L = [0] := trim_zeros L (by rw [hLl]; omega) (fun j => HZL.out j (by omega))
        have ul := Own.mine (own_lit wr [0] 1 rfl (by simp [maxLen]))
        have HR : R = (trimL out, [0]) := by rw [HE.out, hT]
        subst HR
        have ul2 := Lib.hid ul
        have BwL := Lib.hid (Bw.alloc Bw.size (.cells (iv [0]).toArray 2))
        have R0l := Blk.alloc R0w (.cells (iv [0]).toArray 2)
        have R1l := Blk.alloc R1w (.cells (iv [0]).toArray 2)
        clear hT HE ul hm1 R0w R1w Bw
        go_wp2_with fail
        refine (whole_own (some ⟨go, 0, none⟩) K K out _ (wr.alloc (.cells (iv [0]).toArray 2)) (Mine.alloc HO2.out _) (by omega) (by omega)).mono ?_
        rintro e w6 ⟨k6, rfl, u6, b6⟩
        have ul6 := Mine.below ul2.out b6
        have R06 := Blk.kept R0l b6
        have R16 := Blk.kept R1l b6
        have B6 := bthen BwL.out b6
        clear b6 R0l R1l BwL
        go_wp2_with fail
        refine (whole_own (some ⟨wr.heap.size, 0, none⟩) 1 1 [0] _ _ ul6 (by omega) (by omega)).mono ?_
        rintro e w7 ⟨k7, rfl, u7, b7⟩
        have u67 := Mine.low (Mine.below u6 b7) (base' := w.heap.size) hWG
        have u77 := Mine.low u7 (base' := w.heap.size) (by have := HBb.out.size; omega)
        have R07 := Blk.kept R06 b7
        have R17 := Blk.kept R16 b7
        have B7 := bthen B6 b7
        have ap := apart_ne (n := k6) (n2 := k7) (show go ≠ wr.heap.size by omega)
        have hlt7 : trimL [(0 : Int)] = [0] := rfl
        rw [hlt7] at u77
        clear b7 R06 R16 B6 u6 u7 ul6 ul2 hlt7
        have AR0 := Lib.hid (Blk.apart R07 u67 (by decide))
        have AR1 := Lib.hid (Blk.apart R17 u67 (by decide))
        have AS0 := Lib.hid (Blk.apart R07 u77 (by decide))
        have AS1 := Lib.hid (Blk.apart R17 u77 (by decide))
        have U2 := Lib.hid u67
        have U3 := Lib.hid u77
        have AP := Lib.hid ap
        have BB := Lib.hid B7
        have cr0 := R07.cell0
        have fr0 := R07.frozen0
        have cr1 := R17.cell0
        have fr1 := R17.frozen0
        go_wp2_with fail
        refine bodyPost_ret (v := .tuple #[.agg #[.slice (some ⟨go, 0, none⟩) k6 k6], .agg #[.slice (some ⟨wr.heap.size, 0, none⟩) k7 k7]]) (by simp [results, Try.results57, go_sem, cr0, cr1]) rfl ⟨(some ⟨go, 0, none⟩), k6, k6, (some ⟨wr.heap.size, 0, none⟩), k7, k7, rfl, ?_, ?_, AP.out, ?_⟩
        · exact mine_set (mine_set U2.out AR0.out _) AR1.out _
        · exact mine_set (mine_set U3.out AS0.out _) AS1.out _
        · exact (BB.out.setCell (by simp <;> omega) _).setCell (by simp <;> omega) _
      · have hmz : ((m : Int) - 1 == 0) = false := by simp; omega
        have hT : trimL (L.take (m - 1)) = trimL L := trim_cut L (m - 1) (by omega) (by rw [hLl]; omega) HZL.out
        have HR : R = (trimL out, trimL (L.take (m - 1))) := by rw [HE.out, hT]
        subst HR
        have hsl : m - 1 ≤ c1 := by omega
        clear hT HE
        go_wp2_with fail
        refine (whole_own (some ⟨go, 0, none⟩) K K out _ wr HO2.out (by omega) (by omega)).mono ?_
        rintro e w6 ⟨k6, rfl, u6, b6⟩
        have ul6 := Mine.below (Mine.cut HO.out (k := m - 1) (c' := c1) (by omega) (by omega) (Nat.le_refl _)) b6
        have R06 := Blk.kept R0w b6
        have R16 := Blk.kept R1w b6
        have B6 := bthen Bw b6
        clear b6 R0w R1w Bw
        go_wp2_with fail
        refine (whole_own (some ⟨g, 0, none⟩) (m - 1) c1 (L.take (m - 1)) _ _ ul6 (by omega) (by omega)).mono ?_
        rintro e w7 ⟨k7, rfl, u7, b7⟩
        have u67 := Mine.low (Mine.below u6 b7) (base' := w.heap.size) hWG
        have u77 := Mine.low u7 (base' := w.heap.size) hWG
        have R07 := Blk.kept R06 b7
        have R17 := Blk.kept R16 b7
        have B7 := bthen B6 b7
        have ap := apart_ne (n := k6) (n2 := k7) (Ne.symm hne)
        clear b7 R06 R16 B6 u6 u7 ul6
        have AR0 := Lib.hid (Blk.apart R07 u67 (by decide))
        have AR1 := Lib.hid (Blk.apart R17 u67 (by decide))
        have AS0 := Lib.hid (Blk.apart R07 u77 (by decide))
        have AS1 := Lib.hid (Blk.apart R17 u77 (by decide))
        have U2 := Lib.hid u67
        have U3 := Lib.hid u77
        have AP := Lib.hid ap
        have BB := Lib.hid B7
        have cr0 := R07.cell0
        have fr0 := R07.frozen0
        have cr1 := R17.cell0
        have fr1 := R17.frozen0
        go_wp2_with fail
        refine bodyPost_ret (v := .tuple #[.agg #[.slice (some ⟨go, 0, none⟩) k6 k6], .agg #[.slice (some ⟨g, 0, none⟩) k7 k7]]) (by simp [results, Try.results57, go_sem, cr0, cr1]) rfl ⟨(some ⟨go, 0, none⟩), k6, k6, (some ⟨g, 0, none⟩), k7, k7, rfl, ?_, ?_, AP.out, ?_⟩
        · exact mine_set (mine_set U2.out AR0.out _) AR1.out _
        · exact mine_set (mine_set U3.out AS0.out _) AS1.out _
        · exact (BB.out.setCell (by simp <;> omega) _).setCell (by simp <;> omega) _
    · obtain ⟨k', rfl⟩ : ∃ k', k = k' + 1 := ⟨k - 1, by omega⟩
      obtain rfl : i = (k' : Int) := by omega
      clear hi hk0
      obtain ⟨j, hj⟩ : ∃ j : Nat, j = k' + (m - 1) := ⟨_, rfl⟩
      have hjz : (k' : Int) + ((m : Int) - 1) = (j : Int) := by omega
      have hjn : j < n := by omega
      have hat := Mine.cell ho hjn
      have hzb := hB.out j
      have HQ : Hid (divP ys m v P k' (rowP ys ((L.getD j 0 * v) % (P : Int)) P k' L m) (out.set k' ((L.getD j 0 * v) % (P : Int))) = divP ys m v P K xs (List.replicate K 0)) := by
        have hh := hA.out
        rw [divP, ← hj] at hh
        exact hh
      have HJ := Lib.hid hj
      have HBB := Lib.hid hB
      clear hA hj hB
      generalize L.getD j 0 = z at hat hzb HQ
      have hmb := mul_bd 12 12 (a := z) (b := v) (by omega) (by omega) (by omega) (by omega)
      have hs0 : 0 ≤ z * v := Int.mul_nonneg hzb.1 hvb.1
      have hs1 : z * v ≤ 144 := by omega
      have hq1 : 0 ≤ (z * v) % (P : Int) := Int.emod_nonneg _ hpn
      have hq2 : (z * v) % (P : Int) < (P : Int) := Int.emod_lt_of_pos _ (by omega)
      have HM := Lib.hid (fun W => mod_own (z * v) (P : Int) W (by omega) (by omega))
      generalize hqq : (z * v) % (P : Int) = q at HQ hq1 hq2 HM
      have HQQ := Lib.hid hqq
      have hkK : k' < K := by omega
      have hst := Mine.stored ho2 (by omega) k' q
      have hcq := Mine.cell ho2 hkK
      have hfq := Mine.frozen ho2 (by omega) k'
      have HO2 := Lib.hid hst.1
      have HO := Lib.hid (mine_other ho hst.2 hne)
      have HB2 := Lib.hid (hb.setCell (p := ⟨go, k', none⟩) l0 (.int .i64 q))
      have hcb := Blk.cell0 (Blk.kept P1.out HB2.out)
      clear hst ho ho2 hb hmb hqq
      generalize out.getD k' 0 = z0 at hcq
      go_wp2_with fail
      refine (HM.out _).mono ?_
      rintro e wm ⟨rfl, rfl⟩
      go_wp2_with fail
      clear hcq hfq hat hzb hs0 hs1 HM hcb
      go_loopg [13, 14, 62] m (fun gg _s13 _s14 si wr => ∃ i : Nat, i ≤ m ∧ m - i ≤ gg ∧ si = .int .i64 i ∧ Mine wr w3.heap.size (some ⟨g, 0, none⟩) n c1 (rowP ys q P k' L i) ∧ Mine wr w3.heap.size (some ⟨go, 0, none⟩) K K (out.set k' q) ∧ Below w3.heap.size w3 wr)
      case atStart => exact ⟨0, Nat.zero_le _, by omega, rfl, HO.out, HO2.out, HB2.out⟩
      case round =>
        clear HO HO2 HB2
        obtain ⟨i, hi, hg3, rfl, ho, ho2, hb⟩ := hrel
        by_cases hlt2 : i < m
        · have hltz2 : (i : Int) < (m : Int) := by omega
          have r1 := H1.out.in_ (bthen BB3.out hb)
          obtain ⟨b', o', e', hbl', hc'⟩ := r1.at_ (by omega)
          subst e'
          have hyc := hc' i hlt2
          clear r1 hc'
          have hyb := HY.out i
          have hpb := mul_bd 12 12 (a := q) (b := ys.getD i 0) (by omega) (by omega) (by omega) (by omega)
          obtain ⟨t, ht⟩ : ∃ t : Nat, t = k' + i := ⟨_, rfl⟩
          have htz : (k' : Int) + (i : Int) = (t : Int) := by omega
          have htn : t < n := by omega
          have hzb := rowP_bd ys q P (by omega) k' L HBB.out.out i t
          have hst := Mine.stored ho (by omega) t (((rowP ys q P k' L i).getD t 0 - q * ys.getD i 0) % (P : Int))
          have hat := Mine.cell ho htn
          have hfr := Mine.frozen ho (by omega) t
          have hqc := (Mine.cell ho2 hkK).trans (show some (Value.int IntKind.i64 ((out.set k' q).getD k' 0)) = some (.int .i64 q) by
            have h7 := ho2.len
            rw [List.length_set] at h7
            rw [getD_set _ _ _ _ (by rw [h7]; exact hkK), if_pos rfl])
          have HS : Hid (Mine (wr.setCell ⟨g, t, none⟩ (.int .i64 (((rowP ys q P k' L i).getD t 0 - q * ys.getD i 0) % (P : Int)))) w3.heap.size (some ⟨g, 0, none⟩) n c1 (rowP ys q P k' L (i + 1))) := by
            show Mine _ _ _ _ _ _
            rw [rowP, ← ht]
            exact hst.1
          have HO2 := Lib.hid (mine_other ho2 hst.2 (Ne.symm hne))
          have HB2 := Lib.hid (hb.setCell (p := ⟨g, t, none⟩) hg1 (.int .i64 (((rowP ys q P k' L i).getD t 0 - q * ys.getD i 0) % (P : Int))))
          have HT := Lib.hid ht
          clear hst hb ho ho2 ht
          generalize ys.getD i 0 = y at hyc hyb hpb HS HO2 HB2
          generalize (rowP ys q P k' L i).getD t 0 = z at hat hzb HS HO2 HB2
          generalize hp : q * y = p at hpb HS HO2 HB2
          have HMOD := Lib.hid (fun W => mod_own (z - p) (P : Int) W (by omega) (by omega))
          generalize hr : (z - p) % (P : Int) = r at HS HO2 HB2 HMOD
          have HPP := Lib.hid hp
          have HRR := Lib.hid hr
          clear hyb hp hr
          have hw1 : IntKind.i64.wrap p = p := IntWalk.i64_in _ (by omega)
          have hw2 : IntKind.i64.wrap (z - p) = z - p := IntWalk.i64_in _ (by omega)
          have hw4 : IntKind.i64.wrap (t : Int) = (t : Int) := IntWalk.i64_in _ (by omega)
          have hjl2 : (t : Int) < (n : Int) := by omega
          have hj02 : (0 : Int) ≤ (t : Int) := by omega
          have hpq : q * y = p := HPP.out
          go_wp2_with fail
          go_region_with (go_at_call 45; refine (HMOD.out _).mono ?_; rintro e wz ⟨rfl, rfl⟩)
          all_goals
            clear hw1 hw2 hw4 hjl2 hj02 hpq
            go_wp2_with fail
            go_roundg (m - (i + 1))
            case measure => omega
            case rel => exact ⟨i + 1, by omega, by omega, by go_num, Mine.drew HS.out, Mine.drew HO2.out, Below.drew HB2.out⟩
        · have hltz2 : ¬ (i : Int) < (m : Int) := by omega
          obtain rfl : i = m := by omega
          have HO := Lib.hid ho
          have HO2 := Lib.hid ho2
          have HB2 := Lib.hid hb
          clear ho ho2 hb
          go_wp2_with fail
          go_roundg k'
          case measure => omega
          case rel => exact ⟨k', (k' : Int) - 1, _, _, by omega, by omega, rfl, by go_num, HO.out, HO2.out, HB2.out, HQ.out, fun j => rowP_bd ys q P (by omega) k' L HBB.out.out i j⟩
end Go.Proofs.Ytlfjnpioamcbhaa
