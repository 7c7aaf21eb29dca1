/- Contracts of the cyclotomic terms, the program's and the reference's: the table 'tabC'. Condition: an order from 1 to 30. -/
import Derived.Test.YtanfmhhkabdieaaQuo
namespace Go.Proofs.Ytanfmhhkabdieaa
open Go.RowKit

/-- The terms whose roots have just the order n, for n from 1 to 30. -/
def tabC (n : Nat) : List Int := List.getD ([[], [-1, 1], [1, 1], [1, 1, 1], [1, 0, 1], [1, 1, 1, 1, 1], [1, -1, 1], [1, 1, 1, 1, 1, 1, 1], [1, 0, 0, 0, 1], [1, 0, 0, 1, 0, 0, 1], [1, -1, 1, -1, 1], [1, 1, 1, 1, 1, 1, 1, 1, 1, 1, 1], [1, 0, -1, 0, 1], [1, 1, 1, 1, 1, 1, 1, 1, 1, 1, 1, 1, 1], [1, -1, 1, -1, 1, -1, 1], [1, -1, 0, 1, -1, 1, 0, -1, 1], [1, 0, 0, 0, 0, 0, 0, 0, 1], [1, 1, 1, 1, 1, 1, 1, 1, 1, 1, 1, 1, 1, 1, 1, 1, 1], [1, 0, 0, -1, 0, 0, 1], [1, 1, 1, 1, 1, 1, 1, 1, 1, 1, 1, 1, 1, 1, 1, 1, 1, 1, 1], [1, 0, -1, 0, 1, 0, -1, 0, 1], [1, -1, 0, 1, -1, 0, 1, 0, -1, 1, 0, -1, 1], [1, -1, 1, -1, 1, -1, 1, -1, 1, -1, 1], [1, 1, 1, 1, 1, 1, 1, 1, 1, 1, 1, 1, 1, 1, 1, 1, 1, 1, 1, 1, 1, 1, 1], [1, 0, 0, 0, -1, 0, 0, 0, 1], [1, 0, 0, 0, 0, 1, 0, 0, 0, 0, 1, 0, 0, 0, 0, 1, 0, 0, 0, 0, 1], [1, -1, 1, -1, 1, -1, 1, -1, 1, -1, 1, -1, 1], [1, 0, 0, 0, 0, 0, 0, 0, 0, 1, 0, 0, 0, 0, 0, 0, 0, 0, 1], [1, 0, -1, 0, 1, 0, -1, 0, 1, 0, -1, 0, 1], [1, 1, 1, 1, 1, 1, 1, 1, 1, 1, 1, 1, 1, 1, 1, 1, 1, 1, 1, 1, 1, 1, 1, 1, 1, 1, 1, 1, 1], [1, 1, 0, -1, -1, -1, 0, 1, 1]] : List (List Int)) n []
def rowC (n : Nat) : List Int := ((List.replicate (n + 1) 0).set 0 (-1)).set n 1
/-- The rounds of a division by terms whose last one is 1. -/
def divM (ys : List Int) (m : Nat) : Nat → List Int → List Int → Option (List Int × List Int)
  | 0, L, out => some (L, out)
  | k + 1, L, out =>
    if inB (L.getD (k + (m - 1)) 0) (-1000000) 1000000 = true then
      divM ys m k (rowU ys (-(L.getD (k + (m - 1)) 0)) k L m) (out.set k (L.getD (k + (m - 1)) 0))
    else none
theorem divM_no {ys : List Int} {m k : Nat} {L out : List Int} (h : inB (L.getD (k + (m - 1)) 0) (-1000000) 1000000 = false) : divM ys m (k + 1) L out = none := by rw [divM, if_neg (by rw [h]; decide)]
theorem divM_yes {ys : List Int} {m k : Nat} {L out : List Int} (h : inB (L.getD (k + (m - 1)) 0) (-1000000) 1000000 = true) :
    divM ys m (k + 1) L out = divM ys m k (rowU ys (-(L.getD (k + (m - 1)) 0)) k L m) (out.set k (L.getD (k + (m - 1)) 0)) := by rw [divM, if_pos h]
def goodC (L Y : List Int) : Bool :=
  (decide (1 ≤ L.length ∧ L.length ≤ 64 ∧ 1 ≤ Y.length ∧ Y.length ≤ L.length ∧ lastOf Y ≠ 0) && (allIn (-1000000) 1000000 L && allIn (-1000000) 1000000 Y)) && decide ((divM Y Y.length (L.length + 1 - Y.length) L (List.replicate (L.length + 1 - Y.length) 0)).map Prod.snd = some (divF L Y).1)
/-- The divisors from d on: each division goes as it should, and the table's entry comes out. -/
def runC (n : Nat) : Nat → Nat → List Int → Bool
  | 0, _, L => decide (L = tabC n)
  | f + 1, d, L => if n % d = 0 then goodC L (tabC d) && runC n f (d + 1) (divF L (tabC d)).1 else runC n f (d + 1) L
set_option maxRecDepth 100000 in
theorem all_ok : ∀ n, n < 31 → (n = 0 ∨ runC n (n - 1) 1 (rowC n) = true) := by decide +kernel
theorem allIn_bd {xs : List Int} (h : allIn (-1000000) 1000000 xs = true) (j : Nat) : -1000000 ≤ xs.getD j 0 ∧ xs.getD j 0 ≤ 1000000 := by
  by_cases hj : j < xs.length
  · exact inB_true.1 (allIn_iff.1 h j hj)
  · rw [getD_beyond (by omega)]; omega
theorem goodC_of {L Y : List Int} (h : goodC L Y = true) : (1 ≤ L.length ∧ L.length ≤ 64 ∧ 1 ≤ Y.length ∧ Y.length ≤ L.length ∧ lastOf Y ≠ 0) ∧ (∀ j, -1000000 ≤ L.getD j 0 ∧ L.getD j 0 ≤ 1000000) ∧ (∀ j, -1000000 ≤ Y.getD j 0 ∧ Y.getD j 0 ≤ 1000000) ∧
    (divM Y Y.length (L.length + 1 - Y.length) L (List.replicate (L.length + 1 - Y.length) 0)).map Prod.snd = some (divF L Y).1 := by
  unfold goodC at h
  simp only [Bool.and_eq_true, decide_eq_true_eq] at h
  exact ⟨h.1.1, allIn_bd h.1.2.1, allIn_bd h.1.2.2, h.2⟩
theorem runC_yes {n f d : Nat} {L : List Int} (hd : n % d = 0) (h : runC n (f + 1) d L = true) : goodC L (tabC d) = true ∧ runC n f (d + 1) (divF L (tabC d)).1 = true := by
  rw [runC, if_pos hd, Bool.and_eq_true] at h
  exact h
theorem runC_no {n f d : Nat} {L : List Int} (hd : ¬ n % d = 0) (h : runC n (f + 1) d L = true) : runC n f (d + 1) L = true := by
  rw [runC, if_neg hd] at h
  exact h
theorem runC_end {n d : Nat} {L : List Int} (h : runC n 0 d L = true) : L = tabC n := by
  rw [runC] at h
  exact of_decide_eq_true h
set_option maxRecDepth 100000 in
theorem tabC_len : ∀ n, n < 31 → (n = 0 ∨ (1 ≤ (tabC n).length ∧ (tabC n).length ≤ 64)) := by decide +kernel

set_option maxHeartbeats 4000000 in
set_option maxRecDepth 10000 in
theorem cyc_ref : ∀ (N : Nat), 1 ≤ N → N ≤ 30 → ∀ w : World, Calls Try.prog 43 #[.int .i64 (N : Int)] w fun e w' => ∃ A2 n2 c2, e = .returned (.slice A2 n2 c2) ∧ Mine w' w.heap.size A2 n2 c2 (tabC N) ∧ Below w.heap.size w w' := by
  intro N
  induction N using Nat.strongRecOn with
  | _ N IH =>
  intro h1 h30 w
  have hrun : Hid (runC N (N - 1) 1 (rowC N) = true) := by
    rcases all_ok N (by omega) with h0 | h0
    · omega
    · exact h0
  obtain ⟨i0, hi0, hz0, hz1, hz2⟩ := info_parts int64_info
  have HIH := Lib.hid IH
  clear IH
  go_enter Try.func43, Try.ntmps43
  go_wp2_with (at_make; go_must (refine wpList_make_full _ rfl _ _ 22 rfl w.heap.size 2 i0 _ 1 Try.underlying22 hi0 hz0 hz1 .i64 .i64 _ _ (N + 1) rfl rfl (by omega) (by omega) (by rw [hz2]; omega) (by simp [maxLen]; omega) (Nat.le_refl _) ?_); intro w1 hown hgr; have u1 : Mine w1 w.heap.size (some ⟨w.heap.size, 0, none⟩) (N + 1) (N + 1) (List.replicate (N + 1) 0) := (by have e : (madeCells (Value.int .i64 0).cells ((N + 1) * 1)).toList = iv (List.replicate (N + 1) 0) := (by rw [zeros_iv]); rw [e] at hown; exact Own.mine hown); have b1 : Below w.heap.size w w1 := (Below.refl w.heap.size w).grown hgr (Nat.le_refl _) (by simp); have e1 := Mine.stored u1 (by omega) 0 (-1); have c1 := Mine.cell u1 (j := 0) (by omega); have f1 := Mine.frozen u1 (by omega) 0; have e2 := Mine.stored e1.1 (by omega) N 1; have c2 := Mine.cell e1.1 (j := N) (by omega); have f2 := Mine.frozen e1.1 (by omega) N; have U2 : Hid (Mine ((w1.setCell ⟨w.heap.size, 0, none⟩ (.int .i64 (-1))).setCell ⟨w.heap.size, N, none⟩ (.int .i64 1)) w.heap.size (some ⟨w.heap.size, 0, none⟩) (N + 1) (N + 1) (rowC N)) := e2.1; have B2 := Lib.hid ((b1.setCell (p := ⟨w.heap.size, 0, none⟩) (Nat.le_refl _) (.int .i64 (-1))).setCell (p := ⟨w.heap.size, N, none⟩) (Nat.le_refl _) (.int .i64 1)); generalize (List.replicate (N + 1) (0 : Int)).getD 0 0 = z1 at c1; generalize ((List.replicate (N + 1) (0 : Int)).set 0 (-1)).getD N 0 = z2 at c2; clear hown hgr hi0 hz0 hz1 hz2 u1 b1 e1 e2)
  clear c1 f1 c2 f2
  go_loopg [3, 4] N (fun gg s3 s4 wr => ∃ (d k c : Nat) (A : Option Addr) (L : List Int), 1 ≤ d ∧ d ≤ N ∧ N - d ≤ gg ∧ s4 = .int .i64 d ∧ s3 = .slice A k c ∧ Mine wr w.heap.size A k c L ∧ Below w.heap.size w wr ∧ Aside (runC N (N - d) d L = true))
  case atStart => exact ⟨1, _, _, _, _, Nat.le_refl _, h1, by omega, rfl, rfl, U2.out, B2.out, hrun.out⟩
  case round =>
    clear U2 B2 hrun
    obtain ⟨d, k, c, A, L, hd1, hdN, hg, rfl, rfl, ho, hb, hR⟩ := hrel
    by_cases hlt : d < N
    · have hltz : (d : Int) < (N : Int) := by omega
      have hdz : ((d : Int) == 0) = false := by simp; omega
      have hR2 : runC N ((N - (d + 1)) + 1) d L = true := by rw [show N - (d + 1) + 1 = N - d by omega]; exact hR.out
      have HO := Lib.hid ho
      have HB := Lib.hid hb
      clear hR ho hb
      by_cases hm : N % d = 0
      · have hmb : ((N : Int) % (d : Int) == 0) = true := by
          have : (N : Int) % (d : Int) = ((N % d : Nat) : Int) := by simp
          rw [this, hm]; rfl
        obtain ⟨hg1, hg2⟩ := runC_yes hm hR2
        obtain ⟨⟨q1, q2, q3, q4, q5⟩, q6, q7, _⟩ := goodC_of hg1
        have HL := Lib.hid HO.out.len
        have HQ := Lib.hid (And.intro q1 (And.intro q2 (And.intro q3 (And.intro q4 (And.intro q5 (And.intro q6 (And.intro q7 hg2)))))))
        clear hR2 hg1 hg2 q1 q2 q3 q4 q5 q6 q7 hm
        go_wp2_with fail
        refine (HIH.out d hlt hd1 (by omega) _).mono ?_
        rintro e w2 ⟨A2, n2, c2, rfl, u2, b2⟩
        have B2 := bthen HB.out b2
        have O2 := Mine.below HO.out b2
        have hl2 := u2.len
        obtain ⟨q1, q2, q3, q4, q5, q6, q7, hg2⟩ := HQ.out
        go_wp2_with fail
        refine (divide_ref A k c L A2 n2 c2 (tabC d) _ O2.rd u2.rd (by rw [← HL.out]; omega) (by rw [← hl2]; omega) q6 q7 q5).mono ?_
        rintro e w3 ⟨A3, n3, c3, rfl, u3, b3⟩
        have B3 := Lib.hid (bthen B2 b3)
        have U3 := Lib.hid (Mine.low u3 (base' := w.heap.size) B2.size)
        have HG2 := Lib.hid hg2
        clear B2 b3 u3 O2 hl2 q1 q2 q3 q4 q5 q6 q7 hg2 b2 u2
        go_wp2_with fail
        go_roundg (N - (d + 1))
        case measure => omega
        case rel => exact ⟨d + 1, _, _, _, _, by omega, by omega, by omega, by go_num, rfl, U3.out, B3.out, HG2.out⟩
      · have hmb : ((N : Int) % (d : Int) == 0) = false := by
          have : (N : Int) % (d : Int) = ((N % d : Nat) : Int) := by simp
          rw [this]
          simp only [beq_eq_false_iff_ne, ne_eq]
          omega
        have HG2 := Lib.hid (runC_no hm hR2)
        clear hR2 hm
        go_wp2_with fail
        go_roundg (N - (d + 1))
        case measure => omega
        case rel => exact ⟨d + 1, _, _, _, _, by omega, by omega, by omega, by go_num, rfl, HO.out, HB.out, HG2.out⟩
    · have hltz : ¬ (d : Int) < (N : Int) := by omega
      obtain rfl : N = d := by omega
      have hl : L = tabC N := runC_end (d := N) (by have := hR.out; rwa [Nat.sub_self] at this)
      subst hl
      have HO := Lib.hid ho
      have HB := Lib.hid hb
      clear hR ho hb
      go_wp2_with fail
      go_ret
      exact ⟨_, _, _, rfl, HO.out, HB.out⟩

set_option maxHeartbeats 4000000 in
set_option maxRecDepth 10000 in
theorem cyc_own : ∀ (N : Nat), 1 ≤ N → N ≤ 30 → ∀ w : World, Calls Try.prog 44 #[.int .i64 (N : Int)] w fun e w' => ∃ A2 n2 c2, e = .returned (.slice A2 n2 c2) ∧ Mine w' w.heap.size A2 n2 c2 (tabC N) ∧ Below w.heap.size w w' := by
  intro N
  induction N using Nat.strongRecOn with
  | _ N IH =>
  intro h1 h30 w
  have hrun : Hid (runC N (N - 1) 1 (rowC N) = true) := by
    rcases all_ok N (by omega) with h0 | h0
    · omega
    · exact h0
  obtain ⟨i0, hi0, hz0, hz1, hz2⟩ := info_parts int64_info
  have HIH := Lib.hid IH
  clear IH
  go_enter Try.func44, Try.ntmps44
  go_wp2_with (at_make; go_must (refine wpList_make_full _ rfl _ _ 22 rfl w.heap.size 2 i0 _ 1 Try.underlying22 hi0 hz0 hz1 .i64 .i64 _ _ (N + 1) rfl rfl (by omega) (by omega) (by rw [hz2]; omega) (by simp [maxLen]; omega) (Nat.le_refl _) ?_); intro w1 hown hgr; have u1 : Mine w1 w.heap.size (some ⟨w.heap.size, 0, none⟩) (N + 1) (N + 1) (List.replicate (N + 1) 0) := (by have e : (madeCells (Value.int .i64 0).cells ((N + 1) * 1)).toList = iv (List.replicate (N + 1) 0) := (by rw [zeros_iv]); rw [e] at hown; exact Own.mine hown); have b1 : Below w.heap.size w w1 := (Below.refl w.heap.size w).grown hgr (Nat.le_refl _) (by simp); have e1 := Mine.stored u1 (by omega) 0 (-1); have c1 := Mine.cell u1 (j := 0) (by omega); have f1 := Mine.frozen u1 (by omega) 0; have e2 := Mine.stored e1.1 (by omega) N 1; have c2 := Mine.cell e1.1 (j := N) (by omega); have f2 := Mine.frozen e1.1 (by omega) N; have U2 : Hid (Mine ((w1.setCell ⟨w.heap.size, 0, none⟩ (.int .i64 (-1))).setCell ⟨w.heap.size, N, none⟩ (.int .i64 1)) w.heap.size (some ⟨w.heap.size, 0, none⟩) (N + 1) (N + 1) (rowC N)) := e2.1; have B2 := Lib.hid ((b1.setCell (p := ⟨w.heap.size, 0, none⟩) (Nat.le_refl _) (.int .i64 (-1))).setCell (p := ⟨w.heap.size, N, none⟩) (Nat.le_refl _) (.int .i64 1)); generalize (List.replicate (N + 1) (0 : Int)).getD 0 0 = z1 at c1; generalize ((List.replicate (N + 1) (0 : Int)).set 0 (-1)).getD N 0 = z2 at c2; clear hown hgr hi0 hz0 hz1 hz2 u1 b1 e1 e2)
  clear c1 f1 c2 f2
  have hGW : True := True.intro
  clear hGW
  go_loopg [3, 4, 5, 6, 7, 8, 9, 10] N (fun gg s3 s4 _s5 _s6 _s7 _s8 _s9 _s10 wr => ∃ (d k c : Nat) (A : Option Addr) (L : List Int), 1 ≤ d ∧ d ≤ N ∧ N - d ≤ gg ∧ s4 = .int .i64 d ∧ s3 = .slice A k c ∧ Mine wr w.heap.size A k c L ∧ Below w.heap.size w wr ∧ Aside (runC N (N - d) d L = true))
  case atStart => exact ⟨1, _, _, _, _, Nat.le_refl _, h1, by omega, rfl, rfl, U2.out, B2.out, hrun.out⟩
  case round =>
    clear U2 B2 hrun
    obtain ⟨d, n, c, A, L0, hd1, hdN, hg, rfl, rfl, ho, hb, hR⟩ := hrel
    by_cases hlt : d < N
    · have hltz : (d : Int) < (N : Int) := by omega
      have hdz : ((d : Int) == 0) = false := by simp; omega
      have hR2 : runC N ((N - (d + 1)) + 1) d L0 = true := by rw [show N - (d + 1) + 1 = N - d by omega]; exact hR.out
      have HO := Lib.hid ho
      have HB := Lib.hid hb
      clear hR ho hb
      by_cases hm : N % d = 0
      · have hmb : ((N : Int) % (d : Int) != 0) = false := by
          have : (N : Int) % (d : Int) = ((N % d : Nat) : Int) := by simp
          rw [this, hm]; rfl
        obtain ⟨hg1, hg2⟩ := runC_yes hm hR2
        obtain ⟨⟨q1, q2, q3, q4, q5⟩, q6, q7, q8⟩ := goodC_of hg1
        have hL0 := HO.out.len
        rw [hL0] at q1 q2 q4 q8
        have HX := Lib.hid q6
        have HY := Lib.hid q7
        have HG2 := Lib.hid hg2
        have HQ8 := Lib.hid q8
        clear hR2 hg1 hg2 q5 q6 q7 q8 hm hL0
        go_wp2_with fail
        refine (HIH.out d hlt hd1 (by omega) _).mono ?_
        rintro e w2 ⟨A2, m, c', rfl, u2o, b2⟩
        obtain ⟨g, rfl, hg1, hg2⟩ := HO.out.at_ (by omega)
        have hlm := u2o.len
        have hrs := HB.out.size
        have HQ9 := HQ8.out
        rw [hlm] at q3 q4 HQ9
        obtain ⟨gy, rfl, hgy1, hgy2⟩ := u2o.at_ (by omega)
        have U2 := Lib.hid (Mine.low u2o (base' := w.heap.size) HB.out.size)
        have O2 := Lib.hid (Mine.below HO.out b2)
        have B2 := Lib.hid (bthen HB.out b2)
        have hW2 := B2.out.size
        have HLM := Lib.hid hlm
        generalize tabC d = ys at HG2 HY HQ9 U2 HLM
        obtain ⟨K, hK⟩ : ∃ K : Nat, K + m = n + 1 := ⟨n + 1 - m, by omega⟩
        rw [show n + 1 - m = K by omega] at HQ9
        have HQM := Lib.hid HQ9
        have HD : Hid (List.map (fun x => x) L0 = L0) := by show _ = _; simp
        obtain ⟨i0, hi0, hz0, hz1, hz2⟩ := info_parts int64_info
        clear HQ9 HQ8 u2o b2 hlm HD HO HB
        go_wp2_with (at_make; go_must (refine wpList_make_full _ rfl _ _ 22 rfl w2.heap.size 2 i0 _ 1 Try.underlying22 hi0 hz0 hz1 .i64 .i64 _ _ K rfl rfl (by omega) (by omega) (by rw [hz2]; omega) (by simp [maxLen]; omega) (Nat.le_refl _) ?_); intro w8 hown hgr; have hown0 : Hid (Mine w8 w.heap.size (some ⟨w2.heap.size, 0, none⟩) K K (List.replicate K 0)) := (by show Mine _ _ _ _ _ _; have e : (madeCells (Value.int .i64 0).cells (K * 1)).toList = iv (List.replicate K 0) := (by rw [zeros_iv]); rw [e] at hown; exact Mine.low (Own.mine hown) hW2); have bel2 : Below w2.heap.size w2 w8 := (Below.refl w2.heap.size w2).grown hgr (Nat.le_refl _) (by simp); have hbel := Lib.hid (bthen B2.out bel2); have O3 := Lib.hid (Mine.below O2.out bel2); have U3 := Lib.hid (Mine.below U2.out bel2); clear hown hgr hi0 hz0 hz1 hz2 bel2)
        have hne1 : g ≠ w2.heap.size := by omega
        have hne2 : gy ≠ w2.heap.size := by omega
        have hne3 : g ≠ gy := by omega
        clear B2 U2 O2
        generalize hgo2 : w2.heap.size = go at *
        clear hgo2
        go_loopg [8, 9, 10] K (fun gg s8 _s9 _s10 wr => ∃ (k : Nat) (i : Int) (L out : List Int), k ≤ K ∧ k ≤ gg ∧ i = (k : Int) - 1 ∧ s8 = .int .i64 i ∧ Mine wr w.heap.size (some ⟨g, 0, none⟩) n c L ∧ Mine wr w.heap.size (some ⟨gy, 0, none⟩) m c' ys ∧ Mine wr w.heap.size (some ⟨go, 0, none⟩) K K out ∧ Below w.heap.size w wr ∧ Aside (divM ys m k L out = divM ys m K L0 (List.replicate K 0)) ∧ Aside (∀ j, -(1000000 + ((K : Int) - k) * 1000000000000) ≤ L.getD j 0 ∧ L.getD j 0 ≤ 1000000 + ((K : Int) - k) * 1000000000000))
        case atStart => exact ⟨K, _, L0, _, Nat.le_refl _, Nat.le_refl _, rfl, by go_num, O3.out, U3.out, hown0.out, hbel.out, rfl, fun j => by have := HX.out j; omega⟩
        case round =>
          clear O3 U3 hown0 hbel
          obtain ⟨k, i, L, out, hk, hgk, hi, rfl, ho, hy, ho2, hb, hA, hB⟩ := hrel
          by_cases hk0 : k = 0
          · obtain rfl : i = -1 := by omega
            have HOUT : Hid (Mine wr w.heap.size (some ⟨go, 0, none⟩) K K (divF L0 ys).1) := by
              have h5 := HQM.out
              rw [← hA.out, hk0, divM] at h5
              have h6 : out = (divF L0 ys).1 := by simpa using h5
              rw [← h6]
              exact ho2
            have HBb := Lib.hid hb
            clear hi hA hB hk0 ho hy ho2 hb
            go_wp2_with fail
            go_roundg (N - (d + 1))
            case measure => omega
            case rel => exact ⟨d + 1, _, _, _, _, by omega, by omega, by omega, by go_num, rfl, HOUT.out, HBb.out, HG2.out⟩
          · obtain ⟨k', rfl⟩ : ∃ k', k = k' + 1 := ⟨k - 1, by omega⟩
            obtain rfl : i = (k' : Int) := by omega
            clear hi hk0
            obtain ⟨j, hj⟩ : ∃ j : Nat, j = k' + (m - 1) := ⟨_, rfl⟩
            have hjz : (k' : Int) + ((m : Int) - 1) = (j : Int) := by omega
            have hjn : j < n := by omega
            have hat := Mine.cell ho hjn
            have hq : inB (L.getD j 0) (-1000000) 1000000 = true := by
              cases hq : inB (L.getD j 0) (-1000000) 1000000 with
              | true => rfl
              | false =>
                have h5 := HQM.out
                rw [← hA.out, divM_no (by rw [← hj]; exact hq)] at h5
                cases h5
            have HQ : Hid (divM ys m k' (rowU ys (-(L.getD j 0)) k' L m) (out.set k' (L.getD j 0)) = divM ys m K L0 (List.replicate K 0)) := by
              have hh := hA.out
              rw [divM_yes (by rw [← hj]; exact hq), ← hj] at hh
              exact hh
            have hqb := inB_true.1 hq
            have HJ := Lib.hid hj
            have HBB := Lib.hid hB
            clear hA hj hq hB
            generalize L.getD j 0 = q at hat HQ hqb
            have hkK : k' < K := by omega
            have hst := Mine.stored ho2 (by omega) k' q
            have hcq := Mine.cell ho2 hkK
            have hfq := Mine.frozen ho2 (by omega) k'
            have HO2 := Lib.hid hst.1
            have HO := Lib.hid (mine_other ho hst.2 hne1)
            have HYR := Lib.hid (mine_other hy hst.2 hne2)
            have HB2 := Lib.hid (hb.setCell (p := ⟨go, k', none⟩) hW2 (.int .i64 q))
            clear hst ho ho2 hy hb
            generalize out.getD k' 0 = z0 at hcq
            go_wp2_with fail
            clear hcq hfq hat
            go_loopg [9, 10, 56] m (fun gg _s9 _s10 si wr => ∃ i : Nat, i ≤ m ∧ m - i ≤ gg ∧ si = .int .i64 i ∧ Mine wr w.heap.size (some ⟨g, 0, none⟩) n c (rowU ys (-q) k' L i) ∧ Mine wr w.heap.size (some ⟨gy, 0, none⟩) m c' ys ∧ Mine wr w.heap.size (some ⟨go, 0, none⟩) K K (out.set k' q) ∧ Below w.heap.size w wr)
            case atStart => exact ⟨0, Nat.zero_le _, by omega, rfl, HO.out, HYR.out, HO2.out, HB2.out⟩
            case round =>
              clear HO HO2 HYR HB2
              obtain ⟨i, hi, hg3, rfl, ho, hy, ho2, hb⟩ := hrel
              by_cases hlt2 : i < m
              · have hltz2 : (i : Int) < (m : Int) := by omega
                have hyc := Mine.cell hy hlt2
                have hyb := HY.out i
                have hpb := mulT_bd hqb hyb
                obtain ⟨t, ht⟩ : ∃ t : Nat, t = k' + i := ⟨_, rfl⟩
                have htz : (k' : Int) + (i : Int) = (t : Int) := by omega
                have htn : t < n := by omega
                have hzb := (rowU_bd64 ys q k' L _ HBB.out.out hqb HY.out i t).2 (by omega)
                have hst := Mine.stored ho (by omega) t ((rowU ys (-q) k' L i).getD t 0 + -q * ys.getD i 0)
                have hat := Mine.cell ho htn
                have hfr := Mine.frozen ho (by omega) t
                have hqc := (Mine.cell ho2 hkK).trans (show some (Value.int IntKind.i64 ((out.set k' q).getD k' 0)) = some (.int .i64 q) by
                  have h7 := ho2.len
                  rw [List.length_set] at h7
                  rw [getD_set _ _ _ _ (by rw [h7]; exact hkK), if_pos rfl])
                have HS : Hid (Mine (wr.setCell ⟨g, t, none⟩ (.int .i64 ((rowU ys (-q) k' L i).getD t 0 + -q * ys.getD i 0))) w.heap.size (some ⟨g, 0, none⟩) n c (rowU ys (-q) k' L (i + 1))) := by
                  show Mine _ _ _ _ _ _
                  rw [rowU, addAt, ← ht]
                  exact hst.1
                have HO2 := Lib.hid (mine_other ho2 hst.2 (Ne.symm hne1))
                have HYR := Lib.hid (mine_other hy hst.2 (Ne.symm hne3))
                have HB2 := Lib.hid (hb.setCell (p := ⟨g, t, none⟩) hg1 (.int .i64 ((rowU ys (-q) k' L i).getD t 0 + -q * ys.getD i 0)))
                have HT := Lib.hid ht
                clear hst hb ho ho2 hy ht
                generalize ys.getD i 0 = y at hyc hpb HS HO2 HYR HB2
                generalize (rowU ys (-q) k' L i).getD t 0 = z at hat hzb HS HO2 HYR HB2
                rw [show z + -q * y = z - q * y by rw [Int.neg_mul]; rfl] at HS HO2 HYR HB2
                generalize hp : q * y = p at hpb HS HO2 HYR HB2
                have HPP := Lib.hid hp
                clear hyb hp
                have hw1 : IntKind.i64.wrap p = p := IntWalk.i64_in _ (by omega)
                have hw2 : IntKind.i64.wrap (z - p) = z - p := IntWalk.i64_in _ (by omega)
                have hw4 : IntKind.i64.wrap ((k' : Int) + (i : Int)) = (k' : Int) + (i : Int) := IntWalk.i64_in _ (by omega)
                have hjl2 : (t : Int) < (n : Int) := by omega
                have hj02 : (0 : Int) ≤ (t : Int) := by omega
                have hpq : q * y = p := HPP.out
                go_wp2_with fail
                go_region
                clear hw1 hw2 hw4 hjl2 hj02 hpq
                go_wp2_with fail
                go_roundg (m - (i + 1))
                case measure => omega
                case rel => exact ⟨i + 1, by omega, by omega, by go_num, Mine.drew HS.out, Mine.drew HYR.out, Mine.drew HO2.out, Below.drew HB2.out⟩
              · have hltz2 : ¬ (i : Int) < (m : Int) := by omega
                obtain rfl : i = m := by omega
                have HO := Lib.hid ho
                have HO2 := Lib.hid ho2
                have HYR := Lib.hid hy
                have HB2 := Lib.hid hb
                clear ho ho2 hy hb
                go_wp2_with fail
                go_roundg k'
                case measure => omega
                case rel =>
                  refine ⟨k', (k' : Int) - 1, _, _, by omega, by omega, rfl, by go_num, HO.out, HYR.out, HO2.out, HB2.out, HQ.out, fun j => ?_⟩
                  have h5 := (rowU_bd64 ys q k' L _ HBB.out.out hqb HY.out i j).1
                  omega
      · have hmb : ((N : Int) % (d : Int) != 0) = true := by
          have : (N : Int) % (d : Int) = ((N % d : Nat) : Int) := by simp
          rw [this]
          simp only [bne_iff_ne, ne_eq]
          omega
        have HG2 := Lib.hid (runC_no hm hR2)
        clear hR2 hm
        go_wp2_with fail
        go_roundg (N - (d + 1))
        case measure => omega
        case rel => exact ⟨d + 1, _, _, _, _, by omega, by omega, by omega, by go_num, rfl, HO.out, HB.out, HG2.out⟩
    · have hltz : ¬ (d : Int) < (N : Int) := by omega
      obtain rfl : N = d := by omega
      have hl : L0 = tabC N := runC_end (d := N) (by have := hR.out; rwa [Nat.sub_self] at this)
      subst hl
      have HO := Lib.hid ho
      have HB := Lib.hid hb
      clear hR ho hb
      go_wp2_with fail
      go_ret
      exact ⟨_, _, _, rfl, HO.out, HB.out⟩

def cycF (a : Int) : List Int × Bool := if inB a 1 30 then giveF (tabC a.toNat) else ([], false)
theorem cycF_len (a : Int) : (cycF a).1.length ≤ 1048576 := by
  unfold cycF
  split
  · exact Nat.le_trans (checkF_len _) (by decide)
  · simp

set_option maxHeartbeats 1000000 in
theorem cycOf_ref (a : Int) (w : World) (_bd : -9223372036854775808 ≤ a ∧ a ≤ 9223372036854775807) :
    Calls Try.prog 20 #[.int .i64 a] w fun e w' => ∃ A2 n2 c2, e = .returned (.tuple #[.agg #[.slice A2 n2 c2], .bool (cycF a).2]) ∧ Mine w' w.heap.size A2 n2 c2 (cycF a).1 ∧ Below w.heap.size w w' := by
  have hin := fun W => in_ref a 1 30 W
  cases ha : inB a 1 30
  · have he : cycF a = ([], false) := by unfold cycF; rw [ha]; rfl
    rw [he]
    rw [ha] at hin
    have HIN := Lib.hid hin
    clear hin he
    go_enter Try.func20, Try.ntmps20
    go_wp2_with fail
    refine (HIN.out _).mono ?_
    rintro e w1 ⟨rfl, rfl⟩
    go_wp2_with fail
    refine bodyPost_ret (v := .tuple #[.agg #[.slice none 0 0], .bool false]) (by simp [results, Try.results20, go_sem]) rfl ⟨none, 0, 0, rfl, Mine.none_ _ _, ?_⟩
    exact al1 w _
  have hb := inB_true.1 ha
  obtain ⟨N, rfl⟩ := Int.eq_ofNat_of_zero_le (show 0 ≤ a by omega)
  have he : cycF (N : Int) = giveF (tabC N) := by unfold cycF; rw [ha]; rfl
  rw [he]
  rw [ha] at hin
  have HIN := Lib.hid hin
  have hl : 1 ≤ (tabC N).length ∧ (tabC N).length ≤ 64 := by
    rcases tabC_len N (by omega) with h0 | h0
    · omega
    · exact h0
  have _tok := True.intro
  clear hin he ha
  go_enter Try.func20, Try.ntmps20
  go_wp2_with fail
  refine (HIN.out _).mono ?_
  rintro e w1 ⟨rfl, rfl⟩
  go_wp2_with fail
  refine (cyc_ref N (by omega) (by omega) _).mono ?_
  rintro e w2 ⟨A2, n2, c2, rfl, u2, b2⟩
  have B2 := bthen (al1 w _) b2
  have R2 : Blk w2 w.heap.size 26 #[.slice none 0 0] := Blk.kept (Blk.new w _ _) b2
  have hl2 : 0 < n2 ∧ n2 ≤ 1048576 := by rw [← u2.len]; omega
  clear b2 hl
  go_wp2_with fail
  refine (give_ref A2 n2 c2 (tabC N) _ u2.rd hl2.2 hl2.1).mono ?_
  rintro e w3 ⟨A3, n3, c3, rfl, u3o, b3⟩
  have B3 := bthen B2 b3
  have R3 := Blk.kept R2 b3
  have u3 := Mine.low u3o (base' := w.heap.size) B2.size
  clear b3 u2 u3o B2 R2
  have AR := Lib.hid (Blk.apart R3 u3 (by decide))
  have U := Lib.hid u3
  have BB := Lib.hid B3
  have cr := R3.cell0
  have fr := R3.frozen0
  go_wp2_with fail
  refine bodyPost_ret (v := .tuple #[.agg #[.slice A3 n3 c3], .bool (giveF (tabC N)).2]) (by simp [results, Try.results20, go_sem, cr]) rfl ⟨A3, n3, c3, rfl, ?_, ?_⟩
  · exact mine_set U.out AR.out _
  · exact BB.out.setCell (by simp <;> omega) _

set_option maxHeartbeats 1000000 in
theorem cycOf_own (a : Int) (w : World) (_bd : -9223372036854775808 ≤ a ∧ a ≤ 9223372036854775807) :
    Calls Try.prog 21 #[.int .i64 a] w fun e w' => ∃ A2 n2 c2, e = .returned (.tuple #[.agg #[.slice A2 n2 c2], .bool (cycF a).2]) ∧ Mine w' w.heap.size A2 n2 c2 (cycF a).1 ∧ Below w.heap.size w w' := by
  have hin := fun W => in_own a 1 30 W
  cases ha : inB a 1 30
  · have he : cycF a = ([], false) := by unfold cycF; rw [ha]; rfl
    rw [he]
    rw [ha] at hin
    have HIN := Lib.hid hin
    clear hin he
    go_enter Try.func21, Try.ntmps21
    go_wp2_with fail
    refine (HIN.out _).mono ?_
    rintro e w1 ⟨rfl, rfl⟩
    go_wp2_with fail
    refine bodyPost_ret (v := .tuple #[.agg #[.slice none 0 0], .bool false]) (by simp [results, Try.results21, go_sem]) rfl ⟨none, 0, 0, rfl, Mine.none_ _ _, ?_⟩
    exact al1 w _
  have hb := inB_true.1 ha
  obtain ⟨N, rfl⟩ := Int.eq_ofNat_of_zero_le (show 0 ≤ a by omega)
  have he : cycF (N : Int) = giveF (tabC N) := by unfold cycF; rw [ha]; rfl
  rw [he]
  rw [ha] at hin
  have HIN := Lib.hid hin
  have hl : 1 ≤ (tabC N).length ∧ (tabC N).length ≤ 64 := by
    rcases tabC_len N (by omega) with h0 | h0
    · omega
    · exact h0
  change Calls _ _ _ _ fun e w' => ∃ A2 n2 c2, e = .returned (.tuple #[.agg #[.slice A2 n2 c2], .bool (checkF (trimL (tabC N))).2]) ∧ Mine w' w.heap.size A2 n2 c2 (checkF (trimL (tabC N))).1 ∧ Below w.heap.size w w'
  clear hin he ha
  go_enter Try.func21, Try.ntmps21
  go_wp2_with fail
  refine (HIN.out _).mono ?_
  rintro e w1 ⟨rfl, rfl⟩
  go_wp2_with fail
  refine (cyc_own N (by omega) (by omega) _).mono ?_
  rintro e w2 ⟨A2, n2, c2, rfl, u2, b2⟩
  have B2 := bthen (al1 w _) b2
  have R2 : Blk w2 w.heap.size 26 #[.slice none 0 0] := Blk.kept (Blk.new w _ _) b2
  have hl2 : 0 < n2 ∧ n2 ≤ 1048576 := by rw [← u2.len]; omega
  clear b2 hl
  go_wp2_with fail
  refine (whole_own A2 n2 c2 (tabC N) _ _ u2 hl2.2 hl2.1).mono ?_
  rintro e w3 ⟨k3, rfl, u3o, b3⟩
  have B3 := bthen B2 b3
  have R3 := Blk.kept R2 b3
  clear b3 u2
  go_wp2_with fail
  refine (checked_own A2 k3 k3 (trimL (tabC N)) _ _ u3o).mono ?_
  rintro e w4 ⟨A4, n4, c4, rfl, u4o, b4⟩
  have B4 := bthen B3 b4
  have R4 := Blk.kept R3 b4
  have u4 := Mine.low u4o (base' := w.heap.size) (by simp)
  clear b4 u3o u4o B3 R3 B2 R2
  have AR := Lib.hid (Blk.apart R4 u4 (by decide))
  have U := Lib.hid u4
  have BB := Lib.hid B4
  have cr := R4.cell0
  have fr := R4.frozen0
  go_wp2_with fail
  refine bodyPost_ret (v := .tuple #[.agg #[.slice A4 n4 c4], .bool (checkF (trimL (tabC N))).2]) (by simp [results, Try.results21, go_sem, cr]) rfl ⟨A4, n4, c4, rfl, ?_, ?_⟩
  · exact mine_set U.out AR.out _
  · exact BB.out.setCell (by simp <;> omega) _
end Go.Proofs.Ytanfmhhkabdieaa
