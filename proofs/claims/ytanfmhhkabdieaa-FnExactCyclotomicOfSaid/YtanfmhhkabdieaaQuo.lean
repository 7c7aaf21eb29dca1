/- Contracts of the exact quotient, the program's and the reference's: 'divF', 'quoF'. Condition: at most 64 terms from -1000000 to 1000000, the divisor's last one not 0. -/
import Derived.Test.YtanfmhhkabdieaaMul
import Derived.Test.YtanfmhhkabdieaaZero
import Derived.Test.YtanfmhhkabdieaaDeg
import Derived.Test.YtanfmhhkabdieaaBox
import Derived.Test.YtanfmhhkabdieaaTrim
import Derived.Test.YtanfmhhkabdieaaIn
import Derived.Deep.DeepCutAuto
namespace Go.Proofs.Ytanfmhhkabdieaa
open Go.RowKit
theorem last_cell_w {w : World} {B b o n c : Nat} {xs : List Int} (h : Rd w B (some ⟨b, o, none⟩) n c xs) (hn : 0 < n) : w.cell? ⟨b, o + (n - 1), none⟩ = some (.int .i64 (lastOf xs)) := by
  obtain ⟨b2, o2, e, _, hc⟩ := h.at_ hn
  injection e with e
  injection e with e1 e2
  subst e1 e2
  have := hc (n - 1) (by omega)
  rw [this]
  unfold lastOf
  rw [h.len]

/-- The division's rounds: k places are still to be found; the rest so far, the quotient so far. None where it does not go on. -/
def divU (ys : List Int) (m : Nat) (d : Int) : Nat → List Int → List Int → Option (List Int × List Int)
  | 0, L, out => some (L, out)
  | k + 1, L, out =>
    if (L.getD (k + (m - 1)) 0).tmod d = 0 then
      if inB ((L.getD (k + (m - 1)) 0).tdiv d) (-1000000) 1000000 = true then
        divU ys m d k (rowU ys (-((L.getD (k + (m - 1)) 0).tdiv d)) k L m) (out.set k ((L.getD (k + (m - 1)) 0).tdiv d))
      else none
    else none
def divEnd : Option (List Int × List Int) → List Int × Bool
  | none => ([], false)
  | some (L, out) => if allIn 0 0 L then (out, true) else ([], false)
def divF (xs ys : List Int) : List Int × Bool :=
  if zeroB xs then ([0], true)
  else if xs.length < ys.length then ([], false)
  else divEnd (divU ys ys.length (lastOf ys) (xs.length + 1 - ys.length) xs (List.replicate (xs.length + 1 - ys.length) 0))
theorem divEnd_some (L out : List Int) : divEnd (some (L, out)) = if allIn 0 0 L then (out, true) else ([], false) := rfl
theorem divU_no {ys : List Int} {m : Nat} {d : Int} {k : Nat} {L out : List Int} (h : ¬ (L.getD (k + (m - 1)) 0).tmod d = 0) : divU ys m d (k + 1) L out = none := by rw [divU, if_neg h]
theorem divU_no2 {ys : List Int} {m : Nat} {d : Int} {k : Nat} {L out : List Int} (h : (L.getD (k + (m - 1)) 0).tmod d = 0) (h2 : inB ((L.getD (k + (m - 1)) 0).tdiv d) (-1000000) 1000000 = false) : divU ys m d (k + 1) L out = none := by
  rw [divU, if_pos h, if_neg (by rw [h2]; decide)]
theorem divU_yes {ys : List Int} {m : Nat} {d : Int} {k : Nat} {L out : List Int} (h : (L.getD (k + (m - 1)) 0).tmod d = 0) (h2 : inB ((L.getD (k + (m - 1)) 0).tdiv d) (-1000000) 1000000 = true) :
    divU ys m d (k + 1) L out = divU ys m d k (rowU ys (-((L.getD (k + (m - 1)) 0).tdiv d)) k L m) (out.set k ((L.getD (k + (m - 1)) 0).tdiv d)) := by
  rw [divU, if_pos h, if_pos h2]
theorem divU_len (ys : List Int) (m : Nat) (d : Int) (k : Nat) : ∀ L out L' out', divU ys m d k L out = some (L', out') → out'.length = out.length := by
  induction k with
  | zero => intro L out L' out' h; rw [divU] at h; injection h with h; injection h with h1 h2; rw [h2]
  | succ k ih =>
    intro L out L' out' h
    rw [divU] at h
    split at h
    · split at h
      · have := ih _ _ _ _ h
        rw [this, List.length_set]
      · cases h
    · cases h
theorem divF_len (xs ys : List Int) : (divF xs ys).1.length ≤ xs.length + 1 := by
  unfold divF
  split
  · simp
  · split
    · simp
    · cases h : divU ys ys.length (lastOf ys) (xs.length + 1 - ys.length) xs (List.replicate (xs.length + 1 - ys.length) 0) with
      | none => simp [divEnd]
      | some r =>
        obtain ⟨L, out⟩ := r
        have := divU_len _ _ _ _ _ _ _ _ h
        rw [List.length_replicate] at this
        rw [divEnd_some]
        split
        · show out.length ≤ _; omega
        · simp
theorem divF_pos {xs ys : List Int} (h : (divF xs ys).2 = true) : 0 < (divF xs ys).1.length := by
  unfold divF at h ⊢
  split
  · simp
  · rename_i h0
    rw [if_neg h0] at h
    split
    · rename_i h1; rw [if_pos h1] at h; cases h
    · rename_i h1
      rw [if_neg h1] at h
      cases hd : divU ys ys.length (lastOf ys) (xs.length + 1 - ys.length) xs (List.replicate (xs.length + 1 - ys.length) 0) with
      | none => rw [hd] at h; cases h
      | some r =>
        obtain ⟨L, out⟩ := r
        have := divU_len _ _ _ _ _ _ _ _ hd
        rw [List.length_replicate] at this
        rw [hd, divEnd_some] at h
        rw [divEnd_some]
        split
        · show 0 < out.length; omega
        · rename_i h2; rw [if_neg h2] at h; cases h
theorem tmod_bd (t c : Int) (B : Int) (h : -B ≤ t ∧ t ≤ B) : -B ≤ t.tmod c ∧ t.tmod c ≤ B := by
  have h1 : (t.tmod c).natAbs ≤ t.natAbs := by rw [Int.natAbs_tmod]; exact Nat.mod_le _ _
  omega
theorem tdiv_bdI (t c : Int) (B : Int) (h : -B ≤ t ∧ t ≤ B) : -B ≤ t.tdiv c ∧ t.tdiv c ≤ B := by
  have h1 : (t.tdiv c).natAbs ≤ t.natAbs := by rw [Int.natAbs_tdiv]; exact Nat.div_le_self _ _
  omega
theorem rowU_bd64 (ys : List Int) (q : Int) (i : Nat) (L : List Int) (a : Int) (hL : ∀ j, -a ≤ L.getD j 0 ∧ L.getD j 0 ≤ a) (hq : -1000000 ≤ q ∧ q ≤ 1000000) (hy : ∀ j, -1000000 ≤ ys.getD j 0 ∧ ys.getD j 0 ≤ 1000000) (k j : Nat) :
    (-(a + 1000000000000) ≤ (rowU ys (-q) i L k).getD j 0 ∧ (rowU ys (-q) i L k).getD j 0 ≤ a + 1000000000000) ∧ (i + k ≤ j → -a ≤ (rowU ys (-q) i L k).getD j 0 ∧ (rowU ys (-q) i L k).getD j 0 ≤ a) :=
  rowU_bd ys (-q) i L a 1000000000000 (by decide) hL (fun k => mulT_bd (by omega) (hy k)) k j
theorem own1_of {g n : Nat} (hn : 0 < n) : own1 (some (⟨g, 0, none⟩ : Addr)) n = some g := by unfold own1; rw [if_neg (by omega)]; rfl
/-- The other row stays where one is stored to. -/
theorem mine_other {w w' : World} {b g g2 n c : Nat} {xs : List Int} (h : Mine w b (some ⟨g, 0, none⟩) n c xs) (hg : w.grownBy w' (some g2)) (hne : g ≠ g2) : Mine w' b (some ⟨g, 0, none⟩) n c xs :=
  h.kept hg (fun k hk e => by
    obtain ⟨_, a, ha, hb⟩ := own1_some hk
    injection ha with ha
    subst ha
    injection e with e
    exact hne (hb.trans e.symm))

set_option maxHeartbeats 4000000 in
theorem divide_ref (A : Option Addr) (n c : Nat) (xs : List Int) (A' : Option Addr) (m c' : Nat) (ys : List Int) (w : World) (h : Rd w w.heap.size A n c xs) (h' : Rd w w.heap.size A' m c' ys)
    (hn : 1 ≤ n ∧ n ≤ 64) (hm : 1 ≤ m ∧ m ≤ 64) (hx : ∀ j, -1000000 ≤ xs.getD j 0 ∧ xs.getD j 0 ≤ 1000000) (hy : ∀ j, -1000000 ≤ ys.getD j 0 ∧ ys.getD j 0 ≤ 1000000) (hd : lastOf ys ≠ 0) :
    Calls Try.prog 48 #[.slice A n c, .slice A' m c'] w fun e w' => ∃ A2 n2 c2, e = .returned (.tuple #[.slice A2 n2 c2, .bool (divF xs ys).2]) ∧ Mine w' w.heap.size A2 n2 c2 (divF xs ys).1 ∧ Below w.heap.size w w' := by
  have hlen := Lib.hid h.len
  have hlen' := Lib.hid h'.len
  have HX := Lib.hid hx
  have HY := Lib.hid hy
  clear hx hy
  have hzc := fun W H => zero_ref A n c xs W H
  cases hz : zeroB xs
  case true =>
    have he : divF xs ys = ([0], true) := by unfold divF; rw [hz]; rfl
    rw [he]
    rw [hz] at hzc
    have HZ := Lib.hid hzc
    clear he hzc hd
    go_enter Try.func48, Try.ntmps48
    go_wp2_with fail
    refine (HZ.out _ h).mono ?_
    rintro e w1 ⟨rfl, rfl⟩
    go_wp2_with fail
    go_ret2
    exact ⟨_, 1, 1, rfl, Own.mine (own_lit w [0] 1 rfl (by simp [maxLen])), al1 w _⟩
  rw [hz] at hzc
  have HZ := Lib.hid hzc
  clear hzc
  by_cases hlt : n < m
  · have hltz : (n : Int) < (m : Int) := by omega
    have he : divF xs ys = ([], false) := by unfold divF; rw [hz, hlen.out, hlen'.out, if_neg (by decide), if_pos hlt]
    rw [he]
    clear he hd hz
    go_enter Try.func48, Try.ntmps48
    go_wp2_with fail
    refine (HZ.out _ h).mono ?_
    rintro e w1 ⟨rfl, rfl⟩
    go_wp2_with fail
    go_ret2
    exact ⟨none, 0, 0, rfl, Mine.none_ _ _, Below.refl _ _⟩
  have hltz : ¬ (n : Int) < (m : Int) := by omega
  obtain ⟨K, hK⟩ : ∃ K : Nat, K + m = n + 1 := ⟨n + 1 - m, by omega⟩
  have HF : Hid (divF xs ys = divEnd (divU ys m (lastOf ys) K xs (List.replicate K 0))) := by
    show _ = _
    unfold divF
    rw [hz, hlen.out, hlen'.out, if_neg (by decide), if_neg hlt, show n + 1 - m = K by omega]
  generalize divF xs ys = R at HF
  obtain ⟨b, o, rfl, hbl, hc⟩ := h.at_ (by omega)
  obtain ⟨b', o', rfl, hbl', hc'⟩ := h'.at_ (by omega)
  have HL : Hid (w.cell? ⟨b', o' + (m - 1), none⟩ = some (.int .i64 (lastOf ys))) := last_cell_w h' (by omega)
  have hdb := HY.out (ys.length - 1)
  change -1000000 ≤ lastOf ys ∧ lastOf ys ≤ 1000000 at hdb
  generalize lastOf ys = d at hd hdb HL HF
  have hdz : (d == 0) = false := by simpa using hd
  have HC' := Lib.hid hc'
  have HD := Lib.hid hd
  have HRd := Lib.hid h
  obtain ⟨i0, hi0, hz0, hz1, hz2⟩ := info_parts int64_info
  have hKz : (n : Int) - (m : Int) + 1 = (K : Int) := by omega
  clear hc hc' hz hlt hd h'
  go_enter Try.func48, Try.ntmps48
  go_wp2_with fail
  refine (HZ.out _ h).mono ?_
  rintro e w1 ⟨rfl, rfl⟩
  clear HZ h
  go_wp2_with (first
    | (at_builtin; go_must (refine wpList_append_rd rfl _ _ rfl w.heap.size _ _ _ _ rfl (own_empty w) _ _ _ _ _ rfl (HRd.out.in_ (al1 w _)) (by omega) (by simp) ?_); intro A1 c1 w2 ho1 hg1; have B1 := Lib.hid (bgrown (al1 w _) (own_empty w) (Nat.le_refl _) hg1); have O1 : Hid (Mine w2 w.heap.size A1 n c1 xs) := (by have hh := Own.mine ho1; rw [Nat.zero_add, List.nil_append] at hh; exact hh); clear ho1 hg1)
    | (at_make; go_must (refine wpList_make_full _ rfl _ _ 22 rfl w2.heap.size 2 i0 _ 1 Try.underlying22 hi0 hz0 hz1 .i64 .i64 _ _ K rfl rfl rfl rfl (by rw [hz2]; omega) (by simp [maxLen]; omega) (Nat.le_refl _) ?_); intro w3 hown hgr; have hown0 : Hid (Mine w3 w.heap.size (some ⟨w2.heap.size, 0, none⟩) K K (List.replicate K 0)) := (by show Mine _ _ _ _ _ _; have e : (madeCells (Value.int .i64 0).cells (K * 1)).toList = iv (List.replicate K 0) := (by rw [zeros_iv]); rw [e] at hown; exact Mine.low (Own.mine hown) B1.out.size); have bel2 : Below w2.heap.size w2 w3 := (Below.refl w2.heap.size w2).grown hgr (Nat.le_refl _) (by simp); have hbel := Lib.hid (bthen B1.out bel2); have O3 := Lib.hid (Mine.below O1.out bel2); clear hown hgr hi0 hz0 hz1 hz2 bel2))
  obtain ⟨g, rfl, hg1, hg2⟩ := O1.out.at_ (by omega)
  have hgo : w.heap.size ≤ w2.heap.size := B1.out.size
  have hne : g ≠ w2.heap.size := by omega
  clear O1 B1
  generalize hgo2 : w2.heap.size = go at *
  clear hgo2
  have hKb : K ≤ 64 := by omega
  go_loopg [9, 10, 11] K (fun gg s9 _s10 _s11 wr => ∃ (k : Nat) (i : Int) (L out : List Int), k ≤ K ∧ k ≤ gg ∧ i = (k : Int) - 1 ∧ s9 = .int .i64 i ∧ Mine wr w.heap.size (some ⟨g, 0, none⟩) n c1 L ∧ Mine wr w.heap.size (some ⟨go, 0, none⟩) K K out ∧ Below w.heap.size w wr ∧ Aside (divU ys m d k L out = divU ys m d K xs (List.replicate K 0)) ∧ Aside (∀ j, -(1000000 + ((K : Int) - k) * 1000000000000) ≤ L.getD j 0 ∧ L.getD j 0 ≤ 1000000 + ((K : Int) - k) * 1000000000000))
  case atStart => exact ⟨K, _, xs, _, Nat.le_refl _, Nat.le_refl _, rfl, by go_num, O3.out, hown0.out, hbel.out, rfl, fun j => by have := HX.out j; omega⟩
  case round =>
    clear O3 hown0 hbel
    obtain ⟨k, i, L, out, hk, hgk, hi, rfl, ho, ho2, hb, hA, hB⟩ := hrel
    by_cases hk0 : k = 0
    · obtain rfl : i = -1 := by omega
      have HE : Hid (R = divEnd (some (L, out))) := by
        show R = _
        rw [HF.out, ← hA.out, hk0]
        rfl
      have HO := Lib.hid ho
      have HO2 := Lib.hid ho2
      have HBb := Lib.hid hb
      have hLl := Lib.hid ho.len
      clear hi hA hk0 ho ho2 hb hB
      go_wp2_with fail
      go_loopg [12, 90] n (fun gg _s12 si wx => ∃ j : Nat, j ≤ n ∧ n - j ≤ gg ∧ si = .int .i64 j ∧ Aside (∀ t, t < j → L.getD t 0 = 0) ∧ wx = wr)
      case atStart => exact ⟨0, Nat.zero_le _, by omega, rfl, fun t ht => absurd ht (by omega), rfl⟩
      case round =>
        obtain ⟨j, hj, hg4, rfl, hall, rfl⟩ := hrel
        by_cases hlt2 : j < n
        · have hltz2 : (j : Int) < (n : Int) := by omega
          have hat := Mine.cell HO.out hlt2
          by_cases hv : L.getD j 0 = 0
          · rw [hv] at hat
            have HV := Lib.hid hv
            clear hv
            go_wp2_with fail
            go_roundg (n - (j + 1))
            case measure => omega
            case rel => exact ⟨j + 1, by omega, by omega, by go_num, fun t ht => by
              by_cases e : t = j
              · rw [e]; exact HV.out
              · exact hall.out t (by omega), rfl⟩
          · have hall0 : allIn 0 0 L = false := allIn_false (j := j) (by rw [hLl.out]; exact hlt2) (inB_false.2 (by omega))
            have hR : R = ([], false) := by rw [HE.out, divEnd_some, if_neg (by rw [hall0]; decide)]
            subst hR
            have hne2 : (L.getD j 0 != 0) = true := by simpa using hv
            clear hall hv hall0 HE
            generalize L.getD j 0 = v at hat hne2
            go_wp2_with fail
            go_ret2
            exact ⟨none, 0, 0, rfl, Mine.none_ _ _, HBb.out⟩
        · have hltz2 : ¬ (j : Int) < (n : Int) := by omega
          obtain rfl : j = n := by omega
          have hall1 : allIn 0 0 L = true := allIn_iff.2 fun t ht => by rw [hall.out t (by rw [hLl.out] at ht; exact ht)]; decide
          have hR : R = (out, true) := by rw [HE.out, divEnd_some, if_pos hall1]
          subst hR
          clear hall hall1 HE
          go_wp2_with fail
          go_ret2
          exact ⟨_, _, _, rfl, HO2.out, HBb.out⟩
    · obtain ⟨k', rfl⟩ : ∃ k', k = k' + 1 := ⟨k - 1, by omega⟩
      obtain rfl : i = (k' : Int) := by omega
      clear hi hk0
      obtain ⟨j, hj⟩ : ∃ j : Nat, j = k' + (m - 1) := ⟨_, rfl⟩
      have hjz : (k' : Int) + (m : Int) - 1 = (j : Int) := by omega
      have hjn : j < n := by omega
      have hat := Mine.cell ho hjn
      have hvb := hB.out j
      have HNO : Hid (¬ (L.getD j 0).tmod d = 0 → R = ([], false)) := fun h0 => by rw [HF.out, ← hA.out, divU_no (by rw [← hj]; exact h0)]; rfl
      have HNO2 : Hid ((L.getD j 0).tmod d = 0 → inB ((L.getD j 0).tdiv d) (-1000000) 1000000 = false → R = ([], false)) := fun h0 h1 => by rw [HF.out, ← hA.out, divU_no2 (by rw [← hj]; exact h0) (by rw [← hj]; exact h1)]; rfl
      have HYES : Hid ((L.getD j 0).tmod d = 0 → inB ((L.getD j 0).tdiv d) (-1000000) 1000000 = true → divU ys m d k' (rowU ys (-((L.getD j 0).tdiv d)) k' L m) (out.set k' ((L.getD j 0).tdiv d)) = divU ys m d K xs (List.replicate K 0)) := fun h0 h1 => by
        have hh := hA.out
        rw [divU_yes (by rw [← hj]; exact h0) (by rw [← hj]; exact h1), ← hj] at hh
        exact hh
      have hld := (hb.cell (p := ⟨b', o' + (m - 1), none⟩) hbl').trans HL.out
      have HJ := Lib.hid hj
      clear hA hj
      generalize L.getD j 0 = v at hat hvb HNO HNO2 HYES
      have htm := tmod_bd v d _ hvb
      have htd := tdiv_bdI v d _ hvb
      have HBB := Lib.hid hB
      clear hB
      by_cases hr : v.tmod d = 0
      case neg =>
        have hr2 : (v.tmod d != 0) = true := by simpa using hr
        have hR := HNO.out hr
        subst hR
        have HB2 := Lib.hid hb
        clear hr HNO HNO2 HYES ho ho2 hb
        go_wp2_with fail
        go_ret2
        exact ⟨none, 0, 0, rfl, Mine.none_ _ _, HB2.out⟩
      have HHr := Lib.hid hr
      clear HNO
      cases hin : inB (v.tdiv d) (-1000000) 1000000
      case false =>
        have hR := HNO2.out hr hin
        subst hR
        have hcon := fun W => in_ref (v.tdiv d) (-1000000) 1000000 W
        rw [hin] at hcon
        have HIN := Lib.hid hcon
        have HB2 := Lib.hid hb
        clear hin hcon HNO2 HYES ho ho2 hb
        generalize hqq : v.tdiv d = q at htd HIN
        go_wp2_with fail
        refine (HIN.out _).mono ?_
        rintro e wz ⟨rfl, rfl⟩
        go_wp2_with fail
        go_ret2
        exact ⟨none, 0, 0, rfl, Mine.none_ _ _, HB2.out⟩
      have HQ := Lib.hid (HYES.out hr hin)
      have hqb := inB_true.1 hin
      have hcon := fun W => in_ref (v.tdiv d) (-1000000) 1000000 W
      rw [hin] at hcon
      have HIN := Lib.hid hcon
      clear hin hcon HNO2 HYES
      have hkK : k' < K := by omega
      generalize hqq : v.tdiv d = q at htd HIN HQ hqb
      have HQQ := Lib.hid hqq
      have hst := Mine.stored ho2 (by omega) k' q
      have hcq := Mine.cell ho2 hkK
      have hfq := Mine.frozen ho2 (by omega) k'
      have HO2 := Lib.hid hst.1
      have HO := Lib.hid (mine_other ho hst.2 hne)
      have HB2 := Lib.hid (hb.setCell (p := ⟨go, k', none⟩) hgo (.int .i64 q))
      clear hst ho ho2 hb
      generalize out.getD k' 0 = z0 at hcq
      go_wp2_with fail
      refine (HIN.out _).mono ?_
      rintro e wz ⟨rfl, rfl⟩
      go_wp2_with fail
      clear hcq hfq HIN htm htd hat hld hr hvb hqq
      have hqr : ∀ a b, Hid (rowU ys (-q) k' L a = b) → True := fun _ _ _ => True.intro
      clear hqr
      go_loopg [11, 70] m (fun gg _s11 si wr => ∃ i : Nat, i ≤ m ∧ m - i ≤ gg ∧ si = .int .i64 i ∧ Mine wr w.heap.size (some ⟨g, 0, none⟩) n c1 (rowU ys (-q) k' L i) ∧ Mine wr w.heap.size (some ⟨go, 0, none⟩) K K (out.set k' q) ∧ Below w.heap.size w wr)
      case atStart => exact ⟨0, Nat.zero_le _, by omega, rfl, HO.out, HO2.out, HB2.out⟩
      case round =>
        clear HO HO2 HB2
        obtain ⟨i, hi, hg3, rfl, ho, ho2, hb⟩ := hrel
        by_cases hlt2 : i < m
        · have hltz2 : (i : Int) < (m : Int) := by omega
          have hyc := (hb.cell (p := ⟨b', o' + i, none⟩) hbl').trans (HC'.out i hlt2)
          have hyb := HY.out i
          have hpb := mulT_bd hqb hyb
          obtain ⟨t, ht⟩ : ∃ t : Nat, t = k' + i := ⟨_, rfl⟩
          have htz : (k' : Int) + (i : Int) = (t : Int) := by omega
          have htn : t < n := by omega
          have hzb := (rowU_bd64 ys q k' L _ HBB.out.out hqb HY.out i t).2 (by omega)
          have hst := Mine.stored ho (by omega) t ((rowU ys (-q) k' L i).getD t 0 + -q * ys.getD i 0)
          have hat := Mine.cell ho htn
          have hfr := Mine.frozen ho (by omega) t
          have HS : Hid (Mine (wr.setCell ⟨g, t, none⟩ (.int .i64 ((rowU ys (-q) k' L i).getD t 0 + -q * ys.getD i 0))) w.heap.size (some ⟨g, 0, none⟩) n c1 (rowU ys (-q) k' L (i + 1))) := by
            show Mine _ _ _ _ _ _
            rw [rowU, addAt, ← ht]
            exact hst.1
          have HO2 := Lib.hid (mine_other ho2 hst.2 (Ne.symm hne))
          have HB2 := Lib.hid (hb.setCell (p := ⟨g, t, none⟩) hg1 (.int .i64 ((rowU ys (-q) k' L i).getD t 0 + -q * ys.getD i 0)))
          have HT := Lib.hid ht
          have _tok := True.intro
          clear hst hb ho ho2 ht
          generalize ys.getD i 0 = y at hyc hpb HS HO2 HB2
          generalize (rowU ys (-q) k' L i).getD t 0 = z at hat hzb HS HO2 HB2
          rw [show z + -q * y = z - q * y by rw [Int.neg_mul]; rfl] at HS HO2 HB2
          generalize hp : q * y = p at hpb HS HO2 HB2
          have HPP := Lib.hid hp
          clear hyb hp
          have hw1 : IntKind.i64.wrap p = p := IntWalk.i64_in _ (by omega)
          have hw2 : IntKind.i64.wrap (z - p) = z - p := IntWalk.i64_in _ (by omega)
          have hw3 : IntKind.i64.wrap ((k' : Int) + (i : Int)) = (k' : Int) + (i : Int) := IntWalk.i64_in _ (by omega)
          have hjl : (t : Int) < (n : Int) := by omega
          have hj0 : (0 : Int) ≤ (t : Int) := by omega
          have hpq : q * y = p := HPP.out
          go_wp2_with fail
          go_region
          clear hw1 hw2 hw3 hjl hj0 hpq
          go_wp2_with fail
          go_roundg (m - (i + 1))
          case measure => omega
          case rel => exact ⟨i + 1, by omega, by omega, by go_num, Mine.drew HS.out, Mine.drew HO2.out, Below.drew HB2.out⟩
        · have hltz2 : ¬ (i : Int) < (m : Int) := by omega
          obtain rfl : i = m := by omega
          have HO := Lib.hid ho
          have HO2 := Lib.hid ho2
          have HB2 := Lib.hid hb
          clear ho ho2 hb
          go_wp2_with fail
          go_roundg k'
          case measure => omega
          case rel =>
            refine ⟨k', (k' : Int) - 1, _, _, by omega, by omega, rfl, by go_num, HO.out, HO2.out, HB2.out, HQ.out, fun j => ?_⟩
            have h5 := (rowU_bd64 ys q k' L _ HBB.out.out hqb HY.out i j).1
            omega
end Go.Proofs.Ytanfmhhkabdieaa
