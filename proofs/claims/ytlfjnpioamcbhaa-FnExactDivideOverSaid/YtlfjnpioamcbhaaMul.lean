/- Contracts of the product of two lists of terms, the program's and the reference's: 'prodL'. Condition: 1 to 17 terms each, from -1000000 to 1000000. -/
import Derived.Test.YtlfjnpioamcbhaaMark
import Derived.Test.YtlfjnpioamcbhaaAppend
import Derived.RegionTactic
import Derived.IntWalk
namespace Go.Proofs.Ytlfjnpioamcbhaa
open Go.RowKit

def addAt (L : List Int) (j : Nat) (v : Int) : List Int := L.set j (L.getD j 0 + v)
/-- The list after the first k terms of ys, times x, were added from place i on. -/
def rowU (ys : List Int) (x : Int) (i : Nat) (L : List Int) : Nat → List Int
  | 0 => L
  | k + 1 => addAt (rowU ys x i L k) (i + k) (x * ys.getD k 0)
/-- The product's terms after the first i terms of xs. -/
def prodU (xs ys : List Int) : Nat → List Int
  | 0 => List.replicate (xs.length + ys.length - 1) 0
  | i + 1 => rowU ys (xs.getD i 0) i (prodU xs ys i) ys.length
def prodL (xs ys : List Int) : List Int := prodU xs ys xs.length
theorem addAt_len (L : List Int) (j : Nat) (v : Int) : (addAt L j v).length = L.length := by simp [addAt]
theorem rowU_len (ys : List Int) (x : Int) (i : Nat) (L : List Int) (k : Nat) : (rowU ys x i L k).length = L.length := by
  induction k with
  | zero => rfl
  | succ k ih => rw [rowU, addAt_len, ih]
theorem prodU_len (xs ys : List Int) (i : Nat) : (prodU xs ys i).length = xs.length + ys.length - 1 := by
  induction i with
  | zero => simp [prodU]
  | succ i ih => rw [prodU, rowU_len, ih]
theorem prodL_len (xs ys : List Int) : (prodL xs ys).length = xs.length + ys.length - 1 := prodU_len _ _ _
theorem getD_beyond {xs : List Int} {j : Nat} (h : xs.length ≤ j) : xs.getD j 0 = 0 := by
  simp only [List.getD, List.getElem?_eq_none h]; rfl
theorem addAt_get (L : List Int) (j m : Nat) (v : Int) : (addAt L j v).getD m 0 = if j = m ∧ m < L.length then L.getD m 0 + v else L.getD m 0 := by
  unfold addAt
  by_cases hm : m < L.length
  · rw [getD_set _ _ _ _ hm]
    by_cases hj : j = m
    · subst hj; rw [if_pos rfl, if_pos ⟨rfl, hm⟩]
    · rw [if_neg hj, if_neg (fun h => hj h.1)]
  · rw [if_neg (fun h => hm h.2), getD_beyond (by rw [List.length_set]; omega), getD_beyond (by omega)]
theorem rowU_bd (ys : List Int) (x : Int) (i : Nat) (L : List Int) (a M : Int) (hM : 0 ≤ M) (hL : ∀ j, -a ≤ L.getD j 0 ∧ L.getD j 0 ≤ a) (hx : ∀ k, -M ≤ x * ys.getD k 0 ∧ x * ys.getD k 0 ≤ M) (k : Nat) :
    ∀ j, (-(a + M) ≤ (rowU ys x i L k).getD j 0 ∧ (rowU ys x i L k).getD j 0 ≤ a + M) ∧ (i + k ≤ j → -a ≤ (rowU ys x i L k).getD j 0 ∧ (rowU ys x i L k).getD j 0 ≤ a) := by
  induction k with
  | zero => intro j; have := hL j; exact ⟨by show _ ≤ L.getD j 0 ∧ L.getD j 0 ≤ _; omega, fun _ => this⟩
  | succ k ih =>
    intro j
    have h1 := ih j
    have h2 := hx k
    rw [rowU, addAt_get]
    split
    · rename_i hc
      obtain ⟨rfl, _⟩ := hc
      have h3 := h1.2 (Nat.le_refl _)
      exact ⟨by omega, fun h => by omega⟩
    · exact ⟨h1.1, fun h => h1.2 (by omega)⟩
theorem mulT_bd {x y : Int} (h1 : -1000000 ≤ x ∧ x ≤ 1000000) (h2 : -1000000 ≤ y ∧ y ≤ 1000000) : -1000000000000 ≤ x * y ∧ x * y ≤ 1000000000000 := by
  have := mul_bd 1000000 1000000 (a := x) (b := y) (by omega) (by omega) (by omega) (by omega)
  omega
theorem prodU_bd (xs ys : List Int) (hx : ∀ j, -1000000 ≤ xs.getD j 0 ∧ xs.getD j 0 ≤ 1000000) (hy : ∀ j, -1000000 ≤ ys.getD j 0 ∧ ys.getD j 0 ≤ 1000000) (i : Nat) :
    ∀ j, -((i : Int) * 1000000000000) ≤ (prodU xs ys i).getD j 0 ∧ (prodU xs ys i).getD j 0 ≤ (i : Int) * 1000000000000 := by
  induction i with
  | zero =>
    intro j
    have : (prodU xs ys 0).getD j 0 = 0 := by
      unfold prodU
      by_cases hj : j < xs.length + ys.length - 1
      · rw [getD_eq (by simpa using hj)]; simp
      · exact getD_beyond (by simp; omega)
    rw [this]
    omega
  | succ i ih =>
    intro j
    have h1 := (rowU_bd ys (xs.getD i 0) i (prodU xs ys i) ((i : Int) * 1000000000000) 1000000000000 (by decide) ih (fun k => mulT_bd (hx i) (hy k)) ys.length j).1
    rw [prodU]
    omega

set_option maxHeartbeats 2000000 in
theorem mulL_own (A : Option Addr) (n c : Nat) (xs : List Int) (A' : Option Addr) (m c' : Nat) (ys : List Int) (w : World) (h : Rd w w.heap.size A n c xs) (h' : Rd w w.heap.size A' m c' ys)
    (hn : 1 ≤ n ∧ n ≤ 17) (hm : 1 ≤ m ∧ m ≤ 17) (hx : ∀ j, -1000000 ≤ xs.getD j 0 ∧ xs.getD j 0 ≤ 1000000) (hy : ∀ j, -1000000 ≤ ys.getD j 0 ∧ ys.getD j 0 ≤ 1000000) :
    Calls Try.prog 72 #[.slice A n c, .slice A' m c'] w fun e w' => ∃ A2 n2 c2, e = .returned (.slice A2 n2 c2) ∧ Mine w' w.heap.size A2 n2 c2 (prodL xs ys) ∧ Below w.heap.size w w' := by
  obtain ⟨i0, hi0, hz0, hz1, hz2⟩ := info_parts int64_info
  have hlen := Lib.hid h.len
  have hlen' := Lib.hid h'.len
  have HX := Lib.hid hx
  have HY := Lib.hid hy
  have HP := Lib.hid (prodU_bd xs ys hx hy)
  clear hx hy
  obtain ⟨L, hL⟩ : ∃ L : Nat, L + 1 = n + m := ⟨n + m - 1, by omega⟩
  have hLz : (n : Int) + (m : Int) - 1 = (L : Int) := by omega
  obtain ⟨b, o, rfl, hbl, hc⟩ := h.at_ (by omega)
  obtain ⟨b', o', rfl, hbl', hc'⟩ := h'.at_ (by omega)
  have HC := Lib.hid hc
  have HC' := Lib.hid hc'
  clear hc hc' h h'
  go_enter Try.func72, Try.ntmps72
  go_wp2_with (at_make; go_must (refine wpList_make_full _ rfl _ _ 22 rfl w.heap.size 2 i0 _ 1 Try.underlying22 hi0 hz0 hz1 .i64 .i64 _ _ L rfl rfl rfl rfl (by rw [hz2]; omega) (by simp [maxLen]; omega) (Nat.le_refl _) ?_); intro w1 hown hgr; have hown0 : Hid (Own w1 w.heap.size (some ⟨w.heap.size, 0, none⟩) L L (prodU xs ys 0)) := (by show Own _ _ _ _ _ _; have e : (madeCells (Value.int .i64 0).cells (L * 1)).toList = iv (prodU xs ys 0) := (by rw [zeros_iv, prodU, hlen.out, hlen'.out, show n + m - 1 = L by omega]); rw [e] at hown; exact hown); have hbel := Lib.hid ((Below.refl w.heap.size w).grown hgr (Nat.le_refl _) (by simp)); clear hown hgr hi0 hz0 hz1 hz2)
  clear hLz
  go_loopg [6, 7, 8, 9, 19] n (fun g _s6 _s7 _s8 _s9 si wr => ∃ i : Nat, i ≤ n ∧ n - i ≤ g ∧ si = .int .i64 i ∧ Own wr w.heap.size (some ⟨w.heap.size, 0, none⟩) L L (prodU xs ys i) ∧ Below w.heap.size w wr)
  case atStart => exact ⟨0, Nat.zero_le _, by omega, rfl, hown0.out, hbel.out⟩
  case round =>
    clear hown0 hbel
    obtain ⟨i, hi, hg, rfl, ho, hb⟩ := hrel
    by_cases hlt : i < n
    · have hltz : (i : Int) < (n : Int) := by omega
      have hxc := (hb.cell (p := ⟨b, o + i, none⟩) hbl).trans (HC.out i hlt)
      have hxb := HX.out i
      have HE : Hid (rowU ys (xs.getD i 0) i (prodU xs ys i) m = prodU xs ys (i + 1)) := by
        show _ = _
        rw [← hlen'.out]
        rfl
      have HR : Hid (∀ k j, i + k ≤ j → -((i : Int) * 1000000000000) ≤ (rowU ys (xs.getD i 0) i (prodU xs ys i) k).getD j 0 ∧ (rowU ys (xs.getD i 0) i (prodU xs ys i) k).getD j 0 ≤ (i : Int) * 1000000000000) := fun k j hkj =>
        (rowU_bd ys (xs.getD i 0) i (prodU xs ys i) ((i : Int) * 1000000000000) 1000000000000 (by decide) (HP.out i) (fun k => mulT_bd (HX.out i) (HY.out k)) k j).2 hkj
      have HL : Hid (∀ k, (rowU ys (xs.getD i 0) i (prodU xs ys i) k).length = L) := fun k => by rw [rowU_len, prodU_len, hlen.out, hlen'.out]; omega
      have HO : Hid (Own wr w.heap.size (some ⟨w.heap.size, 0, none⟩) L L (rowU ys (xs.getD i 0) i (prodU xs ys i) 0)) := ho
      have HXC : Hid (∀ w9, Below w.heap.size w w9 → w9.cell? ⟨b, o + i, none⟩ = some (.int .i64 (xs.getD i 0))) := fun w9 hb9 => (hb9.cell (p := ⟨b, o + i, none⟩) hbl).trans (HC.out i hlt)
      have HB := Lib.hid hb
      clear ho hb HP
      generalize xs.getD i 0 = x at hxc hxb HE HR HL HO HXC
      generalize prodU xs ys i = PU at HE HR HL HO
      clear HXC
      go_wp2_with fail
      go_loopg [8, 9, 26] m (fun g _s8 _s9 si wr => ∃ k : Nat, k ≤ m ∧ m - k ≤ g ∧ si = .int .i64 k ∧ Own wr w.heap.size (some ⟨w.heap.size, 0, none⟩) L L (rowU ys x i PU k) ∧ Below w.heap.size w wr)
      case atStart => exact ⟨0, Nat.zero_le _, by omega, rfl, HO.out, HB.out⟩
      case round =>
        clear HO HB
        obtain ⟨k, hk, hg2, rfl, ho, hb⟩ := hrel
        by_cases hlt2 : k < m
        · have hltz2 : (k : Int) < (m : Int) := by omega
          have hyc := (hb.cell (p := ⟨b', o' + k, none⟩) hbl').trans (HC'.out k hlt2)
          have hyb := HY.out k
          have hpb := mulT_bd hxb hyb
          obtain ⟨j, hj⟩ : ∃ j : Nat, j = i + k := ⟨_, rfl⟩
          have hjz : (i : Int) + (k : Int) = (j : Int) := by omega
          have hjL : j < L := by omega
          have hzb := HR.out k j (by omega)
          have hst := World.ownsRow.stored (n := L) ho j (.int .i64 ((rowU ys x i PU k).getD j 0 + x * ys.getD k 0))
          have hat := World.ownsRow.cellAt (n := L) ho j (by omega)
          have hfr := World.ownsRow.frozenAt (n := L) ho j
          rw [iv_get _ _ (by rw [HL.out]; exact hjL)] at hat
          rw [iv_set] at hst
          have HS : Hid (Own (wr.setCell ⟨w.heap.size, j, none⟩ (.int .i64 ((rowU ys x i PU k).getD j 0 + x * ys.getD k 0))) w.heap.size (some ⟨w.heap.size, 0, none⟩) L L (rowU ys x i PU (k + 1))) := by
            show Own _ _ _ _ _ _
            rw [rowU, addAt, ← hj]
            exact hst.1
          have HB := Lib.hid (hb.setCell (p := ⟨w.heap.size, j, none⟩) (Nat.le_refl _) (.int .i64 ((rowU ys x i PU k).getD j 0 + x * ys.getD k 0)))
          have HJ := Lib.hid hj
          have _tok := True.intro
          clear hst hb ho hj
          generalize ys.getD k 0 = y at hyc hpb HS HB
          generalize (rowU ys x i PU k).getD j 0 = z at hat hzb HS HB
          generalize hp : x * y = p at hpb HS HB
          have HPP := Lib.hid hp
          clear hyb
          go_wp2_with fail
          go_roundg (m - (k + 1))
          case measure => omega
          case rel => exact ⟨k + 1, by omega, by omega, by go_num, HS.out, HB.out⟩
        · have hltz2 : ¬ (k : Int) < (m : Int) := by omega
          obtain rfl : k = m := by omega
          have HO : Hid (Own wr w.heap.size (some ⟨w.heap.size, 0, none⟩) L L (prodU xs ys (i + 1))) := by show Own _ _ _ _ _ _; rw [← HE.out]; exact ho
          have HB := Lib.hid hb
          clear ho hb
          go_wp2_with fail
          go_roundg (n - (i + 1))
          case measure => omega
          case rel => exact ⟨i + 1, by omega, by omega, by go_num, HO.out, HB.out⟩
    · have hltz : ¬ (i : Int) < (n : Int) := by omega
      obtain rfl : i = n := by omega
      have HO : Hid (Own wr w.heap.size (some ⟨w.heap.size, 0, none⟩) L L (prodL xs ys)) := by show Own _ _ _ _ _ _; unfold prodL; rw [hlen.out]; exact ho
      have HB := Lib.hid hb
      clear ho hb
      go_wp2_with fail
      go_ret
      exact ⟨_, _, _, rfl, Own.mine HO.out, HB.out⟩

set_option maxHeartbeats 2000000 in
theorem mulL_ref (A : Option Addr) (n c : Nat) (xs : List Int) (A' : Option Addr) (m c' : Nat) (ys : List Int) (w : World) (h : Rd w w.heap.size A n c xs) (h' : Rd w w.heap.size A' m c' ys)
    (hn : 1 ≤ n ∧ n ≤ 17) (hm : 1 ≤ m ∧ m ≤ 17) (hx : ∀ j, -1000000 ≤ xs.getD j 0 ∧ xs.getD j 0 ≤ 1000000) (hy : ∀ j, -1000000 ≤ ys.getD j 0 ∧ ys.getD j 0 ≤ 1000000) :
    Calls Try.prog 53 #[.slice A n c, .slice A' m c'] w fun e w' => ∃ A2 n2 c2, e = .returned (.slice A2 n2 c2) ∧ Mine w' w.heap.size A2 n2 c2 (prodL xs ys) ∧ Below w.heap.size w w' := by
  obtain ⟨i0, hi0, hz0, hz1, hz2⟩ := info_parts int64_info
  have hlen := Lib.hid h.len
  have hlen' := Lib.hid h'.len
  have HX := Lib.hid hx
  have HY := Lib.hid hy
  have HP := Lib.hid (prodU_bd xs ys hx hy)
  clear hx hy
  obtain ⟨L, hL⟩ : ∃ L : Nat, L + 1 = n + m := ⟨n + m - 1, by omega⟩
  have hLz : (n : Int) + (m : Int) - 1 = (L : Int) := by omega
  obtain ⟨b, o, rfl, hbl, hc⟩ := h.at_ (by omega)
  obtain ⟨b', o', rfl, hbl', hc'⟩ := h'.at_ (by omega)
  have HC := Lib.hid hc
  have HC' := Lib.hid hc'
  clear hc hc' h h'
  go_enter Try.func53, Try.ntmps53
  go_wp2_with (at_make; go_must (refine wpList_make_full _ rfl _ _ 22 rfl w.heap.size 2 i0 _ 1 Try.underlying22 hi0 hz0 hz1 .i64 .i64 _ _ L rfl rfl rfl rfl (by rw [hz2]; omega) (by simp [maxLen]; omega) (Nat.le_refl _) ?_); intro w1 hown hgr; have hown0 : Hid (Own w1 w.heap.size (some ⟨w.heap.size, 0, none⟩) L L (prodU xs ys 0)) := (by show Own _ _ _ _ _ _; have e : (madeCells (Value.int .i64 0).cells (L * 1)).toList = iv (prodU xs ys 0) := (by rw [zeros_iv, prodU, hlen.out, hlen'.out, show n + m - 1 = L by omega]); rw [e] at hown; exact hown); have hbel := Lib.hid ((Below.refl w.heap.size w).grown hgr (Nat.le_refl _) (by simp)); clear hown hgr hi0 hz0 hz1 hz2)
  clear hLz
  go_loopg [6, 7, 17] n (fun g _s6 _s7 si wr => ∃ i : Nat, i ≤ n ∧ n - i ≤ g ∧ si = .int .i64 i ∧ Own wr w.heap.size (some ⟨w.heap.size, 0, none⟩) L L (prodU xs ys i) ∧ Below w.heap.size w wr)
  case atStart => exact ⟨0, Nat.zero_le _, by omega, rfl, hown0.out, hbel.out⟩
  case round =>
    clear hown0 hbel
    obtain ⟨i, hi, hg, rfl, ho, hb⟩ := hrel
    by_cases hlt : i < n
    · have hltz : (i : Int) < (n : Int) := by omega
      have hxc := (hb.cell (p := ⟨b, o + i, none⟩) hbl).trans (HC.out i hlt)
      have hxb := HX.out i
      have HE : Hid (rowU ys (xs.getD i 0) i (prodU xs ys i) m = prodU xs ys (i + 1)) := by
        show _ = _
        rw [← hlen'.out]
        rfl
      have HR : Hid (∀ k j, i + k ≤ j → -((i : Int) * 1000000000000) ≤ (rowU ys (xs.getD i 0) i (prodU xs ys i) k).getD j 0 ∧ (rowU ys (xs.getD i 0) i (prodU xs ys i) k).getD j 0 ≤ (i : Int) * 1000000000000) := fun k j hkj =>
        (rowU_bd ys (xs.getD i 0) i (prodU xs ys i) ((i : Int) * 1000000000000) 1000000000000 (by decide) (HP.out i) (fun k => mulT_bd (HX.out i) (HY.out k)) k j).2 hkj
      have HL : Hid (∀ k, (rowU ys (xs.getD i 0) i (prodU xs ys i) k).length = L) := fun k => by rw [rowU_len, prodU_len, hlen.out, hlen'.out]; omega
      have HO : Hid (Own wr w.heap.size (some ⟨w.heap.size, 0, none⟩) L L (rowU ys (xs.getD i 0) i (prodU xs ys i) 0)) := ho
      have HXC : Hid (∀ w9, Below w.heap.size w w9 → w9.cell? ⟨b, o + i, none⟩ = some (.int .i64 (xs.getD i 0))) := fun w9 hb9 => (hb9.cell (p := ⟨b, o + i, none⟩) hbl).trans (HC.out i hlt)
      have HB := Lib.hid hb
      clear ho hb HP
      generalize xs.getD i 0 = x at hxc hxb HE HR HL HO HXC
      generalize prodU xs ys i = PU at HE HR HL HO
      clear hxc
      go_wp2_with fail
      go_loopg [7, 22] m (fun g _s7 si wr => ∃ k : Nat, k ≤ m ∧ m - k ≤ g ∧ si = .int .i64 k ∧ Own wr w.heap.size (some ⟨w.heap.size, 0, none⟩) L L (rowU ys x i PU k) ∧ Below w.heap.size w wr)
      case atStart => exact ⟨0, Nat.zero_le _, by omega, rfl, HO.out, HB.out⟩
      case round =>
        clear HO HB
        obtain ⟨k, hk, hg2, rfl, ho, hb⟩ := hrel
        by_cases hlt2 : k < m
        · have hltz2 : (k : Int) < (m : Int) := by omega
          have hyc := (hb.cell (p := ⟨b', o' + k, none⟩) hbl').trans (HC'.out k hlt2)
          have hyb := HY.out k
          have hpb := mulT_bd hxb hyb
          obtain ⟨j, hj⟩ : ∃ j : Nat, j = i + k := ⟨_, rfl⟩
          have hjz : (i : Int) + (k : Int) = (j : Int) := by omega
          have hjL : j < L := by omega
          have hzb := HR.out k j (by omega)
          have hst := World.ownsRow.stored (n := L) ho j (.int .i64 ((rowU ys x i PU k).getD j 0 + x * ys.getD k 0))
          have hat := World.ownsRow.cellAt (n := L) ho j (by omega)
          have hfr := World.ownsRow.frozenAt (n := L) ho j
          rw [iv_get _ _ (by rw [HL.out]; exact hjL)] at hat
          rw [iv_set] at hst
          have HS : Hid (Own (wr.setCell ⟨w.heap.size, j, none⟩ (.int .i64 ((rowU ys x i PU k).getD j 0 + x * ys.getD k 0))) w.heap.size (some ⟨w.heap.size, 0, none⟩) L L (rowU ys x i PU (k + 1))) := by
            show Own _ _ _ _ _ _
            rw [rowU, addAt, ← hj]
            exact hst.1
          have HB := Lib.hid (hb.setCell (p := ⟨w.heap.size, j, none⟩) (Nat.le_refl _) (.int .i64 ((rowU ys x i PU k).getD j 0 + x * ys.getD k 0)))
          have HJ := Lib.hid hj
          have hxc := HXC.out wr hb
          clear hst hb ho hj
          generalize ys.getD k 0 = y at hyc hpb HS HB
          generalize (rowU ys x i PU k).getD j 0 = z at hat hzb HS HB
          generalize hp : x * y = p at hpb HS HB
          have HPP := Lib.hid hp
          clear hyb
          have hw1 : IntKind.i64.wrap p = p := IntWalk.i64_in _ (by omega)
          have hw3 : IntKind.i64.wrap ((i : Int) + (k : Int)) = (i : Int) + (k : Int) := IntWalk.i64_in _ (by omega)
          have hjl : (j : Int) < (L : Int) := by omega
          have hj0 : (0 : Int) ≤ (j : Int) := by omega
          have hw2 : IntKind.i64.wrap (z + p) = z + p := IntWalk.i64_in _ (by omega)
          go_wp2_with fail
          go_region
          clear hw1 hw2 hw3 hjl hj0
          go_wp2_with fail
          go_roundg (m - (k + 1))
          case measure => omega
          case rel => exact ⟨k + 1, by omega, by omega, by go_num, Own.drew HS.out, Below.drew HB.out⟩
        · have hltz2 : ¬ (k : Int) < (m : Int) := by omega
          obtain rfl : k = m := by omega
          have HO : Hid (Own wr w.heap.size (some ⟨w.heap.size, 0, none⟩) L L (prodU xs ys (i + 1))) := by show Own _ _ _ _ _ _; rw [← HE.out]; exact ho
          have HB := Lib.hid hb
          clear ho hb
          go_wp2_with fail
          go_roundg (n - (i + 1))
          case measure => omega
          case rel => exact ⟨i + 1, by omega, by omega, by go_num, HO.out, HB.out⟩
    · have hltz : ¬ (i : Int) < (n : Int) := by omega
      obtain rfl : i = n := by omega
      have HO : Hid (Own wr w.heap.size (some ⟨w.heap.size, 0, none⟩) L L (prodL xs ys)) := by show Own _ _ _ _ _ _; unfold prodL; rw [hlen.out]; exact ho
      have HB := Lib.hid hb
      clear ho hb
      go_wp2_with fail
      go_ret
      exact ⟨_, _, _, rfl, Own.mine HO.out, HB.out⟩
end Go.Proofs.Ytlfjnpioamcbhaa
