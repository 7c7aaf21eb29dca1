/- Contracts of EvenPoly, OddPoly and ThinPoly. Condition: nothing is left open by the words; the polynomials are valid. -/
import Derived.Test.YtfbekiphlaaieaaMd
namespace Go.Proofs.Ytfbekiphlaaieaa
open Go.RowKit

/-- The first k terms of the other kind are struck. -/
def parK (od n : Nat) (xs : List (Nat × Nat)) (k : Nat) : List (Nat × Nat) := mapW n xs fun j x => if j < k ∧ ¬ j % 2 = od then (0, 0) else x
def parC (od n : Nat) (xs : List (Nat × Nat)) : List (Nat × Nat) := mapW n xs fun j x => if j % 2 = od then x else (0, 0)
theorem parK_zero (od n : Nat) (xs : List (Nat × Nat)) (h : xs.length = n) : parK od n xs 0 = xs := by
  apply cext
  · rw [parK, mapW_len, h]
  intro j hj
  rw [parK, mapW_len] at hj
  rw [parK, mapW_get _ _ _ _ hj, if_neg (by omega)]
theorem parK_last (od n : Nat) (xs : List (Nat × Nat)) : parK od n xs n = parC od n xs := by
  apply cext
  · rw [parK, mapW_len, parC, mapW_len]
  intro j hj
  rw [parK, mapW_len] at hj
  rw [parK, mapW_get _ _ _ _ hj, parC, mapW_get _ _ _ _ hj]
  by_cases h : j % 2 = od
  · rw [if_neg (by omega), if_pos h]
  · rw [if_pos ⟨hj, h⟩, if_neg h]
theorem parK_skip (od n : Nat) (xs : List (Nat × Nat)) (k : Nat) (h : k % 2 = od) : parK od n xs (k + 1) = parK od n xs k := by
  apply cext
  · rw [parK, mapW_len, parK, mapW_len]
  intro j hj
  rw [parK, mapW_len] at hj
  rw [parK, mapW_get _ _ _ _ hj, parK, mapW_get _ _ _ _ hj]
  by_cases e : j = k
  · subst e; rw [if_neg (by omega), if_neg (by omega)]
  · by_cases h1 : j < k ∧ ¬ j % 2 = od
    · rw [if_pos (by omega), if_pos h1]
    · rw [if_neg (by omega), if_neg h1]
theorem parK_set (od n : Nat) (xs : List (Nat × Nat)) (k : Nat) (h : ¬ k % 2 = od) : (parK od n xs k).set k (0, 0) = parK od n xs (k + 1) := by
  apply cext
  · rw [List.length_set, parK, mapW_len, parK, mapW_len]
  intro j hj
  rw [List.length_set] at hj
  rw [cgetD_set _ _ _ _ hj]
  rw [parK, mapW_len] at hj
  rw [parK, mapW_get _ _ _ _ hj, parK, mapW_get _ _ _ _ hj]
  by_cases e : k = j
  · subst e; rw [if_pos rfl, if_pos (by omega)]
  · rw [if_neg e]
    by_cases h1 : j < k ∧ ¬ j % 2 = od
    · rw [if_pos h1, if_pos (by omega)]
    · rw [if_neg h1, if_neg (by omega)]
theorem set_same (xs : List (Nat × Nat)) (k : Nat) (h : xs.getD k (0, 0) = (0, 0)) : xs.set k (0, 0) = xs := by
  apply cext
  · rw [List.length_set]
  intro j hj
  rw [List.length_set] at hj
  rw [cgetD_set _ _ _ _ hj]
  by_cases e : k = j
  · subst e; rw [if_pos rfl, h]
  · rw [if_neg e]

set_option maxHeartbeats 2000000 in
theorem parity_any (od : Nat) (hod : od = 0 ∨ od = 1) (A : Option Addr) (n c : Nat) (xs : List (Nat × Nat)) (w : World) (h : CRd w w.heap.size A n c xs) (hv : Valid xs) (hv2 : Valid (trimC (parC od n xs))) :
    Calls Try.prog 73 #[.agg #[.slice A n c], .int .i64 od] w fun e w' => ∃ A' n' c', e = .returned (.tuple #[.agg #[.slice A' n' c'], .bool true]) ∧ CRd w' w'.heap.size A' n' c' (trimC (parC od n xs)) ∧ Below w.heap.size w w' := by
  have hn : 1 ≤ n := by have := hv.one; rwa [h.len] at this
  have hn17 : n ≤ 17 := by have := hv.most; rwa [h.len] at this
  have hlen := Lib.hid h.len
  have HR := Lib.hid h
  have HV := Lib.hid hv
  have HV2 := Lib.hid hv2
  clear h hv hv2
  go_enter Try.func73, Try.ntmps73
  go_wp2_with fail
  refine (valid_any A n c xs _ (HR.out.in_' (al2 w _ _)) HV.out).mono ?_
  rintro e w1 ⟨rfl, b1⟩
  have KP1 := Lib.hid (Blk.kept (Blk.alloc (Blk.new w 28 #[.slice A n c]) _) b1)
  have KR1 : Hid (Blk w1 (w.heap.size + 1) 28 #[.slice none 0 0]) := Blk.kept (Blk.new_at (w.alloc _) _ _ (by simp)) b1
  have cp1 := KP1.out.cell0
  have lp1 := World.block_lt_of_cell? _ _ cp1
  have B1 := Lib.hid (bthen (al2 w _ _) b1)
  clear b1
  go_wp2_with fail
  refine (cloneC_any A n c xs _ (HR.out.in_' B1.out) hn (by omega)).mono ?_
  rintro e w3 ⟨A2, c2, rfl, o3, b3⟩
  have m3 := COwn.mine o3
  obtain ⟨g, rfl, hg1, hg2⟩ := m3.at_ (by omega)
  have KR3 := Lib.hid (Blk.kept KR1.out b3)
  have M3 := Lib.hid m3
  have B3 := Lib.hid (bthen B1.out b3)
  have hsz3 := b3.size
  have hsz1 := KR1.out.lt
  clear o3 m3 b3 cp1 lp1
  go_wp2_with fail
  go_loopg [17] n (fun gg s17 wr => ∃ k : Nat, k ≤ n ∧ n - k ≤ gg ∧ s17 = .int .i64 k ∧ CMine wr w1.heap.size (some ⟨g, 0, none⟩) n c2 (parK od n xs k) ∧ w3.grownBy wr (some g))
  case atStart => exact ⟨0, by omega, by omega, rfl, by rw [parK_zero _ _ _ hlen.out]; exact M3.out, World.grownBy.refl _ _⟩
  case round =>
    obtain ⟨k, hk, hgk, rfl, hm, hgr⟩ := hrel
    by_cases hlt : k < n
    · have hltz : (k : Int) < (n : Int) := by omega
      have hmod : Int.tmod (k : Int) 2 = ((k % 2 : Nat) : Int) := by have := Int.tmod_eq_emod_of_nonneg (b := 2) (show (0 : Int) ≤ (k : Int) by omega); omega
      obtain ⟨r, hr⟩ : ∃ r : Nat, r = k % 2 := ⟨_, rfl⟩
      rw [← hr] at hmod
      by_cases hp : r = od
      · have HM : Hid (CMine wr w1.heap.size (some ⟨g, 0, none⟩) n c2 (parK od n xs (k + 1))) := by
          show CMine _ _ _ _ _ _
          rw [parK_skip _ _ _ _ (by omega)]
          exact hm
        have HG := Lib.hid hgr
        subst hp
        clear hm hgr hr hod
        go_wp2_with fail
        go_roundg (n - (k + 1))
        case measure => omega
        case rel => exact ⟨k + 1, by omega, by omega, by go_num, HM.out, HG.out⟩
      · have hpz : ((r : Int) == (od : Int)) = false := by simp; omega
        have hk0 : (0 : Int) ≤ (k : Int) := by omega
        have hst := CMine.stored hm (by omega) k (0, 0)
        rw [parK_set _ _ _ _ (by omega)] at hst
        have hck := CMine.cell hm (show k < n by omega)
        have hfk := CMine.frozen hm (by omega) k
        have HG := Lib.hid (grown_trans hgr hst.2)
        have HM := Lib.hid hst.1
        generalize (parK od n xs k).getD k (0, 0) = y at hck
        unfold cx at hck HM HG
        have hst1 := fun (W : World) (ad : Addr) (mo : Mode) => run_store Try.prog W ad (.complex .f32 0 0) mo rfl
        clear hst hm hgr hr hp hod
        go_wp2_with fail
        go_roundg (n - (k + 1))
        case measure => omega
        case rel => exact ⟨k + 1, by omega, by omega, by go_num, HM.out, HG.out⟩
    · have hltz : ¬ (k : Int) < (n : Int) := by omega
      obtain rfl : k = n := by omega
      rw [parK_last] at hm
      have R3 := Lib.hid (CMine.rd hm)
      have KR5 := Lib.hid (Blk.grown KR3.out hgr (fun e => by injection e with e; omega))
      have B5 := Lib.hid (B3.out.grown hgr B3.out.size (fun k e => by injection e with e; omega))
      clear hm hgr
      go_wp2_with fail

      refine (polyOf_any (some ⟨g, 0, none⟩) k c2 (parC od k xs) _ R3.out (by omega) HV2.out).mono ?_
      rintro e w4 ⟨rfl, r4, b4⟩
      have KR4 := Lib.hid (Blk.kept KR5.out b4)
      have R4 := Lib.hid r4
      have B4 := Lib.hid (bthen B5.out b4)
      clear b4 r4
      have c4 := KR4.out.cell0
      have f4 := KR4.out.frozen0
      go_wp2_with fail
      refine bodyPost_ret (v := .tuple #[.agg #[.slice (some ⟨g, 0, none⟩) (trimN (parC od k xs) k) (trimN (parC od k xs) k)], .bool true]) (by simp [results, Try.results73, go_sem, c4]) rfl ⟨_, _, _, rfl, ?_, ?_⟩
      · have h9 := R4.out.set_other c4 (by intro p e; unfold cx at e; cases e) (.slice (some ⟨g, 0, none⟩) (trimN (parC od k xs) k) (trimN (parC od k xs) k))
        simpa using h9
      · exact B4.out.setCell (by simp) _

set_option maxHeartbeats 2000000 in
theorem even_any (A : Option Addr) (n c : Nat) (xs : List (Nat × Nat)) (w : World) (h : CRd w w.heap.size A n c xs) (hv : Valid xs) (hv2 : Valid (trimC (parC 0 n xs))) :
    Calls Try.prog 35 #[.agg #[.slice A n c]] w fun e w' => ∃ A' n' c', e = .returned (.tuple #[.agg #[.slice A' n' c'], .bool true]) ∧ CRd w' w'.heap.size A' n' c' (trimC (parC 0 n xs)) ∧ Below w.heap.size w w' := by
  have hn : 1 ≤ n := by have := hv.one; rwa [h.len] at this
  have hn17 : n ≤ 17 := by have := hv.most; rwa [h.len] at this
  have HR := Lib.hid h
  have HV := Lib.hid hv
  have HV2 := Lib.hid hv2
  clear h hv hv2
  go_enter Try.func35, Try.ntmps35
  go_wp2_with fail
  refine (parity_any 0 (by omega) A n c xs _ (HR.out.in_' (al2 w _ _)) HV.out HV2.out).mono ?_
  rintro e w1 ⟨A1, n1, c1, rfl, r1, b1⟩
  have KR1 : Hid (Blk w1 (w.heap.size + 1) 28 #[.slice none 0 0]) := Blk.kept (Blk.new_at (w.alloc _) _ _ (by simp)) b1
  have R4 := Lib.hid r1
  have B4 := Lib.hid (bthen (al2 w _ _) b1)
  have c4 := KR1.out.cell0
  have f4 := KR1.out.frozen0
  clear r1 b1
  go_wp2_with fail
  refine bodyPost_ret (v := .tuple #[.agg #[.slice A1 n1 c1], .bool true]) (by simp [results, Try.results35, go_sem, c4]) rfl ⟨_, _, _, rfl, ?_, ?_⟩
  · have h9 := R4.out.set_other c4 (by intro p e; unfold cx at e; cases e) (.slice A1 n1 c1)
    simpa using h9
  · exact B4.out.setCell (by simp) _

set_option maxHeartbeats 2000000 in
theorem odd_any (A : Option Addr) (n c : Nat) (xs : List (Nat × Nat)) (w : World) (h : CRd w w.heap.size A n c xs) (hv : Valid xs) (hv2 : Valid (trimC (parC 1 n xs))) :
    Calls Try.prog 36 #[.agg #[.slice A n c]] w fun e w' => ∃ A' n' c', e = .returned (.tuple #[.agg #[.slice A' n' c'], .bool true]) ∧ CRd w' w'.heap.size A' n' c' (trimC (parC 1 n xs)) ∧ Below w.heap.size w w' := by
  have hn : 1 ≤ n := by have := hv.one; rwa [h.len] at this
  have hn17 : n ≤ 17 := by have := hv.most; rwa [h.len] at this
  have HR := Lib.hid h
  have HV := Lib.hid hv
  have HV2 := Lib.hid hv2
  clear h hv hv2
  go_enter Try.func36, Try.ntmps36
  go_wp2_with fail
  refine (parity_any 1 (by omega) A n c xs _ (HR.out.in_' (al2 w _ _)) HV.out HV2.out).mono ?_
  rintro e w1 ⟨A1, n1, c1, rfl, r1, b1⟩
  have KR1 : Hid (Blk w1 (w.heap.size + 1) 28 #[.slice none 0 0]) := Blk.kept (Blk.new_at (w.alloc _) _ _ (by simp)) b1
  have R4 := Lib.hid r1
  have B4 := Lib.hid (bthen (al2 w _ _) b1)
  have c4 := KR1.out.cell0
  have f4 := KR1.out.frozen0
  clear r1 b1
  go_wp2_with fail
  refine bodyPost_ret (v := .tuple #[.agg #[.slice A1 n1 c1], .bool true]) (by simp [results, Try.results36, go_sem, c4]) rfl ⟨_, _, _, rfl, ?_, ?_⟩
  · have h9 := R4.out.set_other c4 (by intro p e; unfold cx at e; cases e) (.slice A1 n1 c1)
    simpa using h9
  · exact B4.out.setCell (by simp) _

set_option maxHeartbeats 2000000 in
theorem thin_any (A : Option Addr) (n c : Nat) (xs : List (Nat × Nat)) (w : World) (h : CRd w w.heap.size A n c xs) (hv : Valid xs) (hT : trimC xs = xs) (hL : ∀ k, k < n → ∃ l, LongW (xs.getD k (0, 0)) l ∧ (FloatKind.f32.format.order l 0 = some .gt ∨ (FloatKind.f32.format.order l 0 = some .eq ∧ xs.getD k (0, 0) = (0, 0)))) :
    Calls Try.prog 44 #[.agg #[.slice A n c], .float .f32 0] w fun e w' => ∃ A' n' c', e = .returned (.tuple #[.agg #[.slice A' n' c'], .bool true]) ∧ CRd w' w'.heap.size A' n' c' xs ∧ Below w.heap.size w w' := by
  have hn : 1 ≤ n := by have := hv.one; rwa [h.len] at this
  have hn17 : n ≤ 17 := by have := hv.most; rwa [h.len] at this
  have hlen := Lib.hid h.len
  have HR := Lib.hid h
  have HV := Lib.hid hv
  have HT := Lib.hid hT
  have HL := Lib.hid hL
  clear h hv hT hL
  go_enter Try.func44, Try.ntmps44
  go_wp2_with fail
  refine (valid_any A n c xs _ (HR.out.in_' (al2 w _ _)) HV.out).mono ?_
  rintro e w1 ⟨rfl, b1⟩
  have KP1 := Lib.hid (Blk.kept (Blk.alloc (Blk.new w 28 #[.slice A n c]) _) b1)
  have KR1 : Hid (Blk w1 (w.heap.size + 1) 28 #[.slice none 0 0]) := Blk.kept (Blk.new_at (w.alloc _) _ _ (by simp)) b1
  have cp1 := KP1.out.cell0
  have lp1 := World.block_lt_of_cell? _ _ cp1
  have B1 := Lib.hid (bthen (al2 w _ _) b1)
  clear b1
  go_wp2_with (go_at_call 76; refine (isFinite_any 0 _ ⟨0, V_nil⟩).mono ?_; rintro e w' ⟨rfl, rfl⟩)

  refine (cloneC_any A n c xs _ (HR.out.in_' B1.out) hn (by omega)).mono ?_
  rintro e w3 ⟨A2, c2, rfl, o3, b3⟩
  have m3 := COwn.mine o3
  obtain ⟨g, rfl, hg1, hg2⟩ := m3.at_ (by omega)
  have KR3 := Lib.hid (Blk.kept KR1.out b3)
  have M3 := Lib.hid m3
  have B3 := Lib.hid (bthen B1.out b3)
  have hsz3 := b3.size
  have hsz1 := KR1.out.lt
  clear o3 m3 b3 cp1 lp1
  go_wp2_with fail
  go_loopg [27] n (fun gg s27 wr => ∃ k : Nat, k ≤ n ∧ n - k ≤ gg ∧ s27 = .int .i64 k ∧ CMine wr w1.heap.size (some ⟨g, 0, none⟩) n c2 (xs) ∧ w3.grownBy wr (some g))
  case atStart => exact ⟨0, by omega, by omega, rfl, M3.out, World.grownBy.refl _ _⟩
  case round =>
    obtain ⟨k, hk, hgk, rfl, hm, hgr⟩ := hrel
    by_cases hlt : k < n
    · have hltz : (k : Int) < (n : Int) := by omega
      have hk0 : (0 : Int) ≤ (k : Int) := by omega
      obtain ⟨l, hl, hcase⟩ := HL.out k hlt
      have LX := Lib.hid (fun W => long_any _ l W hl)
      have hck := CMine.cell hm (show k < n by omega)
      have hfk := CMine.frozen hm (by omega) k
      have hst := CMine.stored hm (by omega) k (0, 0)
      have hst1 := fun (W : World) (ad : Addr) (mo : Mode) => run_store Try.prog W ad (.complex .f32 0 0) mo rfl
      have HM0 := Lib.hid hm
      have HG0 := Lib.hid hgr
      have HM := Lib.hid hst.1
      have HG := Lib.hid (grown_trans hgr hst.2)
      clear hst hm hgr hl
      rcases hcase with hgt | ⟨heq, hz⟩
      · generalize xs.getD k (0, 0) = y at hck LX
        unfold cx at hck
        clear hst1
        go_wp2_with (go_at_call 15; refine (LX.out _).mono ?_; rintro e w' ⟨rfl, rfl⟩)
        go_roundg (n - (k + 1))
        case measure => omega
        case rel => exact ⟨k + 1, by omega, by omega, by go_num, HM0.out, HG0.out⟩
      · rw [set_same xs k hz] at HM
        rw [hz] at hck LX
        unfold cx at hck HG
        clear hz
        go_wp2_with (go_at_call 15; refine (LX.out _).mono ?_; rintro e w' ⟨rfl, rfl⟩)
        go_roundg (n - (k + 1))
        case measure => omega
        case rel => exact ⟨k + 1, by omega, by omega, by go_num, HM.out, HG.out⟩
    · have hltz : ¬ (k : Int) < (n : Int) := by omega
      obtain rfl : k = n := by omega
      have R3 := Lib.hid (CMine.rd hm)
      have KR5 := Lib.hid (Blk.grown KR3.out hgr (fun e => by injection e with e; omega))
      have B5 := Lib.hid (B3.out.grown hgr B3.out.size (fun k e => by injection e with e; omega))
      have HV2 : Hid (Valid (trimC xs)) := by
        show Valid (trimC xs)
        rw [HT.out]
        exact HV.out
      have hTN : Hid (trimC xs = xs) := HT
      clear hm hgr
      go_wp2_with fail

      refine (polyOf_any (some ⟨g, 0, none⟩) k c2 (xs) _ R3.out (by omega) HV2.out).mono ?_
      rintro e w4 ⟨rfl, r4, b4⟩
      have KR4 := Lib.hid (Blk.kept KR5.out b4)
      have R4 := Lib.hid r4
      have B4 := Lib.hid (bthen B5.out b4)
      clear b4 r4
      rw [hTN.out] at R4
      have c4 := KR4.out.cell0
      have f4 := KR4.out.frozen0
      go_wp2_with fail
      refine bodyPost_ret (v := .tuple #[.agg #[.slice (some ⟨g, 0, none⟩) (trimN (xs) k) (trimN (xs) k)], .bool true]) (by simp [results, Try.results44, go_sem, c4]) rfl ⟨_, _, _, rfl, ?_, ?_⟩
      · have h9 := R4.out.set_other c4 (by intro p e; unfold cx at e; cases e) (.slice (some ⟨g, 0, none⟩) (trimN (xs) k) (trimN (xs) k))
        simpa using h9
      · exact B4.out.setCell (by simp) _

end Go.Proofs.Ytfbekiphlaaieaa
