/- Contracts of products and MulPolys. Condition: nothing is left open by the words; the polynomials are valid. -/
import Derived.Test.YtfbekiphlaaieaaNa
import Derived.Deep.OwnRows
namespace Go.Proofs.Ytfbekiphlaaieaa
open Go.RowKit

theorem heap_new (w : World) (o : Obj) : (w.alloc o).heap[w.heap.size]? = some o := by
  show (w.heap.push o)[w.heap.size]? = some o
  simp
/-- A row of noughts that was just made. -/
theorem cmine_made (w : World) (r : Nat) (hr : r ≤ maxLen) : CMine (w.alloc (.cells (madeCells #[.complex .f32 0 0] r) 34)) w.heap.size (some ⟨w.heap.size, 0, none⟩) r r (List.replicate r (0, 0)) := by
  refine ⟨by simp, Nat.le_refl _, hr, fun _ => ⟨w.heap.size, madeCells #[.complex .f32 0 0] r, rfl, Nat.le_refl _, heap_new w _, by rw [size_madeCells]; exact Nat.le_refl _, ?_⟩⟩
  rw [toList_madeCells_one, List.take_of_length_le (by simp)]
  simp [civ, cx]
/-- The sum of the first i products at the place k. -/
def prA (xs ys : List (Nat × Nat)) (m k : Nat) : Nat → Nat × Nat
  | 0 => (0, 0)
  | i + 1 => if i ≤ k ∧ k - i < m then plusF (prA xs ys m k i) (mulF (xs.getD i (0, 0)) (ys.getD (k - i) (0, 0))) else prA xs ys m k i
/-- The list while the sums are made. -/
def prL (xs ys : List (Nat × Nat)) (n m k i : Nat) : List (Nat × Nat) := zipW (n + m - 1) fun j => if j < k then prA xs ys m j n else if j = k then prA xs ys m k i else (0, 0)
def prodC (xs ys : List (Nat × Nat)) (n m : Nat) : List (Nat × Nat) := zipW (n + m - 1) fun j => prA xs ys m j n
theorem zipW_congr {n : Nat} {f g : Nat → Nat × Nat} (h : ∀ k, k < n → f k = g k) : zipW n f = zipW n g := by
  unfold zipW
  exact List.map_congr_left fun k hk => h k (List.mem_range.1 hk)
theorem prL_zero (xs ys : List (Nat × Nat)) (n m : Nat) : prL xs ys n m 0 0 = List.replicate (n + m - 1) (0, 0) := by
  refine List.ext_getElem (by simp [prL, zipW]) fun j h1 h2 => ?_
  simp only [prL, zipW, List.getElem_map, List.getElem_range, List.getElem_replicate]
  rw [if_neg (by omega)]
  split <;> rfl
theorem prL_next (xs ys : List (Nat × Nat)) (n m k : Nat) : prL xs ys n m k n = prL xs ys n m (k + 1) 0 := by
  refine zipW_congr fun j _ => ?_
  by_cases h1 : j < k
  · rw [if_pos h1, if_pos (by omega)]
  · by_cases h2 : j = k
    · subst h2
      rw [if_neg h1, if_pos rfl, if_pos (by omega)]
    · rw [if_neg h1, if_neg h2, if_neg (by omega)]
      split <;> rfl
theorem prL_last (xs ys : List (Nat × Nat)) (n m i : Nat) : prL xs ys n m (n + m - 1) i = prodC xs ys n m :=
  zipW_congr fun j hj => by rw [if_pos hj]
theorem prL_skip (xs ys : List (Nat × Nat)) (n m k i : Nat) (h : ¬ (i ≤ k ∧ k - i < m)) : prL xs ys n m k (i + 1) = prL xs ys n m k i :=
  zipW_congr fun j _ => by rw [prA, if_neg h]
theorem prL_get (xs ys : List (Nat × Nat)) (n m k i : Nat) (hk : k < n + m - 1) : (prL xs ys n m k i).getD k (0, 0) = prA xs ys m k i := by
  unfold prL
  rw [zipW_get _ _ _ hk, if_neg (by omega), if_pos rfl]
theorem prL_set (xs ys : List (Nat × Nat)) (n m k i : Nat) (h : i ≤ k ∧ k - i < m) : (prL xs ys n m k i).set k (plusF (prA xs ys m k i) (mulF (xs.getD i (0, 0)) (ys.getD (k - i) (0, 0)))) = prL xs ys n m k (i + 1) := by
  refine List.ext_getElem (by simp [prL, zipW]) fun j h1 h2 => ?_
  simp only [List.getElem_set, prL, zipW, List.getElem_map, List.getElem_range]
  by_cases e : k = j
  · subst e
    rw [if_pos rfl, if_neg (by omega), if_pos rfl, prA, if_pos h]
  · rw [if_neg e]
    by_cases e1 : j < k
    · rw [if_pos e1, if_pos e1]
    · rw [if_neg e1, if_neg e1, if_neg (fun h => e h.symm), if_neg (fun h => e h.symm)]
/-- Nothing is left open in it. -/
def ProdW (xs ys : List (Nat × Nat)) (n m : Nat) : Prop := ∀ k i, i < n → i ≤ k → k - i < m →
  MulW (xs.getD i (0, 0)) (ys.getD (k - i) (0, 0)) (mulF (xs.getD i (0, 0)) (ys.getD (k - i) (0, 0))) ∧ PlusW (prA xs ys m k i) (mulF (xs.getD i (0, 0)) (ys.getD (k - i) (0, 0))) (plusF (prA xs ys m k i) (mulF (xs.getD i (0, 0)) (ys.getD (k - i) (0, 0))))

set_option maxHeartbeats 4000000 in
set_option maxRecDepth 10000 in
theorem products_any (A : Option Addr) (n c : Nat) (xs : List (Nat × Nat)) (A1 : Option Addr) (m c1 : Nat) (ys : List (Nat × Nat)) (w : World) (h : CRd w w.heap.size A n c xs) (h1 : CRd w w.heap.size A1 m c1 ys) (hn : 1 ≤ n) (hn' : n ≤ 1000) (hm : 1 ≤ m) (hm' : m ≤ 1000) (hP : ProdW xs ys n m) :
    Calls Try.prog 68 #[.slice A n c, .slice A1 m c1] w fun e w' => ∃ A' c', e = .returned (.slice A' (n + m - 1) c') ∧ CMine w' w.heap.size A' (n + m - 1) c' (prodC xs ys n m) ∧ Below w.heap.size w w' := by
  obtain ⟨r, hr⟩ : ∃ r : Nat, n + m - 1 = r := ⟨_, rfl⟩
  have hri : (n : Int) + (m : Int) - 1 = (r : Int) := by omega
  have hmk := run_make_row' (P := Try.prog) 25 34 (.complex .f32 0 0) 8 Try.underlying25 c64_info rfl .i64 .i64 r (by omega) (by omega)
  have HR := Lib.hid h
  have HS := Lib.hid h1
  have HP := Lib.hid hP
  clear h h1 hP
  go_enter Try.func68, Try.ntmps68
  go_wp2_with fail
  have M0 := cmine_made w r (by unfold maxLen; omega)
  have e0 := prL_zero xs ys n m
  rw [hr] at e0
  rw [← e0] at M0
  have G0 := al1 w (.cells (madeCells #[.complex .f32 0 0] r) 34)
  have M1 := Lib.hid M0
  have B1 := Lib.hid G0
  have hg2 : w.heap.size < (w.alloc (.cells (madeCells #[.complex .f32 0 0] r) 34)).heap.size := by simp
  clear e0 M0 G0 hmk
  generalize w.alloc (.cells (madeCells #[.complex .f32 0 0] r) 34) = w1 at M1 B1 hg2 ⊢
  obtain ⟨g, hg⟩ : ∃ g, g = w.heap.size := ⟨_, rfl⟩
  rw [← hg] at hg2 ⊢
  have M2 : Hid (CMine w1 w.heap.size (some ⟨g, 0, none⟩) r r (prL xs ys n m 0 0)) := by
    show CMine _ _ _ _ _ _
    rw [hg]; exact M1.out
  have HG := Lib.hid hg
  clear M1 hg
  go_loopg [18] r (fun gg s18 wr => ∃ k : Nat, k ≤ r ∧ r - k ≤ gg ∧ s18 = .int .i64 k ∧ CMine wr w.heap.size (some ⟨g, 0, none⟩) r r (prL xs ys n m k 0) ∧ w1.grownBy wr (some g))
  case atStart => exact ⟨0, by omega, by omega, rfl, M2.out, World.grownBy.refl _ _⟩
  case round =>
    obtain ⟨k, hk, hgk, rfl, hmm, hgr⟩ := hrel
    obtain ⟨wo, rfl⟩ : ∃ wo : World, wo = wr := ⟨_, rfl⟩
    have MO := Lib.hid hmm
    have GO := Lib.hid hgr
    clear hmm hgr
    by_cases hlt : k < r
    · have hltz : (k : Int) < (r : Int) := by omega
      have hk0 : (0 : Int) ≤ (k : Int) := by omega
      go_wp2_with fail
      go_loopg [23] n (fun gi s23 wi => ∃ i : Nat, i ≤ n ∧ n - i ≤ gi ∧ s23 = .int .i64 i ∧ CMine wi w.heap.size (some ⟨g, 0, none⟩) r r (prL xs ys n m k i) ∧ wo.grownBy wi (some g))
      case atStart => exact ⟨0, by omega, by omega, rfl, MO.out, World.grownBy.refl _ _⟩
      case round =>
        obtain ⟨i, hi, hgi, rfl, hmm, hgr⟩ := hrel
        by_cases hlt2 : i < n
        · have hlt2z : (i : Int) < (n : Int) := by omega
          have hi0 : (0 : Int) ≤ (i : Int) := by omega
          obtain ⟨b, o, rfl, hbl, hcz⟩ := HR.out.at_ (by omega)
          have BW : Below w.heap.size w wr := (B1.out.grown (grown_trans GO.out hgr) B1.out.size (fun k e => by injection e with e; have := HG.out; omega))
          have hx := (BW.cell (p := ⟨b, o + i, none⟩) hbl).trans (hcz i hlt2)
          unfold cx at hx
          clear hcz
          by_cases hin : i ≤ k ∧ k - i < m
          · obtain ⟨d, hd⟩ : ∃ d : Nat, d = k - i := ⟨_, rfl⟩
            have hdi : (k : Int) - (i : Int) = (d : Int) := by omega
            have hd0 : (0 : Int) ≤ (d : Int) := by omega
            have hdm : (d : Int) < (m : Int) := by omega
            have hw1 : IntKind.i64.wrap (d : Int) = (d : Int) := IntWalk.i64_in _ (by omega)
            obtain ⟨b2, o2, rfl, hbl2, hcz2⟩ := HS.out.at_ (by omega)
            have hy := (BW.cell (p := ⟨b2, o2 + d, none⟩) hbl2).trans (hcz2 d (by omega))
            unfold cx at hy
            clear hcz2
            have hPk := HP.out k i hlt2 hin.1 hin.2
            have hset := prL_set xs ys n m k i hin
            have hst := CMine.stored hmm (by omega) k (plusF (prA xs ys m k i) (mulF (xs.getD i (0, 0)) (ys.getD (k - i) (0, 0))))
            have hck := CMine.cell hmm (show k < r by omega)
            rw [prL_get xs ys n m k i (by omega)] at hck
            have hfk := CMine.frozen hmm (by omega) k
            rw [hset] at hst
            rw [← hd] at hPk hst
            clear hset
            have HM := Lib.hid hst.1
            have HGR := Lib.hid (grown_trans hgr hst.2)
            generalize plusF (prA xs ys m k i) (mulF (xs.getD i (0, 0)) (ys.getD d (0, 0))) = v at hPk HM HGR
            generalize mulF (xs.getD i (0, 0)) (ys.getD d (0, 0)) = u at hPk
            generalize prA xs ys m k i = t at hPk hck
            generalize xs.getD i (0, 0) = xa at hPk hx
            generalize ys.getD d (0, 0) = xb at hPk hy
            have HMU := Lib.hid (fun W => mul_any xa xb u W hPk.1)
            have HPL := Lib.hid (fun W => plus_any t u v W hPk.2)
            unfold cx at hck HM HGR
            have hst1 := fun (W : World) (ad : Addr) (mo : Mode) => run_store Try.prog W ad (.complex .f32 v.1 v.2) mo rfl
            clear hst hgr hmm hPk hd BW hin
            go_wp2_with fail
            go_region_with (first
              | (go_at_call 50; refine (HMU.out _).mono ?_; rintro e w' ⟨rfl, rfl⟩)
              | (go_at_call 56; refine (HPL.out _).mono ?_; rintro e w' ⟨rfl, rfl⟩))
            all_goals
              go_wp2_with fail
              go_roundg (n - (i + 1))
              case measure => omega
              case rel => exact ⟨i + 1, by omega, by omega, by go_num, CMine.drew HM.out, grown_drew HGR.out⟩
          · have hsk := prL_skip xs ys n m k i hin
            rw [← hsk] at hmm
            have HM := Lib.hid hmm
            have HGR := Lib.hid hgr
            clear hmm hgr BW hsk
            by_cases hik : i ≤ k
            · have hneg1 : (0 : Int) ≤ (k : Int) - (i : Int) := by omega
              have hneg2 : ¬ (k : Int) - (i : Int) < (m : Int) := by omega
              go_wp2_with fail
              go_roundg (n - (i + 1))
              case measure => omega
              case rel => exact ⟨i + 1, by omega, by omega, by go_num, HM.out, HGR.out⟩
            · have hneg1 : ¬ (0 : Int) ≤ (k : Int) - (i : Int) := by omega
              go_wp2_with fail
              go_roundg (n - (i + 1))
              case measure => omega
              case rel => exact ⟨i + 1, by omega, by omega, by go_num, HM.out, HGR.out⟩
        · have hlt2z : ¬ (i : Int) < (n : Int) := by omega
          obtain rfl : i = n := by omega
          rw [prL_next] at hmm
          have HM := Lib.hid hmm
          have HGR := Lib.hid (grown_trans GO.out hgr)
          clear hmm hgr
          go_wp2_with fail
          go_roundg (r - (k + 1))
          case measure => omega
          case rel => exact ⟨k + 1, by omega, by omega, by go_num, HM.out, HGR.out⟩
    · have hltz : ¬ (k : Int) < (r : Int) := by omega
      obtain rfl : k = r := by omega
      have HB := Lib.hid (B1.out.grown GO.out B1.out.size (fun k e => by injection e with e; have := HG.out; omega))
      have e9 := prL_last xs ys n m 0
      have MF := MO.out
      rw [hr] at e9
      rw [e9] at MF
      have MF' := Lib.hid MF
      clear MF e9
      go_wp2_with fail
      go_ret
      exact ⟨_, _, rfl, MF'.out, HB.out⟩
set_option maxHeartbeats 2000000 in
theorem mulPolys_any (A : Option Addr) (n c : Nat) (xs : List (Nat × Nat)) (A1 : Option Addr) (m c1 : Nat) (ys : List (Nat × Nat)) (w : World) (h : CRd w w.heap.size A n c xs) (h1 : CRd w w.heap.size A1 m c1 ys) (hv : Valid xs) (hv1 : Valid ys) (hP : ProdW xs ys n m) (hv2 : Valid (trimC (prodC xs ys n m))) :
    Calls Try.prog 26 #[.agg #[.slice A n c], .agg #[.slice A1 m c1]] w fun e w' => ∃ A' n' c', e = .returned (.tuple #[.agg #[.slice A' n' c'], .bool true]) ∧ CRd w' w'.heap.size A' n' c' (trimC (prodC xs ys n m)) ∧ Below w.heap.size w w' := by
  have hn : 1 ≤ n := by have := hv.one; rwa [h.len] at this
  have hn17 : n ≤ 17 := by have := hv.most; rwa [h.len] at this
  have hm : 1 ≤ m := by have := hv1.one; rwa [h1.len] at this
  have hm17 : m ≤ 17 := by have := hv1.most; rwa [h1.len] at this
  have HR := Lib.hid h
  have HS := Lib.hid h1
  have HV := Lib.hid hv
  have HV1 := Lib.hid hv1
  have HV2 := Lib.hid hv2
  have HP := Lib.hid hP
  clear h h1 hv hv1 hv2 hP
  go_enter Try.func26, Try.ntmps26
  go_wp2_with fail
  refine (valid_any A n c xs _ (HR.out.in_' (al3 w _ _ _)) HV.out).mono ?_
  rintro e w1 ⟨rfl, b1⟩
  have KA1 := Lib.hid (Blk.kept (Blk.alloc (Blk.alloc (Blk.new w 28 #[.slice A n c]) _) _) b1)
  have KB1 : Hid (Blk w1 (w.heap.size + 1) 28 #[.slice A1 m c1]) := Blk.kept (Blk.alloc (Blk.new_at (w.alloc _) _ _ (by simp)) _) b1
  have KR1 : Hid (Blk w1 (w.heap.size + 1 + 1) 28 #[.slice none 0 0]) := Blk.kept (Blk.new_at ((w.alloc _).alloc _) _ _ (by simp)) b1
  have cb1 := KB1.out.cell0
  have B1 := Lib.hid (bthen (al3 w _ _ _) b1)
  clear b1
  go_wp2_with fail
  refine (valid_any A1 m c1 ys _ (HS.out.in_' B1.out) HV1.out).mono ?_
  rintro e w2 ⟨rfl, b2⟩
  have KA2 := Lib.hid (Blk.kept KA1.out b2)
  have KB2 := Lib.hid (Blk.kept KB1.out b2)
  have KR2 := Lib.hid (Blk.kept KR1.out b2)
  have ca2 := KA2.out.cell0
  have cb2 := KB2.out.cell0
  have B2 := Lib.hid (bthen B1.out b2)
  clear b2 cb1 KA1 KB1 KR1
  go_wp2_with fail
  refine (products_any A n c xs A1 m c1 ys _ (HR.out.in_' B2.out) (HS.out.in_' B2.out) hn (by omega) hm (by omega) HP.out).mono ?_
  rintro e w3 ⟨A3, c3, rfl, m3, b3⟩
  have KR3 := Lib.hid (Blk.kept KR2.out b3)
  have R3 := Lib.hid m3
  have B3 := Lib.hid (bthen B2.out b3)
  clear m3 b3 ca2 cb2
  go_wp2_with fail
  refine (polyOf_any A3 (n + m - 1) c3 (prodC xs ys n m) _ (CMine.rd R3.out) (by omega) HV2.out).mono ?_
  rintro e w4 ⟨rfl, r4, b4⟩
  have KR4 := Lib.hid (Blk.kept KR3.out b4)
  have R4 := Lib.hid r4
  have B4 := Lib.hid (bthen B3.out b4)
  clear b4 r4
  have c4 := KR4.out.cell0
  have f4 := KR4.out.frozen0
  go_wp2_with fail
  refine bodyPost_ret (v := .tuple #[.agg #[.slice A3 (trimN (prodC xs ys n m) (n + m - 1)) (trimN (prodC xs ys n m) (n + m - 1))], .bool true]) (by simp [results, Try.results26, go_sem, c4]) rfl ⟨_, _, _, rfl, ?_, ?_⟩
  · have h9 := R4.out.set_other c4 (by intro p e; unfold cx at e; cases e) (.slice A3 (trimN (prodC xs ys n m) (n + m - 1)) (trimN (prodC xs ys n m) (n + m - 1)))
    simpa using h9
  · exact B4.out.setCell (by simp; omega) _
end Go.Proofs.Ytfbekiphlaaieaa
