/- Contracts of slices.Clone and slices.Reverse at complex numbers, of BackPoly and PolyOf. Condition: the polynomials are valid. -/
import Derived.Test.YtfbekiphlaaieaaCu
import Derived.BigRegion
namespace Go.Proofs.Ytfbekiphlaaieaa
open Go.RowKit

set_option maxHeartbeats 400000 in
set_option maxRecDepth 10000 in
theorem cloneC_any (A : Option Addr) (n c : Nat) (xs : List (Nat × Nat)) (w : World) (h : CRd w w.heap.size A n c xs) (hn : 1 ≤ n) (hn' : n ≤ 1048576) :
    Calls Try.prog 63 #[.slice A n c] w fun e w' => ∃ A' c', e = .returned (.slice A' n c') ∧ COwn w' w.heap.size A' n c' xs ∧ Below w.heap.size w w' := by
  have hq := fun W => Lib.run_eql_slice_nil (P := Try.prog) W 25 34 A n c 0 0 Try.underlying25
  obtain ⟨b, o, rfl, _, _⟩ := h.at_ (by omega)
  go_enter Try.func63, Try.ntmps63
  go_wp2_with (at_builtin; go_must (refine wpList_append_crd rfl _ _ rfl w.heap.size _ _ _ _ rfl (cown_empty w) _ _ _ _ _ rfl (h.in_' (al1 w _)) (by omega) (by simp) ?_); intro A' c' w1 ho hg)
  have HB := Lib.hid (cbgrown (al1 w _) (cown_empty w) (Nat.le_refl _) hg)
  have HO := Lib.hid ho
  clear ho hg h
  go_wp2_with fail
  go_ret
  have h1 := HO.out
  rw [Nat.zero_add, List.nil_append] at h1
  exact ⟨A', c', by simp, h1, HB.out⟩

/-- The first k and the last k of a list exchanged. -/
def rv (xs : List (Nat × Nat)) (k : Nat) : List (Nat × Nat) := (List.range xs.length).map fun j => if j < k ∨ xs.length - 1 - j < k then xs.getD (xs.length - 1 - j) (0, 0) else xs.getD j (0, 0)
theorem rv_len (xs : List (Nat × Nat)) (k : Nat) : (rv xs k).length = xs.length := by simp [rv]
theorem rv_get (xs : List (Nat × Nat)) (k j : Nat) (h : j < xs.length) : (rv xs k).getD j (0, 0) = if j < k ∨ xs.length - 1 - j < k then xs.getD (xs.length - 1 - j) (0, 0) else xs.getD j (0, 0) := by
  simp [rv, List.getD, h]
theorem cext {xs ys : List (Nat × Nat)} (h : xs.length = ys.length) (he : ∀ j, j < xs.length → xs.getD j (0, 0) = ys.getD j (0, 0)) : xs = ys := by
  apply List.ext_getElem h
  intro j h1 h2
  have := he j h1
  simpa [List.getD, h1, h2] using this
theorem cgetD_set (xs : List (Nat × Nat)) (i j : Nat) (v : Nat × Nat) (h : j < xs.length) : (xs.set i v).getD j (0, 0) = if i = j then v else xs.getD j (0, 0) := by
  simp only [List.getD, List.getElem?_set]
  by_cases e : i = j
  · subst e; simp [h]
  · simp [e]
theorem rv_zero (xs : List (Nat × Nat)) : rv xs 0 = xs := by
  apply cext (rv_len _ _)
  intro j hj
  rw [rv_len] at hj
  rw [rv_get _ _ _ hj, if_neg (by omega)]
theorem rv_all (xs : List (Nat × Nat)) (k : Nat) (h : xs.length ≤ 2 * k + 1) : rv xs k = xs.reverse := by
  apply cext (by rw [rv_len]; simp)
  intro j hj
  rw [rv_len] at hj
  rw [rv_get _ _ _ hj]
  have e : xs.reverse.getD j (0, 0) = xs.getD (xs.length - 1 - j) (0, 0) := by
    show (xs.reverse[j]?).getD (0, 0) = _
    rw [List.getElem?_reverse hj]
    rfl
  rw [e]
  by_cases hc : j < k ∨ xs.length - 1 - j < k
  · rw [if_pos hc]
  · rw [if_neg hc]
    have : xs.length - 1 - j = j := by omega
    rw [this]
theorem rv_step (xs : List (Nat × Nat)) (k : Nat) (h : k < xs.length - 1 - k) :
    ((rv xs k).set k ((rv xs k).getD (xs.length - 1 - k) (0, 0))).set (xs.length - 1 - k) ((rv xs k).getD k (0, 0)) = rv xs (k + 1) := by
  apply cext (by simp [rv_len])
  intro j hj
  have hj' : j < xs.length := by simpa [rv_len] using hj
  rw [cgetD_set _ _ _ _ (by simpa [rv_len] using hj'), cgetD_set _ _ _ _ (by rw [rv_len]; exact hj'), rv_get _ _ _ hj', rv_get _ _ _ hj', rv_get _ _ k (by omega), rv_get _ _ (xs.length - 1 - k) (by omega)]
  by_cases e1 : xs.length - 1 - k = j
  · subst e1
    rw [if_pos rfl, if_neg (by omega), if_pos (by omega)]
    have : xs.length - 1 - (xs.length - 1 - k) = k := by omega
    rw [this]
  · rw [if_neg e1]
    by_cases e2 : k = j
    · subst e2
      rw [if_pos rfl, if_neg (by omega), if_pos (by omega)]
    · rw [if_neg e2]
      by_cases e3 : j < k ∨ xs.length - 1 - j < k
      · rw [if_pos e3, if_pos (by omega)]
      · rw [if_neg e3, if_neg (by omega)]

set_option maxHeartbeats 2000000 in
theorem reverseC_any (A : Option Addr) (n c : Nat) (xs : List (Nat × Nat)) (base : Nat) (w : World) (h : CMine w base A n c xs) (hn : 1 ≤ n) (hn' : n ≤ 1048576) :
    Calls Try.prog 64 #[.slice A n c] w fun e w' => e = .returned (.tuple #[]) ∧ CMine w' base A n c xs.reverse ∧ w.grownBy w' (own1 A n) := by
  have hlen := Lib.hid h.len
  obtain ⟨g, rfl, hbase, hsz⟩ := h.at_ (by omega)
  have e1 : own1 (some (⟨g, 0, none⟩ : Addr)) n = some g := by unfold own1; rw [if_neg (by omega)]; rfl
  have E1 := Lib.hid e1
  have h00 : CMine w base (some ⟨g, 0, none⟩) n c (rv xs 0) := by rw [rv_zero]; exact h
  clear h e1
  go_enter Try.func64, Try.ntmps64
  go_wp2
  go_loopg [2, 3] (n + 1) (fun gg s2 s3 wr => ∃ k : Nat, 2 * k ≤ n + 1 ∧ n + 1 - k ≤ gg ∧ s2 = .int .i64 k ∧ s3 = .int .i64 ((n : Int) - 1 - k) ∧ CMine wr base (some ⟨g, 0, none⟩) n c (rv xs k) ∧ w.grownBy wr (some g))
  case atStart => exact ⟨0, by omega, by omega, rfl, by go_num, h00, World.grownBy.refl _ _⟩
  case round =>
    clear h00
    obtain ⟨k, hk, hg, rfl, rfl, ho, hgr⟩ := hrel
    by_cases hlt : k < n - 1 - k
    · obtain ⟨j, hj⟩ : ∃ j : Nat, j = n - 1 - k := ⟨_, rfl⟩
      have hji : (n : Int) - 1 - (k : Int) = (j : Int) := by omega
      rw [hji]
      have hltz : (k : Int) < (j : Int) := by omega
      have hkn : (k : Int) < (n : Int) := by omega
      have hjn : (j : Int) < (n : Int) := by omega
      have hck := CMine.cell ho (show k < n by omega)
      have hcj := CMine.cell ho (show j < n by omega)
      have hfk := CMine.frozen ho (by omega) k
      have hfj := CMine.frozen ho (by omega) j
      have s1 := CMine.stored ho (by omega) k ((rv xs k).getD j (0, 0))
      have s2 := CMine.stored s1.1 (by omega) j ((rv xs k).getD k (0, 0))
      have hst : ((rv xs k).set k ((rv xs k).getD j (0, 0))).set j ((rv xs k).getD k (0, 0)) = rv xs (k + 1) := by
        have := rv_step xs k (by rw [hlen.out]; omega)
        rw [hlen.out, ← hj] at this
        exact this
      have hgg := grown_trans hgr (grown_trans s1.2 s2.2)
      have hs := s2.1
      rw [hst] at hs
      have HS := Lib.hid hs
      have HG := Lib.hid hgg
      have HJ := Lib.hid hj
      have hj1 : k < j := by omega
      have hj2 : j < n := by omega
      clear s1 s2 hst hs hgg hgr ho hj hji hlt
      generalize (rv xs k).getD j (0, 0) = y at hcj HS HG
      generalize (rv xs k).getD k (0, 0) = x at hck HS HG
      unfold cx at hck hcj HS HG
      have hst1 := fun (W : World) (a : Addr) (m : Mode) => run_store Try.prog W a (.complex .f32 y.1 y.2) m rfl
      have hst2 := fun (W : World) (a : Addr) (m : Mode) => run_store Try.prog W a (.complex .f32 x.1 x.2) m rfl
      have hne : (⟨g, k, none⟩ : Addr) ≠ ⟨g, j, none⟩ := by intro e; injection e with _ e; omega
      have hn1 : ∀ u, (wr.setCell ⟨g, k, none⟩ u).cell? ⟨g, j, none⟩ = some (.complex .f32 y.1 y.2) := fun u => (World.cell?_setCell_other _ _ _ _ (fun e => by injection e with _ e; omega)).trans hcj
      have hn2 : ∀ u, (wr.setCell ⟨g, j, none⟩ u).cell? ⟨g, k, none⟩ = some (.complex .f32 x.1 x.2) := fun u => (World.cell?_setCell_other _ _ _ _ (fun e => by injection e with _ e; omega)).trans hck
      go_wp2
      go_region
      go_wp2
      go_roundg (n + 1 - (k + 1))
      case measure => omega
      case rel =>
        have hJ := HJ.out
        refine ⟨k + 1, by omega, by omega, by go_num, ?_, CMine.drew HS.out, grown_drew HG.out⟩
        congr 1
        omega
    · have hltz : ¬ (k : Int) < (n : Int) - 1 - (k : Int) := by omega
      rw [rv_all _ _ (by rw [hlen.out]; omega)] at ho
      have HO := Lib.hid ho
      have HG := Lib.hid hgr
      clear ho hgr hlt
      generalize (n : Int) - 1 - (k : Int) = jj at hltz ⊢
      go_wp2
      go_end0
      exact ⟨rfl, HO.out, by rw [E1.out]; exact HG.out⟩

set_option maxHeartbeats 1000000 in
theorem backPoly_any (A : Option Addr) (n c : Nat) (xs : List (Nat × Nat)) (w : World) (h : CRd w w.heap.size A n c xs) (hv : Valid xs) (hv2 : Valid (trimC xs.reverse)) :
    Calls Try.prog 20 #[.agg #[.slice A n c]] w fun e w' => ∃ A' n' c', e = .returned (.tuple #[.agg #[.slice A' n' c'], .bool true]) ∧ CRd w' w'.heap.size A' n' c' (trimC xs.reverse) ∧ Below w.heap.size w w' := by
  have hn : 1 ≤ n := by have := hv.one; rwa [h.len] at this
  have hn17 : n ≤ 17 := by have := hv.most; rwa [h.len] at this
  have HR := Lib.hid h
  have HV := Lib.hid hv
  have HV2 := Lib.hid hv2
  clear h hv hv2
  go_enter Try.func20, Try.ntmps20
  go_wp2_with fail
  refine (valid_any A n c xs _ (HR.out.in_' (al2 w _ _)) HV.out).mono ?_
  rintro e w1 ⟨rfl, b1⟩
  have kp : Blk w1 w.heap.size 28 #[.slice A n c] := Blk.kept (Blk.alloc (Blk.new w _ _) _) b1
  have kr : Blk w1 (w.heap.size + 1) 28 #[.slice none 0 0] := Blk.kept (Blk.new_at (w.alloc _) _ _ (by simp)) b1
  have cp := kp.cell0
  have KR := Lib.hid kr
  have B1 := Lib.hid (bthen (al2 w _ _) b1)
  clear b1 kp kr
  go_wp2_with fail
  refine (cloneC_any A n c xs _ (HR.out.in_' B1.out) hn (by omega)).mono ?_
  rintro e w2 ⟨A2, c2, rfl, o2, b2⟩
  have KR2 := Lib.hid (Blk.kept KR.out b2)
  have B2 := Lib.hid (bthen B1.out b2)
  have hs := B1.out.size
  have M2 := Lib.hid (COwn.mine o2)
  have lb2 := Lib.hid (fun g hg => Nat.le_trans hs ((COwn.mine o2).lt g hg).1)
  clear b2 o2 cp hs
  go_wp2_with fail
  refine (reverseC_any A2 n c2 xs _ _ M2.out hn (by omega)).mono ?_
  rintro e w3 ⟨rfl, m3, g3⟩
  have KR3 := Lib.hid (Blk.grown KR2.out g3 (Blk.capart KR2.out M2.out (by decide)))
  have B3 := Lib.hid (below_mark B2.out lb2.out g3)
  have R3 := Lib.hid (CMine.rd m3)
  clear m3 g3
  go_wp2_with fail
  refine (polyOf_any A2 n c2 xs.reverse _ R3.out hn HV2.out).mono ?_
  rintro e w4 ⟨rfl, r4, b4⟩
  have k4 := Blk.kept KR3.out b4
  have c4 := k4.cell0
  have f4 := k4.frozen0
  have R4 := Lib.hid r4
  have B4 := Lib.hid (bthen B3.out b4)
  clear b4 k4 r4
  go_wp2_with fail
  refine bodyPost_ret (v := .tuple #[.agg #[.slice A2 (trimN xs.reverse n) (trimN xs.reverse n)], .bool true]) (by simp [results, Try.results20, go_sem, c4]) rfl ⟨_, _, _, rfl, ?_, ?_⟩
  · have h9 := R4.out.set_other c4 (by intro p e; unfold cx at e; cases e) (.slice A2 (trimN xs.reverse n) (trimN xs.reverse n))
    simpa using h9
  · exact B4.out.setCell (by simp) _

set_option maxHeartbeats 1000000 in
theorem polyOfC_any (A : Option Addr) (n c : Nat) (xs : List (Nat × Nat)) (w : World) (h : CRd w w.heap.size A n c xs) (hn : 1 ≤ n) (hn' : n ≤ 256) (hv2 : Valid (trimC xs)) :
    Calls Try.prog 21 #[.slice A n c] w fun e w' => ∃ A' n' c', e = .returned (.tuple #[.agg #[.slice A' n' c'], .bool true]) ∧ CRd w' w'.heap.size A' n' c' (trimC xs) ∧ Below w.heap.size w w' := by
  have HR := Lib.hid h
  have HV2 := Lib.hid hv2
  have h1 : ¬ (n : Int) < 1 := by omega
  have h2 : ¬ (256 : Int) < (n : Int) := by omega
  clear h hv2
  go_enter Try.func21, Try.ntmps21
  go_wp2_with fail
  refine (cloneC_any A n c xs _ (HR.out.in_' (al1 w _)) hn (by omega)).mono ?_
  rintro e w2 ⟨A2, c2, rfl, o2, b2⟩
  have KR2 := Lib.hid (Blk.kept (Blk.new w 28 #[.slice none 0 0]) b2)
  have B2 := Lib.hid (bthen (al1 w _) b2)
  have R2 := Lib.hid (COwn.rd o2)
  clear b2 o2
  go_wp2_with fail
  refine (polyOf_any A2 n c2 xs _ R2.out hn HV2.out).mono ?_
  rintro e w4 ⟨rfl, r4, b4⟩
  have k4 := Blk.kept KR2.out b4
  have c4 := k4.cell0
  have f4 := k4.frozen0
  have R4 := Lib.hid r4
  have B4 := Lib.hid (bthen B2.out b4)
  clear b4 k4 r4
  go_wp2_with fail
  refine bodyPost_ret (v := .tuple #[.agg #[.slice A2 (trimN xs n) (trimN xs n)], .bool true]) (by simp [results, Try.results21, go_sem, c4]) rfl ⟨_, _, _, rfl, ?_, ?_⟩
  · have h9 := R4.out.set_other c4 (by intro p e; unfold cx at e; cases e) (.slice A2 (trimN xs n) (trimN xs n))
    simpa using h9
  · exact B4.out.setCell (by simp) _
end Go.Proofs.Ytfbekiphlaaieaa
