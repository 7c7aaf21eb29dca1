/- Contracts of sums, AddPolys and WeighPolys. Condition: nothing is left open by the words; the polynomials are valid. -/
import Derived.Test.YtfbekiphlaaieaaMh
import Derived.Deep.RegionHeld3
namespace Go.Proofs.Ytfbekiphlaaieaa
open Go.RowKit

/-- The words of two lists' terms, put together. -/
def zipW (n : Nat) (f : Nat → Nat × Nat) : List (Nat × Nat) := (List.range n).map f
theorem zipW_len (n : Nat) (f : Nat → Nat × Nat) : (zipW n f).length = n := by simp [zipW]
theorem zipW_get (n : Nat) (f : Nat → Nat × Nat) (k : Nat) (h : k < n) : (zipW n f).getD k (0, 0) = f k := by simp [zipW, List.getD, h]
theorem zipW_take (n : Nat) (f : Nat → Nat × Nat) (k : Nat) (h : k < n) : (zipW n f).take (k + 1) = (zipW n f).take k ++ [f k] := by
  have h1 := ctake_succ (zipW n f) k (by rw [zipW_len]; exact h)
  rw [zipW_get n f k h] at h1
  exact h1
def sumF (xs ys : List (Nat × Nat)) (k : Nat) : Nat × Nat := plusF (xs.getD k (0, 0)) (ys.getD k (0, 0))

set_option maxHeartbeats 2000000 in
theorem sums_any (A : Option Addr) (n c : Nat) (xs : List (Nat × Nat)) (A1 : Option Addr) (m c1 : Nat) (ys : List (Nat × Nat)) (r : Nat) (w : World) (h : CRd w w.heap.size A n c xs) (h1 : CRd w w.heap.size A1 m c1 ys) (hr : max n m = r) (hr' : r ≤ 1000)
    (hP : ∀ k, k < r → PlusW (xs.getD k (0, 0)) (ys.getD k (0, 0)) (sumF xs ys k)) :
    Calls Try.prog 67 #[.slice A n c, .slice A1 m c1] w fun e w' => ∃ A' c', e = .returned (.slice A' r c') ∧ COwn w' w.heap.size A' r c' (zipW r (sumF xs ys)) ∧ Below w.heap.size w w' := by
  have HR := Lib.hid h
  have HS := Lib.hid h1
  have HP := Lib.hid hP
  have hmx : max (n : Int) (m : Int) = (r : Int) := by omega
  have hri : (if (n : Int) < (m : Int) then (m : Int) else (n : Int)) = (r : Int) := by split <;> omega
  clear h h1 hP hr
  go_enter Try.func67, Try.ntmps67
  go_wp2_with fail
  have hO0 : COwn (w.alloc (.cells #[] 34)) w.heap.size (some ⟨w.heap.size, 0, none⟩) 0 0 ((zipW r (sumF xs ys)).take 0) := cown_empty w
  have hB0 : Below w.heap.size w (w.alloc (.cells #[] 34)) := al1 w _
  clear hmx hri
  go_loopg [5, 13] r (fun g s5 s13 wr => ∃ (k : Nat) (An : Option Addr) (cn : Nat), k ≤ r ∧ r - k ≤ g ∧ s13 = .int .i64 k ∧ s5 = .slice An k cn ∧ COwn wr w.heap.size An k cn ((zipW r (sumF xs ys)).take k) ∧ Below w.heap.size w wr)
  case atStart => exact ⟨0, _, _, by omega, by omega, rfl, rfl, hO0, hB0⟩
  case round =>
    clear hO0 hB0
    obtain ⟨k, An, cn, hk, hg, rfl, rfl, ho, hb⟩ := hrel
    by_cases hlt : k < r
    · have hltz : (k : Int) < (r : Int) := by omega
      have HX := Lib.hid (zipW_take r (sumF xs ys) k hlt)
      have HTx := Lib.hid (fun W => termAt_any A n c xs k W)
      have HTy := Lib.hid (fun W => termAt_any A1 m c1 ys k W)
      have HPk := Lib.hid (fun W => plus_any _ _ _ W (HP.out k hlt))
      have hbsz := hb.size
      have HRk := Lib.hid (HR.out.in_' hb)
      have HSk := Lib.hid (HS.out.in_' hb)
      unfold cx at HTx HTy
      generalize sumF xs ys k = y at HX HPk
      generalize xs.getD k (0, 0) = xa at HTx HPk
      generalize ys.getD k (0, 0) = xb at HTy HPk
      generalize (zipW r (sumF xs ys)).take k = L at HX ho
      go_wp2_with (first
        | (go_at_call_of 49 (Value.slice A n c); with_reducible refine (HTx.out _ HRk.out).mono ?_; rintro e w5 ⟨rfl, rfl⟩)
        | (go_at_call_of 49 (Value.slice A1 m c1); with_reducible refine (HTy.out _ HSk.out).mono ?_; rintro e w5 ⟨rfl, rfl⟩)
        | (go_at_call 56; refine (HPk.out _).mono ?_; rintro e w5 ⟨rfl, rfl⟩)
        | (at_builtin; go_must (refine wpList_append_crd rfl _ _ rfl w.heap.size An k cn L rfl (ho.alloc _) _ _ _ _ _ rfl (crd_lit wr [y] 34 1 rfl (by simp [maxLen])) (by omega) (by simp; omega) ?_); intro A2 c2 w6 ho2 hg2; have HB := Lib.hid (cbgrown (hb.alloc hb.size _) (ho.alloc _) (by omega) hg2); have HO2 := Lib.hid ho2; clear ho2 hg2 ho hb))
      go_roundg (r - (k + 1))
      case measure => omega
      case rel => exact ⟨k + 1, A2, c2, by omega, by omega, by go_num, rfl, by rw [HX.out]; exact HO2.out, HB.out⟩
    · have hltz : ¬ (k : Int) < (r : Int) := by omega
      obtain rfl : k = r := by omega
      have e2 : (zipW k (sumF xs ys)).take k = zipW k (sumF xs ys) := List.take_of_length_le (by rw [zipW_len]; exact Nat.le_refl _)
      rw [e2] at ho
      have R3 := Lib.hid ho
      have B3 := Lib.hid hb
      clear e2 ho hb
      go_wp2_with fail
      go_ret
      exact ⟨_, _, rfl, R3.out, B3.out⟩
theorem COwn.in_rd {w : World} {B : Nat} {A : Option Addr} {n c : Nat} {xs : List (Nat × Nat)} (h : COwn w B A n c xs) : CRd w w.heap.size A n c xs := COwn.rd h
set_option maxHeartbeats 2000000 in
theorem addPolys_any (A : Option Addr) (n c : Nat) (xs : List (Nat × Nat)) (A1 : Option Addr) (m c1 : Nat) (ys : List (Nat × Nat)) (r : Nat) (w : World) (h : CRd w w.heap.size A n c xs) (h1 : CRd w w.heap.size A1 m c1 ys) (hv : Valid xs) (hv1 : Valid ys) (hr : max n m = r) (hP : ∀ k, k < r → PlusW (xs.getD k (0, 0)) (ys.getD k (0, 0)) (sumF xs ys k)) (hv2 : Valid (trimC (zipW r (sumF xs ys)))) :
    Calls Try.prog 25 #[.agg #[.slice A n c], .agg #[.slice A1 m c1]] w fun e w' => ∃ A' n' c', e = .returned (.tuple #[.agg #[.slice A' n' c'], .bool true]) ∧ CRd w' w'.heap.size A' n' c' (trimC (zipW r (sumF xs ys))) ∧ Below w.heap.size w w' := by
  have hn : 1 ≤ n := by have := hv.one; rwa [h.len] at this
  have hn17 : n ≤ 17 := by have := hv.most; rwa [h.len] at this
  have hm : 1 ≤ m := by have := hv1.one; rwa [h1.len] at this
  have hm17 : m ≤ 17 := by have := hv1.most; rwa [h1.len] at this
  have HR := Lib.hid h
  have HS := Lib.hid h1
  have HV := Lib.hid hv
  have HV1 := Lib.hid hv1
  have HV2 := Lib.hid hv2
  have HP := Lib.hid hP
  clear h h1 hv hv1 hv2 hP
  go_enter Try.func25, Try.ntmps25
  go_wp2_with fail
  refine (valid_any A n c xs _ (HR.out.in_' (al3 w _ _ _)) HV.out).mono ?_
  rintro e w1 ⟨rfl, b1⟩
  have KA1 := Lib.hid (Blk.kept (Blk.alloc (Blk.alloc (Blk.new w 28 #[.slice A n c]) _) _) b1)
  have KB1 : Hid (Blk w1 (w.heap.size + 1) 28 #[.slice A1 m c1]) := Blk.kept (Blk.alloc (Blk.new_at (w.alloc _) _ _ (by simp)) _) b1
  have KR1 : Hid (Blk w1 (w.heap.size + 1 + 1) 28 #[.slice none 0 0]) := Blk.kept (Blk.new_at ((w.alloc _).alloc _) _ _ (by simp)) b1
  have cb1 := KB1.out.cell0
  have B1 := Lib.hid (bthen (al3 w _ _ _) b1)
  clear b1
  go_wp2_with fail
  refine (valid_any A1 m c1 ys _ (HS.out.in_' B1.out) HV1.out).mono ?_
  rintro e w2 ⟨rfl, b2⟩
  have KA2 := Lib.hid (Blk.kept KA1.out b2)
  have KB2 := Lib.hid (Blk.kept KB1.out b2)
  have KR2 := Lib.hid (Blk.kept KR1.out b2)
  have ca2 := KA2.out.cell0
  have cb2 := KB2.out.cell0
  have B2 := Lib.hid (bthen B1.out b2)
  clear b2 cb1 KA1 KB1 KR1
  go_wp2_with fail
  refine (sums_any A n c xs A1 m c1 ys r _ (HR.out.in_' B2.out) (HS.out.in_' B2.out) hr (by omega) HP.out).mono ?_
  rintro e w3 ⟨A3, c3, rfl, m3, b3⟩
  have KR3 := Lib.hid (Blk.kept KR2.out b3)
  have R3 := Lib.hid m3
  have B3 := Lib.hid (bthen B2.out b3)
  clear m3 b3 ca2 cb2
  go_wp2_with fail
  refine (polyOf_any A3 r c3 (zipW r (sumF xs ys)) _ (COwn.in_rd R3.out) (by omega) HV2.out).mono ?_
  rintro e w4 ⟨rfl, r4, b4⟩
  have KR4 := Lib.hid (Blk.kept KR3.out b4)
  have R4 := Lib.hid r4
  have B4 := Lib.hid (bthen B3.out b4)
  clear b4 r4
  have c4 := KR4.out.cell0
  have f4 := KR4.out.frozen0
  go_wp2_with fail
  refine bodyPost_ret (v := .tuple #[.agg #[.slice A3 (trimN (zipW r (sumF xs ys)) r) (trimN (zipW r (sumF xs ys)) r)], .bool true]) (by simp [results, Try.results25, go_sem, c4]) rfl ⟨_, _, _, rfl, ?_, ?_⟩
  · have h9 := R4.out.set_other c4 (by intro p e; unfold cx at e; cases e) (.slice A3 (trimN (zipW r (sumF xs ys)) r) (trimN (zipW r (sumF xs ys)) r))
    simpa using h9
  · exact B4.out.setCell (by simp; omega) _
def wghF (xs ys : List (Nat × Nat)) (x y : Nat × Nat) (k : Nat) : Nat × Nat := plusF (mulF (xs.getD k (0, 0)) x) (mulF (ys.getD k (0, 0)) y)
set_option maxHeartbeats 4000000 in
theorem weighPolys_any (A : Option Addr) (n c : Nat) (xs : List (Nat × Nat)) (A1 : Option Addr) (m c1 : Nat) (ys : List (Nat × Nat)) (x y : Nat × Nat) (r : Nat) (w : World) (h : CRd w w.heap.size A n c xs) (h1 : CRd w w.heap.size A1 m c1 ys) (hv : Valid xs) (hv1 : Valid ys) (hx : NumC x) (hy : NumC y) (hr : max n m = r)
    (hP : ∀ k, k < r → MulW (xs.getD k (0, 0)) x (mulF (xs.getD k (0, 0)) x) ∧ MulW (ys.getD k (0, 0)) y (mulF (ys.getD k (0, 0)) y) ∧ PlusW (mulF (xs.getD k (0, 0)) x) (mulF (ys.getD k (0, 0)) y) (wghF xs ys x y k)) (hv2 : Valid (trimC (zipW r (wghF xs ys x y)))) :
    Calls Try.prog 29 #[.agg #[.slice A n c], .agg #[.slice A1 m c1], .complex .f32 x.1 x.2, .complex .f32 y.1 y.2] w fun e w' => ∃ A' n' c', e = .returned (.tuple #[.agg #[.slice A' n' c'], .bool true]) ∧ CRd w' w'.heap.size A' n' c' (trimC (zipW r (wghF xs ys x y))) ∧ Below w.heap.size w w' := by
  have hn : 1 ≤ n := by have := hv.one; rwa [h.len] at this
  have hn17 : n ≤ 17 := by have := hv.most; rwa [h.len] at this
  have hm : 1 ≤ m := by have := hv1.one; rwa [h1.len] at this
  have hm17 : m ≤ 17 := by have := hv1.most; rwa [h1.len] at this
  have HR := Lib.hid h
  have HS := Lib.hid h1
  have HV := Lib.hid hv
  have HV1 := Lib.hid hv1
  have HV2 := Lib.hid hv2
  have HP := Lib.hid hP
  have HX := Lib.hid hx
  have HY := Lib.hid hy
  have hmx : max (n : Int) (m : Int) = (r : Int) := by omega
  clear h h1 hv hv1 hv2 hP hx hy
  go_enter Try.func29, Try.ntmps29
  go_wp2_with fail
  refine (valid_any A n c xs _ (HR.out.in_' (al3 w _ _ _)) HV.out).mono ?_
  rintro e w1 ⟨rfl, b1⟩
  have KA1 := Lib.hid (Blk.kept (Blk.alloc (Blk.alloc (Blk.new w 28 #[.slice A n c]) _) _) b1)
  have KB1 : Hid (Blk w1 (w.heap.size + 1) 28 #[.slice A1 m c1]) := Blk.kept (Blk.alloc (Blk.new_at (w.alloc _) _ _ (by simp)) _) b1
  have KR1 : Hid (Blk w1 (w.heap.size + 1 + 1) 28 #[.slice none 0 0]) := Blk.kept (Blk.new_at ((w.alloc _).alloc _) _ _ (by simp)) b1
  have cb1 := KB1.out.cell0
  have B1 := Lib.hid (bthen (al3 w _ _ _) b1)
  clear b1
  go_wp2_with fail
  refine (valid_any A1 m c1 ys _ (HS.out.in_' B1.out) HV1.out).mono ?_
  rintro e w2 ⟨rfl, b2⟩
  have KA2 := Lib.hid (Blk.kept KA1.out b2)
  have KB2 := Lib.hid (Blk.kept KB1.out b2)
  have KR2 := Lib.hid (Blk.kept KR1.out b2)
  have B2 := Lib.hid (bthen B1.out b2)
  clear b2 cb1 KA1 KB1 KR1
  go_wp2_with fail
  refine (allFinite_any (some ⟨w2.heap.size, 0, none⟩) 2 2 [x, y] _ (crd_lit w2 [x, y] 34 2 rfl (by simp [maxLen])) ?_).mono ?_
  · intro j hj
    have : j = 0 ∨ j = 1 := by simp at hj; omega
    rcases this with rfl | rfl
    · exact HX.out
    · exact HY.out
  rintro e w3 ⟨rfl, b3⟩
  have BB3 := bthen (al1 w2 _) b3
  have KA3 := Lib.hid (Blk.kept KA2.out BB3)
  have KB3 := Lib.hid (Blk.kept KB2.out BB3)
  have KR3 := Lib.hid (Blk.kept KR2.out BB3)
  have B3 := Lib.hid (bthen B2.out BB3)
  have lw3 := KR3.out.lt
  clear b3 BB3 KA2 KB2 KR2 B1 B2
  have ca3 := fun o => cell_kept (al1 w3 o) KA3.out.cell0
  have cb3 := fun o => cell_kept (al1 w3 o) KB3.out.cell0
  go_wp2_with fail
  clear ca3 cb3
  have hO0 : COwn (w3.alloc (.cells #[] 34)) w3.heap.size (some ⟨w3.heap.size, 0, none⟩) 0 0 ((zipW r (wghF xs ys x y)).take 0) := cown_empty w3
  have hB0 : Below w3.heap.size w3 (w3.alloc (.cells #[] 34)) := al1 w3 _
  go_loopg [10, 36] r (fun g s10 s36 wr => ∃ (k : Nat) (An : Option Addr) (cn : Nat), k ≤ r ∧ r - k ≤ g ∧ s36 = .int .i64 k ∧ s10 = .slice An k cn ∧ COwn wr w3.heap.size An k cn ((zipW r (wghF xs ys x y)).take k) ∧ Below w3.heap.size w3 wr)
  case atStart => exact ⟨0, _, _, by omega, by omega, rfl, rfl, hO0, hB0⟩
  case round =>
    clear hO0 hB0
    obtain ⟨k, An, cn, hk, hg, rfl, rfl, ho, hb⟩ := hrel
    by_cases hlt : k < r
    · have hltz : (k : Int) < (r : Int) := by omega
      have HX' := Lib.hid (zipW_take r (wghF xs ys x y) k hlt)
      have HTx := Lib.hid (fun W => termAt_any A n c xs k W)
      have HTy := Lib.hid (fun W => termAt_any A1 m c1 ys k W)
      have HMx := Lib.hid (fun W => mul_any _ _ _ W (HP.out k hlt).1)
      have HMy := Lib.hid (fun W => mul_any _ _ _ W (HP.out k hlt).2.1)
      have HPk := Lib.hid (fun W => plus_any _ _ _ W (HP.out k hlt).2.2)
      have hbsz := hb.size
      have HRk := Lib.hid (HR.out.in_' (bthen (bthen B3.out hb) (Below.drew (Below.refl _ _))))
      have HSk := Lib.hid (HS.out.in_' (bthen (bthen B3.out hb) (Below.drew (Below.refl _ _))))
      have KAk := Lib.hid (Blk.kept KA3.out hb)
      have KBk := Lib.hid (Blk.kept KB3.out hb)
      have ca := KAk.out.cell0
      have cb := KBk.out.cell0
      unfold cx at HTx HTy
      generalize wghF xs ys x y k = v at HX' HPk
      generalize mulF (xs.getD k (0, 0)) x = u1 at HMx HPk
      generalize mulF (ys.getD k (0, 0)) y = u2 at HMy HPk
      generalize xs.getD k (0, 0) = xa at HTx HMx
      generalize ys.getD k (0, 0) = xb at HTy HMy
      generalize (zipW r (wghF xs ys x y)).take k = L at HX' ho
      have HOk : Hid (COwn wr.drew w3.heap.size An k cn L) := COwn.drewN ho 1
      have HBk : Hid (Below w3.heap.size w3 wr.drew) := drewN_below hb 1
      have hsd : wr.drew.heap.size = wr.heap.size := rfl
      clear ho hb
      go_wp2_with fail
      go_region_held3 (fun wx => wx.cell? ⟨w.heap.size, 0, none⟩ = some (.slice A n c) ∧ wx.cell? ⟨w.heap.size + 1, 0, none⟩ = some (.slice A1 m c1)) (first | exact ⟨ca, cb⟩ | exact ⟨ca6, cb6⟩ | go_keep)
        (first
        | (go_at_call_of 49 (Value.slice A n c); with_reducible refine (HTx.out _ HRk.out).mono ?_; rintro e w5 ⟨rfl, rfl⟩)
        | (go_at_call_of 49 (Value.slice A1 m c1); with_reducible refine (HTy.out _ HSk.out).mono ?_; rintro e w5 ⟨rfl, rfl⟩)
        | (go_at_call_of 50 (Value.complex .f32 xa.1 xa.2); with_reducible refine (HMx.out _).mono ?_; rintro e w5 ⟨rfl, rfl⟩)
        | (go_at_call_of 50 (Value.complex .f32 xb.1 xb.2); with_reducible refine (HMy.out _).mono ?_; rintro e w5 ⟨rfl, rfl⟩)
        | (go_at_call 56; refine (HPk.out _).mono ?_; rintro e w5 ⟨rfl, rfl⟩)
        | (refine step_append_crd rfl _ _ rfl w3.heap.size An k cn L rfl (HOk.out.alloc _) _ _ _ _ _ rfl (crd_lit wr.drew [v] 34 1 rfl (by simp [maxLen])) (by omega) (by simp; omega) ?_; intro A2 c2 w6 ho2 hg2; have HB := Lib.hid (cbgrown (HBk.out.alloc HBk.out.size _) (HOk.out.alloc _) (by omega) hg2); have ca6 := (Blk.kept KA3.out HB.out).cell0; have cb6 := (Blk.kept KB3.out HB.out).cell0; have HO2 := Lib.hid ho2; clear ho2 hg2))
      clear ca cb ca6 cb6
      go_wp2_with fail
      go_roundg (r - (k + 1))
      case measure => omega
      case rel => exact ⟨k + 1, A2, c2, by omega, by omega, by go_num, rfl, by rw [HX'.out]; exact HO2.out, HB.out⟩
    · have hltz : ¬ (k : Int) < (r : Int) := by omega
      obtain rfl : k = r := by omega
      have e2 : (zipW k (wghF xs ys x y)).take k = zipW k (wghF xs ys x y) := List.take_of_length_le (by rw [zipW_len]; exact Nat.le_refl _)
      rw [e2] at ho
      have R4 := Lib.hid (COwn.in_rd ho)
      have B4 := Lib.hid (bthen B3.out hb)
      have KR4 := Lib.hid (Blk.kept KR3.out hb)
      clear e2 ho hb
      go_wp2_with fail
      refine (polyOf_any An k cn (zipW k (wghF xs ys x y)) _ R4.out (by omega) HV2.out).mono ?_
      rintro e w5 ⟨rfl, r5, b5⟩
      have KR5 := Lib.hid (Blk.kept KR4.out b5)
      have R5 := Lib.hid r5
      have B5 := Lib.hid (bthen B4.out b5)
      clear b5 r5
      have c5 := KR5.out.cell0
      have f5 := KR5.out.frozen0
      go_wp2_with fail
      refine bodyPost_ret (v := .tuple #[.agg #[.slice An (trimN (zipW k (wghF xs ys x y)) k) (trimN (zipW k (wghF xs ys x y)) k)], .bool true]) (by simp [results, Try.results29, go_sem, c5]) rfl ⟨_, _, _, rfl, ?_, ?_⟩
      · have h9 := R5.out.set_other c5 (by intro p e; unfold cx at e; cases e) (.slice An (trimN (zipW k (wghF xs ys x y)) k) (trimN (zipW k (wghF xs ys x y)) k))
        simpa using h9
      · exact B5.out.setCell (by simp; omega) _
end Go.Proofs.Ytfbekiphlaaieaa
