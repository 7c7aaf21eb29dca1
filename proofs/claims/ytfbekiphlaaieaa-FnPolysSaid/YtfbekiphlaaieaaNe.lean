/- Contracts of LongOfPoly and ComposePolys. Condition: nothing is left open by the words; the polynomials are valid. -/
import Derived.Test.YtfbekiphlaaieaaNb
import Derived.Deep.RegionHeld3
namespace Go.Proofs.Ytfbekiphlaaieaa
open Go.RowKit

/-- Nothing is left open in 'LongOfPoly'. -/
structure LopW (xs : List (Nat × Nat)) (ls al : Nat → Nat) : Prop where
  start : al 0 = 0
  long : ∀ k, k < xs.length → LongW (xs.getD k (0, 0)) (ls k)
  add : ∀ k, k < xs.length → floatBits .add .f32 (al k) (ls k) = some (al (k + 1))
  fin : Num .f32 (al xs.length)
set_option maxHeartbeats 2000000 in
theorem longPoly_any (A : Option Addr) (n c : Nat) (xs : List (Nat × Nat)) (ls al : Nat → Nat) (w : World) (h : CRd w w.heap.size A n c xs) (hv : Valid xs) (hW : LopW xs ls al) :
    Calls Try.prog 30 #[.agg #[.slice A n c]] w fun e w' => e = .returned (.tuple #[.float .f32 (al n), .bool true]) ∧ Below w.heap.size w w' := by
  have hlen := h.len
  obtain ⟨s1, s2, s3, s4⟩ := hW
  rw [hlen] at s2 s3 s4
  have hmax : n ≤ 17 := by have := hv.most; omega
  have hn1 : 1 ≤ n := by have := hv.one; omega
  have HV := Lib.hid hv
  have HR := Lib.hid h
  have H1 := Lib.hid s1
  have H2 := Lib.hid s2
  have H3 := Lib.hid s3
  have H4 := Lib.hid s4
  obtain ⟨b, o, rfl, hbl, hc⟩ := h.at_ (by omega)
  have HC := Lib.hid hc
  clear s1 s2 s3 s4 h hc hv hlen
  go_enter Try.func30, Try.ntmps30
  go_wp2_with fail
  refine (valid_any _ n c xs _ (HR.out.in_' (al1 w _)) HV.out).mono ?_
  rintro e w1 ⟨rfl, b1⟩
  have kp := cell_kept (b := w.heap.size) (o := 0) (v := .slice (some ⟨b, o, none⟩) n c) b1 (by simp [go_sem])
  have B1 := Lib.hid (bthen (al1 w _) b1)
  clear b1
  go_wp2_with fail
  go_loopg [4, 13] n (fun g s4 s13 wr => ∃ k : Nat, k ≤ n ∧ n - k ≤ g ∧ s13 = .int .i64 k ∧ s4 = .float .f32 (al k) ∧ wr = w1)
  case atStart => exact ⟨0, by omega, by omega, rfl, by rw [H1.out], rfl⟩
  case round =>
    obtain ⟨k, hk, hg, rfl, rfl, rfl⟩ := hrel
    by_cases hlt : k < n
    · have hltz : (k : Int) < (n : Int) := by omega
      have hck := (B1.out.cell (p := ⟨b, o + k, none⟩) hbl).trans (HC.out k (by omega))
      have L2 := Lib.hid (fun W => long_any (xs.getD k (0, 0)) (ls k) W (H2.out k hlt))
      have e3 := runOp 31 (H3.out k hlt)
      unfold cx at hck
      generalize xs.getD k (0, 0) = y at hck L2
      go_wp2_with (first | (go_at_call 15; refine (L2.out _).mono ?_; rintro e w' ⟨rfl, rfl⟩) | rw [e3])
      go_roundg (n - (k + 1))
      case measure => omega
      case rel => exact ⟨k + 1, by omega, by omega, by go_num, rfl, rfl⟩
    · have hltz : ¬ (k : Int) < (n : Int) := by omega
      obtain rfl : n = k := by omega
      go_wp2_with (go_at_call 53; refine (checked_any (al n) _ H4.out).mono ?_; rintro e w' ⟨rfl, rfl⟩)
      exact bodyPost_ret (v := .tuple #[.float .f32 (al n), .bool true]) (by simp [results, Try.results30, go_sem]) rfl ⟨rfl, B1.out⟩

/-- The composition's steps from above: c of them are done. -/
def cmpL (xs ys : List (Nat × Nat)) : Nat → List (Nat × Nat)
  | 0 => [xs.getD (xs.length - 1) (0, 0)]
  | c + 1 => trimC (zipW (trimC (prodC (cmpL xs ys c) ys (cmpL xs ys c).length ys.length)).length (sumF (trimC (prodC (cmpL xs ys c) ys (cmpL xs ys c).length ys.length)) [xs.getD (xs.length - 2 - c) (0, 0)]))
def cmpM (xs ys : List (Nat × Nat)) (c : Nat) : List (Nat × Nat) := trimC (prodC (cmpL xs ys c) ys (cmpL xs ys c).length ys.length)
/-- Nothing is left open in it. -/
structure CmpW (xs ys : List (Nat × Nat)) : Prop where
  val : ∀ c, c < xs.length → Valid (cmpL xs ys c)
  prod : ∀ c, c + 1 < xs.length → ProdW (cmpL xs ys c) ys (cmpL xs ys c).length ys.length
  mid : ∀ c, c + 1 < xs.length → Valid (cmpM xs ys c)
  sum : ∀ c, c + 1 < xs.length → ∀ k, k < (cmpM xs ys c).length → PlusW ((cmpM xs ys c).getD k (0, 0)) ([xs.getD (xs.length - 2 - c) (0, 0)].getD k (0, 0)) (sumF (cmpM xs ys c) [xs.getD (xs.length - 2 - c) (0, 0)] k)

theorem blk_set {w : World} {g : Nat} {t : TypeId} {v : Value} (h : Blk w g t #[v]) (u : Value) : Blk (w.setCell ⟨g, 0, none⟩ u) g t #[u] := by
  exact heap_setCell_same w g 0 #[v] t u h
set_option maxHeartbeats 8000000 in
set_option maxRecDepth 10000 in
theorem compose_any (A : Option Addr) (n c : Nat) (xs : List (Nat × Nat)) (A1 : Option Addr) (m c1 : Nat) (ys : List (Nat × Nat)) (w : World) (h : CRd w w.heap.size A n c xs) (h1 : CRd w w.heap.size A1 m c1 ys) (hv : Valid xs) (hv1 : Valid ys) (hW : CmpW xs ys) :
    Calls Try.prog 31 #[.agg #[.slice A n c], .agg #[.slice A1 m c1]] w fun e w' => ∃ A' n' c', e = .returned (.tuple #[.agg #[.slice A' n' c'], .bool true]) ∧ CRd w' w'.heap.size A' n' c' (cmpL xs ys (n - 1)) ∧ Below w.heap.size w w' := by
  have hn : 1 ≤ n := by have := hv.one; rwa [h.len] at this
  have hn17 : n ≤ 17 := by have := hv.most; rwa [h.len] at this
  have hm : 1 ≤ m := by have := hv1.one; rwa [h1.len] at this
  have hm17 : m ≤ 17 := by have := hv1.most; rwa [h1.len] at this
  have hl := h.len
  have hl1 := h1.len
  obtain ⟨q1, q2, q3, q4⟩ := hW
  rw [hl] at q1 q2 q3 q4
  have HR := Lib.hid h
  have HS := Lib.hid h1
  have HV := Lib.hid hv
  have HV1 := Lib.hid hv1
  have Q1 := Lib.hid q1
  have Q2 := Lib.hid q2
  have Q3 := Lib.hid q3
  have Q4 := Lib.hid q4
  have HL := Lib.hid hl
  have HL1 := Lib.hid hl1
  obtain ⟨b, o, rfl, hbl, hc⟩ := h.at_ (by omega)
  have HC := Lib.hid hc
  clear h h1 hv hv1 q1 q2 q3 q4 hl hl1 hc
  go_enter Try.func31, Try.ntmps31
  go_wp2_with fail
  refine (valid_any _ n c xs _ (HR.out.in_' (al3 w _ _ _)) HV.out).mono ?_
  rintro e w1 ⟨rfl, b1⟩
  have KA1 := Lib.hid (Blk.kept (Blk.alloc (Blk.alloc (Blk.new w 28 #[.slice (some ⟨b, o, none⟩) n c]) _) _) b1)
  have KB1 : Hid (Blk w1 (w.heap.size + 1) 28 #[.slice A1 m c1]) := Blk.kept (Blk.alloc (Blk.new_at (w.alloc _) _ _ (by simp)) _) b1
  have KR1 : Hid (Blk w1 (w.heap.size + 1 + 1) 28 #[.slice none 0 0]) := Blk.kept (Blk.new_at ((w.alloc _).alloc _) _ _ (by simp)) b1
  have cb1 := KB1.out.cell0
  have B1 := Lib.hid (bthen (al3 w _ _ _) b1)
  clear b1
  go_wp2_with fail
  refine (valid_any A1 m c1 ys _ (HS.out.in_' B1.out) HV1.out).mono ?_
  rintro e w2 ⟨rfl, b2⟩
  have KA2 := Lib.hid (Blk.kept KA1.out b2)
  have KB2 := Lib.hid (Blk.kept KB1.out b2)
  have KR2 := Lib.hid (Blk.kept KR1.out b2)
  have ca2 := KA2.out.cell0
  have B2 := Lib.hid (bthen B1.out b2)
  have hx2 := (B2.out.cell (p := ⟨b, o + (n - 1), none⟩) hbl).trans (HC.out (n - 1) (by omega))
  unfold cx at hx2
  clear b2 cb1 KA1 KB1 KR1 B1
  obtain ⟨t, ht⟩ : ∃ t, n - 1 = t := ⟨_, rfl⟩
  have hti : (n : Int) - 1 = (t : Int) := by omega
  have ht0 : (0 : Int) ≤ (t : Int) := by omega
  have htn : (t : Int) < (n : Int) := by omega
  have h0 : cmpL xs ys 0 = [xs.getD t (0, 0)] := by unfold cmpL; rw [HL.out, ht]
  have H0 := Lib.hid h0
  rw [ht] at hx2
  have HT := Lib.hid ht
  clear ht h0
  generalize xs.getD t (0, 0) = x0 at hx2 H0
  go_wp2_with fail
  have BA := al2 w2 (.cells #[.complex .f32 x0.1 x0.2] 34) (.cells #[.slice (some ⟨w2.heap.size, 0, none⟩) 1 1] 28)
  have K7 : Blk ((w2.alloc (.cells #[.complex .f32 x0.1 x0.2] 34)).alloc (.cells #[.slice (some ⟨w2.heap.size, 0, none⟩) 1 1] 28)) (w2.heap.size + 1) 28 #[.slice (some ⟨w2.heap.size, 0, none⟩) 1 1] := Blk.new_at (w2.alloc _) _ _ (by simp)
  have R7 : CRd ((w2.alloc (.cells #[.complex .f32 x0.1 x0.2] 34)).alloc (.cells #[.slice (some ⟨w2.heap.size, 0, none⟩) 1 1] 28)) ((w2.alloc (.cells #[.complex .f32 x0.1 x0.2] 34)).alloc (.cells #[.slice (some ⟨w2.heap.size, 0, none⟩) 1 1] 28)).heap.size (some ⟨w2.heap.size, 0, none⟩) 1 1 [x0] := CRd.in_' (crd_lit w2 [x0] 34 1 rfl (by simp [maxLen])) (al1 _ _)
  generalize (w2.alloc (.cells #[.complex .f32 x0.1 x0.2] 34)).alloc (.cells #[.slice (some ⟨w2.heap.size, 0, none⟩) 1 1] 28) = w3 at BA K7 R7 ⊢
  have hb2 : w2.heap.size ≤ w2.heap.size + 1 := Nat.le_succ _
  generalize w2.heap.size + 1 = g7 at K7 hb2 ⊢
  have HBA := Lib.hid BA
  have HK7 := Lib.hid K7
  have HR7 := Lib.hid R7
  have HB2 := Lib.hid hb2
  have hl0 : (cmpL xs ys 0).length = 1 := by rw [H0.out]; rfl
  have HL0 := Lib.hid hl0
  clear BA K7 R7 hb2 hl0 hx2 ca2
  go_loopg [8, 9] t (fun g s8 s9 wr => ∃ (cc : Nat) (Ao : Option Addr) (no co : Nat), cc ≤ t ∧ t - cc ≤ g ∧ s8 = .bool true ∧ s9 = .int .i64 ((t : Int) - 1 - cc) ∧ Blk wr g7 28 #[.slice Ao no co] ∧ CRd wr wr.heap.size Ao no co (cmpL xs ys cc) ∧ Below w2.heap.size w2 wr)
  case atStart => exact ⟨0, _, 1, 1, by omega, by omega, rfl, by go_num, HK7.out, by rw [H0.out]; exact HR7.out, HBA.out⟩
  case round =>
    clear HK7 HR7
    obtain ⟨cc, Ao, no, co, hcc, hg, rfl, rfl, hK, hRo, hB⟩ := hrel
    have hno := hRo.len
    by_cases hlt : cc < t
    · obtain ⟨k, hk⟩ : ∃ k : Nat, t - 1 - cc = k := ⟨_, rfl⟩
      have hki : (t : Int) - 1 - (cc : Int) = (k : Int) := by omega
      rw [hki]
      have hk0 : (0 : Int) ≤ (k : Int) := by omega
      have hkn : (k : Int) < (n : Int) := by omega
      have hcn : cc + 1 < n := by have := HT.out; omega
      have hx := ((bthen B2.out hB).cell (p := ⟨b, o + k, none⟩) hbl).trans (HC.out k (by omega))
      unfold cx at hx
      have hcK := hK.cell0
      have KBr := Lib.hid (Blk.kept KB2.out hB)
      have hcB := KBr.out.cell0
      have HKo := Lib.hid hK
      have HRo := Lib.hid hRo
      have HBo := Lib.hid hB
      have q1 := Q1.out cc (by omega)
      have q2 := Q2.out cc hcn
      have q3 := Q3.out cc hcn
      have q4 := Q4.out cc hcn
      have hkk : n - 2 - cc = k := by have := HT.out; omega
      rw [hkk] at q4
      have hstep : cmpL xs ys (cc + 1) = trimC (zipW (cmpM xs ys cc).length (sumF (cmpM xs ys cc) [xs.getD k (0, 0)])) := by
        rw [cmpL, HL.out, hkk]
        rfl
      have q5 := Q1.out (cc + 1) (by omega)
      have HX := Lib.hid hstep
      unfold cmpM at q3
      rw [hno, HL1.out] at q2 q3
      have P1 := Lib.hid q1
      have P2 := Lib.hid q2
      have P3 := Lib.hid q3
      have P4 := Lib.hid q4
      have P5 := Lib.hid q5
      have HM : Hid (cmpM xs ys cc = trimC (prodC (cmpL xs ys cc) ys no m)) := by
        show cmpM xs ys cc = _
        unfold cmpM
        rw [hno, HL1.out]
      clear hK hRo hB q1 q2 q3 q4 q5 hstep hkk hk
      obtain ⟨xk, hxk⟩ : ∃ xk, xs.getD k (0, 0) = xk := ⟨_, rfl⟩
      rw [hxk] at hx HX P4
      have HXK := Lib.hid hxk
      clear hxk
      go_wp2_with fail
      refine (mulPolys_any Ao no co (cmpL xs ys cc) A1 m c1 ys _ HRo.out (HS.out.in_' (bthen B2.out HBo.out)) P1.out HV1.out P2.out P3.out).mono ?_
      rintro e w4 ⟨A4, n4, c4, rfl, r4, b4⟩
      have K4 := Lib.hid (Blk.kept HKo.out b4)
      have hcK4 := K4.out.cell0
      have hfK4 := K4.out.frozen0
      have B4 := Lib.hid (bthen HBo.out b4)
      have R4 := Lib.hid r4
      clear r4 b4 hcK hcB
      go_wp2_with fail
      have K5 : Hid (Blk (w4.setCell ⟨g7, 0, none⟩ (.slice A4 n4 c4)) g7 28 #[.slice A4 n4 c4]) := blk_set K4.out _
      have B5 := Lib.hid (B4.out.setCell HB2.out (.slice A4 n4 c4) (p := ⟨g7, 0, none⟩))
      have R5 : Hid (CRd (w4.setCell ⟨g7, 0, none⟩ (.slice A4 n4 c4)) (w4.setCell ⟨g7, 0, none⟩ (.slice A4 n4 c4)).heap.size A4 n4 c4 (cmpM xs ys cc)) := by
        show CRd _ _ _ _ _ _
        rw [HM.out]
        have h9 := R4.out.set_other hcK4 (by intro p e; unfold cx at e; cases e) (.slice A4 n4 c4)
        simpa using h9
      clear K4 B4 R4 hcK4 hfK4
      generalize w4.setCell ⟨g7, 0, none⟩ (.slice A4 n4 c4) = w5 at K5 B5 R5 ⊢
      have KA5 := Lib.hid (Blk.kept KA2.out B5.out)
      have hx5 := (bthen B2.out B5.out).cell (p := ⟨b, o + k, none⟩) hbl
      have hxc := hx5.trans (HC.out k (by omega))
      rw [HXK.out] at hxc
      unfold cx at hxc
      clear hx5 hx
      have hA := KA5.out.cell0
      have hK := K5.out.cell0
      have hKa := fun o => cell_kept (Below.drew (al1 w5 o)) hK
      have R5' := R5.out
      have hn4 := R5'.len
      have hv4 : Valid (cmpM xs ys cc) := by rw [HM.out]; exact P3.out
      have hn41 : 1 ≤ n4 := by have := hv4.one; omega
      have HV4 := Lib.hid hv4
      have HX' := HX.out
      rw [hn4] at HX'
      have P4' := P4.out
      rw [hn4] at P4'
      have P5' := P5.out
      rw [HX'] at P5'
      have HXX := Lib.hid HX'
      have P44 := Lib.hid P4'
      have P55 := Lib.hid P5'
      have HAP := Lib.hid (fun Ax cx' W HH HH1 hvx => addPolys_any A4 n4 c4 (cmpM xs ys cc) Ax 1 cx' [xk] n4 W HH HH1 HV4.out hvx (Nat.max_eq_left hn41) P44.out P55.out)
      clear R5' hv4 HX' P4' P5' hn4
      have hvx : Valid [xk] := by
        refine ⟨by simp, by simp, fun j hj => ?_, .inl rfl⟩
        have : j = 0 := by simp at hj; omega
        subst this
        have h9 := HV.out.nums k (by rw [HL.out]; omega)
        rw [HXK.out] at h9
        exact h9
      have RX := Lib.hid (CRd.drew (crd_lit w5 [xk] 34 1 rfl (by simp [maxLen])))
      have BD := Lib.hid (Below.drew (al1 w5 (.cells #[.complex .f32 xk.1 xk.2] 34)))
      go_region_with (first
        | (go_at_call 25; refine (HAP.out _ _ _ (R5.out.in_' BD.out) RX.out hvx).mono ?_; rintro e w6 ⟨A6, n6, c6, rfl, r6, b6⟩; have BB6 := Lib.hid (bthen BD.out b6); have K6 := Lib.hid (Blk.kept K5.out BB6.out); have hcK6 := K6.out.cell0; have hfK6 := K6.out.frozen0; have R6 := Lib.hid r6; clear b6 r6))
      all_goals
        go_wp2_with fail
        go_roundg (t - (cc + 1))
        case measure => omega
        case rel =>
          refine ⟨cc + 1, A6, n6, c6, by omega, by omega, rfl, by go_num, blk_set K6.out _, ?_, (bthen B5.out BB6.out).setCell HB2.out _⟩
          rw [HXX.out]
          have h9 := R6.out.set_other hcK6 (by intro p e; unfold cx at e; cases e) (.slice A6 n6 c6)
          simpa using h9
    · obtain rfl : cc = t := by omega
      have hneg : ¬ (0 : Int) ≤ (cc : Int) - 1 - (cc : Int) := by omega
      have KR := Lib.hid (Blk.kept KR2.out hB)
      have hcK := hK.cell0
      have hcR := KR.out.cell0
      have hfR := KR.out.frozen0
      have HRo := Lib.hid hRo
      have HBo := Lib.hid (bthen B2.out hB)
      clear hK hRo hB hlt
      generalize (cc : Int) - 1 - (cc : Int) = z at hneg ⊢
      go_wp2_with fail
      refine bodyPost_ret (v := .tuple #[.agg #[.slice Ao no co], .bool true]) (by simp [results, Try.results31, go_sem, hcR]) rfl ⟨_, _, _, rfl, ?_, ?_⟩
      · rw [HT.out]
        have h9 := HRo.out.set_other hcR (by intro p e; unfold cx at e; cases e) (.slice Ao no co)
        simpa using h9
      · exact HBo.out.setCell (by simp; omega) _
end Go.Proofs.Ytfbekiphlaaieaa
