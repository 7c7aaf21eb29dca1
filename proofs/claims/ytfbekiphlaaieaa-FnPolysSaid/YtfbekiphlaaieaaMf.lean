/- The language's own operations on complex numbers; contracts of QuotientOf and MonicPoly. Condition: nothing is left open by the words; the polynomials are valid. -/
import Derived.Test.YtfbekiphlaaieaaMe
import Derived.Laws.ComplexArith
namespace Go.Proofs.Ytfbekiphlaaieaa
open Go.RowKit

theorem runC_conv {a b : Nat} {s k : FloatKind} (hne : s ≠ k) (h : floatToFloatBits s a k = some b) (w : World) : (Op.Complex.conv s a k).run Try.prog w = .ok b w := by
  unfold Op.Complex.conv
  rw [if_neg hne]
  simp [run_floatToFloat w h]
theorem runC_mul {x y r : Nat × Nat} (t : TypeId) (h : MulW x y r) : ∀ w, (binOp .mul t (.complex .f32 x.1 x.2) (.complex .f32 y.1 y.2)).run Try.prog w = .ok (.complex .f32 r.1 r.2) w := by
  intro w
  obtain ⟨P, Q, ⟨⟨a, b, c, d, ac, bd, ad, bc, ha, hb, hc, hd, hac, hbd, had, hbc, hp, hq⟩⟩, h1, h2⟩ := h
  have k1 : (FloatKind.f32 : FloatKind) ≠ .f64 := by decide
  have k2 : (FloatKind.f64 : FloatKind) ≠ .f32 := by decide
  simp [binOp, Op.complexOp, Op.Complex.product, Op.Complex.mul, Op.Complex.sub, Op.Complex.add, runC_conv k1 ha w, runC_conv k1 hb w, runC_conv k1 hc w, runC_conv k1 hd w, run_carith w hac, run_carith w hbd, run_carith w had, run_carith w hbc, run_carith w hp, run_carith w hq, runC_conv k2 h1 w, runC_conv k2 h2 w]
theorem runC_plus {x y r : Nat × Nat} (t : TypeId) (h : PlusW x y r) : ∀ w, (binOp .add t (.complex .f32 x.1 x.2) (.complex .f32 y.1 y.2)).run Try.prog w = .ok (.complex .f32 r.1 r.2) w := by
  intro w
  simp [binOp, Op.complexOp, run_carith w h.1, run_carith w h.2]
theorem runC_minus {x y r : Nat × Nat} (t : TypeId) (h : MinusW x y r) : ∀ w, (binOp .sub t (.complex .f32 x.1 x.2) (.complex .f32 y.1 y.2)).run Try.prog w = .ok (.complex .f32 r.1 r.2) w := by
  intro w
  simp [binOp, Op.complexOp, run_carith w h.1, run_carith w h.2]

/-- 'QuotientOf' -/
def QuotW (x y r : Nat × Nat) : Prop := ∃ a b s q1 q2, Nonempty (TimesW x (conjF y) a b) ∧ PowerW y s ∧ floatBits .quo .f64 a s = some q1 ∧ floatBits .quo .f64 b s = some q2 ∧ cv32 q1 = some r.1 ∧ cv32 q2 = some r.2
theorem quot_any (x y r : Nat × Nat) (w : World) (h : QuotW x y r) :
    Calls Try.prog 70 #[.complex .f32 x.1 x.2, .complex .f32 y.1 y.2] w fun e w' => e = .returned (.complex .f32 r.1 r.2) ∧ w = w' := by
  obtain ⟨a, b, s, q1, q2, ⟨ht⟩, hp, h1, h2, h3, h4⟩ := h
  have HT := Lib.hid (fun W => times_any x (conjF y) a b W ht)
  have HP := Lib.hid (fun W => power_any y s W hp)
  have HC := Lib.hid (fun W => conj_any y W)
  have e1 := runOp 35 h1
  have e2 := runOp 35 h2
  have e3 := run32 h3
  have e4 := run32 h4
  clear ht hp h1 h2 h3 h4
  generalize conjF y = y' at HT HC
  go_enter Try.func70, Try.ntmps70
  go_wp2_with (first
    | (go_at_call 41; refine (HC.out _).mono ?_; rintro e w' ⟨rfl, rfl⟩)
    | (go_at_call 82; refine (HT.out _).mono ?_; rintro e w' ⟨rfl, rfl⟩)
    | (go_at_call 59; refine (HP.out _).mono ?_; rintro e w' ⟨rfl, rfl⟩)
    | rw [e1] | rw [e2] | rw [e3] | rw [e4])
  go_ret
  exact ⟨rfl, rfl⟩

theorem isZero_no (A : Option Addr) (n c : Nat) (xs : List (Nat × Nat)) (w : World) (h : CRd w w.heap.size A n c xs) (hz : n = 1 → isZ (xs.getD 0 (0, 0)) = false) :
    Calls Try.prog 62 #[.agg #[.slice A n c]] w fun e w' => e = .returned (.bool false) ∧ Below w.heap.size w w' := by
  by_cases h1 : n = 1
  · have hz1 := hz h1
    subst h1
    obtain ⟨b, o, rfl, hbl, hc⟩ := h.at_ (by omega)
    have hx := hc 0 (by omega)
    have hx2 : ∀ t, (w.alloc (.cells #[.slice (some ⟨b, o, none⟩) 1 c] t)).cell? ⟨b, o, none⟩ = some (cx (xs.getD 0 (0, 0))) := fun t => ((al1 w _).cell hbl).trans hx
    unfold isZ at hz1
    unfold cx at hx2
    generalize xs.getD 0 (0, 0) = y at hx2 hz1
    clear hc hx h hz
    go_enter Try.func62, Try.ntmps62
    go_wp2_with fail
    go_ret
    exact ⟨rfl, al1 w _⟩
  · have hne : ((n : Int) == 1) = false := by simp; omega
    clear h hz
    go_enter Try.func62, Try.ntmps62
    go_wp2_with fail
    go_ret
    exact ⟨rfl, al1 w _⟩

/-- 'MonicPoly' -/
def monK (qf : Nat → Nat × Nat) (k : Nat) : List (Nat × Nat) := (List.range k).map qf
theorem monK_succ (qf : Nat → Nat × Nat) (k : Nat) : monK qf (k + 1) = monK qf k ++ [qf k] := by simp [monK, List.range_succ]
def monC (n : Nat) (qf : Nat → Nat × Nat) : List (Nat × Nat) := (List.range (n - 1)).map qf ++ [(1065353216, 0)]
theorem monC_len (n : Nat) (qf : Nat → Nat × Nat) (h : 1 ≤ n) : (monC n qf).length = n := by simp [monC]; omega

set_option maxHeartbeats 2000000 in
theorem monic_any (A : Option Addr) (n c : Nat) (xs : List (Nat × Nat)) (w : World) (h : CRd w w.heap.size A n c xs) (hv : Valid xs) (qf : Nat → Nat × Nat) (hz : n = 1 → isZ (xs.getD 0 (0, 0)) = false) (hQ : ∀ k, k + 1 < n → QuotW (xs.getD k (0, 0)) (xs.getD (n - 1) (0, 0)) (qf k)) (hv2 : Valid (trimC (monC n qf))) :
    Calls Try.prog 43 #[.agg #[.slice A n c]] w fun e w' => ∃ A' n' c', e = .returned (.tuple #[.agg #[.slice A' n' c'], .bool true]) ∧ CRd w' w'.heap.size A' n' c' (trimC (monC n qf)) ∧ Below w.heap.size w w' := by
  have hn : 1 ≤ n := by have := hv.one; rwa [h.len] at this
  have hn17 : n ≤ 17 := by have := hv.most; rwa [h.len] at this
  have HR := Lib.hid h
  have HV := Lib.hid hv
  have HQ := Lib.hid hQ
  have HV2 := Lib.hid hv2
  have HZ := Lib.hid (fun W H => isZero_no A n c xs W H hz)
  clear h hv hQ hv2 hz
  go_enter Try.func43, Try.ntmps43
  go_wp2_with fail
  refine (valid_any A n c xs _ (HR.out.in_' (al2 w _ _)) HV.out).mono ?_
  rintro e w1 ⟨rfl, b1⟩
  have KP1 := Lib.hid (Blk.kept (Blk.alloc (Blk.new w 28 #[.slice A n c]) _) b1)
  have KR1 : Hid (Blk w1 (w.heap.size + 1) 28 #[.slice none 0 0]) := Blk.kept (Blk.new_at (w.alloc _) _ _ (by simp)) b1
  have cp1 := KP1.out.cell0
  have lp1 := World.block_lt_of_cell? _ _ cp1
  have B1 := Lib.hid (bthen (al2 w _ _) b1)
  clear b1
  go_wp2_with fail
  refine (HZ.out _ (HR.out.in_' B1.out)).mono ?_
  rintro e w2 ⟨rfl, b2⟩
  have KP2 := Lib.hid (Blk.kept KP1.out b2)
  have KR2 := Lib.hid (Blk.kept KR1.out b2)
  have cp2 := KP2.out.cell0
  have lp2 := KP2.out.lt
  have B2 := Lib.hid (bthen B1.out b2)
  clear b2 cp1 lp1 B1 KP1 KR1 HZ
  obtain ⟨m, rfl⟩ : ∃ m, n = m + 1 := ⟨n - 1, by omega⟩
  have hm1 : ((m + 1 : Nat) : Int) - 1 = (m : Int) := by omega
  have hle1 : (0 : Int) ≤ (m : Int) := by omega
  have hcap := HR.out.cap
  have hle2 : (m : Int) ≤ (c : Int) := by omega
  have hltm : (m : Int) < ((m + 1 : Nat) : Int) := by omega
  have cq2 : ∀ o, (w2.alloc o).cell? ⟨w.heap.size, 0, none⟩ = some (.slice A (m + 1) c) := fun o => cell_kept (al1 w2 o) cp2
  go_wp2_with fail
  have hO0 : COwn (w2.alloc (.cells #[] 34)) w2.heap.size (some ⟨w2.heap.size, 0, none⟩) 0 0 (monK qf 0) := cown_empty w2
  have hB0 : Below w2.heap.size w2 (w2.alloc (.cells #[] 34)) := al1 w2 _
  clear cq2 cp2
  go_loopg [5, 26] m (fun g s5 s26 wr => ∃ (k : Nat) (An : Option Addr) (cn : Nat), k ≤ m ∧ m - k ≤ g ∧ s26 = .int .i64 k ∧ s5 = .slice An k cn ∧ COwn wr w2.heap.size An k cn (monK qf k) ∧ Below w2.heap.size w2 wr)
  case atStart => exact ⟨0, _, _, by omega, by omega, rfl, rfl, hO0, hB0⟩
  case round =>
    clear hO0 hB0
    obtain ⟨k, An, cn, hk, hg, rfl, rfl, ho, hb⟩ := hrel
    by_cases hlt : k < m
    · have hltz : (k : Int) < (m : Int) := by omega
      obtain ⟨b, o, rfl, hbl, hcz⟩ := HR.out.at_ (by omega)
      have hx := ((bthen B2.out hb).cell (p := ⟨b, o + k, none⟩) hbl).trans (hcz k (by omega))
      have hy := ((bthen B2.out hb).cell (p := ⟨b, o + m, none⟩) hbl).trans (hcz m (by omega))
      have cpk := (Blk.kept KP2.out hb).cell0
      have HX := Lib.hid (monK_succ qf k)
      have hbsz := hb.size
      have hQ := HQ.out k (by omega)
      have em : m + 1 - 1 = m := by omega
      rw [em] at hQ
      unfold cx at hx hy
      clear hcz
      have HC := Lib.hid (fun W => quot_any _ _ _ W hQ)
      generalize qf k = r at HX HC
      generalize xs.getD k (0, 0) = x at hx HC
      generalize xs.getD m (0, 0) = y at hy HC
      generalize monK qf k = L at HX ho
      clear hQ
      go_wp2_with (first
        | (go_at_call 70; refine (HC.out _).mono ?_; rintro e w5 ⟨rfl, rfl⟩)
        | (at_builtin; go_must (refine wpList_append_crd rfl _ _ rfl w2.heap.size An k cn L rfl (ho.alloc _) _ _ _ _ _ rfl (crd_lit wr [r] 34 1 rfl (by simp [maxLen])) (by omega) (by simp; omega) ?_); intro A2 c2 w6 ho2 hg2; have HB := Lib.hid (cbgrown (hb.alloc hb.size _) (ho.alloc _) (by omega) hg2); have HO2 := Lib.hid ho2; clear ho2 hg2 ho hb))
      go_roundg (m - (k + 1))
      case measure => omega
      case rel => exact ⟨k + 1, A2, c2, by omega, by omega, by go_num, rfl, by rw [HX.out]; exact HO2.out, HB.out⟩
    · have hltz : ¬ (k : Int) < (m : Int) := by omega
      obtain rfl : k = m := by omega
      have hbsz := hb.size
      have hlm : Hid (monC (k + 1) qf = monK qf k ++ [(1065353216, 0)]) := by
        show monC (k + 1) qf = _
        unfold monC monK
        rw [Nat.add_sub_cancel]
      generalize monK qf k = L at hlm ho
      go_wp2_with (at_builtin; go_must (refine wpList_append_crd rfl _ _ rfl w2.heap.size An k cn L rfl (ho.alloc _) _ _ _ _ _ rfl (crd_lit wr [(1065353216, 0)] 34 1 rfl (by simp [maxLen])) (by omega) (by simp; omega) ?_); intro A2 c2 w6 ho2 hg2; have HB := Lib.hid (cbgrown (hb.alloc hb.size _) (ho.alloc _) (by omega) hg2); have HO2 := Lib.hid ho2; clear ho2 hg2 ho hb)
      have R3 : Hid (CRd w6 w6.heap.size A2 (k + 1) c2 (monC (k + 1) qf)) := by
        show CRd _ _ _ _ _ _
        rw [hlm.out]
        exact COwn.rd HO2.out
      have B3 := Lib.hid (bthen B2.out HB.out)
      have KR3 := Lib.hid (Blk.kept KR2.out HB.out)
      clear HO2 HB

      refine (polyOf_any A2 (k + 1) c2 (monC (k + 1) qf) _ R3.out (by omega) HV2.out).mono ?_
      rintro e w4 ⟨rfl, r4, b4⟩
      have KR4 := Lib.hid (Blk.kept KR3.out b4)
      have R4 := Lib.hid r4
      have B4 := Lib.hid (bthen B3.out b4)
      clear b4 r4
      have c4 := KR4.out.cell0
      have f4 := KR4.out.frozen0
      go_wp2_with fail
      refine bodyPost_ret (v := .tuple #[.agg #[.slice A2 (trimN (monC (k + 1) qf) (k + 1)) (trimN (monC (k + 1) qf) (k + 1))], .bool true]) (by simp [results, Try.results43, go_sem, c4]) rfl ⟨_, _, _, rfl, ?_, ?_⟩
      · have h9 := R4.out.set_other c4 (by intro p e; unfold cx at e; cases e) (.slice A2 (trimN (monC (k + 1) qf) (k + 1)) (trimN (monC (k + 1) qf) (k + 1)))
        simpa using h9
      · exact B4.out.setCell (by simp) _


end Go.Proofs.Ytfbekiphlaaieaa
