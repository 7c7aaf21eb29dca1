/- Contract of PolyOfRoots. Condition: nothing is left open by the words; at most 16 roots. -/
import Derived.Test.YtfbekiphlaaieaaCt
namespace Go.Proofs.Ytfbekiphlaaieaa
open Go.RowKit

/-- 'PolyOfRoots': P t the terms behind t roots, mm t k the product in the k-th of them. -/
structure RootsW (zs : List (Nat × Nat)) (P : Nat → List (Nat × Nat)) (mm : Nat → Nat → Nat × Nat) : Prop where
  start : P 0 = [(1065353216, 0)]
  len : ∀ t, t ≤ zs.length → (P t).length = t + 1
  mul : ∀ t k, t < zs.length → k < t + 2 → MulW (zs.getD t (0, 0)) ((P t).getD k (0, 0)) (mm t k)
  low : ∀ t, t < zs.length → MinusW (0, 0) (mm t 0) ((P (t + 1)).getD 0 (0, 0))
  sub : ∀ t k, t < zs.length → k + 1 < t + 2 → MinusW ((P t).getD k (0, 0)) (mm t (k + 1)) ((P (t + 1)).getD (k + 1) (0, 0))

theorem ctake_succ (xs : List (Nat × Nat)) (k : Nat) (h : k < xs.length) : xs.take (k + 1) = xs.take k ++ [xs.getD k (0, 0)] := by
  rw [List.take_add_one, List.getElem?_eq_getElem h]
  simp [List.getD, h]

theorem CRd.set_other {w : World} {B : Nat} {A : Option Addr} {n c : Nat} {xs : List (Nat × Nat)} {a : Addr} {v : Value} (h : CRd w B A n c xs) (hv : w.cell? a = some v) (hne : ∀ p, v ≠ cx p) (u : Value) : CRd (w.setCell a u) B A n c xs :=
  ⟨h.len, h.cap, h.most, fun hn => by
    obtain ⟨b, o, e, hb, hc⟩ := h.at_ hn
    refine ⟨b, o, e, hb, fun j hj => ?_⟩
    have hcj := hc j hj
    refine (World.cell?_setCell_other _ _ _ _ (fun e' => ?_)).trans hcj
    first
      | (rw [e'] at hcj; rw [hcj] at hv; injection hv with hv; exact hne _ hv.symm)
      | (rw [← e'] at hcj; rw [hcj] at hv; injection hv with hv; exact hne _ hv.symm)⟩

set_option maxHeartbeats 4000000 in
set_option maxRecDepth 10000 in
theorem polyOfRoots_any (A : Option Addr) (n c : Nat) (zs : List (Nat × Nat)) (P : Nat → List (Nat × Nat)) (mm : Nat → Nat → Nat × Nat) (w : World) (h : CRd w w.heap.size A n c zs) (hn : n ≤ 16) (hz : AllNum zs) (hP : RootsW zs P mm) (hv : Valid (trimC (P n))) :
    Calls Try.prog 9 #[.slice A n c] w fun e w' => ∃ A' n' c', e = .returned (.tuple #[.agg #[.slice A' n' c'], .bool true]) ∧ CRd w' w'.heap.size A' n' c' (trimC (P n)) ∧ Below w.heap.size w w' := by
  have hlen := h.len
  obtain ⟨p1, p2, p3, p4, p5⟩ := hP
  rw [hlen] at p2 p3 p4 p5
  have H1 := Lib.hid p1
  have H2 := Lib.hid p2
  have H3 := Lib.hid p3
  have H4 := Lib.hid p4
  have H5 := Lib.hid p5
  have HR := Lib.hid h
  have HZ := Lib.hid hz
  have HV := Lib.hid hv
  have hle : ¬ (16 : Int) < (n : Int) := by omega
  clear p1 p2 p3 p4 p5 h hz hv hlen
  go_enter Try.func9, Try.ntmps9
  go_wp2_with fail
  refine (allFinite_any A n c zs _ (HR.out.in_' (al1 w _)) HZ.out).mono ?_
  rintro e w1 ⟨rfl, b1⟩
  have kr : Blk w1 w.heap.size 28 #[.slice none 0 0] := Blk.kept (Blk.new w _ _) b1
  have B1 := Lib.hid (bthen (al1 w _) b1)
  have hs1 : w.heap.size + 1 ≤ w1.heap.size := by have := b1.size; simpa using this
  clear b1
  go_wp2_with fail
  have hlit : CRd (w1.alloc (.cells #[.complex .f32 1065353216 0] 34)) (w1.alloc (.cells #[.complex .f32 1065353216 0] 34)).heap.size (some ⟨w1.heap.size, 0, none⟩) 1 1 (P 0) := by
    rw [H1.out]
    exact crd_lit w1 [(1065353216, 0)] 34 1 rfl (by simp [maxLen])
  have hB0 : Below w.heap.size w (w1.alloc (.cells #[.complex .f32 1065353216 0] 34)) := bthen B1.out (al1 w1 _)
  have hk0 : Blk (w1.alloc (.cells #[.complex .f32 1065353216 0] 34)) w.heap.size 28 #[.slice none 0 0] := Blk.alloc kr _
  go_loopg [4, 21] n (fun g s4 s21 wr => ∃ (t : Nat) (Ac : Option Addr) (cc : Nat), t ≤ n ∧ n - t ≤ g ∧ s21 = .int .i64 t ∧ s4 = .slice Ac (t + 1) cc ∧ CRd wr wr.heap.size Ac (t + 1) cc (P t) ∧ Below w.heap.size w wr ∧ Blk wr w.heap.size 28 #[.slice none 0 0])
  case atStart => exact ⟨0, _, _, by omega, by omega, rfl, rfl, hlit, hB0, hk0⟩
  case round =>
    clear hlit hB0 hk0 kr hs1 B1
    obtain ⟨t, Ac, cc, ht, hg, rfl, rfl, hc, hb, hk⟩ := hrel
    obtain ⟨wo, rfl⟩ : ∃ wo : World, wo = wr := ⟨_, rfl⟩
    by_cases hlt : t < n
    · have hltz : (t : Int) < (n : Int) := by omega
      obtain ⟨b, o, rfl, hbl, hcz⟩ := HR.out.at_ (by omega)
      have hx := (hb.cell (p := ⟨b, o + t, none⟩) hbl).trans (hcz t hlt)
      have M3 := Lib.hid (fun k hk => H3.out t k hlt hk)
      have M4 := Lib.hid (H4.out t hlt)
      have M5 := Lib.hid (fun k hk => H5.out t k hlt hk)
      have hPl := Lib.hid (H2.out (t + 1) (by omega))
      unfold cx at hx
      generalize zs.getD t (0, 0) = z at hx M3
      have HCc := Lib.hid hc
      have HBb := Lib.hid hb
      have HKk := Lib.hid hk
      clear hcz hc hb hk
      have hsum : ((t + 1 : Nat) : Int) + 1 = ((t + 2 : Nat) : Int) := by omega
      have hwr : w.heap.size < wo.heap.size := HKk.out.lt
      go_wp2_with fail
      have hO0 : COwn (wo.alloc (.cells #[] 34)) wo.heap.size (some ⟨wo.heap.size, 0, none⟩) 0 0 ((P (t + 1)).take 0) := cown_empty wo
      have hB2 : Below wo.heap.size wo (wo.alloc (.cells #[] 34)) := al1 wo _
      go_loopg [7, 29] (t + 2) (fun g s7 s29 wi => ∃ (k : Nat) (An : Option Addr) (cn : Nat), k ≤ t + 2 ∧ t + 2 - k ≤ g ∧ s29 = .int .i64 k ∧ s7 = .slice An k cn ∧ COwn wi wo.heap.size An k cn ((P (t + 1)).take k) ∧ Below wo.heap.size wo wi)
      case atStart => exact ⟨0, _, _, by omega, by omega, rfl, rfl, hO0, hB2⟩
      case round =>
        clear hO0 hB2 hx
        obtain ⟨k, An, cn, hk, hgk, rfl, rfl, ho, hbi⟩ := hrel
        by_cases hkt : k < t + 2
        · have hktz : (k : Int) < ((t + 2 : Nat) : Int) := by omega
          have HX := Lib.hid (ctake_succ (P (t + 1)) k (by rw [hPl.out]; omega))
          have HM := Lib.hid (fun W => mul_any z ((P t).getD k (0, 0)) (mm t k) W (M3.out k hkt))
          have HT := Lib.hid (fun W H => termAt_any Ac (t + 1) cc (P t) k W H)
          have HI := Lib.hid (HCc.out.in_' hbi)
          have hbsz := hbi.size
          rcases Nat.eq_zero_or_pos k with h0 | hpos
          · subst h0
            have HS := Lib.hid (fun W => minus_any (0, 0) (mm t 0) ((P (t + 1)).getD 0 (0, 0)) W M4.out)
            have HU := Lib.hid (fun W => termAt_under Ac (t + 1) cc W)
            unfold cx at HT HU
            generalize hy : (P (t + 1)).getD 0 (0, 0) = y at HS HX
            generalize (P t).getD 0 (0, 0) = x0 at HM HT
            generalize mm t 0 = m0 at HM HS
            have HT0 : Hid (∀ W, CRd W W.heap.size Ac (t + 1) cc (P t) → Calls Try.prog 49 #[.slice Ac (t + 1) cc, .int .i64 0] W fun e w' => e = .returned (.complex .f32 x0.1 x0.2) ∧ W = w') := HT.out
            clear HT
            clear hy
            go_wp2_with (first
              | (go_at_call 49; with_reducible refine (HU.out _).mono ?_; rintro e w' ⟨rfl, rfl⟩)
              | (go_at_call 49; with_reducible refine (HT0.out _ HI.out).mono ?_; rintro e w' ⟨rfl, rfl⟩)
              | (go_at_call 50; refine (HM.out _).mono ?_; rintro e w' ⟨rfl, rfl⟩)
              | (go_at_call 48; refine (HS.out _).mono ?_; rintro e w' ⟨rfl, rfl⟩)
              | (at_builtin; go_must (refine wpList_append_crd rfl _ _ rfl wo.heap.size An 0 cn ((P (t + 1)).take 0) rfl (ho.alloc _) _ _ _ _ _ rfl (crd_lit wr [y] 34 1 rfl (by simp [maxLen])) (by omega) (by simp; omega) ?_); intro A2 c2 w2 ho2 hg2; have HB := Lib.hid (cbgrown (hbi.alloc hbi.size _) (ho.alloc _) (by omega) hg2); have HO := Lib.hid ho2; clear ho2 hg2 ho hbi))
            go_roundg (t + 2 - (0 + 1))
            case measure => omega
            case rel => exact ⟨0 + 1, A2, c2, by omega, by omega, by go_num, rfl, by rw [HX.out]; exact HO.out, HB.out⟩
          · obtain ⟨j, rfl⟩ : ∃ j, k = j + 1 := ⟨k - 1, by omega⟩
            have HS := Lib.hid (fun W => minus_any ((P t).getD j (0, 0)) (mm t (j + 1)) ((P (t + 1)).getD (j + 1) (0, 0)) W (M5.out j (by omega)))
            have HU := Lib.hid (fun W H => termAt_any Ac (t + 1) cc (P t) j W H)
            have hidx : ((j + 1 : Nat) : Int) - 1 = (j : Int) := by omega
            unfold cx at HT HU
            generalize hy : (P (t + 1)).getD (j + 1) (0, 0) = y at HS HX
            generalize (P t).getD (j + 1) (0, 0) = x0 at HM HT
            generalize (P t).getD j (0, 0) = x1 at HS HU
            generalize mm t (j + 1) = m0 at HM HS
            have HT0 : Hid (∀ W, CRd W W.heap.size Ac (t + 1) cc (P t) → Calls Try.prog 49 #[.slice Ac (t + 1) cc, .int .i64 ((j : Int) + 1)] W fun e w' => e = .returned (.complex .f32 x0.1 x0.2) ∧ W = w') := HT.out
            clear HT
            clear hy
            go_wp2_with (first
              | (go_at_call 49; with_reducible refine (HU.out _ HI.out).mono ?_; rintro e w' ⟨rfl, rfl⟩)
              | (go_at_call 49; with_reducible refine (HT0.out _ HI.out).mono ?_; rintro e w' ⟨rfl, rfl⟩)
              | (go_at_call 50; refine (HM.out _).mono ?_; rintro e w' ⟨rfl, rfl⟩)
              | (go_at_call 48; refine (HS.out _).mono ?_; rintro e w' ⟨rfl, rfl⟩)
              | (at_builtin; go_must (refine wpList_append_crd rfl _ _ rfl wo.heap.size An (j + 1) cn ((P (t + 1)).take (j + 1)) rfl (ho.alloc _) _ _ _ _ _ rfl (crd_lit wr [y] 34 1 rfl (by simp [maxLen])) (by omega) (by simp; omega) ?_); intro A2 c2 w2 ho2 hg2; have HB := Lib.hid (cbgrown (hbi.alloc hbi.size _) (ho.alloc _) (by omega) hg2); have HO := Lib.hid ho2; clear ho2 hg2 ho hbi))
            go_roundg (t + 2 - ((j + 1) + 1))
            case measure => omega
            case rel => exact ⟨j + 1 + 1, A2, c2, by omega, by omega, by go_num, rfl, by rw [HX.out]; exact HO.out, HB.out⟩
        · have hktz : ¬ (k : Int) < ((t + 2 : Nat) : Int) := by omega
          obtain rfl : k = t + 2 := by omega
          have e2 : (P (t + 1)).take (t + 2) = P (t + 1) := List.take_of_length_le (by rw [hPl.out]; omega)
          rw [e2] at ho
          have HO := Lib.hid (COwn.rd ho)
          have HB3 := Lib.hid (bthen HBb.out hbi)
          have HK3 := Lib.hid (Blk.kept HKk.out hbi)
          clear e2 ho hbi
          go_wp2_with fail
          go_roundg (n - (t + 1))
          case measure => omega
          case rel => exact ⟨t + 1, An, cn, by omega, by omega, by go_num, rfl, HO.out, HB3.out, HK3.out⟩
    · have hltz : ¬ (t : Int) < (n : Int) := by omega
      obtain rfl : t = n := by omega
      have HCc := Lib.hid hc
      have HBb := Lib.hid hb
      have HKk := Lib.hid hk
      clear hc hb hk
      go_wp2_with fail
      refine (polyOf_any Ac (t + 1) cc (P t) _ HCc.out (by omega) HV.out).mono ?_
      rintro e w5 ⟨rfl, hr5, b5⟩
      have k5 := Blk.kept HKk.out b5
      have c5 := k5.cell0
      have f5 := k5.frozen0
      have HR5 := Lib.hid hr5
      have B5 := Lib.hid (bthen HBb.out b5)
      clear k5 b5 hr5
      go_wp2_with fail
      refine bodyPost_ret (v := .tuple #[.agg #[.slice Ac (trimN (P t) (t + 1)) (trimN (P t) (t + 1))], .bool true]) (by simp [results, Try.results9, go_sem, c5]) rfl ⟨_, _, _, rfl, ?_, ?_⟩
      · have h9 := HR5.out.set_other c5 (by intro p e; unfold cx at e; cases e) (.slice Ac (trimN (P t) (t + 1)) (trimN (P t) (t + 1)))
        simpa using h9
      · exact B5.out.setCell (by simp) _
end Go.Proofs.Ytfbekiphlaaieaa
