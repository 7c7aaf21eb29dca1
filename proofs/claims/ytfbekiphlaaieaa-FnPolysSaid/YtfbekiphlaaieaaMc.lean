/- Contracts of JoinedPoly and StretchPoly. Condition: nothing is left open by the words; the polynomials are valid. -/
import Derived.Test.YtfbekiphlaaieaaMb
namespace Go.Proofs.Ytfbekiphlaaieaa
open Go.RowKit

/-- The powers of a point. -/
def pwF (z : Nat × Nat) : Nat → Nat × Nat
  | 0 => (1065353216, 0)
  | k + 1 => mulF (pwF z k) z

set_option maxHeartbeats 2000000 in
theorem joined_any (A : Option Addr) (n c : Nat) (xs : List (Nat × Nat)) (w : World) (h : CRd w w.heap.size A n c xs) (hv : Valid xs) (hv2 : Valid (trimC (mapW n xs fun _ x => conjF x))) :
    Calls Try.prog 37 #[.agg #[.slice A n c]] w fun e w' => ∃ A' n' c', e = .returned (.tuple #[.agg #[.slice A' n' c'], .bool true]) ∧ CRd w' w'.heap.size A' n' c' (trimC (mapW n xs fun _ x => conjF x)) ∧ Below w.heap.size w w' := by
  have hn : 1 ≤ n := by have := hv.one; rwa [h.len] at this
  have hn17 : n ≤ 17 := by have := hv.most; rwa [h.len] at this
  have HR := Lib.hid h
  have HV := Lib.hid hv
  have HV2 := Lib.hid hv2
  clear h hv hv2
  go_enter Try.func37, Try.ntmps37
  go_wp2_with fail
  refine (valid_any A n c xs _ (HR.out.in_' (al2 w _ _)) HV.out).mono ?_
  rintro e w1 ⟨rfl, b1⟩
  have KP1 := Lib.hid (Blk.kept (Blk.alloc (Blk.new w 28 #[.slice A n c]) _) b1)
  have KR1 : Hid (Blk w1 (w.heap.size + 1) 28 #[.slice none 0 0]) := Blk.kept (Blk.new_at (w.alloc _) _ _ (by simp)) b1
  have cp1 := KP1.out.cell0
  have lp1 := World.block_lt_of_cell? _ _ cp1
  have B1 := Lib.hid (bthen (al2 w _ _) b1)
  clear b1
  go_wp2_with fail
  have hO0 : COwn (w1.alloc (.cells #[] 34)) w1.heap.size (some ⟨w1.heap.size, 0, none⟩) 0 0 ((mapW n xs fun _ x => conjF x).take 0) := cown_empty w1
  have hB0 : Below w1.heap.size w1 (w1.alloc (.cells #[] 34)) := al1 w1 _
  go_loopg [4, 15] n (fun g s4 s15 wr => ∃ (k : Nat) (An : Option Addr) (cn : Nat), k ≤ n ∧ n - k ≤ g ∧ s15 = .int .i64 k ∧ s4 = .slice An k cn ∧ COwn wr w1.heap.size An k cn ((mapW n xs fun _ x => conjF x).take k) ∧ Below w1.heap.size w1 wr)
  case atStart => exact ⟨0, _, _, by omega, by omega, rfl, rfl, hO0, hB0⟩
  case round =>
    clear hO0 hB0
    obtain ⟨k, An, cn, hk, hg, rfl, rfl, ho, hb⟩ := hrel
    by_cases hlt : k < n
    · have hltz : (k : Int) < (n : Int) := by omega
      obtain ⟨b, o, rfl, hbl, hcz⟩ := HR.out.at_ (by omega)
      have hx := ((bthen B1.out hb).cell (p := ⟨b, o + k, none⟩) hbl).trans (hcz k hlt)
      have HX := Lib.hid (mapW_take n xs (fun _ x => conjF x) k hlt)
      have hbsz := hb.size
      unfold cx at hx
      clear hcz
      have HC := Lib.hid (fun W => conj_any (xs.getD k (0, 0)) W)
      generalize conjF (xs.getD k (0, 0)) = y at HX HC
      generalize xs.getD k (0, 0) = x at hx HC
      generalize (mapW n xs fun _ x => conjF x).take k = L at HX ho
      go_wp2_with (first
        | (go_at_call 41; refine (HC.out _).mono ?_; rintro e w5 ⟨rfl, rfl⟩)
        | (at_builtin; go_must (refine wpList_append_crd rfl _ _ rfl w1.heap.size An k cn L rfl (ho.alloc _) _ _ _ _ _ rfl (crd_lit wr [y] 34 1 rfl (by simp [maxLen])) (by omega) (by simp; omega) ?_); intro A2 c2 w6 ho2 hg2; have HB := Lib.hid (cbgrown (hb.alloc hb.size _) (ho.alloc _) (by omega) hg2); have HO2 := Lib.hid ho2; clear ho2 hg2 ho hb))
      go_roundg (n - (k + 1))
      case measure => omega
      case rel => exact ⟨k + 1, A2, c2, by omega, by omega, by go_num, rfl, by rw [HX.out]; exact HO2.out, HB.out⟩
    · have hltz : ¬ (k : Int) < (n : Int) := by omega
      obtain rfl : k = n := by omega
      have e2 : (mapW k xs fun _ x => conjF x).take k = mapW k xs fun _ x => conjF x := List.take_of_length_le (by rw [mapW_len]; exact Nat.le_refl _)
      rw [e2] at ho
      have R3 := Lib.hid (COwn.rd ho)
      have B3 := Lib.hid (bthen B1.out hb)
      have KR3 := Lib.hid (Blk.kept KR1.out hb)
      clear e2 ho hb
      go_wp2_with fail
      refine (polyOf_any An k cn (mapW k xs fun _ x => conjF x) _ R3.out (by omega) HV2.out).mono ?_
      rintro e w4 ⟨rfl, r4, b4⟩
      have KR4 := Lib.hid (Blk.kept KR3.out b4)
      have R4 := Lib.hid r4
      have B4 := Lib.hid (bthen B3.out b4)
      clear b4 r4
      have c4 := KR4.out.cell0
      have f4 := KR4.out.frozen0
      go_wp2_with fail
      refine bodyPost_ret (v := .tuple #[.agg #[.slice An (trimN (mapW k xs fun _ x => conjF x) k) (trimN (mapW k xs fun _ x => conjF x) k)], .bool true]) (by simp [results, Try.results37, go_sem, c4]) rfl ⟨_, _, _, rfl, ?_, ?_⟩
      · have h9 := R4.out.set_other c4 (by intro p e; unfold cx at e; cases e) (.slice An (trimN (mapW k xs fun _ x => conjF x) k) (trimN (mapW k xs fun _ x => conjF x) k))
        simpa using h9
      · exact B4.out.setCell (by simp) _

set_option maxHeartbeats 2000000 in
theorem stretch_any (A : Option Addr) (n c : Nat) (xs : List (Nat × Nat)) (z : Nat × Nat) (w : World) (h : CRd w w.heap.size A n c xs) (hv : Valid xs) (hz : NumC z) (hM : ∀ k, k < n → MulW (xs.getD k (0, 0)) (pwF z k) (mulF (xs.getD k (0, 0)) (pwF z k)) ∧ MulW (pwF z k) z (pwF z (k + 1))) (hv2 : Valid (trimC (mapW n xs fun k x => mulF x (pwF z k)))) :
    Calls Try.prog 33 #[.agg #[.slice A n c], .complex .f32 z.1 z.2] w fun e w' => ∃ A' n' c', e = .returned (.tuple #[.agg #[.slice A' n' c'], .bool true]) ∧ CRd w' w'.heap.size A' n' c' (trimC (mapW n xs fun k x => mulF x (pwF z k))) ∧ Below w.heap.size w w' := by
  have hn : 1 ≤ n := by have := hv.one; rwa [h.len] at this
  have hn17 : n ≤ 17 := by have := hv.most; rwa [h.len] at this
  have HR := Lib.hid h
  have HV := Lib.hid hv
  have HZ := Lib.hid hz
  have HM := Lib.hid hM
  have HV2 := Lib.hid hv2
  clear h hv hz hM hv2
  go_enter Try.func33, Try.ntmps33
  go_wp2_with fail
  refine (valid_any A n c xs _ (HR.out.in_' (al2 w _ _)) HV.out).mono ?_
  rintro e w1 ⟨rfl, b1⟩
  have KP1 := Lib.hid (Blk.kept (Blk.alloc (Blk.new w 28 #[.slice A n c]) _) b1)
  have KR1 : Hid (Blk w1 (w.heap.size + 1) 28 #[.slice none 0 0]) := Blk.kept (Blk.new_at (w.alloc _) _ _ (by simp)) b1
  have cp1 := KP1.out.cell0
  have lp1 := World.block_lt_of_cell? _ _ cp1
  have B1 := Lib.hid (bthen (al2 w _ _) b1)
  clear b1
  go_wp2_with fail
  refine (allFinite_any (some ⟨w1.heap.size, 0, none⟩) 1 1 [z] _ (crd_lit w1 [z] 34 1 rfl (by simp [maxLen])) ?_).mono ?_
  · intro j hj
    have : j = 0 := by simp at hj; omega
    subst this
    exact HZ.out
  rintro e w2 ⟨rfl, b2⟩
  have BB2 := bthen (al1 w1 _) b2
  have KP2 := Lib.hid (Blk.kept KP1.out BB2)
  have KR2 := Lib.hid (Blk.kept KR1.out BB2)
  have cp2 := KP2.out.cell0
  have lp2 := KP2.out.lt
  have B2 := Lib.hid (bthen B1.out BB2)
  clear b2 BB2 cp1 lp1 B1 KP1 KR1
  go_wp2_with fail
  have hO0 : COwn (w2.alloc (.cells #[] 34)) w2.heap.size (some ⟨w2.heap.size, 0, none⟩) 0 0 ((mapW n xs fun k x => mulF x (pwF z k)).take 0) := cown_empty w2
  have hB0 : Below w2.heap.size w2 (w2.alloc (.cells #[] 34)) := al1 w2 _
  go_loopg [6, 7, 24] n (fun g s6 s7 s24 wr => ∃ (k : Nat) (An : Option Addr) (cn : Nat), k ≤ n ∧ n - k ≤ g ∧ s24 = .int .i64 k ∧ s6 = .slice An k cn ∧ s7 = .complex .f32 (pwF z k).1 (pwF z k).2 ∧ COwn wr w2.heap.size An k cn ((mapW n xs fun k x => mulF x (pwF z k)).take k) ∧ Below w2.heap.size w2 wr)
  case atStart => exact ⟨0, _, _, by omega, by omega, rfl, rfl, rfl, hO0, hB0⟩
  case round =>
    clear hO0 hB0
    obtain ⟨k, An, cn, hk, hg, rfl, rfl, rfl, ho, hb⟩ := hrel
    by_cases hlt : k < n
    · have hltz : (k : Int) < (n : Int) := by omega
      obtain ⟨b, o, rfl, hbl, hcz⟩ := HR.out.at_ (by omega)
      have hx := ((bthen B2.out hb).cell (p := ⟨b, o + k, none⟩) hbl).trans (hcz k hlt)
      have HX := Lib.hid (mapW_take n xs (fun k x => mulF x (pwF z k)) k hlt)
      have hbsz := hb.size
      unfold cx at hx
      clear hcz
      have H1 := Lib.hid (fun W => mul_any _ _ _ W (HM.out k hlt).1)
      have H2 := Lib.hid (fun W => mul_any _ _ _ W (HM.out k hlt).2)
      generalize mulF (xs.getD k (0, 0)) (pwF z k) = y at HX H1
      generalize xs.getD k (0, 0) = x at hx H1
      generalize pwF z k = q0 at H1 H2 ⊢
      generalize (mapW n xs fun k x => mulF x (pwF z k)).take k = L at HX ho
      go_wp2_with (first
        | (go_at_call 50; with_reducible refine (H1.out _).mono ?_; rintro e w5 ⟨rfl, rfl⟩)
        | (go_at_call 50; with_reducible refine (H2.out _).mono ?_; rintro e w5 ⟨rfl, rfl⟩)
        | (at_builtin; go_must (refine wpList_append_crd rfl _ _ rfl w2.heap.size An k cn L rfl (ho.alloc _) _ _ _ _ _ rfl (crd_lit wr [y] 34 1 rfl (by simp [maxLen])) (by omega) (by simp; omega) ?_); intro A2 c2 w6 ho2 hg2; have HB := Lib.hid (cbgrown (hb.alloc hb.size _) (ho.alloc _) (by omega) hg2); have HO2 := Lib.hid ho2; clear ho2 hg2 ho hb))
      go_roundg (n - (k + 1))
      case measure => omega
      case rel => exact ⟨k + 1, A2, c2, by omega, by omega, by go_num, rfl, rfl, by rw [HX.out]; exact HO2.out, HB.out⟩
    · have hltz : ¬ (k : Int) < (n : Int) := by omega
      obtain rfl : k = n := by omega
      have e2 : (mapW k xs fun k x => mulF x (pwF z k)).take k = mapW k xs fun k x => mulF x (pwF z k) := List.take_of_length_le (by rw [mapW_len]; exact Nat.le_refl _)
      rw [e2] at ho
      have R3 := Lib.hid (COwn.rd ho)
      have B3 := Lib.hid (bthen B2.out hb)
      have KR3 := Lib.hid (Blk.kept KR2.out hb)
      clear e2 ho hb
      go_wp2_with fail
      refine (polyOf_any An k cn (mapW k xs fun k x => mulF x (pwF z k)) _ R3.out (by omega) HV2.out).mono ?_
      rintro e w4 ⟨rfl, r4, b4⟩
      have KR4 := Lib.hid (Blk.kept KR3.out b4)
      have R4 := Lib.hid r4
      have B4 := Lib.hid (bthen B3.out b4)
      clear b4 r4
      have c4 := KR4.out.cell0
      have f4 := KR4.out.frozen0
      go_wp2_with fail
      refine bodyPost_ret (v := .tuple #[.agg #[.slice An (trimN (mapW k xs fun k x => mulF x (pwF z k)) k) (trimN (mapW k xs fun k x => mulF x (pwF z k)) k)], .bool true]) (by simp [results, Try.results33, go_sem, c4]) rfl ⟨_, _, _, rfl, ?_, ?_⟩
      · have h9 := R4.out.set_other c4 (by intro p e; unfold cx at e; cases e) (.slice An (trimN (mapW k xs fun k x => mulF x (pwF z k)) k) (trimN (mapW k xs fun k x => mulF x (pwF z k)) k))
        simpa using h9
      · exact B4.out.setCell (by simp) _

end Go.Proofs.Ytfbekiphlaaieaa
