/- Contracts of ShiftPoly, SlopesAt, ScalePoly, StretchPoly, ConjugateOf and JoinedPoly. Condition: nothing is left open by the words; the polynomials are valid. -/
import Derived.Test.YtfbekiphlaaieaaMa
namespace Go.Proofs.Ytfbekiphlaaieaa
open Go.RowKit

/-- The words of a list, each made from a term and its place. -/
def mapW (n : Nat) (xs : List (Nat × Nat)) (f : Nat → Nat × Nat → Nat × Nat) : List (Nat × Nat) := (List.range n).map fun k => f k (xs.getD k (0, 0))
theorem mapW_len (n : Nat) (xs : List (Nat × Nat)) (f : Nat → Nat × Nat → Nat × Nat) : (mapW n xs f).length = n := by simp [mapW]
theorem mapW_get (n : Nat) (xs : List (Nat × Nat)) (f : Nat → Nat × Nat → Nat × Nat) (k : Nat) (h : k < n) : (mapW n xs f).getD k (0, 0) = f k (xs.getD k (0, 0)) := by
  simp [mapW, List.getD, h]
theorem mapW_take (n : Nat) (xs : List (Nat × Nat)) (f : Nat → Nat × Nat → Nat × Nat) (k : Nat) (h : k < n) : (mapW n xs f).take (k + 1) = (mapW n xs f).take k ++ [f k (xs.getD k (0, 0))] := by
  rw [ctake_succ _ _ (by rw [mapW_len]; exact h), mapW_get _ _ _ _ h]
def conjF (x : Nat × Nat) : Nat × Nat := (x.1, Op.negFloat .f32 x.2)
theorem conj_any (x : Nat × Nat) (w : World) : Calls Try.prog 41 #[.complex .f32 x.1 x.2] w fun e w' => e = .returned (.complex .f32 (conjF x).1 (conjF x).2) ∧ w = w' := by
  have e1 := run_neg (k := .f32) x.2
  go_enter Try.func41, Try.ntmps41
  go_wp2_with (rw [e1])
  go_ret
  exact ⟨rfl, rfl⟩

set_option maxHeartbeats 2000000 in
theorem shiftPoly_any (A : Option Addr) (n c : Nat) (xs : List (Nat × Nat)) (z : Nat × Nat) (w : World) (h : CRd w w.heap.size A n c xs) (hv : Valid xs) (hz : NumC z) (hS : ShiftW z n xs) (hv2 : Valid (trimC (shPass z n xs n))) :
    Calls Try.prog 32 #[.agg #[.slice A n c], .complex .f32 z.1 z.2] w fun e w' => ∃ A' n' c', e = .returned (.tuple #[.agg #[.slice A' n' c'], .bool true]) ∧ CRd w' w'.heap.size A' n' c' (trimC (shPass z n xs n)) ∧ Below w.heap.size w w' := by
  have hn : 1 ≤ n := by have := hv.one; rwa [h.len] at this
  have hn17 : n ≤ 17 := by have := hv.most; rwa [h.len] at this
  have HR := Lib.hid h
  have HV := Lib.hid hv
  have HZ := Lib.hid hz
  have HS := Lib.hid hS
  have HV2 := Lib.hid hv2
  clear h hv hz hS hv2
  go_enter Try.func32, Try.ntmps32
  go_wp2_with fail
  refine (valid_any A n c xs _ (HR.out.in_' (al2 w _ _)) HV.out).mono ?_
  rintro e w1 ⟨rfl, b1⟩
  have KP1 := Lib.hid (Blk.kept (Blk.alloc (Blk.new w 28 #[.slice A n c]) _) b1)
  have KR1 : Hid (Blk w1 (w.heap.size + 1) 28 #[.slice none 0 0]) := Blk.kept (Blk.new_at (w.alloc _) _ _ (by simp)) b1
  have cp1 := KP1.out.cell0
  have lp1 := World.block_lt_of_cell? _ _ cp1
  have B1 := Lib.hid (bthen (al2 w _ _) b1)
  clear b1
  go_wp2_with fail
  refine (allFinite_any (some ⟨w1.heap.size, 0, none⟩) 1 1 [z] _ (crd_lit w1 [z] 34 1 rfl (by simp [maxLen])) ?_).mono ?_
  · intro j hj
    have : j = 0 := by simp at hj; omega
    subst this
    exact HZ.out
  rintro e w2 ⟨rfl, b2⟩
  have BB2 := bthen (al1 w1 _) b2
  have KP2 := Lib.hid (Blk.kept KP1.out BB2)
  have KR2 := Lib.hid (Blk.kept KR1.out BB2)
  have cp2 := KP2.out.cell0
  have lp2 := KP2.out.lt
  have B2 := Lib.hid (bthen B1.out BB2)
  clear b2 BB2 cp1 lp1 B1 KP1 KR1
  go_wp2_with fail
  refine (shifted_any A n c xs z _ (HR.out.in_' B2.out) hn (by omega) HS.out).mono ?_
  rintro e w3 ⟨A3, c3, rfl, m3, b3⟩
  have KR3 := Lib.hid (Blk.kept KR2.out b3)
  have R3 := Lib.hid (CMine.rd m3)
  have B3 := Lib.hid (bthen B2.out b3)
  clear m3 b3 cp2 lp2
  go_wp2_with fail
  refine (polyOf_any A3 n c3 (shPass z n xs n) _ R3.out (by omega) HV2.out).mono ?_
  rintro e w4 ⟨rfl, r4, b4⟩
  have KR4 := Lib.hid (Blk.kept KR3.out b4)
  have R4 := Lib.hid r4
  have B4 := Lib.hid (bthen B3.out b4)
  clear b4 r4
  have c4 := KR4.out.cell0
  have f4 := KR4.out.frozen0
  go_wp2_with fail
  refine bodyPost_ret (v := .tuple #[.agg #[.slice A3 (trimN (shPass z n xs n) n) (trimN (shPass z n xs n) n)], .bool true]) (by simp [results, Try.results32, go_sem, c4]) rfl ⟨_, _, _, rfl, ?_, ?_⟩
  · have h9 := R4.out.set_other c4 (by intro p e; unfold cx at e; cases e) (.slice A3 (trimN (shPass z n xs n) n) (trimN (shPass z n xs n) n))
    simpa using h9
  · exact B4.out.setCell (by simp) _

set_option maxHeartbeats 2000000 in
theorem slopesAt_any (A : Option Addr) (n c : Nat) (xs : List (Nat × Nat)) (z : Nat × Nat) (w : World) (h : CRd w w.heap.size A n c xs) (hv : Valid xs) (hz : NumC z) (hS : ShiftW z n xs) (hN : AllNum (shPass z n xs n)) :
    Calls Try.prog 42 #[.agg #[.slice A n c], .complex .f32 z.1 z.2] w fun e w' => ∃ A' c', e = .returned (.tuple #[.slice A' n c', .bool true]) ∧ CRd w' w'.heap.size A' n c' (shPass z n xs n) ∧ Below w.heap.size w w' := by
  have hn : 1 ≤ n := by have := hv.one; rwa [h.len] at this
  have hn17 : n ≤ 17 := by have := hv.most; rwa [h.len] at this
  have HR := Lib.hid h
  have HV := Lib.hid hv
  have HZ := Lib.hid hz
  have HS := Lib.hid hS
  have HN := Lib.hid hN
  clear h hv hz hS hN
  go_enter Try.func42, Try.ntmps42
  go_wp2_with fail
  refine (valid_any A n c xs _ (HR.out.in_' (al1 w _)) HV.out).mono ?_
  rintro e w1 ⟨rfl, b1⟩
  have KP1 := Lib.hid (Blk.kept (Blk.new w 28 #[.slice A n c]) b1)
  have cp1 := KP1.out.cell0
  have lp1 := World.block_lt_of_cell? _ _ cp1
  have B1 := Lib.hid (bthen (al1 w _) b1)
  clear b1
  go_wp2_with fail
  refine (allFinite_any (some ⟨w1.heap.size, 0, none⟩) 1 1 [z] _ (crd_lit w1 [z] 34 1 rfl (by simp [maxLen])) ?_).mono ?_
  · intro j hj
    have : j = 0 := by simp at hj; omega
    subst this
    exact HZ.out
  rintro e w2 ⟨rfl, b2⟩
  have BB2 := bthen (al1 w1 _) b2
  have KP2 := Lib.hid (Blk.kept KP1.out BB2)
  have cp2 := KP2.out.cell0
  have lp2 := KP2.out.lt
  have B2 := Lib.hid (bthen B1.out BB2)
  clear b2 BB2 cp1 lp1 B1 KP1
  go_wp2_with fail
  refine (shifted_any A n c xs z _ (HR.out.in_' B2.out) hn (by omega) HS.out).mono ?_
  rintro e w3 ⟨A3, c3, rfl, m3, b3⟩
  have R3 := Lib.hid (CMine.rd m3)
  have B3 := Lib.hid (bthen B2.out b3)
  clear m3 b3 cp2 lp2
  go_wp2_with fail
  refine (checkedList_any A3 n c3 _ _ R3.out HN.out).mono ?_
  rintro e w4 ⟨rfl, b4⟩
  have R4 := Lib.hid (R3.out.in_' b4)
  have B4 := Lib.hid (bthen B3.out b4)
  clear b4
  go_wp2_with fail
  exact bodyPost_ret (v := .tuple #[.slice A3 n c3, .bool true]) (by simp [results, Try.results42, go_sem]) rfl ⟨_, _, rfl, R4.out, B4.out⟩

set_option maxHeartbeats 2000000 in
theorem scaled_any (A : Option Addr) (n c : Nat) (xs : List (Nat × Nat)) (z : Nat × Nat) (w : World) (h : CRd w w.heap.size A n c xs) (hn : 1 ≤ n) (hn' : n ≤ 1000) (hM : ∀ k, k < n → MulW (xs.getD k (0, 0)) z (mulF (xs.getD k (0, 0)) z)) :
    Calls Try.prog 72 #[.slice A n c, .complex .f32 z.1 z.2] w fun e w' => ∃ A' c', e = .returned (.slice A' n c') ∧ CRd w' w'.heap.size A' n c' (mapW n xs fun _ x => mulF x z) ∧ Below w.heap.size w w' := by
  have HR := Lib.hid h
  have HM := Lib.hid hM
  clear h hM
  go_enter Try.func72, Try.ntmps72
  go_wp2_with fail
  have hO0 : COwn (w.alloc (.cells #[] 34)) w.heap.size (some ⟨w.heap.size, 0, none⟩) 0 0 ((mapW n xs fun _ x => mulF x z).take 0) := cown_empty w
  have hB0 : Below w.heap.size w (w.alloc (.cells #[] 34)) := al1 w _
  go_loopg [5, 11] n (fun g s5 s11 wr => ∃ (k : Nat) (An : Option Addr) (cn : Nat), k ≤ n ∧ n - k ≤ g ∧ s11 = .int .i64 k ∧ s5 = .slice An k cn ∧ COwn wr w.heap.size An k cn ((mapW n xs fun _ x => mulF x z).take k) ∧ Below w.heap.size w wr)
  case atStart => exact ⟨0, _, _, by omega, by omega, rfl, rfl, hO0, hB0⟩
  case round =>
    clear hO0 hB0
    obtain ⟨k, An, cn, hk, hg, rfl, rfl, ho, hb⟩ := hrel
    by_cases hlt : k < n
    · have hltz : (k : Int) < (n : Int) := by omega
      obtain ⟨b, o, rfl, hbl, hcz⟩ := HR.out.at_ (by omega)
      have hx := (hb.cell (p := ⟨b, o + k, none⟩) hbl).trans (hcz k hlt)
      have HX := Lib.hid (mapW_take n xs (fun _ x => mulF x z) k hlt)
      have HMk := Lib.hid (fun W => mul_any _ z _ W (HM.out k hlt))
      have hbsz := hb.size
      unfold cx at hx
      clear hcz
      generalize mulF (xs.getD k (0, 0)) z = y at HX HMk
      generalize xs.getD k (0, 0) = x at hx HMk
      generalize (mapW n xs fun _ x => mulF x z).take k = L at HX ho
      go_wp2_with (first
        | (go_at_call 50; refine (HMk.out _).mono ?_; rintro e w5 ⟨rfl, rfl⟩)
        | (at_builtin; go_must (refine wpList_append_crd rfl _ _ rfl w.heap.size An k cn L rfl (ho.alloc _) _ _ _ _ _ rfl (crd_lit wr [y] 34 1 rfl (by simp [maxLen])) (by omega) (by simp; omega) ?_); intro A2 c2 w6 ho2 hg2; have HB := Lib.hid (cbgrown (hb.alloc hb.size _) (ho.alloc _) (by omega) hg2); have HO2 := Lib.hid ho2; clear ho2 hg2 ho hb))
      go_roundg (n - (k + 1))
      case measure => omega
      case rel => exact ⟨k + 1, A2, c2, by omega, by omega, by go_num, rfl, by rw [HX.out]; exact HO2.out, HB.out⟩
    · have hltz : ¬ (k : Int) < (n : Int) := by omega
      obtain rfl : k = n := by omega
      have e2 : (mapW k xs fun _ x => mulF x z).take k = mapW k xs fun _ x => mulF x z := List.take_of_length_le (by rw [mapW_len]; exact Nat.le_refl _)
      rw [e2] at ho
      have R3 := Lib.hid (COwn.rd ho)
      have B3 := Lib.hid hb
      clear e2 ho hb
      go_wp2_with fail
      go_ret
      exact ⟨_, _, rfl, R3.out, B3.out⟩

set_option maxHeartbeats 2000000 in
theorem scalePoly_any (A : Option Addr) (n c : Nat) (xs : List (Nat × Nat)) (z : Nat × Nat) (w : World) (h : CRd w w.heap.size A n c xs) (hv : Valid xs) (hz : NumC z) (hM : ∀ k, k < n → MulW (xs.getD k (0, 0)) z (mulF (xs.getD k (0, 0)) z)) (hv2 : Valid (trimC (mapW n xs fun _ x => mulF x z))) :
    Calls Try.prog 34 #[.agg #[.slice A n c], .complex .f32 z.1 z.2] w fun e w' => ∃ A' n' c', e = .returned (.tuple #[.agg #[.slice A' n' c'], .bool true]) ∧ CRd w' w'.heap.size A' n' c' (trimC (mapW n xs fun _ x => mulF x z)) ∧ Below w.heap.size w w' := by
  have hn : 1 ≤ n := by have := hv.one; rwa [h.len] at this
  have hn17 : n ≤ 17 := by have := hv.most; rwa [h.len] at this
  have HR := Lib.hid h
  have HV := Lib.hid hv
  have HZ := Lib.hid hz
  have HM := Lib.hid hM
  have HV2 := Lib.hid hv2
  clear h hv hz hM hv2
  go_enter Try.func34, Try.ntmps34
  go_wp2_with fail
  refine (valid_any A n c xs _ (HR.out.in_' (al2 w _ _)) HV.out).mono ?_
  rintro e w1 ⟨rfl, b1⟩
  have KP1 := Lib.hid (Blk.kept (Blk.alloc (Blk.new w 28 #[.slice A n c]) _) b1)
  have KR1 : Hid (Blk w1 (w.heap.size + 1) 28 #[.slice none 0 0]) := Blk.kept (Blk.new_at (w.alloc _) _ _ (by simp)) b1
  have cp1 := KP1.out.cell0
  have lp1 := World.block_lt_of_cell? _ _ cp1
  have B1 := Lib.hid (bthen (al2 w _ _) b1)
  clear b1
  go_wp2_with fail
  refine (allFinite_any (some ⟨w1.heap.size, 0, none⟩) 1 1 [z] _ (crd_lit w1 [z] 34 1 rfl (by simp [maxLen])) ?_).mono ?_
  · intro j hj
    have : j = 0 := by simp at hj; omega
    subst this
    exact HZ.out
  rintro e w2 ⟨rfl, b2⟩
  have BB2 := bthen (al1 w1 _) b2
  have KP2 := Lib.hid (Blk.kept KP1.out BB2)
  have KR2 := Lib.hid (Blk.kept KR1.out BB2)
  have cp2 := KP2.out.cell0
  have lp2 := KP2.out.lt
  have B2 := Lib.hid (bthen B1.out BB2)
  clear b2 BB2 cp1 lp1 B1 KP1 KR1
  go_wp2_with fail
  refine (scaled_any A n c xs z _ (HR.out.in_' B2.out) hn (by omega) HM.out).mono ?_
  rintro e w3 ⟨A3, c3, rfl, m3, b3⟩
  have KR3 := Lib.hid (Blk.kept KR2.out b3)
  have R3 := Lib.hid m3
  have B3 := Lib.hid (bthen B2.out b3)
  clear m3 b3 cp2 lp2
  go_wp2_with fail
  refine (polyOf_any A3 n c3 (mapW n xs fun _ x => mulF x z) _ R3.out (by omega) HV2.out).mono ?_
  rintro e w4 ⟨rfl, r4, b4⟩
  have KR4 := Lib.hid (Blk.kept KR3.out b4)
  have R4 := Lib.hid r4
  have B4 := Lib.hid (bthen B3.out b4)
  clear b4 r4
  have c4 := KR4.out.cell0
  have f4 := KR4.out.frozen0
  go_wp2_with fail
  refine bodyPost_ret (v := .tuple #[.agg #[.slice A3 (trimN (mapW n xs fun _ x => mulF x z) n) (trimN (mapW n xs fun _ x => mulF x z) n)], .bool true]) (by simp [results, Try.results34, go_sem, c4]) rfl ⟨_, _, _, rfl, ?_, ?_⟩
  · have h9 := R4.out.set_other c4 (by intro p e; unfold cx at e; cases e) (.slice A3 (trimN (mapW n xs fun _ x => mulF x z) n) (trimN (mapW n xs fun _ x => mulF x z) n))
    simpa using h9
  · exact B4.out.setCell (by simp) _

end Go.Proofs.Ytfbekiphlaaieaa
