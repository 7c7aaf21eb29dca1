/- Contracts of ScaleComplex, SlopePoly, RisePoly, EvenPoly and OddPoly. Condition: nothing is left open by the words; the polynomials are valid. -/
import Derived.Test.YtfbekiphlaaieaaMc
import Derived.Test.YtfbekiphlaaieaaGf
namespace Go.Proofs.Ytfbekiphlaaieaa
open Go.RowKit

/-- A whole number in single precision. -/
def i32 (k : Nat) : Nat := floatOfInt .f32 (k : Int)
def scF (x : Nat × Nat) (y : Nat) : Nat × Nat := (g32 .mul x.1 y, g32 .mul x.2 y)
def ScaleW (x : Nat × Nat) (y : Nat) (r : Nat × Nat) : Prop := floatBits .mul .f32 x.1 y = some r.1 ∧ floatBits .mul .f32 x.2 y = some r.2
theorem scale_any (x r : Nat × Nat) (y : Nat) (w : World) (h : ScaleW x y r) :
    Calls Try.prog 74 #[.complex .f32 x.1 x.2, .float .f32 y] w fun e w' => e = .returned (.complex .f32 r.1 r.2) ∧ w = w' := by
  have e1 := runOp 31 h.1
  have e2 := runOp 31 h.2
  clear h
  go_enter Try.func74, Try.ntmps74
  go_wp2_with (first | rw [e1] | rw [e2])
  go_ret
  exact ⟨rfl, rfl⟩
theorem run_i32 (k : Nat) : ∀ w, (convert 3 31 (.int .i64 (k : Int))).run Try.prog w = .ok (.float .f32 (i32 k)) w := fun w =>
  run_convert_int_float w 3 31 .i64 .f32 (k : Int) (by rw [Try.underlying3]; rfl) Try.underlying31
/-- The slope's terms, before the test for none. -/
def cslopeU (xs : List (Nat × Nat)) (k : Nat) : List (Nat × Nat) := (List.range (k - 1)).map fun j => scF (xs.getD (j + 1) (0, 0)) (i32 (j + 1))
theorem cslopeU_len (xs : List (Nat × Nat)) (k : Nat) : (cslopeU xs k).length = k - 1 := by simp [cslopeU]
theorem slopeU_succ (xs : List (Nat × Nat)) (k : Nat) (h : 0 < k) : cslopeU xs (k + 1) = cslopeU xs k ++ [scF (xs.getD k (0, 0)) (i32 k)] := by
  obtain ⟨m, rfl⟩ : ∃ m, k = m + 1 := ⟨k - 1, by omega⟩
  unfold cslopeU
  rw [Nat.add_sub_cancel, Nat.add_sub_cancel, List.range_succ, List.map_append]
  rfl
def slopeC (xs : List (Nat × Nat)) : List (Nat × Nat) := if xs.length = 1 then [(0, 0)] else cslopeU xs xs.length

set_option maxHeartbeats 2000000 in
theorem slopeTerms_any (A : Option Addr) (n c : Nat) (xs : List (Nat × Nat)) (w : World) (h : CRd w w.heap.size A n c xs) (hn : 1 ≤ n) (hn' : n ≤ 1000) (hM : ∀ k, 0 < k → k < n → ScaleW (xs.getD k (0, 0)) (i32 k) (scF (xs.getD k (0, 0)) (i32 k))) :
    Calls Try.prog 75 #[.slice A n c] w fun e w' => ∃ A' n' c', e = .returned (.slice A' n' c') ∧ CRd w' w'.heap.size A' n' c' (slopeC xs) ∧ Below w.heap.size w w' := by
  have hlen := Lib.hid h.len
  have HR := Lib.hid h
  have HM := Lib.hid hM
  clear h hM
  go_enter Try.func75, Try.ntmps75
  go_wp2_with fail
  have hO0 : COwn (w.alloc (.cells #[] 34)) w.heap.size (some ⟨w.heap.size, 0, none⟩) (0 - 1) 0 (cslopeU xs 0) := cown_empty w
  have hB0 : Below w.heap.size w (w.alloc (.cells #[] 34)) := al1 w _
  go_loopg [3, 9] n (fun g s3 s9 wr => ∃ (k m : Nat) (An : Option Addr) (cn : Nat), k ≤ n ∧ n - k ≤ g ∧ m = k - 1 ∧ s9 = .int .i64 k ∧ s3 = .slice An m cn ∧ COwn wr w.heap.size An m cn (cslopeU xs k) ∧ Below w.heap.size w wr)
  case atStart => exact ⟨0, 0, _, _, by omega, by omega, rfl, rfl, rfl, hO0, hB0⟩
  case round =>
    clear hO0 hB0
    obtain ⟨k, m, An, cn, hk, hg, hm, rfl, rfl, ho, hb⟩ := hrel
    have HMm := Lib.hid hm
    clear hm
    by_cases hlt : k < n
    · have hltz : (k : Int) < (n : Int) := by omega
      obtain ⟨b, o, rfl, hbl, hcz⟩ := HR.out.at_ (by omega)
      have hx := (hb.cell (p := ⟨b, o + k, none⟩) hbl).trans (hcz k hlt)
      have hbsz := hb.size
      unfold cx at hx
      clear hcz
      by_cases h0 : k = 0
      · subst h0
        have hm0 : m = 0 := HMm.out
        subst hm0
        have HO := Lib.hid ho
        have HB := Lib.hid hb
        clear ho hb
        rw [Nat.add_zero] at hx
        go_wp2_with fail
        go_roundg (n - 1)
        case measure => omega
        case rel => exact ⟨1, 0, _, _, by omega, by omega, rfl, by go_num, rfl, HO.out, HB.out⟩
      · have hpos : (0 : Int) < (k : Int) := by omega
        have HX := Lib.hid (slopeU_succ xs k (by omega))
        have HS := Lib.hid (fun W => scale_any _ _ _ W (HM.out k (by omega) hlt))
        have e3 := run_i32 k
        have hmn : m ≤ n := by have := HMm.out; omega
        generalize scF (xs.getD k (0, 0)) (i32 k) = y at HX HS
        generalize xs.getD k (0, 0) = x at hx HS
        generalize cslopeU xs k = L at HX ho
        go_wp2_with (first
          | rw [e3]
          | (go_at_call 74; refine (HS.out _).mono ?_; rintro e w5 ⟨rfl, rfl⟩)
          | (at_builtin; go_must (refine wpList_append_crd rfl _ _ rfl w.heap.size An m cn L rfl (ho.alloc _) _ _ _ _ _ rfl (crd_lit wr [y] 34 1 rfl (by simp [maxLen])) (by omega) (by simp; omega) ?_); intro A2 c2 w6 ho2 hg2; have HB := Lib.hid (cbgrown (hb.alloc hb.size _) (ho.alloc _) (by omega) hg2); have HO2 := Lib.hid ho2; clear ho2 hg2 ho hb))
        go_roundg (n - (k + 1))
        case measure => omega
        case rel =>
          have hmm := HMm.out
          exact ⟨k + 1, m + 1, A2, c2, by omega, by omega, by omega, by go_num, rfl, by rw [HX.out]; exact HO2.out, HB.out⟩
    · have hltz : ¬ (k : Int) < (n : Int) := by omega
      obtain rfl : k = n := by omega
      have HO := Lib.hid (COwn.rd ho)
      have HB := Lib.hid hb
      clear ho hb
      by_cases h1 : k = 1
      · subst h1
        have hm0 : m = 0 := HMm.out
        subst hm0
        have hsl : Hid (slopeC xs = [(0, 0)]) := by
          show slopeC xs = _
          unfold slopeC
          rw [if_pos hlen.out]
        go_wp2_with fail
        go_ret
        refine ⟨_, _, _, rfl, ?_, bthen HB.out (al1 wr _)⟩
        rw [hsl.out]
        exact crd_lit wr [(0, 0)] 34 1 rfl (by simp [maxLen])
      · have hmp : Hid (m = k - 1) := HMm
        have hne : ((m : Int) == 0) = false := by have := HMm.out; simp; omega
        have hsl : Hid (slopeC xs = cslopeU xs k) := by
          show slopeC xs = _
          unfold slopeC
          rw [hlen.out, if_neg h1]
        go_wp2_with fail
        go_ret
        exact ⟨_, _, _, rfl, by rw [hsl.out]; exact HO.out, HB.out⟩

set_option maxHeartbeats 2000000 in
theorem slopePoly_any (A : Option Addr) (n c : Nat) (xs : List (Nat × Nat)) (w : World) (h : CRd w w.heap.size A n c xs) (hv : Valid xs) (hM : ∀ k, 0 < k → k < n → ScaleW (xs.getD k (0, 0)) (i32 k) (scF (xs.getD k (0, 0)) (i32 k))) (hv2 : Valid (trimC (slopeC xs))) :
    Calls Try.prog 39 #[.agg #[.slice A n c]] w fun e w' => ∃ A' n' c', e = .returned (.tuple #[.agg #[.slice A' n' c'], .bool true]) ∧ CRd w' w'.heap.size A' n' c' (trimC (slopeC xs)) ∧ Below w.heap.size w w' := by
  have hn : 1 ≤ n := by have := hv.one; rwa [h.len] at this
  have hn17 : n ≤ 17 := by have := hv.most; rwa [h.len] at this
  have HR := Lib.hid h
  have HV := Lib.hid hv
  have HM := Lib.hid hM
  have HV2 := Lib.hid hv2
  have hln := Lib.hid h.len
  clear h hv hM hv2
  go_enter Try.func39, Try.ntmps39
  go_wp2_with fail
  refine (valid_any A n c xs _ (HR.out.in_' (al2 w _ _)) HV.out).mono ?_
  rintro e w1 ⟨rfl, b1⟩
  have KP1 := Lib.hid (Blk.kept (Blk.alloc (Blk.new w 28 #[.slice A n c]) _) b1)
  have KR1 : Hid (Blk w1 (w.heap.size + 1) 28 #[.slice none 0 0]) := Blk.kept (Blk.new_at (w.alloc _) _ _ (by simp)) b1
  have cp1 := KP1.out.cell0
  have lp1 := World.block_lt_of_cell? _ _ cp1
  have B1 := Lib.hid (bthen (al2 w _ _) b1)
  clear b1
  go_wp2_with fail
  refine (slopeTerms_any A n c xs _ (HR.out.in_' B1.out) hn (by omega) HM.out).mono ?_
  rintro e w3 ⟨A3, n3, c3, rfl, m3, b3⟩
  have KR3 := Lib.hid (Blk.kept KR1.out b3)
  have R3 := Lib.hid m3
  have B3 := Lib.hid (bthen B1.out b3)
  have hn3 : 1 ≤ n3 := by
    have h1 := m3.len
    have h2 := hln.out
    unfold slopeC at h1
    split at h1
    · simp at h1; omega
    · rw [cslopeU_len] at h1; omega
  clear m3 b3 cp1 lp1
  go_wp2_with fail
  refine (polyOf_any A3 n3 c3 (slopeC xs) _ R3.out (by omega) HV2.out).mono ?_
  rintro e w4 ⟨rfl, r4, b4⟩
  have KR4 := Lib.hid (Blk.kept KR3.out b4)
  have R4 := Lib.hid r4
  have B4 := Lib.hid (bthen B3.out b4)
  clear b4 r4
  have c4 := KR4.out.cell0
  have f4 := KR4.out.frozen0
  go_wp2_with fail
  refine bodyPost_ret (v := .tuple #[.agg #[.slice A3 (trimN (slopeC xs) n3) (trimN (slopeC xs) n3)], .bool true]) (by simp [results, Try.results39, go_sem, c4]) rfl ⟨_, _, _, rfl, ?_, ?_⟩
  · have h9 := R4.out.set_other c4 (by intro p e; unfold cx at e; cases e) (.slice A3 (trimN (slopeC xs) n3) (trimN (slopeC xs) n3))
    simpa using h9
  · exact B4.out.setCell (by simp) _

def riseC (n : Nat) (xs : List (Nat × Nat)) : List (Nat × Nat) := (0, 0) :: mapW n xs fun k x => scF x (quoF 1065353216 (i32 (k + 1)))
theorem rise_take (n : Nat) (xs : List (Nat × Nat)) (k : Nat) (h : k < n) : (riseC n xs).take (k + 2) = (riseC n xs).take (k + 1) ++ [scF (xs.getD k (0, 0)) (quoF 1065353216 (i32 (k + 1)))] := by
  unfold riseC
  rw [List.take_succ_cons, List.take_succ_cons, mapW_take _ _ _ _ h]
  rfl
theorem rise_len (n : Nat) (xs : List (Nat × Nat)) : (riseC n xs).length = n + 1 := by simp [riseC, mapW_len]
set_option maxHeartbeats 2000000 in
theorem rise_any (A : Option Addr) (n c : Nat) (xs : List (Nat × Nat)) (w : World) (h : CRd w w.heap.size A n c xs) (hv : Valid xs) (hQ : ∀ k, k < n → floatBits .quo .f32 1065353216 (i32 (k + 1)) = some (quoF 1065353216 (i32 (k + 1))) ∧ ScaleW (xs.getD k (0, 0)) (quoF 1065353216 (i32 (k + 1))) (scF (xs.getD k (0, 0)) (quoF 1065353216 (i32 (k + 1))))) (hv2 : Valid (trimC (riseC n xs))) :
    Calls Try.prog 38 #[.agg #[.slice A n c]] w fun e w' => ∃ A' n' c', e = .returned (.tuple #[.agg #[.slice A' n' c'], .bool true]) ∧ CRd w' w'.heap.size A' n' c' (trimC (riseC n xs)) ∧ Below w.heap.size w w' := by
  have hn : 1 ≤ n := by have := hv.one; rwa [h.len] at this
  have hn17 : n ≤ 17 := by have := hv.most; rwa [h.len] at this
  have HR := Lib.hid h
  have HV := Lib.hid hv
  have HQ := Lib.hid hQ
  have HV2 := Lib.hid hv2
  clear h hv hQ hv2
  go_enter Try.func38, Try.ntmps38
  go_wp2_with fail
  refine (valid_any A n c xs _ (HR.out.in_' (al2 w _ _)) HV.out).mono ?_
  rintro e w1 ⟨rfl, b1⟩
  have KP1 := Lib.hid (Blk.kept (Blk.alloc (Blk.new w 28 #[.slice A n c]) _) b1)
  have KR1 : Hid (Blk w1 (w.heap.size + 1) 28 #[.slice none 0 0]) := Blk.kept (Blk.new_at (w.alloc _) _ _ (by simp)) b1
  have cp1 := KP1.out.cell0
  have lp1 := World.block_lt_of_cell? _ _ cp1
  have B1 := Lib.hid (bthen (al2 w _ _) b1)
  clear b1
  go_wp2_with fail
  have hO0 : COwn (w1.alloc (.cells #[.complex .f32 0 0] 34)) w1.heap.size (some ⟨w1.heap.size, 0, none⟩) 1 1 ((riseC n xs).take 1) := cown_lit w1 [(0, 0)] 1 rfl (by simp [maxLen])
  have hB0 : Below w1.heap.size w1 (w1.alloc (.cells #[.complex .f32 0 0] 34)) := al1 w1 _
  have cq1 : ∀ o, (w1.alloc o).cell? ⟨w.heap.size, 0, none⟩ = some (.slice A n c) := fun o => cell_kept (al1 w1 o) cp1
  go_wp2_with fail
  clear cq1
  go_loopg [4, 15] n (fun g s4 s15 wr => ∃ (k : Nat) (An : Option Addr) (cn : Nat), k ≤ n ∧ n - k ≤ g ∧ s15 = .int .i64 k ∧ s4 = .slice An (k + 1) cn ∧ COwn wr w1.heap.size An (k + 1) cn ((riseC n xs).take (k + 1)) ∧ Below w1.heap.size w1 wr)
  case atStart => exact ⟨0, _, _, by omega, by omega, rfl, rfl, hO0, hB0⟩
  case round =>
    clear hO0 hB0
    obtain ⟨k, An, cn, hk, hg, rfl, rfl, ho, hb⟩ := hrel
    by_cases hlt : k < n
    · have hltz : (k : Int) < (n : Int) := by omega
      obtain ⟨b, o, rfl, hbl, hcz⟩ := HR.out.at_ (by omega)
      have hx := ((bthen B1.out hb).cell (p := ⟨b, o + k, none⟩) hbl).trans (hcz k hlt)
      have hbsz := hb.size
      unfold cx at hx
      clear hcz
      obtain ⟨k1, hk1⟩ : ∃ k1 : Nat, k1 = k + 1 := ⟨_, rfl⟩
      have hkk : (k : Int) + 1 = (k1 : Int) := by omega
      have hQk := HQ.out k hlt
      rw [← hk1] at hQk
      have HX : Hid ((riseC n xs).take (k + 2) = (riseC n xs).take (k + 1) ++ [scF (xs.getD k (0, 0)) (quoF 1065353216 (i32 k1))]) := by rw [hk1]; exact rise_take n xs k hlt
      have e3 := run_i32 k1
      have e4 := runOp 31 hQk.1
      have HS := Lib.hid (fun W => scale_any _ _ _ W hQk.2)
      have hk1b : k1 ≤ 1000 := by omega
      generalize scF (xs.getD k (0, 0)) (quoF 1065353216 (i32 k1)) = y at HX HS
      generalize xs.getD k (0, 0) = x at hx HS
      generalize quoF 1065353216 (i32 k1) = q at e4 HS
      generalize (riseC n xs).take (k + 1) = L at HX ho
      clear hQk hk1
      go_wp2_with (first
        | rw [e3]
        | rw [e4]
        | (go_at_call 74; refine (HS.out _).mono ?_; rintro e w5 ⟨rfl, rfl⟩)
        | (at_builtin; go_must (refine wpList_append_crd rfl _ _ rfl w1.heap.size An (k + 1) cn L rfl (ho.alloc _) _ _ _ _ _ rfl (crd_lit wr [y] 34 1 rfl (by simp [maxLen])) (by omega) (by simp; omega) ?_); intro A2 c2 w6 ho2 hg2; have HB := Lib.hid (cbgrown (hb.alloc hb.size _) (ho.alloc _) (by omega) hg2); have HO2 := Lib.hid ho2; clear ho2 hg2 ho hb))
      go_roundg (n - (k + 1))
      case measure => omega
      case rel => exact ⟨k + 1, A2, c2, by omega, by omega, by go_num, rfl, by rw [HX.out]; exact HO2.out, HB.out⟩
    · have hltz : ¬ (k : Int) < (n : Int) := by omega
      obtain rfl : k = n := by omega
      have e2 : (riseC k xs).take (k + 1) = riseC k xs := List.take_of_length_le (by rw [rise_len]; exact Nat.le_refl _)
      rw [e2] at ho
      have R3 := Lib.hid (COwn.rd ho)
      have B3 := Lib.hid (bthen B1.out hb)
      have KR3 := Lib.hid (Blk.kept KR1.out hb)
      clear e2 ho hb
      go_wp2_with fail

      refine (polyOf_any An (k + 1) cn (riseC k xs) _ R3.out (by omega) HV2.out).mono ?_
      rintro e w4 ⟨rfl, r4, b4⟩
      have KR4 := Lib.hid (Blk.kept KR3.out b4)
      have R4 := Lib.hid r4
      have B4 := Lib.hid (bthen B3.out b4)
      clear b4 r4
      have c4 := KR4.out.cell0
      have f4 := KR4.out.frozen0
      go_wp2_with fail
      refine bodyPost_ret (v := .tuple #[.agg #[.slice An (trimN (riseC k xs) (k + 1)) (trimN (riseC k xs) (k + 1))], .bool true]) (by simp [results, Try.results38, go_sem, c4]) rfl ⟨_, _, _, rfl, ?_, ?_⟩
      · have h9 := R4.out.set_other c4 (by intro p e; unfold cx at e; cases e) (.slice An (trimN (riseC k xs) (k + 1)) (trimN (riseC k xs) (k + 1)))
        simpa using h9
      · exact B4.out.setCell (by simp) _


end Go.Proofs.Ytfbekiphlaaieaa
