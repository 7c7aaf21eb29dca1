/- Contracts of RootsBeyond, PolyPoints, PointsShared and DegreeOf. Condition: nothing is left open by the words; the polynomials are valid. -/
import Derived.Test.YtfbekiphlaaieaaCv
namespace Go.Proofs.Ytfbekiphlaaieaa
open Go.RowKit

theorem first_cell {w : World} {B b o n c : Nat} {xs : List (Nat × Nat)} (h : CRd w B (some ⟨b, o, none⟩) n c xs) (hn : 0 < n) : w.cell? ⟨b, o, none⟩ = some (cx (xs.getD 0 (0, 0))) := by
  obtain ⟨b', o', e, _, hc⟩ := h.at_ hn
  obtain ⟨rfl, rfl⟩ : b = b' ∧ o = o' := by simpa using e
  exact hc 0 hn

set_option maxHeartbeats 1000000 in
theorem beyond_zero (A : Option Addr) (n c : Nat) (xs : List (Nat × Nat)) (w : World) (h : CRd w w.heap.size A n c xs) (hv : Valid xs) (hz : isZ (xs.getD 0 (0, 0)) = true) :
    Calls Try.prog 16 #[.agg #[.slice A n c]] w fun e w' => e = .returned (.tuple #[.float .f32 0, .bool false]) ∧ Below w.heap.size w w' := by
  have hn : 1 ≤ n := by have := hv.one; rwa [h.len] at this
  have HR := Lib.hid h
  have HV := Lib.hid hv
  obtain ⟨b, o, rfl, hbl, _⟩ := h.at_ (by omega)
  have hf := first_cell h (by omega)
  have HF := Lib.hid (fun W (hb : Below w.heap.size w W) => (hb.cell (p := ⟨b, o, none⟩) hbl).trans hf)
  have h1 : (0 : Int) < (n : Int) := by omega
  unfold isZ at hz
  unfold cx at HF
  clear h hv hf
  generalize xs.getD 0 (0, 0) = y at hz HF
  go_enter Try.func16, Try.ntmps16
  go_wp2_with (go_at_call 52; refine (valid_any _ n c xs _ (HR.out.in_' (al1 w _)) HV.out).mono ?_; rintro e w' ⟨rfl, b1⟩; have cb := cell_kept (v := .slice (some ⟨b, o, none⟩) n c) (b := w.heap.size) (o := 0) b1 (by simp [go_sem]); have B1 := bthen (al1 w _) b1; have cl := HF.out _ B1; clear b1)
  exact bodyPost_ret (v := .tuple #[.float .f32 0, .bool false]) (by simp [results, Try.results16, go_sem]) rfl ⟨rfl, B1⟩

set_option maxHeartbeats 1000000 in
theorem beyond_any (A : Option Addr) (n c : Nat) (xs : List (Nat × Nat)) (ls qs mo : Nat → Nat) (L r0 r : Nat) (w : World) (h : CRd w w.heap.size A n c xs) (hv : Valid xs) (hz : isZ (xs.getD 0 (0, 0)) = false)
    (hv2 : Valid (trimC xs.reverse)) (h2 : 2 ≤ (trimC xs.reverse).length) (hW : WithinW (trimC xs.reverse) ls qs mo L r0) (hq : floatBits .quo .f32 1065353216 r0 = some r) (hr : Num .f32 r) :
    Calls Try.prog 16 #[.agg #[.slice A n c]] w fun e w' => e = .returned (.tuple #[.float .f32 r, .bool true]) ∧ Below w.heap.size w w' := by
  have hn : 1 ≤ n := by have := hv.one; rwa [h.len] at this
  have HR := Lib.hid h
  have HV := Lib.hid hv
  have HV2 := Lib.hid hv2
  have HW := Lib.hid hW
  have HQ := Lib.hid hr
  have H2 := Lib.hid h2
  have eq := runOp 31 hq
  obtain ⟨b, o, rfl, hbl, _⟩ := h.at_ (by omega)
  have hf := first_cell h (by omega)
  have HF := Lib.hid (fun W (hb : Below w.heap.size w W) => (hb.cell (p := ⟨b, o, none⟩) hbl).trans hf)
  have h1 : (0 : Int) < (n : Int) := by omega
  unfold isZ at hz
  unfold cx at HF
  clear h hv hf hv2 hW hq hr h2
  generalize xs.getD 0 (0, 0) = y at hz HF
  go_enter Try.func16, Try.ntmps16
  go_wp2_with (go_at_call 52; refine (valid_any _ n c xs _ (HR.out.in_' (al1 w _)) HV.out).mono ?_; rintro e w1 ⟨rfl, b1⟩; have cb := cell_kept (v := .slice (some ⟨b, o, none⟩) n c) (b := w.heap.size) (o := 0) b1 (by simp [go_sem]); have B1 := bthen (al1 w _) b1; have cl := HF.out _ B1; clear b1)
  refine (backPoly_any _ n c xs _ (HR.out.in_' B1) HV.out HV2.out).mono ?_
  rintro e w2 ⟨A2, n2, c2, rfl, r2, b2⟩
  have R2 := Lib.hid r2
  have B2 := Lib.hid (bthen B1 b2)
  clear b2 r2 cb cl B1
  go_wp2_with fail
  refine (within_any A2 n2 c2 _ ls qs mo L r0 _ (R2.out.in_' (al1 w2 _)) HV2.out (by have := R2.out.len; have := H2.out; omega) HW.out).mono ?_
  rintro e w3 ⟨rfl, b3⟩
  have B3 := Lib.hid (bthen B2.out (bthen (al1 w2 _) b3))
  clear b3
  go_wp2_with (first | rw [eq] | (go_at_call 53; refine (checked_any r _ HQ.out).mono ?_; rintro e w' ⟨rfl, rfl⟩))
  exact bodyPost_ret (v := .tuple #[.float .f32 r, .bool true]) (by simp [results, Try.results16, go_sem]) rfl ⟨rfl, B3.out⟩

theorem checkedList_any (A : Option Addr) (n c : Nat) (xs : List (Nat × Nat)) (w : World) (h : CRd w w.heap.size A n c xs) (hn : AllNum xs) :
    Calls Try.prog 60 #[.slice A n c] w fun e w' => e = .returned (.tuple #[.slice A n c, .bool true]) ∧ Below w.heap.size w w' := by
  have HR := Lib.hid h
  have HN := Lib.hid hn
  clear h hn
  go_enter Try.func60, Try.ntmps60
  go_wp2_with (go_at_call 47; refine (allFinite_any A n c xs _ HR.out HN.out).mono ?_; rintro e w' ⟨rfl, b⟩)
  exact bodyPost_ret (v := .tuple #[.slice A n c, .bool true]) (by simp [results, Try.results60, go_sem]) rfl ⟨rfl, b⟩
theorem workers_any (k : Int) (w : World) (h1 : 1 ≤ k) (h2 : k ≤ 8) :
    Calls Try.prog 61 #[.int .i64 k] w fun e w' => e = .returned (.bool true) ∧ w = w' := by
  have hw : ∀ W, Calls Try.prog 86 #[.int .i64 k, .int .i64 1, .int .i64 8] W fun e w' => e = .returned (.bool true) ∧ W = w' := by
    intro W
    go_enter Try.func86, Try.ntmps86
    go_wp2
    go_ret
    exact ⟨rfl, rfl⟩
  have HW := Lib.hid hw
  clear hw
  go_enter Try.func61, Try.ntmps61
  go_wp2_with (go_at_call 86; refine (HW.out _).mono ?_; rintro e w' ⟨rfl, rfl⟩)
  go_ret
  exact ⟨rfl, rfl⟩

set_option maxHeartbeats 1000000 in
theorem degree_any (A : Option Addr) (n c : Nat) (xs : List (Nat × Nat)) (w : World) (h : CRd w w.heap.size A n c xs) (hv : Valid xs) (h2 : 2 ≤ n) :
    Calls Try.prog 19 #[.agg #[.slice A n c]] w fun e w' => e = .returned (.tuple #[.int .i64 ((n : Int) - 1), .bool true]) ∧ Below w.heap.size w w' := by
  have hn17 : n ≤ 17 := by have := hv.most; rwa [h.len] at this
  have HR := Lib.hid h
  have HV := Lib.hid hv
  have hne : ((n : Int) == 1) = false := by simp; omega
  have hz : ∀ W, Calls Try.prog 62 #[.agg #[.slice A n c]] W fun e w' => e = .returned (.bool false) ∧ Below W.heap.size W w' := by
    intro W
    clear h hv HR HV
    go_enter Try.func62, Try.ntmps62
    go_wp2_with fail
    go_ret
    exact ⟨rfl, al1 W _⟩
  have HZ := Lib.hid hz
  clear h hv hz
  go_enter Try.func19, Try.ntmps19
  go_wp2_with fail
  refine (valid_any A n c xs _ (HR.out.in_' (al1 w _)) HV.out).mono ?_
  rintro e w1 ⟨rfl, b1⟩
  have kp := Blk.kept (Blk.new w 28 #[.slice A n c]) b1
  have cp := kp.cell0
  have KP := Lib.hid kp
  have B1 := Lib.hid (bthen (al1 w _) b1)
  clear b1 kp
  go_wp2_with fail
  refine (HZ.out _).mono ?_
  rintro e w2 ⟨rfl, b2⟩
  have cp2 := (Blk.kept KP.out b2).cell0
  have B2 := Lib.hid (bthen B1.out b2)
  clear b2 cp
  go_wp2_with fail
  exact bodyPost_ret (v := .tuple #[.int .i64 ((n : Int) - 1), .bool true]) (by simp [results, Try.results19, go_sem]) rfl ⟨rfl, B2.out⟩

set_option maxHeartbeats 2000000 in
theorem points_any (A : Option Addr) (n c : Nat) (xs : List (Nat × Nat)) (A1 : Option Addr) (m c1 : Nat) (zs os : List (Nat × Nat)) (vs ms : Nat → Nat → Nat × Nat) (w : World)
    (h : CRd w w.heap.size A n c xs) (h1 : CRd w w.heap.size A1 m c1 zs) (hv : Valid xs) (hm : m ≤ 256) (hz : AllNum zs) (ho : os.length = m) (hO : AllNum os) (hH : ∀ k, k < m → Horner xs (zs.getD k (0, 0)) (vs k) (ms k)) (hvs : ∀ k, k < m → vs k 0 = os.getD k (0, 0)) :
    Calls Try.prog 17 #[.agg #[.slice A n c], .slice A1 m c1] w fun e w' => ∃ A' c', e = .returned (.tuple #[.slice A' m c', .bool true]) ∧ CRd w' w'.heap.size A' m c' os ∧ Below w.heap.size w w' := by
  have hn : 1 ≤ n := by have := hv.one; rwa [h.len] at this
  have HR := Lib.hid h
  have HR1 := Lib.hid h1
  have HV := Lib.hid hv
  have HZ := Lib.hid hz
  have HO := Lib.hid hO
  have HH := Lib.hid hH
  have HS := Lib.hid hvs
  have HL := Lib.hid ho
  have hle : ¬ (256 : Int) < (m : Int) := by omega
  clear h h1 hv hz hO hH hvs ho
  go_enter Try.func17, Try.ntmps17
  go_wp2_with fail
  refine (valid_any A n c xs _ (HR.out.in_' (al1 w _)) HV.out).mono ?_
  rintro e w1 ⟨rfl, b1⟩
  have kp := Blk.kept (Blk.new w 28 #[.slice A n c]) b1
  have B1 := Lib.hid (bthen (al1 w _) b1)
  have KP1 := Lib.hid kp
  clear b1 kp
  go_wp2_with fail
  refine (allFinite_any A1 m c1 zs _ (HR1.out.in_' B1.out) HZ.out).mono ?_
  rintro e w2 ⟨rfl, b2⟩
  have kp2 := Blk.kept KP1.out b2
  have B2 := Lib.hid (bthen B1.out b2)
  have hsz : w.heap.size < w2.heap.size := kp2.lt
  have KP2 := Lib.hid kp2
  clear b2 kp2
  go_wp2_with fail
  have hO0 : COwn (w2.alloc (.cells #[] 34)) w2.heap.size (some ⟨w2.heap.size, 0, none⟩) 0 0 (os.take 0) := cown_empty w2
  have hB2 : Below w2.heap.size w2 (w2.alloc (.cells #[] 34)) := al1 w2 _
  go_loopg [6, 25] m (fun g s6 s25 wr => ∃ (k : Nat) (An : Option Addr) (cn : Nat), k ≤ m ∧ m - k ≤ g ∧ s25 = .int .i64 k ∧ s6 = .slice An k cn ∧ COwn wr w2.heap.size An k cn (os.take k) ∧ Below w2.heap.size w2 wr)
  case atStart => exact ⟨0, _, _, by omega, by omega, rfl, rfl, hO0, hB2⟩
  case round =>
    clear hO0 hB2
    obtain ⟨k, An, cn, hk, hg, rfl, rfl, ho, hb⟩ := hrel
    by_cases hlt : k < m
    · have hltz : (k : Int) < (m : Int) := by omega
      obtain ⟨b, o, rfl, hbl, hcz⟩ := HR1.out.at_ (by omega)
      have hx := ((bthen B2.out hb).cell (p := ⟨b, o + k, none⟩) hbl).trans (hcz k hlt)
      have hcb := (Blk.kept KP2.out hb).cell0
      have HX := Lib.hid (ctake_succ os k (by rw [HL.out]; exact hlt))
      have HRr := Lib.hid (HR.out.in_' (bthen B2.out hb))
      have HN := Lib.hid (fun W H => nested_any A n c xs (zs.getD k (0, 0)) (vs k) (ms k) W H hn (HH.out k hlt))
      have hS := HS.out k hlt
      rw [hS] at HN
      have hbsz := hb.size
      unfold cx at hx
      clear hcz hS
      generalize zs.getD k (0, 0) = z at hx HN
      generalize os.getD k (0, 0) = y at HN HX
      go_wp2_with (first
        | (go_at_call 55; refine (HN.out _ HRr.out).mono ?_; rintro e w5 ⟨rfl, q, rfl⟩)
        | (at_builtin; go_must (refine wpList_append_crd rfl _ _ rfl w2.heap.size An k cn (os.take k) rfl (COwn.alloc (COwn.drewN ho q) _) _ _ _ _ _ rfl (crd_lit (wr.drewN q) [y] 34 1 rfl (by simp [maxLen])) (by omega) (by simp; omega) ?_); intro A2 c2 w6 ho2 hg2; have HB := Lib.hid (cbgrown (Below.alloc (drewN_below hb q) (by simpa using hb.size) _) (COwn.alloc (COwn.drewN ho q) _) (by omega) hg2); have HO2 := Lib.hid ho2; clear ho2 hg2 ho hb))
      go_roundg (m - (k + 1))
      case measure => omega
      case rel => exact ⟨k + 1, A2, c2, by omega, by omega, by go_num, rfl, by rw [HX.out]; exact HO2.out, HB.out⟩
    · have hltz : ¬ (k : Int) < (m : Int) := by omega
      obtain rfl : k = m := by omega
      have e2 : os.take k = os := List.take_of_length_le (by rw [HL.out]; exact Nat.le_refl _)
      rw [e2] at ho
      have R3 := Lib.hid (COwn.rd ho)
      have B3 := Lib.hid (bthen B2.out hb)
      clear e2 ho hb
      go_wp2_with fail
      refine (checkedList_any An k cn os _ R3.out HO.out).mono ?_
      rintro e w4 ⟨rfl, b4⟩
      have R4 := Lib.hid (R3.out.in_' b4)
      have B4 := Lib.hid (bthen B3.out b4)
      clear b4
      go_wp2_with fail
      exact bodyPost_ret (v := .tuple #[.slice An k cn, .bool true]) (by simp [results, Try.results17, go_sem]) rfl ⟨_, _, rfl, R4.out, B4.out⟩
end Go.Proofs.Ytfbekiphlaaieaa
