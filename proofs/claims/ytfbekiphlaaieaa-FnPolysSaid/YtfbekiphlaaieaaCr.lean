/- Contracts of r8Size, RootsWithin and BoundAt. Condition: nothing is left open by the words. -/
import Derived.Test.YtfbekiphlaaieaaCq
namespace Go.Proofs.Ytfbekiphlaaieaa
open Go.RowKit

/-- 'r8Size' -/
structure SizeW (xs : List (Nat × Nat)) (z : Nat × Nat) (l1 w pm ss : Nat → Nat) (lz x : Nat) : Prop where
  hz : Long1W z lz
  hx : cv64 lz = some x
  start : ss xs.length = 0
  long : ∀ k, k < xs.length → Long1W (xs.getD k (0, 0)) (l1 k)
  wide : ∀ k, k < xs.length → cv64 (l1 k) = some (w k)
  mul : ∀ k, k < xs.length → floatBits .mul .f64 (ss (k + 1)) x = some (pm k)
  add : ∀ k, k < xs.length → floatBits .add .f64 (pm k) (w k) = some (ss k)

set_option maxHeartbeats 1000000 in
theorem size_any (A : Option Addr) (n c : Nat) (xs : List (Nat × Nat)) (z : Nat × Nat) (l1 ww pm ss : Nat → Nat) (lz x : Nat) (w : World) (h : CRd w w.heap.size A n c xs) (hn : 1 ≤ n) (hS : SizeW xs z l1 ww pm ss lz x) :
    Calls Try.prog 13 #[.agg #[.slice A n c], .complex .f32 z.1 z.2] w fun e w' => e = .returned (.float .f64 (ss 0)) ∧ Below w.heap.size w w' := by
  obtain ⟨s1, s2, s3, s4, s5, s6, s7⟩ := hS
  rw [h.len] at s3 s4 s5 s6 s7
  have hmax : n ≤ 9223372036854775807 := by have h1 := h.cap; have h2 := h.most; unfold maxLen at h2; omega
  have L1 := Lib.hid (fun W => long1_any z lz W s1)
  have e1 := run64 s2
  have H4 := Lib.hid s4
  have H5 := Lib.hid s5
  have H6 := Lib.hid s6
  have H7 := Lib.hid s7
  have H3 := Lib.hid s3
  obtain ⟨b, o, rfl, hbl, hc⟩ := h.at_ (by omega)
  have HC := Lib.hid hc
  have kp : ∀ t, (w.alloc (.cells #[.slice (some ⟨b, o, none⟩) n c] t)).cell? ⟨w.heap.size, 0, none⟩ = some (.slice (some ⟨b, o, none⟩) n c) := by intros; simp [go_sem]
  clear s1 s2 s3 s4 s5 s6 s7 h hc
  go_enter Try.func13, Try.ntmps13
  go_wp2_with (first | (go_at_call 40; refine (L1.out _).mono ?_; rintro e w' ⟨rfl, rfl⟩) | rw [e1])
  have hkeep : ∀ t, ∀ j, j < n → (w.alloc (.cells #[.slice (some ⟨b, o, none⟩) n c] t)).cell? ⟨b, o + j, none⟩ = some (cx (xs.getD j (0, 0))) := fun t j hj => ((al1 w _).cell hbl).trans (HC.out j hj)
  have HK := Lib.hid hkeep
  clear hkeep
  go_loopg [6, 7] (n + 1) (fun g s6 s7 wr => ∃ k : Nat, k ≤ n ∧ k + 1 ≤ g ∧ s7 = .int .i64 ((k : Int) - 1) ∧ s6 = .float .f64 (ss k) ∧ wr = w.alloc (.cells #[.slice (some ⟨b, o, none⟩) n c] 28))
  case atStart => exact ⟨n, by omega, by omega, by go_num, by rw [H3.out], rfl⟩
  case round =>
    obtain ⟨k, hk, hg, rfl, rfl, rfl⟩ := hrel
    by_cases h0 : k = 0
    · subst h0
      have hneg : ¬ (0 : Int) ≤ ((0 : Nat) : Int) - 1 := by omega
      go_wp2
      go_ret
      exact ⟨rfl, al1 w _⟩
    · obtain ⟨m, rfl⟩ : ∃ m, k = m + 1 := ⟨k - 1, by omega⟩
      have hidx : ((m + 1 : Nat) : Int) - 1 = (m : Int) := by omega
      rw [hidx]
      have hpos : (0 : Int) ≤ (m : Int) := by omega
      have hlt : (m : Int) < (n : Int) := by omega
      have hcm := HK.out 28 m (by omega)
      have L2 := Lib.hid (fun W => long1_any (xs.getD m (0, 0)) (l1 m) W (H4.out m (by omega)))
      have e5 := run64 (H5.out m (by omega))
      have e6 := runOp 35 (H6.out m (by omega))
      have e7 := runOp 35 (H7.out m (by omega))
      unfold cx at hcm
      generalize xs.getD m (0, 0) = y at hcm L2
      go_wp2_with (first | (go_at_call 40; refine (L2.out _).mono ?_; rintro e w' ⟨rfl, rfl⟩) | rw [e5] | rw [e6] | rw [e7])
      go_roundg (m + 1)
      case measure => omega
      case rel => exact ⟨m, by omega, by omega, by go_num, rfl, rfl⟩

/-- 'RootsWithin': ls k the k-th size, qs k its quotient, mo k the greatest of those before k. -/
structure WithinW (xs : List (Nat × Nat)) (ls qs mo : Nat → Nat) (L r : Nat) : Prop where
  lead : LongW (xs.getD (xs.length - 1) (0, 0)) L
  long : ∀ k, k + 1 < xs.length → LongW (xs.getD k (0, 0)) (ls k)
  quo : ∀ k, k + 1 < xs.length → floatBits .quo .f32 (ls k) L = some (qs k)
  num : ∀ k, k + 1 < xs.length → Num .f32 (qs k)
  start : mo 0 = 0
  next : ∀ k, k + 1 < xs.length → mo (k + 1) = if k = 0 ∨ (FloatKind.f32.format.order (qs k) (mo k) == some .gt) = true then qs k else mo k
  last : floatBits .add .f32 1065353216 (mo (xs.length - 1)) = some r
  fin : Num .f32 r
theorem num_eq {k : FloatKind} {x : Nat} (h : Num k x) : (k.format.order x x != some .eq) = false ∧ (k.format.order x x == some .eq) = true := by
  obtain ⟨q, hq⟩ := h
  rw [order_val hq hq]
  have : ¬ q < q := by grind
  simp [this]

set_option maxHeartbeats 2000000 in
theorem within_any (A : Option Addr) (n c : Nat) (xs : List (Nat × Nat)) (ls qs mo : Nat → Nat) (L r : Nat) (w : World) (h : CRd w w.heap.size A n c xs) (hv : Valid xs) (hn : 2 ≤ n) (hW : WithinW xs ls qs mo L r) :
    Calls Try.prog 10 #[.agg #[.slice A n c]] w fun e w' => e = .returned (.tuple #[.float .f32 r, .bool true]) ∧ Below w.heap.size w w' := by
  have hlen := h.len
  obtain ⟨s1, s2, s3, s4, s5, s6, s7, s8⟩ := hW
  rw [hlen] at s1 s2 s3 s4 s6 s7
  have hmax : n ≤ 17 := by have := hv.most; omega
  have hcap := h.cap
  have hz2 : ¬ (n : Int) < 2 := by omega
  have HV := Lib.hid hv
  have HR := Lib.hid h
  have H1 := Lib.hid (fun W => long_any _ L W s1)
  have H2 := Lib.hid s2
  have H3 := Lib.hid s3
  have H4 := Lib.hid s4
  have H5 := Lib.hid s5
  have H6 := Lib.hid s6
  have e7 := runOp 31 s7
  have H8 := Lib.hid s8
  obtain ⟨b, o, rfl, hbl, hc⟩ := h.at_ (by omega)
  have HC := Lib.hid hc
  clear s1 s2 s3 s4 s5 s6 s7 s8 h hc hv hlen
  go_enter Try.func10, Try.ntmps10
  go_wp2_with fail
  refine (valid_any _ n c xs _ (HR.out.in_' (al1 w _)) HV.out).mono ?_
  rintro e w1 ⟨rfl, b1⟩
  have kp := cell_kept (b := w.heap.size) (o := 0) (v := .slice (some ⟨b, o, none⟩) n c) b1 (by simp [go_sem])
  have B1 := Lib.hid (bthen (al1 w _) b1)
  clear b1
  obtain ⟨m, rfl⟩ : ∃ m, n = m + 1 := ⟨n - 1, by omega⟩
  have hm1 : ((m + 1 : Nat) : Int) - 1 = (m : Int) := by omega
  have hle1 : (0 : Int) ≤ (m : Int) := by omega
  have hle2 : (m : Int) ≤ (c : Int) := by omega
  go_wp2_with fail
  go_loopg [5, 27] m (fun g s5 s27 wr => ∃ k q : Nat, k ≤ m ∧ m - k ≤ g ∧ s27 = .int .i64 k ∧ s5 = .float .f32 (mo k) ∧ wr = w1.drewN q)
  case atStart => exact ⟨0, 0, by omega, by omega, rfl, by rw [H5.out], rfl⟩
  case round =>
    obtain ⟨k, q, hk, hg, rfl, rfl, hwr⟩ := hrel
    have hcell : ∀ a, wr.cell? a = w1.cell? a := by intro a; rw [hwr]; rfl
    have hbx := (hcell _).trans kp
    have HW := Lib.hid hwr
    clear hwr
    by_cases hlt : k < m
    · have hltz : (k : Int) < (m : Int) := by omega
      have hltz2 : (k : Int) < ((m + 1 : Nat) : Int) := by omega
      have hltm : (m : Int) < ((m + 1 : Nat) : Int) := by omega
      have hck := ((hcell _).trans (B1.out.cell (p := ⟨b, o + k, none⟩) hbl)).trans (HC.out k (by omega))
      have hcm := ((hcell _).trans (B1.out.cell (p := ⟨b, o + m, none⟩) hbl)).trans (HC.out m (by omega))
      have L2 := Lib.hid (fun W => long_any (xs.getD k (0, 0)) (ls k) W (H2.out k (by omega)))
      have L1 := Lib.hid H1.out
      have e3 := runOp 31 (H3.out k (by omega))
      have hnq := num_eq (H4.out k (by omega))
      have hmo := H6.out k (by omega)
      have em : m + 1 - 1 = m := by omega
      rw [em] at L1
      unfold cx at hck hcm
      generalize xs.getD k (0, 0) = y at hck L2
      generalize xs.getD m (0, 0) = y' at hcm L1
      clear hcell
      go_wp2_with fail
      go_quiet (first
        | (go_at_call_of 15 (Value.complex .f32 y.1 y.2); exact Calls.quiet_of_same ((L2.out _).mono (fun _ _ h => ⟨h.1, h.2.symm⟩)))
        | (go_at_call_of 15 (Value.complex .f32 y'.1 y'.2); exact Calls.quiet_of_same ((L1.out _).mono (fun _ _ h => ⟨h.1, h.2.symm⟩))))
      clear e3
      have hne := hnq.1
      by_cases h0 : k = 0
      · subst h0
        have hm0 : mo 1 = qs 0 := by rw [hmo]; simp
        have HM := Lib.hid hm0
        clear hmo hm0
        go_wp2_with fail
        go_roundg (m - 1)
        case measure => omega
        case rel => exact ⟨1, q + nq, by omega, by omega, by go_num, by rw [HM.out], by rw [HW.out, World.drewN_drewN]⟩
      · have hk0 : ((k : Int) == 0) = false := by simp; omega
        generalize hgt : (FloatKind.f32.format.order (qs k) (mo k) == some .gt) = gt at hmo
        have HM : Hid (mo (k + 1) = if gt = true then qs k else mo k) := by
          show mo (k + 1) = _
          rw [hmo]
          simp [h0]
        clear hmo
        cases gt
        · go_wp2_with fail
          go_roundg (m - (k + 1))
          case measure => omega
          case rel => exact ⟨k + 1, q + nq, by omega, by omega, by go_num, by rw [HM.out]; rfl, by rw [HW.out, World.drewN_drewN]⟩
        · go_wp2_with fail
          go_roundg (m - (k + 1))
          case measure => omega
          case rel => exact ⟨k + 1, q + nq, by omega, by omega, by go_num, by rw [HM.out]; rfl, by rw [HW.out, World.drewN_drewN]⟩
    · have hltz : ¬ (k : Int) < (m : Int) := by omega
      obtain rfl : k = m := by omega
      have em : k + 1 - 1 = k := by omega
      rw [em] at e7
      go_wp2_with (first | rw [e7] | (go_at_call 53; refine (checked_any r _ H8.out).mono ?_; rintro e w' ⟨rfl, rfl⟩))
      exact bodyPost_ret (v := .tuple #[.float .f32 r, .bool true]) (by simp [results, Try.results10, go_sem]) rfl ⟨rfl, by rw [HW.out]; exact drewN_below B1.out q⟩

/-- 'BoundAt' -/
structure BoundW (xs : List (Nat × Nat)) (z : Nat × Nat) (vs ms : Nat → Nat × Nat) (lv fm es : Nat → Nat) (lz a b d r : Nat) : Prop where
  horner : Horner xs z vs ms
  hz : LongW z lz
  long : ∀ k, k < xs.length → LongW (vs k) (lv k)
  start : floatBits .mul .f32 1056964608 (lv (xs.length - 1)) = some (es (xs.length - 1))
  mul : ∀ k, k + 1 < xs.length → floatBits .mul .f32 lz (es (k + 1)) = some (fm k)
  add : ∀ k, k + 1 < xs.length → floatBits .add .f32 (fm k) (lv k) = some (es k)
  eight : floatBits .mul .f32 1090519040 (es 0) = some a
  four : floatBits .mul .f32 1082130432 (lv 0) = some b
  sub : floatBits .sub .f32 a b = some d
  last : floatBits .mul .f32 d 872415232 = some r
  fin : Num .f32 r

set_option maxHeartbeats 2000000 in
theorem bound_any (A : Option Addr) (n c : Nat) (xs : List (Nat × Nat)) (z : Nat × Nat) (vs ms : Nat → Nat × Nat) (lv fm es : Nat → Nat) (lz a1 b1 d1 r : Nat) (w : World) (h : CRd w w.heap.size A n c xs) (hv : Valid xs) (hz : NumC z) (hB : BoundW xs z vs ms lv fm es lz a1 b1 d1 r) :
    Calls Try.prog 12 #[.agg #[.slice A n c], .complex .f32 z.1 z.2] w fun e w' => e = .returned (.tuple #[.float .f32 r, .bool true]) ∧ Below w.heap.size w w' := by
  have hlen := h.len
  obtain ⟨⟨s1, s2, s3⟩, s4, s5, s6, s7, s8, s9, s10, s11, s12, s13⟩ := hB
  rw [hlen] at s1 s2 s3 s5 s6 s7 s8
  have hmax : n ≤ 17 := by have := hv.most; omega
  have hn : 1 ≤ n := by have := hv.one; omega
  have hcap := h.cap
  have HV := Lib.hid hv
  have HR := Lib.hid h
  have HZ := Lib.hid hz
  have H2 := Lib.hid s2
  have H3 := Lib.hid s3
  have LZ := Lib.hid (fun W => long_any z lz W s4)
  have LV := Lib.hid s5
  have e6 := runOp 31 s6
  have H7 := Lib.hid s7
  have H8 := Lib.hid s8
  have e9 := runOp 31 s9
  have e10 := runOp 31 s10
  have e11 := runOp 31 s11
  have e12 := runOp 31 s12
  have H13 := Lib.hid s13
  obtain ⟨b, o, rfl, hbl, hc⟩ := h.at_ (by omega)
  have hl := hc (n - 1) (by omega)
  rw [← s1] at hl
  unfold cx at hl
  have HL := Lib.hid (fun W (hb : Below w.heap.size w W) => (hb.cell (p := ⟨b, o + (n - 1), none⟩) hbl).trans hl)
  have HC := Lib.hid hc
  clear s1 s2 s3 s4 s5 s6 s7 s8 s9 s10 s11 s12 s13 h hc hv hz hlen hl
  go_enter Try.func12, Try.ntmps12
  go_wp2_with fail
  refine (valid_any _ n c xs _ (HR.out.in_' (al1 w _)) HV.out).mono ?_
  rintro e w1 ⟨rfl, b1⟩
  have k1 := cell_kept (b := w.heap.size) (o := 0) (v := .slice (some ⟨b, o, none⟩) n c) b1 (by simp [go_sem])
  have l1 := World.block_lt_of_cell? _ _ k1
  have B1 := Lib.hid (bthen (al1 w _) b1)
  clear b1
  go_wp2_with fail
  refine (allFinite_any (some ⟨w1.heap.size, 0, none⟩) 1 1 [z] _ (crd_lit w1 [z] 34 1 rfl (by simp [maxLen])) ?_).mono ?_
  · intro j hj
    have : j = 0 := by simp at hj; omega
    subst this
    exact HZ.out
  rintro e w2 ⟨rfl, b2⟩
  have kp := cell_kept (b := w.heap.size) (o := 0) (v := .slice (some ⟨b, o, none⟩) n c) (bthen (al1 w1 _) b2) k1
  have B2 := Lib.hid (bthen B1.out (bthen (al1 w1 _) b2))
  have hl2 := HL.out w2 B2.out
  clear k1 l1 b2 B1
  obtain ⟨m, rfl⟩ : ∃ m, n = m + 1 := ⟨n - 1, by omega⟩
  have em : m + 1 - 1 = m := by omega
  rw [em] at hl2 e6
  have hm1 : ((m + 1 : Nat) : Int) - 1 = (m : Int) := by omega
  have hle1 : (0 : Int) ≤ (m : Int) := by omega
  have hltm : (m : Int) < ((m + 1 : Nat) : Int) := by omega
  have LM := Lib.hid (fun W => long_any (vs m) (lv m) W (LV.out m (by omega)))
  go_wp2_with (first | rw [e6] | (go_at_call 15; refine (LM.out _).mono ?_; rintro e w' ⟨rfl, rfl⟩))
  clear hl2 e6 LM
  go_loopg [7, 8, 9] (m + 1) (fun g s7 s8 s9 wr => ∃ k q : Nat, k ≤ m ∧ k + 1 ≤ g ∧ s9 = .int .i64 ((k : Int) - 1) ∧ s7 = .complex .f32 (vs k).1 (vs k).2 ∧ s8 = .float .f32 (es k) ∧ wr = w2.drewN q)
  case atStart => exact ⟨m, 0, by omega, by omega, by go_num, rfl, rfl, rfl⟩
  case round =>
    obtain ⟨k, q, hk, hg, rfl, rfl, rfl, hwr⟩ := hrel
    have hcell : ∀ a, wr.cell? a = w2.cell? a := by intro a; rw [hwr]; rfl
    have hbx := (hcell _).trans kp
    have HW := Lib.hid hwr
    clear hwr
    by_cases h0 : k = 0
    · subst h0
      have hneg : ¬ (0 : Int) ≤ ((0 : Nat) : Int) - 1 := by omega
      have L0 := Lib.hid (fun W => long_any (vs 0) (lv 0) W (LV.out 0 (by omega)))
      go_wp2_with (first | rw [e9] | rw [e10] | rw [e11] | rw [e12] | (go_at_call 15; refine (L0.out _).mono ?_; rintro e w' ⟨rfl, rfl⟩) | (go_at_call 53; refine (checked_any r _ H13.out).mono ?_; rintro e w' ⟨rfl, rfl⟩))
      exact bodyPost_ret (v := .tuple #[.float .f32 r, .bool true]) (by simp [results, Try.results12, go_sem]) rfl ⟨rfl, by rw [HW.out]; exact drewN_below B2.out q⟩
    · obtain ⟨j, rfl⟩ : ∃ j, k = j + 1 := ⟨k - 1, by omega⟩
      have hidx : ((j + 1 : Nat) : Int) - 1 = (j : Int) := by omega
      rw [hidx]
      have hpos : (0 : Int) ≤ (j : Int) := by omega
      have hlt : (j : Int) < ((m + 1 : Nat) : Int) := by omega
      have hcm := ((hcell _).trans (B2.out.cell (p := ⟨b, o + j, none⟩) hbl)).trans (HC.out j (by omega))
      have HM' := Lib.hid (fun W => mul_any (vs (j + 1)) z (ms j) W (H2.out j (by omega)))
      have HA' := Lib.hid (fun W => plus_any (ms j) (xs.getD j (0, 0)) (vs j) W (H3.out j (by omega)))
      have LJ := Lib.hid (fun W => long_any (vs j) (lv j) W (LV.out j (by omega)))
      have e7 := runOp 31 (H7.out j (by omega))
      have e8 := runOp 31 (H8.out j (by omega))
      unfold cx at hcm
      generalize xs.getD j (0, 0) = y at hcm HA'
      clear hcell
      go_wp2_with fail
      go_quiet (first
        | (go_at_call 50; exact Calls.quiet_of_same ((HM'.out _).mono (fun _ _ h => ⟨h.1, h.2.symm⟩)))
        | (go_at_call 56; exact Calls.quiet_of_same ((HA'.out _).mono (fun _ _ h => ⟨h.1, h.2.symm⟩))))
      go_wp2_with (first | rw [e7] | rw [e8] | (go_at_call_of 15 (Value.complex .f32 z.1 z.2); refine (LZ.out _).mono ?_; rintro e w' ⟨rfl, rfl⟩) | (go_at_call_of 15 (Value.complex .f32 (vs j).1 (vs j).2); refine (LJ.out _).mono ?_; rintro e w' ⟨rfl, rfl⟩))
      go_roundg (j + 1)
      case measure => omega
      case rel => exact ⟨j, q + nq, by omega, by omega, by go_num, rfl, rfl, by rw [HW.out, World.drewN_drewN]⟩
end Go.Proofs.Ytfbekiphlaaieaa
