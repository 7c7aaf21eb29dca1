/- Contracts of the reference's source of drawn numbers: next, pick, one, l02DrawSmall, R8Many. Condition: at most 48 bytes, and few numbers are drawn. -/
import Derived.Test.YtfbekiphlaaieaaCz
import Derived.Laws.Bits64b
namespace Go.Proofs.Ytfbekiphlaaieaa
open Go.RowKit

/-- The source: its bytes, the place, the seed. -/
def Src (w : World) (g : Nat) (A : Option Addr) (n c : Nat) (k : Nat) (sd : Int) : Prop := Blk w g 85 #[.slice A n c, .int .i64 k, .int .u64 sd]
def Bytes (n : Nat) (vs : Nat → Value) : Prop := ∀ j, j < n → ∃ v : Int, vs j = .int .u8 v ∧ 0 ≤ v ∧ v ≤ 255
theorem Blk.cell_at {w : World} {g j : Nat} {t : TypeId} {cs : Array Value} (h : Blk w g t cs) {v : Value} (hv : cs[j]? = some v) : w.cell? ⟨g, j, none⟩ = some v := by
  rw [cell_of_row w g j cs t (0, 0) h]
  exact hv
theorem Blk.frozen_at {w : World} {g j : Nat} {t : TypeId} {cs : Array Value} (h : Blk w g t cs) : w.frozen? ⟨g, j, none⟩ = false := frozen_of_row w g j cs t h
theorem Blk.set_at {w : World} {g j : Nat} {t : TypeId} {cs : Array Value} (h : Blk w g t cs) (v : Value) : Blk (w.setCell ⟨g, j, none⟩ v) g t (cs.setIfInBounds j v) := heap_setCell_same w g j cs _ _ h
theorem grown_set {w : World} (g j : Nat) (v : Value) : w.grownBy (w.setCell ⟨g, j, none⟩ v) (some g) := ⟨rfl, rfl, rfl, by simp, fun k _ hk => heap_setCell_other w ⟨g, j, none⟩ k v (fun e => hk (by simp [e]))⟩

theorem wrap_u64_bd (x : Int) : 0 ≤ IntKind.u64.wrap x ∧ IntKind.u64.wrap x < 18446744073709551616 := by
  have e : IntKind.u64.wrap x = x % 18446744073709551616 := rfl
  rw [e]
  omega
theorem and255_bd (x : Int) (h0 : 0 ≤ x) (h1 : x < 18446744073709551616) : 0 ≤ wrap64 (bits BinOp.and IntKind.u64 (x / 1099511627776) 255) ∧ wrap64 (bits BinOp.and IntKind.u64 (x / 1099511627776) 255) ≤ 255 := by
  obtain ⟨a, ha⟩ : ∃ a : Nat, x / 1099511627776 = (a : Int) := ⟨(x / 1099511627776).toNat, by omega⟩
  have hb : bits BinOp.and IntKind.u64 (a : Int) ((255 : Nat) : Int) = ((a &&& 255 : Nat) : Int) := bits_and_u64_nat a 255 (by omega) (by omega)
  have hle : a &&& 255 ≤ 255 := Nat.and_le_right
  rw [ha]
  have e : bits BinOp.and IntKind.u64 (a : Int) 255 = ((a &&& 255 : Nat) : Int) := hb
  rw [e]
  generalize a &&& 255 = y at hle
  have hw : wrap64 (y : Int) = (y : Int) := IntWalk.wrap64_in _ (by omega)
  rw [hw]
  omega
theorem grown_drewN {a b : World} {row : Option Nat} (h : a.grownBy b row) (n : Nat) : a.grownBy (b.drewN n) row := ⟨h.os, h.tape, h.output, h.size, h.block⟩
set_option maxHeartbeats 2000000 in
theorem next_any (g : Nat) (A : Option Addr) (n c k B : Nat) (sd : Int) (vs : Nat → Value) (w : World) (h : SRd w B A n c vs) (hn : n ≤ 48) (hv : Bytes n vs) (hs : Src w g A n c k sd) (hk : k ≤ 100000) :
    Calls Try.prog 89 #[.pointer (some ⟨g, 0, none⟩)] w fun e w' => ∃ (v sd' : Int), e = .returned (.int .i64 v) ∧ 0 ≤ v ∧ v ≤ 255 ∧ Src w' g A n c (k + 1) sd' ∧ (0 ≤ sd' ∧ sd' < 18446744073709551616) ∧ w.grownBy w' (some g) := by
  have c0 := Blk.cell_at (j := 0) hs rfl
  have c1 := Blk.cell_at (j := 1) hs rfl
  have c2 := Blk.cell_at (j := 2) hs rfl
  have f1 : w.frozen? ⟨g, 1, none⟩ = false := Blk.frozen_at hs
  have f2 : w.frozen? ⟨g, 2, none⟩ = false := Blk.frozen_at hs
  have HS := Lib.hid hs
  by_cases hlt : k < n
  · have hltz : (k : Int) < (n : Int) := by omega
    have hle : (k : Int) + 1 ≤ (n : Int) := by omega
    obtain ⟨b, o, rfl, hbl, hc⟩ := h.at_ (by omega)
    obtain ⟨v, hvk, hv0, hv1⟩ := hv k hlt
    have hx := hc k hlt
    rw [hvk] at hx
    clear hc h hv hs hvk
    go_enter Try.func89, Try.ntmps89
    go_wp2
    go_quiet (fail)
    go_wp2
    go_quiet (fail)
    go_wp2
    generalize hsd1 : IntKind.u64.wrap (IntKind.u64.wrap (IntKind.u64.wrap (sd * 6364136223846793005) + v) + 1442695040888963407) = sd1
    have HSD := Lib.hid (hsd1 ▸ wrap_u64_bd _ : 0 ≤ sd1 ∧ sd1 < 18446744073709551616)
    clear hsd1
    go_quiet (fail)
    go_wp2
    go_ret
    refine ⟨v, sd1, rfl, hv0, hv1, ?_, HSD.out, ?_⟩
    · exact (Blk.set_at (Blk.set_at HS.out (.int .i64 ((k : Int) + 1))) (.int .u64 sd1))
    · exact grown_drewN (grown_trans (grown_trans (grown_drewN (World.grownBy.refl w _) _) (grown_set g 1 (.int .i64 ((k : Int) + 1)))) (grown_set g 2 (.int .u64 sd1))) _
  · have hltz : ¬ (k : Int) < (n : Int) := by omega
    have hle : ¬ (k : Int) + 1 ≤ (n : Int) := by omega
    clear h hv hs
    go_enter Try.func89, Try.ntmps89
    go_wp2
    go_quiet (fail)
    go_wp2
    generalize hsd1 : IntKind.u64.wrap (IntKind.u64.wrap (IntKind.u64.wrap (sd * 6364136223846793005)) + 1442695040888963407) = sd1
    have HSD := Lib.hid (hsd1 ▸ wrap_u64_bd _ : 0 ≤ sd1 ∧ sd1 < 18446744073709551616)
    clear hsd1
    go_quiet (fail)
    go_wp2
    go_ret
    refine ⟨_, sd1, rfl, ?_, ?_, ?_, HSD.out, ?_⟩
    · exact (and255_bd sd1 HSD.out.1 HSD.out.2).1
    · exact (and255_bd sd1 HSD.out.1 HSD.out.2).2
    · exact (Blk.set_at (Blk.set_at HS.out (.int .i64 ((k : Int) + 1))) (.int .u64 sd1))
    · exact grown_drewN (grown_trans (grown_trans (grown_drewN (World.grownBy.refl w _) _) (grown_set g 1 (.int .i64 ((k : Int) + 1)))) (grown_set g 2 (.int .u64 sd1))) _

theorem SRd.grown {w w' : World} {B : Nat} {A : Option Addr} {n c : Nat} {vs : Nat → Value} {row : Option Nat} (h : SRd w B A n c vs) (hg : w.grownBy w' row) (hB : B ≤ w.heap.size) (hr : ∀ g, row = some g → B ≤ g) : SRd w' B A n c vs :=
  ⟨h.cap, h.most, fun hn => by
    obtain ⟨b, o, e, hlt, hc⟩ := h.at_ hn
    exact ⟨b, o, e, hlt, fun j hj => (World.cell?_of_block (hg.block b (by omega) (fun e => by have := hr _ e.symm; omega))).trans (hc j hj)⟩⟩

set_option maxHeartbeats 1000000 in
theorem pick_any (g : Nat) (A : Option Addr) (n c k B : Nat) (sd m : Int) (vs : Nat → Value) (w : World) (h : SRd w B A n c vs) (hn : n ≤ 48) (hv : Bytes n vs) (hs : Src w g A n c k sd) (hk : k ≤ 100000) (hm : 2 ≤ m) (hm2 : m ≤ 200) :
    Calls Try.prog 77 #[.pointer (some ⟨g, 0, none⟩), .int .i64 m] w fun e w' => ∃ (v sd' : Int), e = .returned (.int .i64 v) ∧ 0 ≤ v ∧ v < m ∧ Src w' g A n c (k + 1) sd' ∧ w.grownBy w' (some g) := by
  have HN := Lib.hid (next_any g A n c k B sd vs w h hn hv hs hk)
  have h1 : ¬ m ≤ 1 := by omega
  have h2 : ¬ (200 : Int) < m := by omega
  have hm0 : ¬ m = 0 := by omega
  clear h hv hs
  go_enter Try.func77, Try.ntmps77
  go_wp2_with (go_at_call 89; refine HN.out.mono ?_; rintro e w1 ⟨v, sd', rfl, hv0, hv1, hs1, _, hg1⟩)
  go_ret
  refine ⟨_, sd', rfl, ?_, ?_, hs1, hg1⟩
  · first | exact Int.tmod_nonneg _ hv0 | exact Int.emod_nonneg _ hm0
  · first | exact Int.tmod_lt_of_pos _ (by omega) | exact Int.emod_lt_of_pos _ (by omega)
theorem one_any (g : Nat) (A : Option Addr) (n c k B : Nat) (sd m : Int) (vs : Nat → Value) (w : World) (h : SRd w B A n c vs) (hn : n ≤ 48) (hv : Bytes n vs) (hs : Src w g A n c k sd) (hk : k ≤ 100000) (hm : 2 ≤ m) (hm2 : m ≤ 200) :
    Calls Try.prog 78 #[.pointer (some ⟨g, 0, none⟩), .int .i64 m] w fun e w' => ∃ (b : Bool) (sd' : Int), e = .returned (.bool b) ∧ Src w' g A n c (k + 1) sd' ∧ w.grownBy w' (some g) := by
  have HN := Lib.hid (pick_any g A n c k B sd m vs w h hn hv hs hk hm hm2)
  clear h hv hs
  go_enter Try.func78, Try.ntmps78
  go_wp2_with (go_at_call 77; refine HN.out.mono ?_; rintro e w1 ⟨v, sd', rfl, hv0, hv1, hs1, hg1⟩)
  go_ret
  exact ⟨_, sd', rfl, hs1, hg1⟩

/-- A quarter of a whole number, in single precision. -/
def q4 (x : Int) : Nat := (floatBits .quo .f32 (floatOfInt .f32 x) 1082130432).getD 0
def isV (b : Nat) (q : Rat) : Bool := match FloatKind.f32.decode b with
  | .number s m e => decide (q = sv s m e)
  | _ => false
theorem isV_true {b : Nat} {q : Rat} (h : isV b q = true) : V .f32 b q := by
  unfold isV at h
  split at h
  · rename_i s m e hd
    exact ⟨s, m, e, hd, of_decide_eq_true h⟩
  · cases h
def goodQ (x : Int) : Bool := decide (floatBits .quo .f32 (floatOfInt .f32 x) 1082130432 = some (q4 x)) && isV (q4 x) ((x : Rat) / 4)
theorem goodQ_fin : (List.range 33).all (fun k => goodQ ((k : Int) - 16)) = true := by decide +kernel
theorem goodQ_all (x : Int) (h : -16 ≤ x) (h' : x ≤ 16) : floatBits .quo .f32 (floatOfInt .f32 x) 1082130432 = some (q4 x) ∧ V .f32 (q4 x) ((x : Rat) / 4) := by
  have h1 := List.all_eq_true.1 goodQ_fin (x + 16).toNat (List.mem_range.2 (by omega))
  have e : (((x + 16).toNat : Nat) : Int) - 16 = x := by omega
  rw [e] at h1
  unfold goodQ at h1
  simp only [Bool.and_eq_true, decide_eq_true_eq] at h1
  exact ⟨h1.1, isV_true h1.2⟩
/-- A drawn point: both parts are quarters from -4 to 4. -/
def Drawn (p : Nat × Nat) : Prop := ∃ x y : Int, -16 ≤ x ∧ x ≤ 16 ∧ -16 ≤ y ∧ y ≤ 16 ∧ V .f32 p.1 ((x : Rat) / 4) ∧ V .f32 p.2 ((y : Rat) / 4)

set_option maxHeartbeats 2000000 in
theorem small_any (g : Nat) (A : Option Addr) (n c k B : Nat) (sd : Int) (vs : Nat → Value) (w : World) (h : SRd w B A n c vs) (hB : B ≤ w.heap.size) (hBg : B ≤ g) (hn : n ≤ 48) (hv : Bytes n vs) (hs : Src w g A n c k sd) (hk : k ≤ 90000) :
    Calls Try.prog 46 #[.pointer (some ⟨g, 0, none⟩)] w fun e w' => ∃ (p : Nat × Nat) (k' : Nat) (sd' : Int), e = .returned (.complex .f32 p.1 p.2) ∧ Drawn p ∧ k' ≤ k + 3 ∧ Src w' g A n c k' sd' ∧ w.grownBy w' (some g) := by
  have HP := Lib.hid (fun (k : Nat) (sd : Int) W H HS hk => pick_any g A n c k B sd 33 vs W H hn hv HS hk (by omega) (by omega))
  have HO := Lib.hid (fun (k : Nat) (sd : Int) W H HS hk => one_any g A n c k B sd 2 vs W H hn hv HS hk (by omega) (by omega))
  have HR := Lib.hid h
  have HS := Lib.hid hs
  have hcv : ∀ (x : Int) (w : World), (convert 2 31 (.int .i64 x)).run Try.prog w = .ok (.float .f32 (floatOfInt .f32 x)) w := fun x w =>
    run_convert_int_float w 2 31 .i64 .f32 x (by rw [Try.underlying2]; rfl) Try.underlying31
  clear h hs hv
  go_enter Try.func46, Try.ntmps46
  go_wp2_with fail
  refine (HP.out k sd _ HR.out HS.out (by omega)).mono ?_
  rintro e w1 ⟨v, sd1, rfl, hv0, hv1, hs1, hg1⟩
  have R1 := Lib.hid (HR.out.grown hg1 hB (fun _ e => by injection e with e; omega))
  have S1 := Lib.hid hs1
  have hq := goodQ_all (v - 16) (by omega) (by omega)
  have e1 := runOp 31 hq.1
  have Q1 := Lib.hid hq.2
  have G1 := Lib.hid hg1
  have hsz1 := hg1.size
  clear hs1 hg1 hq
  go_wp2_with (rw [e1])
  refine (HO.out (k + 1) sd1 _ R1.out S1.out (by omega)).mono ?_
  rintro e w2 ⟨b, sd2, rfl, hs2, hg2⟩
  have R2 := Lib.hid (R1.out.grown hg2 (by omega) (fun _ e => by injection e with e; omega))
  have S2 := Lib.hid hs2
  have G2 := Lib.hid (grown_trans G1.out hg2)
  have hsz2 := hg2.size
  clear hs2 hg2
  cases b
  · go_wp2_with fail
    refine (HP.out (k + 1 + 1) sd2 _ R2.out S2.out (by omega)).mono ?_
    rintro e w3 ⟨v', sd3, rfl, hv0', hv1', hs3, hg3⟩
    have hq := goodQ_all (v' - 16) (by omega) (by omega)
    have e3 := runOp 31 hq.1
    have Q3 := Lib.hid hq.2
    have S3 := Lib.hid hs3
    have G3 := Lib.hid (grown_trans G2.out hg3)
    clear hs3 hg3 hq
    go_wp2_with (rw [e3])
    go_ret
    exact ⟨(q4 (v - 16), q4 (v' - 16)), k + 1 + 1 + 1, sd3, rfl, ⟨v - 16, v' - 16, by omega, by omega, by omega, by omega, Q1.out, Q3.out⟩, by omega, S3.out, G3.out⟩
  · go_wp2_with fail
    go_ret
    have hz : V .f32 0 (((0 : Int) : Rat) / 4) := by
      have h0 : V .f32 0 0 := V_zero .f32 false 0
      have e : (((0 : Int) : Rat) / 4) = 0 := by grind
      rw [e]
      exact h0
    exact ⟨(q4 (v - 16), 0), k + 1 + 1, sd2, rfl, ⟨v - 16, 0, by omega, by omega, by omega, by omega, Q1.out, hz⟩, by omega, S2.out, G2.out⟩

theorem COwn.grown {w w' : World} {base : Nat} {A : Option Addr} {n c : Nat} {xs : List (Nat × Nat)} {row : Option Nat} (h : COwn w base A n c xs) (hg : w.grownBy w' row) (hr : ∀ g, row = some g → g < base) : COwn w' base A n c xs :=
  World.ownsRow.kept (row := row) h hg (by
    cases hv : (Value.slice A n c).ownBlock with
    | none => exact .inl rfl
    | some k =>
      refine .inr fun e => ?_
      have h1 := hr k e.symm
      have h2 := (World.ownsRow.lt h k hv).1
      omega)
theorem SRd.stay {w w' : World} {B : Nat} {A : Option Addr} {n c : Nat} {vs : Nat → Value} (h : SRd w B A n c vs) (hb : Below B w w') : SRd w' B A n c vs :=
  ⟨h.cap, h.most, fun hn => by
    obtain ⟨b, o, e, hlt, hc⟩ := h.at_ hn
    exact ⟨b, o, e, hlt, fun j hj => (hb.cell hlt).trans (hc j hj)⟩⟩
theorem from_any (A : Option Addr) (n c : Nat) (w : World) :
    Calls Try.prog 45 #[.slice A n c] w fun e w' => e = .returned (.pointer (some ⟨w.heap.size, 0, none⟩)) ∧ Src w' w.heap.size A n c 0 0 ∧ Below w.heap.size w w' := by
  go_enter Try.func45, Try.ntmps45
  go_wp2
  go_ret
  exact ⟨rfl, Blk.new w _ _, al1 w _⟩

set_option maxHeartbeats 2000000 in
theorem many_any (A : Option Addr) (n c : Nat) (vs : Nat → Value) (m : Nat) (w : World) (h : SRd w w.heap.size A n c vs) (hn : n ≤ 48) (hv : Bytes n vs) (hm : m ≤ 1000) :
    Calls Try.prog 8 #[.slice A n c, .int .i64 m] w fun e w' => ∃ A' c' zs, e = .returned (.slice A' m c') ∧ CRd w' w'.heap.size A' m c' zs ∧ (∀ j, j < m → Drawn (zs.getD j (0, 0))) ∧ Below w.heap.size w w' := by
  have HS := Lib.hid (fun (k : Nat) (sd : Int) W H hB HS hk => small_any w.heap.size A n c k w.heap.size sd vs W H hB (Nat.le_refl _) hn hv HS hk)
  have HR := Lib.hid h
  clear h hv
  go_enter Try.func8, Try.ntmps8
  go_wp2_with fail
  refine (from_any A n c w).mono ?_
  rintro e w1 ⟨rfl, s1, b1⟩
  have S1 := Lib.hid s1
  have B1 := Lib.hid b1
  have hs1 : w.heap.size < w1.heap.size := Blk.lt s1
  clear s1 b1
  go_wp2_with fail
  have hO0 : COwn (w1.alloc (.cells #[] 34)) w1.heap.size (some ⟨w1.heap.size, 0, none⟩) 0 0 [] := cown_empty w1
  have hB0 : Below w.heap.size w (w1.alloc (.cells #[] 34)) := bthen B1.out (al1 w1 _)
  have hS0 : Src (w1.alloc (.cells #[] 34)) w.heap.size A n c 0 0 := Blk.alloc S1.out _
  go_loopg [1, 6] m (fun g s1 s6 wr => ∃ (j : Nat) (An : Option Addr) (cn k : Nat) (sd : Int) (zs : List (Nat × Nat)), j ≤ m ∧ m - j ≤ g ∧ s1 = .int .i64 ((m : Int) - j) ∧ s6 = .slice An j cn ∧ COwn wr w1.heap.size An j cn zs ∧ (∀ i, i < j → Drawn (zs.getD i (0, 0))) ∧ Src wr w.heap.size A n c k sd ∧ k ≤ 3 * j ∧ Below w.heap.size w wr ∧ w1.heap.size ≤ wr.heap.size)
  case atStart => exact ⟨0, _, _, 0, 0, [], by omega, by omega, by go_num, rfl, hO0, fun i hi => absurd hi (Nat.not_lt_zero _), hS0, by omega, hB0, by simp⟩
  case round =>
    clear hO0 hB0 hS0
    obtain ⟨j, An, cn, k, sd, zs, hj, hg, rfl, rfl, ho, hd, hs, hk, hb, hz⟩ := hrel
    by_cases hlt : j < m
    · have hpos : (0 : Int) < (m : Int) - (j : Int) := by omega
      have HD := Lib.hid hd
      have HC := Lib.hid (HS.out k sd wr (HR.out.stay hb) hb.size hs (by omega))
      have hz1 := hb.size
      clear hd hs
      go_wp2_with fail
      refine HC.out.mono ?_
      rintro e w2 ⟨p, k', sd', rfl, hp, hk', hs2, hg2⟩
      have HP := Lib.hid hp
      have HS2 := Lib.hid hs2
      have ho2 := COwn.grown ho hg2 (fun g e => by injection e with e; omega)
      have hb2 : Below w.heap.size w w2 := hb.grown hg2 hb.size (fun g e => by injection e with e; omega)
      have hz2 := hg2.size
      clear hp hs2 hg2 ho hb HC
      go_wp2_with (at_builtin; go_must (refine wpList_append_crd rfl _ _ rfl w1.heap.size An j cn zs rfl (ho2.alloc _) _ _ _ _ _ rfl (crd_lit w2 [p] 34 1 rfl (by simp [maxLen])) (by omega) (by simp; omega) ?_); intro A2 c2 w3 ho3 hg3; have HB := Lib.hid (cbgrown (hb2.alloc hb2.size _) (ho2.alloc _) (by omega) hg3); have HZ := Lib.hid (Nat.le_trans (by simp; omega) hg3.size : w1.heap.size ≤ w3.heap.size); have HSr := Lib.hid (Blk.grown (Blk.alloc HS2.out _) hg3 (fun e => by have := (World.ownsRow.lt ho2 _ e.symm).1; omega)); have HO := Lib.hid ho3; clear ho3 hg3 ho2 hb2)
      go_roundg (m - (j + 1))
      case measure => omega
      case rel =>
        refine ⟨j + 1, A2, c2, k', sd', zs ++ [p], by omega, by omega, by go_num, rfl, HO.out, ?_, HSr.out, by omega, HB.out, HZ.out⟩
        intro i hi
        have hl := COwn.len HO.out
        rw [List.length_append, List.length_singleton] at hl
        by_cases e : i = j
        · subst e
          have : (zs ++ [p]).getD i (0, 0) = p := by simp [List.getD, show i = zs.length by omega]
          rw [this]
          exact HP.out
        · have : (zs ++ [p]).getD i (0, 0) = zs.getD i (0, 0) := by
            simp only [List.getD]
            rw [List.getElem?_append_left (by omega)]
          rw [this]
          exact HD.out i (by omega)
    · have hneg : ¬ (0 : Int) < (m : Int) - (j : Int) := by omega
      obtain rfl : j = m := by omega
      have HO := Lib.hid (COwn.rd ho)
      have HD := Lib.hid hd
      have HB := Lib.hid hb
      clear ho hd hs hb
      go_wp2_with fail
      go_ret
      exact ⟨An, cn, rfl, zs, HO.out, HD.out, HB.out⟩
end Go.Proofs.Ytfbekiphlaaieaa
