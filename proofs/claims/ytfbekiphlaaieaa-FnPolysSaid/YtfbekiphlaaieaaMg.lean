/- Contracts of R8Small and R8Poly: the drawn words themselves. Condition: at most 48 bytes; at most 1000 terms. -/
import Derived.Test.YtfbekiphlaaieaaMf
import Derived.Test.YtfbekiphlaaieaaDr
namespace Go.Proofs.Ytfbekiphlaaieaa
open Go.RowKit

/-- A drawn point by its words: both parts are quarters from -4 to 4. -/
def Drawn4 (p : Nat × Nat) : Prop := ∃ x y : Int, -16 ≤ x ∧ x ≤ 16 ∧ -16 ≤ y ∧ y ≤ 16 ∧ p = (q4 x, q4 y)
theorem q4_zero : q4 0 = 0 := by decide +kernel
/-- Half a whole number, in single precision. -/
def h2 (x : Int) : Nat := (floatBits .quo .f32 (floatOfInt .f32 x) 1073741824).getD 0
def goodH (x : Int) : Bool := decide (floatBits .quo .f32 (floatOfInt .f32 x) 1073741824 = some (h2 x)) && isV (h2 x) ((x : Rat) / 2)
theorem goodH_fin : (List.range 8).all (fun k => goodH ((k : Int) + 1)) = true := by decide +kernel
theorem goodH_all (x : Int) (h : 1 ≤ x) (h' : x ≤ 8) : floatBits .quo .f32 (floatOfInt .f32 x) 1073741824 = some (h2 x) ∧ V .f32 (h2 x) ((x : Rat) / 2) := by
  have h1 := List.all_eq_true.1 goodH_fin (x - 1).toNat (List.mem_range.2 (by omega))
  have e : (((x - 1).toNat : Nat) : Int) + 1 = x := by omega
  rw [e] at h1
  unfold goodH at h1
  simp only [Bool.and_eq_true, decide_eq_true_eq] at h1
  exact ⟨h1.1, isV_true h1.2⟩
/-- A drawn polynomial of n terms. -/
structure DPoly (n : Nat) (xs : List (Nat × Nat)) : Prop where
  len : xs.length = n
  low : ∀ j, j + 1 < n → Drawn4 (xs.getD j (0, 0))
  top : ∃ x : Int, 1 ≤ x ∧ x ≤ 8 ∧ xs.getD (n - 1) (0, 0) = (h2 x, 0)

set_option maxHeartbeats 2000000 in
theorem small4_any (g : Nat) (A : Option Addr) (n c k B : Nat) (sd : Int) (vs : Nat → Value) (w : World) (h : SRd w B A n c vs) (hB : B ≤ w.heap.size) (hBg : B ≤ g) (hn : n ≤ 48) (hv : Bytes n vs) (hs : Src w g A n c k sd) (hk : k ≤ 90000) :
    Calls Try.prog 46 #[.pointer (some ⟨g, 0, none⟩)] w fun e w' => ∃ (p : Nat × Nat) (k' : Nat) (sd' : Int), e = .returned (.complex .f32 p.1 p.2) ∧ Drawn4 p ∧ k' ≤ k + 3 ∧ Src w' g A n c k' sd' ∧ w.grownBy w' (some g) := by
  have HP := Lib.hid (fun (k : Nat) (sd : Int) W H HS hk => pick_any g A n c k B sd 33 vs W H hn hv HS hk (by omega) (by omega))
  have HO := Lib.hid (fun (k : Nat) (sd : Int) W H HS hk => one_any g A n c k B sd 2 vs W H hn hv HS hk (by omega) (by omega))
  have HR := Lib.hid h
  have HS := Lib.hid hs
  have hcv : ∀ (x : Int) (w : World), (convert 2 31 (.int .i64 x)).run Try.prog w = .ok (.float .f32 (floatOfInt .f32 x)) w := fun x w =>
    run_convert_int_float w 2 31 .i64 .f32 x (by rw [Try.underlying2]; rfl) Try.underlying31
  clear h hs hv
  go_enter Try.func46, Try.ntmps46
  go_wp2_with fail
  refine (HP.out k sd _ HR.out HS.out (by omega)).mono ?_
  rintro e w1 ⟨v, sd1, rfl, hv0, hv1, hs1, hg1⟩
  have R1 := Lib.hid (HR.out.grown hg1 hB (fun _ e => by injection e with e; omega))
  have S1 := Lib.hid hs1
  have hq := goodQ_all (v - 16) (by omega) (by omega)
  have e1 := runOp 31 hq.1
  have G1 := Lib.hid hg1
  have hsz1 := hg1.size
  clear hs1 hg1 hq
  go_wp2_with (rw [e1])
  refine (HO.out (k + 1) sd1 _ R1.out S1.out (by omega)).mono ?_
  rintro e w2 ⟨b, sd2, rfl, hs2, hg2⟩
  have R2 := Lib.hid (R1.out.grown hg2 (by omega) (fun _ e => by injection e with e; omega))
  have S2 := Lib.hid hs2
  have G2 := Lib.hid (grown_trans G1.out hg2)
  have hsz2 := hg2.size
  clear hs2 hg2
  cases b
  · go_wp2_with fail
    refine (HP.out (k + 1 + 1) sd2 _ R2.out S2.out (by omega)).mono ?_
    rintro e w3 ⟨v', sd3, rfl, hv0', hv1', hs3, hg3⟩
    have hq := goodQ_all (v' - 16) (by omega) (by omega)
    have e3 := runOp 31 hq.1
    have S3 := Lib.hid hs3
    have G3 := Lib.hid (grown_trans G2.out hg3)
    clear hs3 hg3 hq
    go_wp2_with (rw [e3])
    go_ret
    exact ⟨(q4 (v - 16), q4 (v' - 16)), k + 1 + 1 + 1, sd3, rfl, ⟨v - 16, v' - 16, by omega, by omega, by omega, by omega, rfl⟩, by omega, S3.out, G3.out⟩
  · go_wp2_with fail
    go_ret
    exact ⟨(q4 (v - 16), 0), k + 1 + 1, sd2, rfl, ⟨v - 16, 0, by omega, by omega, by omega, by omega, by rw [q4_zero]⟩, by omega, S2.out, G2.out⟩


theorem r8small_any (A : Option Addr) (n c : Nat) (vs : Nat → Value) (w : World) (h : SRd w w.heap.size A n c vs) (hn : n ≤ 48) (hv : Bytes n vs) :
    Calls Try.prog 24 #[.slice A n c] w fun e w' => ∃ p : Nat × Nat, e = .returned (.complex .f32 p.1 p.2) ∧ Drawn4 p ∧ Below w.heap.size w w' := by
  have HS := Lib.hid (fun (k : Nat) (sd : Int) W H hB HS hk => small4_any w.heap.size A n c k w.heap.size sd vs W H hB (Nat.le_refl _) hn hv HS hk)
  have HR := Lib.hid h
  clear h hv
  go_enter Try.func24, Try.ntmps24
  go_wp2_with fail
  refine (from_any A n c w).mono ?_
  rintro e w1 ⟨rfl, s1, b1⟩
  have S1 := Lib.hid s1
  have B1 := Lib.hid b1
  clear s1 b1
  go_wp2_with fail
  refine (HS.out 0 0 _ (HR.out.stay B1.out) B1.out.size S1.out (by omega)).mono ?_
  rintro e w2 ⟨p, k', sd', rfl, hp, _, _, hg⟩
  have B2 := Lib.hid (B1.out.grown hg B1.out.size (fun k e => by injection e with e; omega))
  have HP := Lib.hid hp
  clear hp hg
  go_wp2_with fail
  go_ret
  exact ⟨p, rfl, HP.out, B2.out⟩

set_option maxHeartbeats 2000000 in
theorem terms_any (g : Nat) (A : Option Addr) (n c B : Nat) (vs : Nat → Value) (m : Nat) (w : World) (h : SRd w B A n c vs) (hB : B ≤ g) (hgw : g < w.heap.size) (hn : n ≤ 48) (hv : Bytes n vs) (hs : Src w g A n c 0 0) (hm1 : 1 ≤ m) (hm : m ≤ 1000) :
    Calls Try.prog 66 #[.pointer (some ⟨g, 0, none⟩), .int .i64 m] w fun e w' => ∃ A' c' xs, e = .returned (.slice A' m c') ∧ CRd w' w'.heap.size A' m c' xs ∧ DPoly m xs ∧ Below B w w' := by
  have HS := Lib.hid (fun (k : Nat) (sd : Int) W H hB' HS hk => small4_any g A n c k B sd vs W H hB' hB hn hv HS hk)
  have HP := Lib.hid (fun (k : Nat) (sd : Int) W H HS hk => pick_any g A n c k B sd 8 vs W H hn hv HS hk (by omega) (by omega))
  have HR := Lib.hid h
  have S0 := Lib.hid hs
  have hcv : ∀ (x : Int) (w : World), (convert 2 31 (.int .i64 x)).run Try.prog w = .ok (.float .f32 (floatOfInt .f32 x)) w := fun x w =>
    run_convert_int_float w 2 31 .i64 .f32 x (by rw [Try.underlying2]; rfl) Try.underlying31
  clear h hv hs
  go_enter Try.func66, Try.ntmps66
  go_wp2_with fail
  have hO0 : COwn (w.alloc (.cells #[] 34)) w.heap.size (some ⟨w.heap.size, 0, none⟩) 0 0 [] := cown_empty w
  have hB0 : Below B w (w.alloc (.cells #[] 34)) := (Below.refl B w).alloc (by omega) _
  have hS0 : Src (w.alloc (.cells #[] 34)) g A n c 0 0 := Blk.alloc S0.out _
  obtain ⟨m1, rfl⟩ : ∃ m1, m = m1 + 1 := ⟨m - 1, by omega⟩
  go_loopg [1, 5] (m1 + 1) (fun gg s1 s5 wr => ∃ (j : Nat) (An : Option Addr) (cn k : Nat) (sd : Int) (zs : List (Nat × Nat)), j ≤ m1 ∧ m1 - j ≤ gg ∧ s1 = .int .i64 (((m1 + 1 : Nat) : Int) - j) ∧ s5 = .slice An j cn ∧ COwn wr w.heap.size An j cn zs ∧ (∀ i, i < j → Drawn4 (zs.getD i (0, 0))) ∧ Src wr g A n c k sd ∧ k ≤ 3 * j ∧ Below B w wr ∧ w.heap.size ≤ wr.heap.size)
  case atStart => exact ⟨0, _, _, 0, 0, [], by omega, by omega, by go_num, rfl, hO0, fun i hi => absurd hi (Nat.not_lt_zero _), hS0, by omega, hB0, by simp⟩
  case round =>
    clear hO0 hB0 hS0
    obtain ⟨j, An, cn, k, sd, zs, hj, hg, rfl, rfl, ho, hd, hs, hk, hb, hz⟩ := hrel
    by_cases hlt : j < m1
    · have hpos : (1 : Int) < ((m1 + 1 : Nat) : Int) - (j : Int) := by omega
      have HD := Lib.hid hd
      have HC := Lib.hid (HS.out k sd wr (HR.out.stay hb) (by omega) hs (by omega))
      clear hd hs
      go_wp2_with fail
      refine HC.out.mono ?_
      rintro e w2 ⟨p, k', sd', rfl, hp, hk', hs2, hg2⟩
      have HPp := Lib.hid hp
      have HS2 := Lib.hid hs2
      have ho2 := COwn.grown ho hg2 (fun g e => by injection e with e; omega)
      have hb2 : Below B w w2 := hb.grown hg2 (by omega) (fun g e => by injection e with e; omega)
      have hz2 := hg2.size
      clear hp hs2 hg2 ho hb HC

      go_wp2_with (at_builtin; go_must (refine wpList_append_crd rfl _ _ rfl w.heap.size An j cn zs rfl (ho2.alloc _) _ _ _ _ _ rfl (crd_lit w2 [p] 34 1 rfl (by simp [maxLen])) (by omega) (by simp; omega) ?_); intro A2 c2 w3 ho3 hg3; have hb2a := hb2.alloc (show B ≤ w2.heap.size by omega) (.cells #[.complex .f32 p.1 p.2] 34); have HB := Lib.hid (hb2a.grown hg3 (Nat.le_trans (show B ≤ w.heap.size by omega) hb2a.size) (fun k hk => Nat.le_trans (show B ≤ w.heap.size by omega) (World.ownsRow.lt ho2 k hk).1)); clear hb2a; have HZ := Lib.hid (Nat.le_trans (by simp; omega) hg3.size : w.heap.size ≤ w3.heap.size); have HSr := Lib.hid (Blk.grown (Blk.alloc HS2.out _) hg3 (fun e => by have := (World.ownsRow.lt ho2 _ e.symm).1; omega)); have HO := Lib.hid ho3; clear ho3 hg3 ho2 hb2)
      go_roundg (m1 - (j + 1))
      case measure => omega
      case rel =>
        refine ⟨j + 1, A2, c2, k', sd', zs ++ [p], by omega, by omega, by go_num, rfl, HO.out, ?_, HSr.out, by omega, HB.out, HZ.out⟩
        intro i hi
        have hl := COwn.len HO.out
        rw [List.length_append, List.length_singleton] at hl
        by_cases e : i = j
        · subst e
          have : (zs ++ [p]).getD i (0, 0) = p := by simp [List.getD, show i = zs.length by omega]
          rw [this]
          exact HPp.out
        · have : (zs ++ [p]).getD i (0, 0) = zs.getD i (0, 0) := by
            simp only [List.getD]
            rw [List.getElem?_append_left (by omega)]
          rw [this]
          exact HD.out i (by omega)
    · have hneg : ¬ (1 : Int) < ((m1 + 1 : Nat) : Int) - (j : Int) := by omega
      obtain rfl : j = m1 := by omega
      have HD := Lib.hid hd
      have HC := Lib.hid (HP.out k sd wr (HR.out.stay hb) hs (by omega))
      have HM := Lib.hid (COwn.len ho)
      clear hd hs
      go_wp2_with fail
      refine HC.out.mono ?_
      rintro e w2 ⟨v, sd', rfl, hv0, hv1, _, hg2⟩
      have hq := goodH_all (1 + v) (by omega) (by omega)
      have e1 := runOp 31 hq.1
      have hwr : IntKind.i64.wrap (1 + v) = 1 + v := IntWalk.i64_in _ (by omega)
      have ho2 := COwn.grown ho hg2 (fun g e => by injection e with e; omega)
      have hb2 : Below B w w2 := hb.grown hg2 (by omega) (fun g e => by injection e with e; omega)
      have hz2 := hg2.size
      clear hg2 ho hb HC hq
      go_wp2_with (first
        | rw [e1]
        | (at_builtin; go_must (refine wpList_append_crd rfl _ _ rfl w.heap.size An j cn zs rfl (ho2.alloc _) _ _ _ _ _ rfl (crd_lit w2 [(h2 (1 + v), 0)] 34 1 rfl (by simp [maxLen])) (by omega) (by simp; omega) ?_); intro A2 c2 w3 ho3 hg3; have hb2a := hb2.alloc (show B ≤ w2.heap.size by omega) (.cells #[.complex .f32 (h2 (1 + v)) 0] 34); have HB := Lib.hid (hb2a.grown hg3 (Nat.le_trans (show B ≤ w.heap.size by omega) hb2a.size) (fun k hk => Nat.le_trans (show B ≤ w.heap.size by omega) (World.ownsRow.lt ho2 k hk).1)); clear hb2a; have HO := Lib.hid (COwn.rd ho3); have HLn := Lib.hid (COwn.len ho3); clear ho3 hg3 ho2 hb2))
      go_ret
      have hl := HM.out
      refine ⟨A2, c2, zs ++ [(h2 (1 + v), 0)], rfl, HO.out, ⟨HLn.out, ?_, 1 + v, by omega, by omega, ?_⟩, HB.out⟩
      · intro i hi
        have : (zs ++ [(h2 (1 + v), 0)]).getD i (0, 0) = zs.getD i (0, 0) := by
          simp only [List.getD]
          rw [List.getElem?_append_left (by omega)]
        rw [this]
        exact HD.out i (by omega)
      · simp [List.getD, hl]

theorem SRd.more {w : World} {B B' : Nat} {A : Option Addr} {n c : Nat} {vs : Nat → Value} (h : SRd w B A n c vs) (hB : B ≤ B') : SRd w B' A n c vs :=
  ⟨h.cap, h.most, fun hn => by
    obtain ⟨b, o, e, hlt, hc⟩ := h.at_ hn
    exact ⟨b, o, e, by omega, hc⟩⟩
theorem r8poly_any (A : Option Addr) (n c : Nat) (vs : Nat → Value) (m : Nat) (w : World) (h : SRd w w.heap.size A n c vs) (hn : n ≤ 48) (hv : Bytes n vs) (hm1 : 1 ≤ m) (hm : m ≤ 1000) :
    Calls Try.prog 23 #[.slice A n c, .int .i64 m] w fun e w' => ∃ A' c' xs, e = .returned (.agg #[.slice A' m c']) ∧ CRd w' w'.heap.size A' m c' xs ∧ DPoly m xs ∧ Below w.heap.size w w' := by
  have HT := Lib.hid (fun g W H hB hgw hs => terms_any g A n c (w.heap.size + 1) vs m W H hB hgw hn hv hs hm1 hm)
  have HR := Lib.hid h
  clear h hv
  go_enter Try.func23, Try.ntmps23
  go_wp2_with fail
  refine (from_any A n c _).mono ?_
  rintro e w1 ⟨rfl, s1, b1⟩
  have KR1 := Lib.hid (Blk.kept (Blk.new w 28 #[.slice none 0 0]) b1)
  have B1 := Lib.hid (bthen (al1 w _) b1)
  have hlt1 := Blk.lt s1
  rw [World.size_alloc] at s1 hlt1
  have S1 := Lib.hid s1
  clear s1 b1
  have R1 : Hid (SRd w1 (w.heap.size + 1) A n c vs) := (HR.out.stay B1.out).more (by omega)
  go_wp2_with fail
  refine (HT.out (w.heap.size + 1) w1 R1.out (Nat.le_refl _) hlt1 S1.out).mono ?_
  rintro e w2 ⟨A2, c2, xs, rfl, r2, hd, b2⟩
  have HD := Lib.hid hd
  have R2 := Lib.hid r2
  have B2 := Lib.hid (B1.out.trans (b2.mono (show w.heap.size ≤ w.heap.size + 1 by omega)))
  have KR2 : Hid (Blk w2 w.heap.size 28 #[.slice none 0 0]) := (b2.block _ (by omega)).trans KR1.out
  have c4 := KR2.out.cell0
  have f4 := KR2.out.frozen0
  clear hd r2 b2
  go_wp2_with fail
  refine bodyPost_ret (v := .agg #[.slice A2 m c2]) (by simp [results, Try.results23, go_sem, c4]) rfl ⟨_, _, xs, rfl, ?_, HD.out, ?_⟩
  · have h9 := R2.out.set_other c4 (by intro p e; unfold cx at e; cases e) (.slice A2 m c2)
    simpa using h9
  · exact B2.out.setCell (by simp) _

end Go.Proofs.Ytfbekiphlaaieaa
