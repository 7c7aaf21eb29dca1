/- FnPolys: the walk of the law: whatever the bytes it answers true and leaves all memory of before as it was. No condition. -/
import Derived.Test.YtfbekiphlaaieaaQd
import Derived.Deep.RegionHeld3
namespace Go.Proofs.Ytfbekiphlaaieaa
open Go.RowKit

theorem Bag.cell {w wk : World} {l : List Bx} (h : Bag w wk l) (i : Nat) {x : Bx} (hx : l[i]? = some x) : wk.cell? ⟨x.b, 0, none⟩ = some (.slice x.A x.n x.c) := (h.box x (List.mem_of_getElem? hx)).cell0
theorem Bag.read {w wk : World} {l : List Bx} (h : Bag w wk l) (i : Nat) {x : Bx} (hx : l[i]? = some x) : CRd wk wk.heap.size x.A x.n x.c x.xs := h.rd x (List.mem_of_getElem? hx)
set_option maxHeartbeats 16000000 in
set_option maxRecDepth 10000 in
theorem walkFnPolys (A0 : Option Addr) (n0 c0 : Nat) (v0 : Nat → Value) (A1 : Option Addr) (n1 c1 : Nat) (v1 : Nat → Value) (w : World) (h0 : SRd w w.heap.size A0 n0 c0 v0) (h1 : SRd w w.heap.size A1 n1 c1 v1) (hv0 : Bytes n0 v0) (hv1 : Bytes n1 v1) :
    Calls Try.prog 4 #[.slice A0 n0 c0, .slice A1 n1 c1] w fun e w' => e = .returned (.bool true) ∧ Below w.heap.size w w' := by
  by_cases hlong : ¬ (n0 ≤ 48 ∧ n1 ≤ 48)
  · have HL := Lib.hid (fun W => long_yes A0 n0 c0 A1 n1 c1 W hlong)
    clear hlong h0 h1
    go_enter Try.func4, Try.ntmps4
    go_wp2_with (go_at_call 6; refine (HL.out _).mono ?_; rintro e w' ⟨rfl, rfl⟩)
    go_ret
    exact ⟨rfl, Below.refl _ _⟩
  have hl0 : n0 ≤ 48 := by omega
  have hl1 : n1 ≤ 48 := by omega
  have HL := Lib.hid (fun W => long_no A0 n0 c0 A1 n1 c1 W hl0 hl1)
  have HV0 := Lib.hid hv0
  have HV1 := Lib.hid hv1
  have H0 := Lib.hid h0
  have H1 := Lib.hid h1
  clear hlong h0 h1 hv0 hv1
  go_enter Try.func4, Try.ntmps4
  go_wp2_with (go_at_call 6; refine (HL.out _).mono ?_; rintro e w' ⟨rfl, rfl⟩)
  clear HL
  refine (at_any A1 n1 c1 v1 40 6 _ H1.out HV1.out (by omega) (by omega) (by omega)).mono ?_
  rintro e w1 ⟨x, rfl, hx0, hx1, rfl⟩
  obtain ⟨n, hn⟩ : ∃ n : Nat, (1 : Int) + x = (n : Int) := ⟨(1 + x).toNat, by omega⟩
  have hn1 : 1 ≤ n := by omega
  have hn6 : n ≤ 6 := by omega
  go_wp2_with fail
  clear hn hx0 hx1
  refine (r8poly_any A0 n0 c0 v0 n _ H0.out hl0 HV0.out (by omega) (by omega)).mono ?_
  rintro e w5 ⟨A5, k5, xs, rfl, rp, hd, b2⟩
  have HD := Lib.hid hd
  have K := Lib.hid (Bag.start b2 rp)
  clear b2 rp hd
  go_wp2_with fail
  refine (at_any A1 n1 c1 v1 41 5 _ (H1.out.in_ K.out.below) HV1.out (by omega) (by omega) (by omega)).mono ?_
  rintro e w1 ⟨x, rfl, hx0, hx1, rfl⟩
  obtain ⟨m, hm⟩ : ∃ m : Nat, (1 : Int) + x = (m : Int) := ⟨(1 + x).toNat, by omega⟩
  have hm1 : 1 ≤ m := by omega
  have hm6 : m ≤ 6 := by omega
  go_wp2_with fail
  clear hm hx0 hx1
  refine (r8poly_any A1 n1 c1 v1 m _ (H1.out.in_ K.out.below) hl1 HV1.out (by omega) (by omega)).mono ?_
  rintro e w6 ⟨A6, k6, ys, rfl, r6, he, b6⟩
  have HE := Lib.hid he
  generalize w5.heap.size = b5 at K ⊢
  clear he
  have K6 : Hid (Bag w (w6.alloc (.cells #[.slice A6 m k6] 28)) (⟨w6.heap.size, A6, m, k6, ys⟩ :: [⟨b5, A5, n, k5, xs⟩])) := K.out.add b6 r6
  clear K b6 r6
  have K := K6
  clear K6
  go_wp2_with fail
  refine (r8small_any A1 n1 c1 v1 _ (H1.out.in_ K.out.below) hl1 HV1.out).mono ?_
  rintro e w7 ⟨z, rfl, hz, b7⟩
  have HZ := Lib.hid hz
  have K7 := Lib.hid (K.out.step b7)
  clear K b7
  have K := K7
  clear K7
  generalize w6.heap.size = b6 at K ⊢
  clear hz
  go_upto_region 6 with (fail)
  go_cut [80] from 71 to 80 (fun s80 wx => ∃ c : Bool, s80 = .bool c ∧ wx = w7)
  case first =>
    have HW1 := Lib.hid (H1.out.in_ K.out.below)
    clear K
    by_cases h42 : 42 < n1
    · obtain ⟨hb, ho, rfl, hbl, hc⟩ := HW1.out.at_ (by omega)
      obtain ⟨v, hvk, hv0, hv1⟩ := HV1.out 42 h42
      have hx := hc 42 h42
      rw [hvk] at hx
      have hz42 : (42 : Int) < (n1 : Int) := by omega
      have hz0 : (0 : Int) ≤ (42 : Int) := by omega
      clear hc hvk hbl H0 H1 HW1 HD HE hv0 hv1
      go_wp2_with fail
      go_meet
      exact ⟨_, rfl, rfl⟩
    · have hz42 : ¬ (42 : Int) < (n1 : Int) := by omega
      clear H0 H1 HW1 HD HE
      go_wp2_with fail
      go_meet
      exact ⟨_, rfl, rfl⟩
  obtain ⟨c, rfl, rfl⟩ := hcut
  go_upto_if 80 with (fail)
  go_cut [7] from 81 to 82 (fun s7 wx => ∃ (r : Nat × Nat) (q : Rat × Rat), s7 = .complex .f32 r.1 r.2 ∧ Pt r q ∧ wx = wc)
  case first =>
    clear K H0 H1 HD HE
    cases c
    · obtain ⟨q0, hq0⟩ := pt_draw HZ.out
      have HQ0 := Lib.hid hq0
      clear hq0
      go_wp2_with fail
      go_meet
      exact ⟨z, q0, rfl, HQ0.out, rfl⟩
    · obtain ⟨r, g, ha, hb2, t1, t2, he, t3, t4, hf, hH, hcv, hg1, hg2⟩ := half_ex HZ.out
      obtain ⟨q, hq⟩ := pt_half hcv hg1 hg2
      have HQ := Lib.hid hq
      have ehalf := runC_half 34 hH
      clear hH hcv hg1 hg2 hq
      go_wp2_with (rw [ehalf])
      go_meet
      exact ⟨r, q, rfl, HQ.out, rfl⟩
  obtain ⟨r, q, rfl, hq, rfl⟩ := hcut
  clear HZ
  have HQ := Lib.hid hq
  obtain ⟨F⟩ := polys_facts n m xs ys r q hn1 hn6 hm1 hm6 HD.out HE.out hq
  clear hq HD HE
  as_aux_lemma =>
    have c5 := K.out.cell 1 rfl
    dsimp only at c5
    have c6 := K.out.cell 0 rfl
    dsimp only at c6
    go_wp2_with fail
    clear c5 c6
    refine (addPolys_any A5 n k5 (xs) A6 m k6 (ys) F.r _ (K.out.read 1 rfl) (K.out.read 0 rfl) F.va F.vb F.rE (fun k _ => F.suW k) F.suV).mono ?_
    rintro e w8 ⟨A8, n8, k8, rfl, r8, b8⟩
    have K8 : Hid (Bag w (w8.alloc (.cells #[.slice A8 n8 k8] 28)) (⟨w8.heap.size, A8, n8, k8, plSu F.r xs ys⟩ :: [⟨b6, A6, m, k6, ys⟩, ⟨b5, A5, n, k5, xs⟩])) := K.out.add b8 r8
    clear K b8 r8
    have K := K8
    clear K8
    have c5 := K.out.cell 2 rfl
    dsimp only at c5
    have c6 := K.out.cell 1 rfl
    dsimp only at c6
    go_wp2_with fail
    clear c5 c6
    refine (mulPolys_any A5 n k5 (xs) A6 m k6 (ys) _ (K.out.read 2 rfl) (K.out.read 1 rfl) F.va F.vb F.prW F.prV).mono ?_
    rintro e w10 ⟨A10, n10, k10, rfl, r10, b10⟩
    generalize w8.heap.size = b8 at K ⊢
    have K10 : Hid (Bag w (w10.alloc (.cells #[.slice A10 n10 k10] 28)) (⟨w10.heap.size, A10, n10, k10, plPr n m xs ys⟩ :: [⟨b8, A8, n8, k8, plSu F.r xs ys⟩, ⟨b6, A6, m, k6, ys⟩, ⟨b5, A5, n, k5, xs⟩])) := K.out.add b10 r10
    clear K b10 r10
    have K := K10
    clear K10
    have HN10 : Hid (n10 = n + m - 1) := Lib.hid ((K.out.read 0 rfl).len.symm.trans F.prL)
    have c5 := K.out.cell 3 rfl
    dsimp only at c5
    have c6 := K.out.cell 2 rfl
    dsimp only at c6
    go_wp2_with fail
    clear c5 c6
    refine (mulHalves_any A5 n k5 (xs) A6 m k6 (ys) _ (K.out.read 3 rfl) (K.out.read 2 rfl) F.va F.vb (by omega) (by omega) F.d F.dE F.haW F.haV).mono ?_
    rintro e w12 ⟨A12, n12, k12, rfl, r12, b12⟩
    obtain rfl : n10 = n12 := by rw [← r12.len]; exact (HN10.out.trans F.haL.symm)
    generalize w10.heap.size = b10 at K ⊢
    have K12 : Hid (Bag w (w12.alloc (.cells #[.slice A12 n10 k12] 28)) (⟨w12.heap.size, A12, n10, k12, plHa F.d xs ys⟩ :: [⟨b10, A10, n10, k10, plPr n m xs ys⟩, ⟨b8, A8, n8, k8, plSu F.r xs ys⟩, ⟨b6, A6, m, k6, ys⟩, ⟨b5, A5, n, k5, xs⟩])) := K.out.add b12 r12
    clear K b12 r12
    have K := K12
    clear K12
    have c5 := K.out.cell 4 rfl
    dsimp only at c5
    have c6 := K.out.cell 3 rfl
    dsimp only at c6
    go_wp2_with fail
    clear c5 c6
    refine (div_any A5 n k5 (xs) A6 m k6 (ys) F.ql F.el _ (K.out.read 4 rfl) (K.out.read 3 rfl) F.va F.vb F.bz F.dv.dv).mono ?_
    rintro e w14 ⟨A14, n14, k14, A15, n15, k15, rfl, r14, r15, b14⟩
    obtain rfl := r14.len
    obtain rfl := r15.len
    generalize w12.heap.size = b12 at K ⊢
    have s15 := r15.in_' (al1 w14 (.cells #[.slice A14 F.ql.length k14] 28))
    have K14 : Hid (Bag w (w14.alloc (.cells #[.slice A14 F.ql.length k14] 28)) (⟨w14.heap.size, A14, F.ql.length, k14, F.ql⟩ :: [⟨b12, A12, n10, k12, plHa F.d xs ys⟩, ⟨b10, A10, n10, k10, plPr n m xs ys⟩, ⟨b8, A8, n8, k8, plSu F.r xs ys⟩, ⟨b6, A6, m, k6, ys⟩, ⟨b5, A5, n, k5, xs⟩])) := K.out.add b14 r14
    clear K b14 r14
    have K := K14
    clear K14
    have e15 : (w14.alloc (.cells #[.slice A14 F.ql.length k14] 28)).heap.size = w14.heap.size + 1 := by simp
    have K15 : Hid (Bag w ((w14.alloc (.cells #[.slice A14 F.ql.length k14] 28)).alloc (.cells #[.slice A15 F.el.length k15] 28)) (⟨w14.heap.size + 1, A15, F.el.length, k15, F.el⟩ :: [⟨w14.heap.size, A14, F.ql.length, k14, F.ql⟩, ⟨b12, A12, n10, k12, plHa F.d xs ys⟩, ⟨b10, A10, n10, k10, plPr n m xs ys⟩, ⟨b8, A8, n8, k8, plSu F.r xs ys⟩, ⟨b6, A6, m, k6, ys⟩, ⟨b5, A5, n, k5, xs⟩])) := by rw [← e15]; exact K.out.add (Below.refl _ _) s15
    clear K r15 s15 e15
    have K := K15
    clear K15
    have c5 := K.out.cell 6 rfl
    dsimp only at c5
    have c6 := K.out.cell 5 rfl
    dsimp only at c6
    go_wp2_with fail
    clear c5 c6
    generalize w14.heap.size + 1 = b15 at K ⊢
    generalize w14.heap.size = b14 at K ⊢
    refine (weighPolys_any A5 n k5 (xs) A6 m k6 (ys) (1073741824, 0) (3212836864, 0) F.r _ (K.out.read 6 rfl) (K.out.read 5 rfl) F.va F.vb rp_two.num rp_less.num F.rE (fun k _ => F.wgW k) F.wgV).mono ?_
    rintro e w17 ⟨A17, n17, k17, rfl, r17, b17⟩
    have K17 : Hid (Bag w (w17.alloc (.cells #[.slice A17 n17 k17] 28)) (⟨w17.heap.size, A17, n17, k17, plWg F.r xs ys⟩ :: [⟨b15, A15, F.el.length, k15, F.el⟩, ⟨b14, A14, F.ql.length, k14, F.ql⟩, ⟨b12, A12, n10, k12, plHa F.d xs ys⟩, ⟨b10, A10, n10, k10, plPr n m xs ys⟩, ⟨b8, A8, n8, k8, plSu F.r xs ys⟩, ⟨b6, A6, m, k6, ys⟩, ⟨b5, A5, n, k5, xs⟩])) := K.out.add b17 r17
    clear K b17 r17
    have K := K17
    clear K17
    have hL10 : (n10 : Int) = (n : Int) + (m : Int) - 1 := by have := HN10.out; omega
    have c5 := K.out.cell 7 rfl
    dsimp only at c5
    have c6 := K.out.cell 6 rfl
    dsimp only at c6
    have c10 := K.out.cell 4 rfl
    dsimp only at c10
    have c12 := K.out.cell 3 rfl
    dsimp only at c12
    go_wp2_with fail
    clear c5 c6 c10 c12
    clear hL10
    refine (at_of F.xW _ (K.out.read 7 rfl)).mono ?_
    rintro e w19 ⟨rfl, b19⟩
    have K19 := Lib.hid (K.out.step b19)
    clear K b19
    have K := K19
    clear K19
    generalize w17.heap.size = b17 at K ⊢
    have c6 := K.out.cell 6 rfl
    dsimp only at c6
    go_wp2_with fail
    clear c6
    refine (at_of F.yW _ (K.out.read 6 rfl)).mono ?_
    rintro e w21 ⟨rfl, b21⟩
    have K21 := Lib.hid (K.out.step b21)
    clear K b21
    have K := K21
    clear K21
    have c8 := K.out.cell 5 rfl
    dsimp only at c8
    go_wp2_with fail
    clear c8
    refine (at_of F.sW _ (K.out.read 5 rfl)).mono ?_
    rintro e w23 ⟨rfl, b23⟩
    have K23 := Lib.hid (K.out.step b23)
    clear K b23
    have K := K23
    clear K23
    have c10 := K.out.cell 4 rfl
    dsimp only at c10
    go_wp2_with fail
    clear c10
    refine (at_of F.pW _ (K.out.read 4 rfl)).mono ?_
    rintro e w25 ⟨rfl, b25⟩
    have K25 := Lib.hid (K.out.step b25)
    clear K b25
    have K := K25
    clear K25
    have c17 := K.out.cell 0 rfl
    dsimp only at c17
    go_wp2_with fail
    clear c17
    refine (at_of F.wW _ (K.out.read 0 rfl)).mono ?_
    rintro e w27 ⟨rfl, b27⟩
    have K27 := Lib.hid (K.out.step b27)
    clear K b27
    have K := K27
    clear K27
    have c5 := K.out.cell 7 rfl
    dsimp only at c5
    go_wp2_with fail
    clear c5
    refine (sz_of F.saW _ (K.out.read 7 rfl)).mono ?_
    rintro e w29 ⟨rfl, b29⟩
    have K29 := Lib.hid (K.out.step b29)
    clear K b29
    have K := K29
    clear K29
    have c6 := K.out.cell 6 rfl
    dsimp only at c6
    go_wp2_with fail
    clear c6
    refine (sz_of F.sbW _ (K.out.read 6 rfl)).mono ?_
    rintro e w30 ⟨rfl, b30⟩
    have K30 := Lib.hid (K.out.step b30)
    clear K b30
    have K := K30
    clear K30
    have HF1 := Lib.hid (fun W => far_any F.s F.xy F.f1 W F.f1W)
    have HF2 := Lib.hid (fun W => far_any F.p F.mm F.f2 W F.f2W)
    have HF3 := Lib.hid (fun W => far_any F.w F.ty F.f3 W F.f3W)
    have exy := runC_plus 34 F.xyW
    have emm := runC_mul 34 F.mmW
    have etx := runC_mul 34 F.txW
    have ety := runC_minus 34 F.tyW
    have ea1W := runOp 35 F.a1W
    have ea2W := runOp 35 F.a2W
    have ea3W := runOp 35 F.a3W
    have eb1W := runOp 35 F.b1W
    have eb2W := runOp 35 F.b2W
    have eb3W := runOp 35 F.b3W
    have ed1W := runOp 35 F.d1W
    have ed2W := runOp 35 F.d2W
    have ed3W := runOp 35 F.d3W
    have ed4W := runOp 35 F.d4W
    have ecc1 := F.c1
    have ecc2 := F.c2
    have ecc3 := F.c3
    dsimp only at etx
    have c5 := K.out.cell 7 rfl
    dsimp only at c5
    go_wp2_with (first | (go_at_call_of 14 (Value.complex .f32 F.s.1 F.s.2); refine (HF1.out _).mono ?_; rintro e w' ⟨rfl, rfl⟩) | (go_at_call_of 14 (Value.complex .f32 F.p.1 F.p.2); refine (HF2.out _).mono ?_; rintro e w' ⟨rfl, rfl⟩) | (go_at_call_of 14 (Value.complex .f32 F.w.1 F.w.2); refine (HF3.out _).mono ?_; rintro e w' ⟨rfl, rfl⟩) | rw [exy] | rw [emm] | rw [etx] | rw [ety] | rw [ea1W] | rw [ea2W] | rw [ea3W] | rw [eb1W] | rw [eb2W] | rw [eb3W] | rw [ed1W] | rw [ed2W] | rw [ed3W] | rw [ed4W])
    clear HF1 HF2 HF3 exy emm etx ety ecc1 ecc2 ecc3 c5 ea1W ea2W ea3W eb1W eb2W eb3W ed1W ed2W ed3W ed4W
    refine (longPoly_any A5 n k5 (xs) _ _ _ (K.out.read 7 rfl) F.va F.laW).mono ?_
    rintro e w31 ⟨rfl, b31⟩
    have K31 := Lib.hid (K.out.step b31)
    clear K b31
    have K := K31
    clear K31
    have c6 := K.out.cell 6 rfl
    dsimp only at c6
    go_wp2_with fail
    clear c6
    refine (longPoly_any A6 m k6 (ys) _ _ _ (K.out.read 6 rfl) F.vb F.lbW).mono ?_
    rintro e w33 ⟨rfl, b33⟩
    have K33 := Lib.hid (K.out.step b33)
    clear K b33
    have K := K33
    clear K33
    have ela := run64 F.laC
    have elb := run64 F.lbC
    have ee1W := runOp 35 F.e1W
    have ee2W := runOp 35 F.e2W
    have eboW := runOp 35 F.boW
    have hn10 : 1 ≤ n10 := by have := HN10.out; omega
    have hn10b : n10 ≤ 17 := by have := HN10.out; omega
    obtain ⟨bp, op, rfl, h1p, h2p⟩ := (K.out.read 4 rfl).at_ (by show 1 ≤ _; exact hn10)
    clear h1p h2p
    obtain ⟨bh, oh, rfl, h1h, h2h⟩ := (K.out.read 3 rfl).at_ (by show 1 ≤ _; exact hn10)
    clear h1h h2h
    go_wp2_with (first | rw [ela] | rw [elb] | rw [ee1W] | rw [ee2W] | rw [eboW])
    clear ela elb ee1W ee2W eboW
    go_loopg [36] n10 (fun g s36 wr => ∃ i : Nat, i ≤ n10 ∧ n10 - i ≤ g ∧ s36 = .int .i64 i ∧ Bag w wr [⟨b17, A17, n17, k17, plWg F.r xs ys⟩, ⟨b15, A15, F.el.length, k15, F.el⟩, ⟨b14, A14, F.ql.length, k14, F.ql⟩, ⟨b12, (some ⟨bh, oh, none⟩), n10, k12, plHa F.d xs ys⟩, ⟨b10, (some ⟨bp, op, none⟩), n10, k10, plPr n m xs ys⟩, ⟨b8, A8, n8, k8, plSu F.r xs ys⟩, ⟨b6, A6, m, k6, ys⟩, ⟨b5, A5, n, k5, xs⟩])
    case atStart => exact ⟨0, by omega, by omega, rfl, K.out⟩
    case round =>
      clear K
      obtain ⟨i, hi, hg, rfl, hK⟩ := hrel
      have K := Lib.hid hK
      clear hK
      by_cases hlt : i < n10
      · have hltz : (i : Int) < (n10 : Int) := by omega
        have hlk : i < n + m - 1 := by have := HN10.out; omega
        have hlz0 : (0 : Int) ≤ (i : Int) := by omega
        obtain ⟨_, _, e0, hbp, hcp⟩ := (K.out.read 4 rfl).at_ (by show 1 ≤ _; exact hn10)
        dsimp only at e0
        cases e0
        obtain ⟨_, _, e0, hbh, hch⟩ := (K.out.read 3 rfl).at_ (by show 1 ≤ _; exact hn10)
        dsimp only at e0
        cases e0
        have hxp := hcp i hlt
        have hxh := hch i hlt
        dsimp only at hxp hxh
        clear hbp hcp hbh hch
        have HFA := Lib.hid (fun W => far_any _ _ _ W (F.fkW i hlk))
        have hck := F.fkC i hlk
        clear hlk
        unfold cx at hxp hxh
        generalize (plPr n m xs ys).getD i (0, 0) = xa at hxp HFA
        generalize (plHa F.d xs ys).getD i (0, 0) = xb at hxh HFA
        have c10 := K.out.cell 4 rfl
        dsimp only at c10
        have c12 := K.out.cell 3 rfl
        dsimp only at c12
        go_wp2_with fail
        go_quiet (first | (go_at_call 14; exact Calls.quiet_of_same ((HFA.out _).mono (fun _ _ h => ⟨h.1, h.2.symm⟩))))
        clear HFA hxp hxh c10 c12
        go_wp2_with fail
        go_roundg (n10 - (i + 1))
        case measure => omega
        case rel => exact ⟨i + 1, by omega, by omega, by go_num, K.out.step (drewN_below (Below.refl _ _) nq)⟩
      · have hltz : ¬ (i : Int) < (n10 : Int) := by omega
        obtain rfl : n10 = i := by omega
        have c10 := K.out.cell 4 rfl
        dsimp only at c10
        go_upto_region 34 with (fail)
        clear c10 hlt hltz hi hg
        clear hn10 hn10b HN10
        have HEL : Hid (F.el.length < m ∨ m = 1) := Lib.hid F.dv.eLen
        go_cut [305] from 293 to 305 (fun s wx => s = .bool false ∧ wx = wr)
        case first =>
          have c6 := K.out.cell 6 rfl
          dsimp only at c6
          have c15 := K.out.cell 1 rfl
          dsimp only at c15
          clear K H0 H1
          by_cases h15 : F.el.length < m
          · have hz15 : ¬ (m : Int) ≤ (F.el.length : Int) := by omega
            clear HEL
            go_wp2_with fail
            go_meet
            exact ⟨rfl, rfl⟩
          · have hz15 : (m : Int) ≤ (F.el.length : Int) := by omega
            have hz1 : ¬ (1 : Int) < (m : Int) := by have := HEL.out; omega
            clear HEL
            go_wp2_with fail
            go_meet
            exact ⟨rfl, rfl⟩
        obtain ⟨rfl, rfl⟩ := hcut
        clear HEL
        have c6 := K.out.cell 6 rfl
        dsimp only at c6
        have c14 := K.out.cell 2 rfl
        dsimp only at c14
        go_wp2_with fail
        clear c6 c14
        refine (mulPolys_any A14 F.ql.length k14 (F.ql) A6 m k6 (ys) _ (K.out.read 2 rfl) (K.out.read 6 rfl) F.dv.qv F.vb F.dv.agW F.dv.agV).mono ?_
        rintro e w37 ⟨A37, n37, k37, rfl, r37, b37⟩
        have K37 : Hid (Bag w (w37.alloc (.cells #[.slice A37 n37 k37] 28)) (⟨w37.heap.size, A37, n37, k37, plAg m F.ql ys⟩ :: [⟨b17, A17, n17, k17, plWg F.r xs ys⟩, ⟨b15, A15, F.el.length, k15, F.el⟩, ⟨b14, A14, F.ql.length, k14, F.ql⟩, ⟨b12, (some ⟨bh, oh, none⟩), n10, k12, plHa F.d xs ys⟩, ⟨b10, (some ⟨bp, op, none⟩), n10, k10, plPr n m xs ys⟩, ⟨b8, A8, n8, k8, plSu F.r xs ys⟩, ⟨b6, A6, m, k6, ys⟩, ⟨b5, A5, n, k5, xs⟩])) := K.out.add b37 r37
        clear K b37 r37
        have K := K37
        clear K37
        have c37 := K.out.cell 0 rfl
        dsimp only at c37
        have c15 := K.out.cell 2 rfl
        dsimp only at c15
        go_wp2_with fail
        clear c37 c15
        generalize w37.heap.size = b37 at K ⊢
        have HN37 : Hid (n37 = (plAg m F.ql ys).length) := Lib.hid ((K.out.read 0 rfl).len.symm)
        refine (addPolys_any A37 n37 k37 (plAg m F.ql ys) A15 F.el.length k15 (F.el) (max (plAg m F.ql ys).length F.el.length) _ (K.out.read 0 rfl) (K.out.read 2 rfl) F.dv.agV F.dv.ev (by rw [HN37.out]) (fun k _ => F.dv.bkW k) F.dv.bkV).mono ?_
        rintro e w39 ⟨A39, n39, k39, rfl, r39, b39⟩
        have K39 : Hid (Bag w (w39.alloc (.cells #[.slice A39 n39 k39] 28)) (⟨w39.heap.size, A39, n39, k39, plBk m F.ql ys F.el⟩ :: [⟨b37, A37, n37, k37, plAg m F.ql ys⟩, ⟨b17, A17, n17, k17, plWg F.r xs ys⟩, ⟨b15, A15, F.el.length, k15, F.el⟩, ⟨b14, A14, F.ql.length, k14, F.ql⟩, ⟨b12, (some ⟨bh, oh, none⟩), n10, k12, plHa F.d xs ys⟩, ⟨b10, (some ⟨bp, op, none⟩), n10, k10, plPr n m xs ys⟩, ⟨b8, A8, n8, k8, plSu F.r xs ys⟩, ⟨b6, A6, m, k6, ys⟩, ⟨b5, A5, n, k5, xs⟩])) := K.out.add b39 r39
        clear K b39 r39
        have K := K39
        clear K39
        have c14 := K.out.cell 4 rfl
        dsimp only at c14
        go_wp2_with fail
        clear c14
        refine (longPoly_any A14 F.ql.length k14 (F.ql) _ _ _ (K.out.read 4 rfl) F.dv.qv F.dv.lqW).mono ?_
        rintro e w41 ⟨rfl, b41⟩
        have K41 := Lib.hid (K.out.step b41)
        clear K b41
        have K := K41
        clear K41
        generalize w39.heap.size = b39 at K ⊢
        have hn39 : 1 ≤ n39 := by have h1 := F.dv.bkV.one; have h2 := (K.out.read 0 rfl).len; dsimp only at h2; rw [h2] at h1; exact h1
        have hn39b : n39 ≤ 17 := by have h1 := F.dv.bkV.most; have h2 := (K.out.read 0 rfl).len; dsimp only at h2; rw [h2] at h1; exact h1
        obtain ⟨bk, ok, rfl, h1k, h2k⟩ := (K.out.read 0 rfl).at_ (by show 1 ≤ _; exact hn39)
        clear h1k h2k
        obtain ⟨ba, oa, rfl, h1a, h2a⟩ := (K.out.read 9 rfl).at_ (by show 1 ≤ _; exact hn1)
        clear h1a h2a
        go_wp2_with fail
        have ela := run64 F.laC
        have elb := run64 F.lbC
        have elq := run64 F.lqC
        have eh1W := runOp 35 F.h1W
        have eh2W := runOp 35 F.h2W
        have eh3W := runOp 35 F.h3W
        have eh4W := runOp 35 F.h4W
        go_loopg [43, 44] n (fun g s43 s44 wr => ∃ i : Nat, i ≤ n ∧ n - i ≤ g ∧ s43 = .int .i64 i ∧ Bag w wr [⟨b39, (some ⟨bk, ok, none⟩), n39, k39, plBk m F.ql ys F.el⟩, ⟨b37, A37, n37, k37, plAg m F.ql ys⟩, ⟨b17, A17, n17, k17, plWg F.r xs ys⟩, ⟨b15, A15, F.el.length, k15, F.el⟩, ⟨b14, A14, F.ql.length, k14, F.ql⟩, ⟨b12, (some ⟨bh, oh, none⟩), n10, k12, plHa F.d xs ys⟩, ⟨b10, (some ⟨bp, op, none⟩), n10, k10, plPr n m xs ys⟩, ⟨b8, A8, n8, k8, plSu F.r xs ys⟩, ⟨b6, A6, m, k6, ys⟩, ⟨b5, (some ⟨ba, oa, none⟩), n, k5, xs⟩])
        case atStart => exact ⟨0, by omega, by omega, rfl, K.out⟩
        case round =>
          clear K
          obtain ⟨i, hi, hg, rfl, hK⟩ := hrel
          have K := Lib.hid hK
          clear hK
          by_cases hlt : i < n
          · have hltz : (i : Int) < (n : Int) := by omega
            have hlz0 : (0 : Int) ≤ (i : Int) := by omega
            obtain ⟨_, _, e0, hba, hca⟩ := (K.out.read 9 rfl).at_ (by show 1 ≤ _; exact hn1)
            dsimp only at e0
            cases e0
            have hxa := hca i hlt
            dsimp only at hxa
            clear hba hca
            have hck := F.gkC i hlt
            unfold cx at hxa
            by_cases h39 : i < n39
            · have h39z : (i : Int) < (n39 : Int) := by omega
              have HFA := Lib.hid (fun W => far_any _ _ _ W (F.gkW i hlt))
              obtain ⟨_, _, e0, hbk, hck2⟩ := (K.out.read 0 rfl).at_ (by show 1 ≤ _; exact hn39)
              dsimp only at e0
              cases e0
              have hxk := hck2 i h39
              dsimp only at hxk
              clear hbk hck2
              unfold cx at hxk
              generalize (plBk m F.ql ys F.el).getD i (0, 0) = xk at hxk HFA
              generalize xs.getD i (0, 0) = xa at hxa HFA
              have c5 := K.out.cell 9 rfl
              dsimp only at c5
              have c39 := K.out.cell 0 rfl
              dsimp only at c39
              go_wp2_with (first | (go_at_call 14; refine (HFA.out _).mono ?_; rintro e w' ⟨rfl, rfl⟩) | rw [ela] | rw [elb] | rw [elq] | rw [eh1W] | rw [eh2W] | rw [eh3W] | rw [eh4W])
              go_roundg (n - (i + 1))
              case measure => omega
              case rel => exact ⟨i + 1, by omega, by omega, by go_num, K.out⟩
            · have h39z : ¬ (i : Int) < (n39 : Int) := by omega
              have hgk := F.gkW i hlt
              rw [getD_out (xs := plBk m F.ql ys F.el) (by have h2 := (K.out.read 0 rfl).len; dsimp only at h2; omega)] at hgk
              have HFA := Lib.hid (fun W => far_any _ _ _ W hgk)
              clear hgk
              generalize xs.getD i (0, 0) = xa at hxa HFA
              have c5 := K.out.cell 9 rfl
              dsimp only at c5
              have c39 := K.out.cell 0 rfl
              dsimp only at c39
              go_wp2_with (first | (go_at_call 14; refine (HFA.out _).mono ?_; rintro e w' ⟨rfl, rfl⟩) | rw [ela] | rw [elb] | rw [elq] | rw [eh1W] | rw [eh2W] | rw [eh3W] | rw [eh4W])
              go_roundg (n - (i + 1))
              case measure => omega
              case rel => exact ⟨i + 1, by omega, by omega, by go_num, K.out⟩
          · have hltz : ¬ (i : Int) < (n : Int) := by omega
            obtain rfl : n = i := by omega
            clear ela elb elq eh1W eh2W eh3W eh4W
            have c5 := K.out.cell 9 rfl
            dsimp only at c5
            go_wp2_with fail
            clear c5 hlt hltz hi hg hn39 hn39b
            refine (at_any A1 n1 c1 v1 43 3 _ (H1.out.in_ K.out.below) HV1.out (by omega) (by omega) (by omega)).mono ?_
            rintro e wx ⟨x, rfl, hx0, hx1, rfl⟩
            obtain ⟨m3, hm⟩ : ∃ m : Nat, (1 : Int) + x = (m : Int) := ⟨(1 + x).toNat, by omega⟩
            have h1m3 : 1 ≤ m3 := by omega
            have h2m3 : m3 ≤ 3 := by omega
            go_wp2_with fail
            clear hm hx0 hx1
            refine (r8poly_any A1 n1 c1 v1 m3 _ (H1.out.in_ K.out.below) hl1 HV1.out (by omega) (by omega)).mono ?_
            rintro e w45 ⟨A45, k45, ts, rfl, r45, hd, b45⟩
            have HD45 := Lib.hid hd
            clear hd
            have K45 : Hid (Bag w (w45.alloc (.cells #[.slice A45 m3 k45] 28)) (⟨w45.heap.size, A45, m3, k45, ts⟩ :: [⟨b39, (some ⟨bk, ok, none⟩), n39, k39, plBk m F.ql ys F.el⟩, ⟨b37, A37, n37, k37, plAg m F.ql ys⟩, ⟨b17, A17, n17, k17, plWg F.r xs ys⟩, ⟨b15, A15, F.el.length, k15, F.el⟩, ⟨b14, A14, F.ql.length, k14, F.ql⟩, ⟨b12, (some ⟨bh, oh, none⟩), n10, k12, plHa F.d xs ys⟩, ⟨b10, (some ⟨bp, op, none⟩), n10, k10, plPr n m xs ys⟩, ⟨b8, A8, n8, k8, plSu F.r xs ys⟩, ⟨b6, A6, m, k6, ys⟩, ⟨b5, (some ⟨ba, oa, none⟩), n, k5, xs⟩])) := K.out.add b45 r45
            clear K b45 r45
            have K := K45
            clear K45
            go_wp2_with fail
            refine (at_any A1 n1 c1 v1 44 4 _ (H1.out.in_ K.out.below) HV1.out (by omega) (by omega) (by omega)).mono ?_
            rintro e wx ⟨x, rfl, hx0, hx1, rfl⟩
            obtain ⟨n4, hm⟩ : ∃ m : Nat, (1 : Int) + x = (m : Int) := ⟨(1 + x).toNat, by omega⟩
            have h1n4 : 1 ≤ n4 := by omega
            have h2n4 : n4 ≤ 4 := by omega
            go_wp2_with fail
            clear hm hx0 hx1
            refine (r8poly_any A0 n0 c0 v0 n4 _ (H0.out.in_ K.out.below) hl0 HV0.out (by omega) (by omega)).mono ?_
            rintro e w46 ⟨A46, k46, ss, rfl, r46, hd, b46⟩
            have HD46 := Lib.hid hd
            clear hd
            generalize w45.heap.size = b45 at K ⊢
            have K46 : Hid (Bag w (w46.alloc (.cells #[.slice A46 n4 k46] 28)) (⟨w46.heap.size, A46, n4, k46, ss⟩ :: [⟨b45, A45, m3, k45, ts⟩, ⟨b39, (some ⟨bk, ok, none⟩), n39, k39, plBk m F.ql ys F.el⟩, ⟨b37, A37, n37, k37, plAg m F.ql ys⟩, ⟨b17, A17, n17, k17, plWg F.r xs ys⟩, ⟨b15, A15, F.el.length, k15, F.el⟩, ⟨b14, A14, F.ql.length, k14, F.ql⟩, ⟨b12, (some ⟨bh, oh, none⟩), n10, k12, plHa F.d xs ys⟩, ⟨b10, (some ⟨bp, op, none⟩), n10, k10, plPr n m xs ys⟩, ⟨b8, A8, n8, k8, plSu F.r xs ys⟩, ⟨b6, A6, m, k6, ys⟩, ⟨b5, (some ⟨ba, oa, none⟩), n, k5, xs⟩])) := K.out.add b46 r46
            clear K b46 r46
            have K := K46
            clear K46
            obtain ⟨G⟩ := comp_facts n4 m3 ss ts r q h1n4 h2n4 h1m3 h2m3 HD46.out HD45.out HQ.out
            clear HD46 HD45 HQ HV0 HV1 H0 H1
            have c45 := K.out.cell 1 rfl
            dsimp only at c45
            have c46 := K.out.cell 0 rfl
            dsimp only at c46
            go_wp2_with fail
            clear c45 c46
            refine (compose_any A46 n4 k46 (ss) A45 m3 k45 (ts) _ (K.out.read 0 rfl) (K.out.read 1 rfl) G.vs G.vt G.cW).mono ?_
            rintro e w47 ⟨A47, n47, k47, rfl, r47, b47⟩
            generalize w46.heap.size = b46 at K ⊢
            have K47 : Hid (Bag w (w47.alloc (.cells #[.slice A47 n47 k47] 28)) (⟨w47.heap.size, A47, n47, k47, cmpL ss ts (n4 - 1)⟩ :: [⟨b46, A46, n4, k46, ss⟩, ⟨b45, A45, m3, k45, ts⟩, ⟨b39, (some ⟨bk, ok, none⟩), n39, k39, plBk m F.ql ys F.el⟩, ⟨b37, A37, n37, k37, plAg m F.ql ys⟩, ⟨b17, A17, n17, k17, plWg F.r xs ys⟩, ⟨b15, A15, F.el.length, k15, F.el⟩, ⟨b14, A14, F.ql.length, k14, F.ql⟩, ⟨b12, (some ⟨bh, oh, none⟩), n10, k12, plHa F.d xs ys⟩, ⟨b10, (some ⟨bp, op, none⟩), n10, k10, plPr n m xs ys⟩, ⟨b8, A8, n8, k8, plSu F.r xs ys⟩, ⟨b6, A6, m, k6, ys⟩, ⟨b5, (some ⟨ba, oa, none⟩), n, k5, xs⟩])) := K.out.add b47 r47
            clear K b47 r47
            have K := K47
            clear K47
            have c45 := K.out.cell 2 rfl
            dsimp only at c45
            go_wp2_with fail
            clear c45
            refine (at_of G.iW _ (K.out.read 2 rfl)).mono ?_
            rintro e w49 ⟨rfl, b49⟩
            have K49 := Lib.hid (K.out.step b49)
            clear K b49
            have K := K49
            clear K49
            generalize w47.heap.size = b47 at K ⊢
            have c46 := K.out.cell 1 rfl
            dsimp only at c46
            go_wp2_with fail
            clear c46
            refine (at_of G.oW _ (K.out.read 1 rfl)).mono ?_
            rintro e w51 ⟨rfl, b51⟩
            have K51 := Lib.hid (K.out.step b51)
            clear K b51
            have K := K51
            clear K51
            have c47 := K.out.cell 0 rfl
            dsimp only at c47
            go_wp2_with fail
            clear c47
            refine (at_of G.hW _ (K.out.read 0 rfl)).mono ?_
            rintro e w53 ⟨rfl, b53⟩
            have K53 := Lib.hid (K.out.step b53)
            clear K b53
            have K := K53
            clear K53
            have HSI := Lib.hid (fun W H => sz_of (A := A45) (n := m3) (c := k45) G.s1W W H)
            have HSO := Lib.hid (fun W H => sz_of (A := A46) (n := n4) (c := k46) G.s2W W H)
            have ew := run32 G.wW
            have c45 := K.out.cell 2 rfl
            dsimp only at c45
            have c46 := K.out.cell 1 rfl
            dsimp only at c46
            go_upto_region 55 with (fail)
            go_region_held3 (fun wx => wx.cell? ⟨b45, 0, none⟩ = some (.slice A45 m3 k45) ∧ wx.cell? ⟨b46, 0, none⟩ = some (.slice A46 n4 k46)) (first | exact ⟨c45, c46⟩ | exact ⟨e45, e46⟩ | exact ⟨f45, f46⟩ | go_keep)
              (first | (go_at_call_of 13 (Value.complex .f32 r.1 r.2); refine (HSI.out _ ((K.out.step (Below.drew (Below.refl _ _))).read 2 rfl)).mono ?_; rintro e w55 ⟨rfl, b55⟩; have B55 := Lib.hid (Below.trans (Below.drew (Below.refl _ _)) b55); have K55 := Lib.hid (K.out.step B55.out); clear b55; have e45 := K55.out.cell 2 rfl; dsimp only at e45; have e46 := K55.out.cell 1 rfl; dsimp only at e46) | (go_at_call_of 13 (Value.complex .f32 G.w 0); refine (HSO.out _ ((K55.out.step (Below.drew (Below.refl _ _))).read 1 rfl)).mono ?_; rintro e w56 ⟨rfl, b56⟩; have B56 := Lib.hid (Below.trans (Below.drew (Below.refl _ _)) b56); have K56 := Lib.hid (K55.out.step B56.out); clear b56; have f45 := K56.out.cell 2 rfl; dsimp only at f45; have f46 := K56.out.cell 1 rfl; dsimp only at f46) | (go_at_call_of 13 (Value.complex .f32 G.w 0); refine (HSO.out _ (K55.out.read 1 rfl)).mono ?_; rintro e w56 ⟨rfl, b56⟩; have K56 := Lib.hid (K55.out.step b56); clear b56; have f45 := K56.out.cell 2 rfl; dsimp only at f45; have f46 := K56.out.cell 1 rfl; dsimp only at f46) | rw [ew])
            clear HSI HSO ew c45 c46 e45 e46 f45 f46 K55 K
            have HFE := Lib.hid (fun W => far_any G.h G.o G.f W G.fW)
            have eo1 := runOp 35 G.o1W
            have em1 := runOp 35 G.m1W
            have eok := G.ok
            go_wp2_with (first | (go_at_call 14; refine (HFE.out _).mono ?_; rintro e w' ⟨rfl, rfl⟩) | rw [eo1] | rw [em1])
            go_ret
            exact ⟨rfl, K56.out.below⟩
end Go.Proofs.Ytfbekiphlaaieaa
