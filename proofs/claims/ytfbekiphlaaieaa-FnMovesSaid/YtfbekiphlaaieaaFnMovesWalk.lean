/- FnMoves: the walk of the law: whatever the bytes it answers true and leaves all memory of before as it was. Condition: the facts about the words (MF), which the text beside it proves. -/
import Derived.Test.YtfbekiphlaaieaaMh
import Derived.Deep.RegionHeld3
namespace Go.Proofs.Ytfbekiphlaaieaa
open Go.RowKit

theorem Bag.cell {w wk : World} {l : List Bx} (h : Bag w wk l) (i : Nat) {x : Bx} (hx : l[i]? = some x) : wk.cell? ⟨x.b, 0, none⟩ = some (.slice x.A x.n x.c) := (h.box x (List.mem_of_getElem? hx)).cell0
theorem mon_last (n : Nat) (qf : Nat → Nat × Nat) : (monC n qf).getD (n - 1) (0, 0) = (1065353216, 0) := by
  unfold monC
  simp [List.getD]
theorem Bag.read {w wk : World} {l : List Bx} (h : Bag w wk l) (i : Nat) {x : Bx} (hx : l[i]? = some x) : CRd wk wk.heap.size x.A x.n x.c x.xs := h.rd x (List.mem_of_getElem? hx)

set_option maxHeartbeats 16000000 in
set_option maxRecDepth 10000 in
theorem walkFnMoves (A0 : Option Addr) (n0 c0 : Nat) (v0 : Nat → Value) (A1 : Option Addr) (n1 c1 : Nat) (v1 : Nat → Value) (w : World) (h0 : SRd w w.heap.size A0 n0 c0 v0) (h1 : SRd w w.heap.size A1 n1 c1 v1) (hv0 : Bytes n0 v0) (hv1 : Bytes n1 v1)
    (facts : ∀ (n : Nat) (xs : List (Nat × Nat)) (z y : Nat × Nat), 1 ≤ n → n ≤ 6 → DPoly n xs → Drawn4 z → Drawn4 y → Nonempty (MF n xs z y)) :
    Calls Try.prog 5 #[.slice A0 n0 c0, .slice A1 n1 c1] w fun e w' => e = .returned (.bool true) ∧ Below w.heap.size w w' := by
  by_cases hlong : ¬ (n0 ≤ 48 ∧ n1 ≤ 48)
  · have HL := Lib.hid (fun W => long_yes A0 n0 c0 A1 n1 c1 W hlong)
    clear hlong facts h0 h1
    go_enter Try.func5, Try.ntmps5
    go_wp2_with (go_at_call 6; refine (HL.out _).mono ?_; rintro e w' ⟨rfl, rfl⟩)
    go_ret
    exact ⟨rfl, Below.refl _ _⟩
  have hl0 : n0 ≤ 48 := by omega
  have hl1 : n1 ≤ 48 := by omega
  have HL := Lib.hid (fun W => long_no A0 n0 c0 A1 n1 c1 W hl0 hl1)
  have HV0 := Lib.hid hv0
  have HV1 := Lib.hid hv1
  have HF := Lib.hid facts
  have H0 := Lib.hid h0
  have H1 := Lib.hid h1
  clear hlong facts h0 h1 hv0 hv1
  go_enter Try.func5, Try.ntmps5
  go_wp2_with (go_at_call 6; refine (HL.out _).mono ?_; rintro e w' ⟨rfl, rfl⟩)
  refine (at_any A1 n1 c1 v1 40 6 _ H1.out HV1.out (by omega) (by omega) (by omega)).mono ?_
  rintro e w1 ⟨x, rfl, hx0, hx1, rfl⟩
  obtain ⟨n, hn⟩ : ∃ n : Nat, (1 : Int) + x = (n : Int) := ⟨(1 + x).toNat, by omega⟩
  have hn1 : 1 ≤ n := by omega
  have hn6 : n ≤ 6 := by omega
  go_wp2_with fail
  clear hn hx0 hx1
  refine (r8poly_any A0 n0 c0 v0 n _ H0.out hl0 HV0.out (by omega) (by omega)).mono ?_
  rintro e w2 ⟨A5, k5, xs, rfl, rp, hd, b2⟩
  have HD := Lib.hid hd
  have K := Lib.hid (Bag.start b2 rp)
  have H0' := Lib.hid (H0.out.in_ (bthen b2 (al1 w2 (.cells #[.slice A5 n k5] 28))))
  have H1' := Lib.hid (H1.out.in_ (bthen b2 (al1 w2 (.cells #[.slice A5 n k5] 28))))
  clear b2 rp hd H0 H1
  go_wp2_with fail
  refine (r8small_any A1 n1 c1 v1 _ H1'.out hl1 HV1.out).mono ?_
  rintro e w3 ⟨z, rfl, hz, b3⟩
  have K3 := Lib.hid (K.out.step b3)
  have H03 := Lib.hid (H0'.out.in_ b3)
  have HZ := Lib.hid hz
  clear K b3 H0' H1' hz
  generalize w2.heap.size = b5 at K3 ⊢
  go_wp2_with fail
  refine (r8small_any A0 n0 c0 v0 _ H03.out hl0 HV0.out).mono ?_
  rintro e w4 ⟨y, rfl, hy, b4⟩
  have K : Hid (Bag w w4 [⟨b5, A5, n, k5, xs⟩]) := K3.out.step b4
  obtain ⟨F⟩ := HF.out n xs z y hn1 hn6 HD.out HZ.out hy
  clear K3 b4 H03 hy HF HZ HL HV0 HV1
  have c5 := K.out.cell 0 rfl
  dsimp only at c5
  go_wp2_with fail
  clear c5
  refine (shiftPoly_any A5 n k5 (xs) y _ (K.out.read 0 rfl) F.valid F.ny F.shW F.shV).mono ?_
  rintro e w8 ⟨A8, n8, k8, rfl, r8, b8⟩
  have K8 : Hid (Bag w (w8.alloc (.cells #[.slice A8 n8 k8] 28)) (⟨w8.heap.size, A8, n8, k8, mvSh n xs y⟩ :: [⟨b5, A5, n, k5, xs⟩])) := K.out.add b8 r8
  clear K b8 r8
  have K := K8
  clear K8
  have c5 := K.out.cell 1 rfl
  dsimp only at c5
  go_wp2_with fail
  clear c5
  refine (stretch_any A5 n k5 (xs) y _ (K.out.read 1 rfl) F.valid F.ny F.stW F.stV).mono ?_
  rintro e w10 ⟨A10, n10, k10, rfl, r10, b10⟩
  generalize w8.heap.size = b8 at K ⊢
  have K10 : Hid (Bag w (w10.alloc (.cells #[.slice A10 n10 k10] 28)) (⟨w10.heap.size, A10, n10, k10, mvSt n xs y⟩ :: [⟨b8, A8, n8, k8, mvSh n xs y⟩, ⟨b5, A5, n, k5, xs⟩])) := K.out.add b10 r10
  clear K b10 r10
  have K := K10
  clear K10
  have c5 := K.out.cell 2 rfl
  dsimp only at c5
  go_wp2_with fail
  clear c5
  refine (scalePoly_any A5 n k5 (xs) y _ (K.out.read 2 rfl) F.valid F.ny F.scW F.scV).mono ?_
  rintro e w12 ⟨A12, n12, k12, rfl, r12, b12⟩
  generalize w10.heap.size = b10 at K ⊢
  have K12 : Hid (Bag w (w12.alloc (.cells #[.slice A12 n12 k12] 28)) (⟨w12.heap.size, A12, n12, k12, mvSc n xs y⟩ :: [⟨b10, A10, n10, k10, mvSt n xs y⟩, ⟨b8, A8, n8, k8, mvSh n xs y⟩, ⟨b5, A5, n, k5, xs⟩])) := K.out.add b12 r12
  clear K b12 r12
  have K := K12
  clear K12
  have c5 := K.out.cell 3 rfl
  dsimp only at c5
  go_wp2_with fail
  clear c5
  refine (even_any A5 n k5 (xs) _ (K.out.read 3 rfl) F.valid F.evV).mono ?_
  rintro e w14 ⟨A14, n14, k14, rfl, r14, b14⟩
  generalize w12.heap.size = b12 at K ⊢
  have K14 : Hid (Bag w (w14.alloc (.cells #[.slice A14 n14 k14] 28)) (⟨w14.heap.size, A14, n14, k14, mvEv n xs⟩ :: [⟨b12, A12, n12, k12, mvSc n xs y⟩, ⟨b10, A10, n10, k10, mvSt n xs y⟩, ⟨b8, A8, n8, k8, mvSh n xs y⟩, ⟨b5, A5, n, k5, xs⟩])) := K.out.add b14 r14
  clear K b14 r14
  have K := K14
  clear K14
  have c5 := K.out.cell 4 rfl
  dsimp only at c5
  go_wp2_with fail
  clear c5
  refine (odd_any A5 n k5 (xs) _ (K.out.read 4 rfl) F.valid F.odV).mono ?_
  rintro e w16 ⟨A16, n16, k16, rfl, r16, b16⟩
  generalize w14.heap.size = b14 at K ⊢
  have K16 : Hid (Bag w (w16.alloc (.cells #[.slice A16 n16 k16] 28)) (⟨w16.heap.size, A16, n16, k16, mvOd n xs⟩ :: [⟨b14, A14, n14, k14, mvEv n xs⟩, ⟨b12, A12, n12, k12, mvSc n xs y⟩, ⟨b10, A10, n10, k10, mvSt n xs y⟩, ⟨b8, A8, n8, k8, mvSh n xs y⟩, ⟨b5, A5, n, k5, xs⟩])) := K.out.add b16 r16
  clear K b16 r16
  have K := K16
  clear K16
  have c5 := K.out.cell 5 rfl
  dsimp only at c5
  go_wp2_with fail
  clear c5
  refine (joined_any A5 n k5 (xs) _ (K.out.read 5 rfl) F.valid F.joV).mono ?_
  rintro e w18 ⟨A18, n18, k18, rfl, r18, b18⟩
  generalize w16.heap.size = b16 at K ⊢
  have K18 : Hid (Bag w (w18.alloc (.cells #[.slice A18 n18 k18] 28)) (⟨w18.heap.size, A18, n18, k18, mvJo n xs⟩ :: [⟨b16, A16, n16, k16, mvOd n xs⟩, ⟨b14, A14, n14, k14, mvEv n xs⟩, ⟨b12, A12, n12, k12, mvSc n xs y⟩, ⟨b10, A10, n10, k10, mvSt n xs y⟩, ⟨b8, A8, n8, k8, mvSh n xs y⟩, ⟨b5, A5, n, k5, xs⟩])) := K.out.add b18 r18
  clear K b18 r18
  have K := K18
  clear K18
  have c5 := K.out.cell 6 rfl
  dsimp only at c5
  go_wp2_with fail
  clear c5
  refine (rise_any A5 n k5 (xs) _ (K.out.read 6 rfl) F.valid F.riQ F.riV).mono ?_
  rintro e w20 ⟨A20, n20, k20, rfl, r20, b20⟩
  generalize w18.heap.size = b18 at K ⊢
  have K20 : Hid (Bag w (w20.alloc (.cells #[.slice A20 n20 k20] 28)) (⟨w20.heap.size, A20, n20, k20, mvRi n xs⟩ :: [⟨b18, A18, n18, k18, mvJo n xs⟩, ⟨b16, A16, n16, k16, mvOd n xs⟩, ⟨b14, A14, n14, k14, mvEv n xs⟩, ⟨b12, A12, n12, k12, mvSc n xs y⟩, ⟨b10, A10, n10, k10, mvSt n xs y⟩, ⟨b8, A8, n8, k8, mvSh n xs y⟩, ⟨b5, A5, n, k5, xs⟩])) := K.out.add b20 r20
  clear K b20 r20
  have K := K20
  clear K20
  have c20 := K.out.cell 0 rfl
  dsimp only at c20
  go_wp2_with fail
  clear c20
  refine (slopePoly_any A20 n20 k20 (mvRi n xs) _ (K.out.read 0 rfl) F.riV (fun k h1 h2 => F.slW k h1 (Nat.lt_of_lt_of_eq h2 (K.out.read 0 rfl).len.symm)) F.slV).mono ?_
  rintro e w22 ⟨A22, n22, k22, rfl, r22, b22⟩
  obtain rfl : n = n22 := by rw [← r22.len]; exact F.slL.symm
  generalize w20.heap.size = b20 at K ⊢
  have K22 : Hid (Bag w (w22.alloc (.cells #[.slice A22 n k22] 28)) (⟨w22.heap.size, A22, n, k22, mvSl n xs⟩ :: [⟨b20, A20, n20, k20, mvRi n xs⟩, ⟨b18, A18, n18, k18, mvJo n xs⟩, ⟨b16, A16, n16, k16, mvOd n xs⟩, ⟨b14, A14, n14, k14, mvEv n xs⟩, ⟨b12, A12, n12, k12, mvSc n xs y⟩, ⟨b10, A10, n10, k10, mvSt n xs y⟩, ⟨b8, A8, n8, k8, mvSh n xs y⟩, ⟨b5, A5, n, k5, xs⟩])) := K.out.add b22 r22
  clear K b22 r22
  have K := K22
  clear K22
  have c5 := K.out.cell 8 rfl
  dsimp only at c5
  go_wp2_with fail
  clear c5
  refine (at_of F.vW _ (K.out.read 8 rfl)).mono ?_
  rintro e w24 ⟨rfl, b24⟩
  have K24 := Lib.hid (K.out.step b24)
  clear K b24
  have K := K24
  clear K24
  generalize w22.heap.size = b22 at K ⊢
  have esub := runC_minus 34 F.dW
  have c8 := K.out.cell 7 rfl
  dsimp only at c8
  go_wp2_with (rw [esub])
  clear c8
  clear esub
  refine (at_of F.sW _ (K.out.read 7 rfl)).mono ?_
  rintro e w26 ⟨rfl, b26⟩
  have K26 := Lib.hid (K.out.step b26)
  clear K b26
  have K := K26
  clear K26
  have HLZ := Lib.hid (fun W => long1_any z F.lz W F.lzW)
  have HLY := Lib.hid (fun W => long1_any y F.ly W F.lyW)
  have HSW := Lib.hid (fun W H => sz_of (A := A5) (n := n) (c := k5) F.wideW W H)
  have etw := runOp 31 F.twW
  have eqw := runOp 31 F.qwW
  have c5 := K.out.cell 8 rfl
  dsimp only at c5
  go_wp2_with fail
  go_region_held3 (fun wx => wx.cell? ⟨b5, 0, none⟩ = some (.slice A5 n k5)) (first | exact c5 | go_keep)
    (first | (go_at_call_of 40 (Value.complex .f32 z.1 z.2); refine (HLZ.out _).mono ?_; rintro e w' ⟨rfl, rfl⟩) | (go_at_call_of 40 (Value.complex .f32 y.1 y.2); refine (HLY.out _).mono ?_; rintro e w' ⟨rfl, rfl⟩) | (go_at_call 13; refine (HSW.out _ ((K.out.step (Below.drew (Below.refl _ _))).read 8 rfl)).mono ?_; rintro e w28 ⟨rfl, b28⟩; have B28 := Lib.hid (Below.trans (Below.drew (Below.refl _ _)) b28); have K28 := Lib.hid (K.out.step B28.out); clear b28; have e5 := K28.out.cell 8 rfl; dsimp only at e5) | (rw [etw]) | (rw [eqw]))
  clear K c5 e5 HLZ HSW etw eqw
  have K := K28
  clear K28
  have HFA := Lib.hid (fun W => far_any F.s F.v F.f1 W F.f1W)
  have eon1 := runOp 35 F.c1.add
  have emu1 := runOp 35 F.c1.mul
  have ech1 := F.c1.ok
  have c10 := K.out.cell 6 rfl
  dsimp only at c10
  go_wp2_with (first | (go_at_call 14; refine (HFA.out _).mono ?_; rintro e w' ⟨rfl, rfl⟩) | rw [eon1] | rw [emu1])
  clear HFA eon1 emu1 ech1 c10
  refine (at_of F.tW _ (K.out.read 6 rfl)).mono ?_
  rintro e w29 ⟨rfl, b29⟩
  have K29 := Lib.hid (K.out.step b29)
  clear K b29
  have K := K29
  clear K29
  have em := runC_mul 34 F.mW
  have c5 := K.out.cell 8 rfl
  dsimp only at c5
  go_wp2_with (rw [em])
  clear c5
  refine (at_of F.mvW _ (K.out.read 8 rfl)).mono ?_
  rintro e w31 ⟨rfl, b31⟩
  have K31 := Lib.hid (K.out.step b31)
  clear K b31
  have K := K31
  clear K31
  have c12 := K.out.cell 5 rfl
  dsimp only at c12
  go_wp2_with fail
  clear c12
  refine (at_of F.cW _ (K.out.read 5 rfl)).mono ?_
  rintro e w33 ⟨rfl, b33⟩
  have K33 := Lib.hid (K.out.step b33)
  clear K b33
  have K := K33
  clear K33
  have c14 := K.out.cell 4 rfl
  dsimp only at c14
  go_wp2_with fail
  clear c14
  refine (at_of F.eW _ (K.out.read 4 rfl)).mono ?_
  rintro e w35 ⟨rfl, b35⟩
  have K35 := Lib.hid (K.out.step b35)
  clear K b35
  have K := K35
  clear K35
  have c16 := K.out.cell 3 rfl
  dsimp only at c16
  go_wp2_with fail
  clear c16
  refine (at_of F.oW _ (K.out.read 3 rfl)).mono ?_
  rintro e w37 ⟨rfl, b37⟩
  have K37 := Lib.hid (K.out.step b37)
  clear K b37
  have K := K37
  clear K37
  have HCJ := Lib.hid (fun W => conj_any z W)
  have HAJ := Lib.hid (fun W H => at_of (A := A18) (n := n18) (c := k18) F.jW W H)
  have c18 := K.out.cell 2 rfl
  dsimp only at c18
  go_wp2_with fail
  go_region_held3 (fun wx => wx.cell? ⟨b18, 0, none⟩ = some (.slice A18 n18 k18)) (first | exact c18 | go_keep)
    (first | (go_at_call 41; refine (HCJ.out _).mono ?_; rintro e w' ⟨rfl, rfl⟩) | (go_at_call 11; refine (HAJ.out _ ((K.out.step (Below.drew (Below.refl _ _))).read 2 rfl)).mono ?_; rintro e w39 ⟨rfl, b39⟩; have B39 := Lib.hid (Below.trans (Below.drew (Below.refl _ _)) b39); have K39 := Lib.hid (K.out.step B39.out); clear b39; have e18 := K39.out.cell 2 rfl; dsimp only at e18))
  clear K c18 e18 HCJ HAJ
  have K := K39
  clear K39
  have HSP := Lib.hid (fun W H => sz_of (A := A5) (n := n) (c := k5) F.sizeW W H)
  have HSM := Lib.hid (fun W H => sz_of (A := A5) (n := n) (c := k5) F.size2W W H)
  have HF2 := Lib.hid (fun W => far_any F.t F.mv F.f2 W F.f2W)
  have HF3 := Lib.hid (fun W => far_any F.c F.vy F.f3 W F.f3W)
  have HF4 := Lib.hid (fun W => far_any F.eo F.v F.f4 W F.f4W)
  have HF5 := Lib.hid (fun W => far_any F.j (conjF F.v) F.f5 W F.f5W)
  have HCV := Lib.hid (fun W => conj_any F.v W)
  have evy := runC_mul 34 F.vyW
  have eeo := runC_plus 34 F.eoW
  have ely := run64 F.lyC
  have esl := runOp 35 F.slM
  have eon2 := runOp 35 F.c2.add
  have emu2 := runOp 35 F.c2.mul
  have ech2 := F.c2.ok
  have eon3 := runOp 35 F.c3.add
  have emu3 := runOp 35 F.c3.mul
  have ech3 := F.c3.ok
  have eon4 := runOp 35 F.c4.add
  have emu4 := runOp 35 F.c4.mul
  have ech4 := F.c4.ok
  have ech5 := F.c5.ok
  have c5 := K.out.cell 8 rfl
  dsimp only at c5
  have HLY2 := Lib.hid (fun W => long1_any y F.ly W F.lyW)
  go_wp2_with (go_at_call_of 13 (Value.complex .f32 z.1 z.2); refine (HSP.out _ (K.out.read 8 rfl)).mono ?_; rintro e w41 ⟨rfl, b41⟩; have K41 := Lib.hid (K.out.step b41); clear b41)
  clear K c5 HSP
  have K := K41
  clear K41
  have c5 := K.out.cell 8 rfl
  dsimp only at c5
  simp only [List.append]
  go_region_held3 (fun wx => wx.cell? ⟨b5, 0, none⟩ = some (.slice A5 n k5)) (first | exact c5 | go_keep)
    (first | (go_at_call 13; refine (HSM.out _ ((K.out.step (Below.drew (Below.refl _ _))).read 8 rfl)).mono ?_; rintro e w42 ⟨rfl, b42⟩; have B42 := Lib.hid (Below.trans (Below.drew (Below.refl _ _)) b42); have K42 := Lib.hid (K.out.step B42.out); clear b42; have e5 := K42.out.cell 8 rfl; dsimp only at e5) | (go_at_call_of 14 (Value.complex .f32 F.t.1 F.t.2); refine (HF2.out _).mono ?_; rintro e w' ⟨rfl, rfl⟩) | (go_at_call_of 14 (Value.complex .f32 F.c.1 F.c.2); refine (HF3.out _).mono ?_; rintro e w' ⟨rfl, rfl⟩) | (go_at_call_of 14 (Value.complex .f32 F.eo.1 F.eo.2); refine (HF4.out _).mono ?_; rintro e w' ⟨rfl, rfl⟩) | (go_at_call_of 14 (Value.complex .f32 F.j.1 F.j.2); refine (HF5.out _).mono ?_; rintro e w' ⟨rfl, rfl⟩) | (go_at_call 41; refine (HCV.out _).mono ?_; rintro e w' ⟨rfl, rfl⟩) | (go_at_call 40; refine (HLY2.out _).mono ?_; rintro e w' ⟨rfl, rfl⟩) | (rw [em]) | (rw [evy]) | (rw [eeo]) | (rw [ely]) | (rw [esl]) | (rw [eon2]) | (rw [emu2]) | (rw [eon3]) | (rw [emu3]) | (rw [eon4]) | (rw [emu4]))
  clear HSM HF2 HF3 HF4 HF5 HCV HLY2 HLY em evy eeo ely esl eon2 emu2 ech2 eon3 emu3 ech3 eon4 emu4 ech4 ech5 c5 e5 K
  have K := K42
  clear K42
  as_aux_lemma =>
    have c5 := K.out.cell 8 rfl
    dsimp only at c5
    have c22 := K.out.cell 0 rfl
    dsimp only at c22
    obtain ⟨bs, os, rfl, hbs, hcs⟩ := (K.out.read 0 rfl).at_ (by show 1 ≤ _; omega)
    obtain ⟨bp, op, rfl, hbp, hcp⟩ := (K.out.read 8 rfl).at_ (by show 1 ≤ _; omega)
    dsimp only at hbs hcs hbp hcp
    clear hbs hcs hbp hcp
    go_wp2_with fail
    clear c5 c22
    go_loopg [42] n (fun g s42 wr => ∃ i : Nat, i ≤ n ∧ n - i ≤ g ∧ s42 = .int .i64 i ∧ Bag w wr [⟨b22, (some ⟨bs, os, none⟩), n, k22, mvSl n xs⟩, ⟨b20, A20, n20, k20, mvRi n xs⟩, ⟨b18, A18, n18, k18, mvJo n xs⟩, ⟨b16, A16, n16, k16, mvOd n xs⟩, ⟨b14, A14, n14, k14, mvEv n xs⟩, ⟨b12, A12, n12, k12, mvSc n xs y⟩, ⟨b10, A10, n10, k10, mvSt n xs y⟩, ⟨b8, A8, n8, k8, mvSh n xs y⟩, ⟨b5, (some ⟨bp, op, none⟩), n, k5, xs⟩])
    case atStart => exact ⟨0, by omega, by omega, rfl, K.out⟩
    case round =>
      clear K
      obtain ⟨i, hi, hg, rfl, hK⟩ := hrel
      have K := Lib.hid hK
      clear hK
      by_cases hlt : i < n
      · have hltz : (i : Int) < (n : Int) := by omega
        have hlz0 : (0 : Int) ≤ (i : Int) := by omega
        obtain ⟨_, _, e0, hbs, hcs⟩ := (K.out.read 0 rfl).at_ (by show 1 ≤ _; omega)
        dsimp only at e0
        cases e0
        obtain ⟨_, _, e0, hbp, hcp⟩ := (K.out.read 8 rfl).at_ (by show 1 ≤ _; omega)
        dsimp only at e0
        cases e0
        have hxs := hcs i hlt
        have hxp := hcp i hlt
        dsimp only at hxs hxp
        clear hbs hcs hbp hcp
        have HFA := Lib.hid (fun W => far_any _ _ _ W (F.fkW i hlt))
        have HLA := Lib.hid (fun W => long1_any _ _ W (F.lkW i hlt))
        have ewk := run64 (F.wkW i hlt)
        have eon7 := runOp 35 (F.ck i hlt).add
        have emu7 := runOp 35 (F.ck i hlt).mul
        have ech7 := (F.ck i hlt).ok
        unfold cx at hxs hxp
        generalize (mvSl n xs).getD i (0, 0) = xa at hxs HFA
        generalize xs.getD i (0, 0) = xb at hxp HFA HLA
        have c5 := K.out.cell 8 rfl
        dsimp only at c5
        have c22 := K.out.cell 0 rfl
        dsimp only at c22
        go_wp2_with fail
        go_quiet (first
          | (go_at_call 14; exact Calls.quiet_of_same ((HFA.out _).mono (fun _ _ h => ⟨h.1, h.2.symm⟩)))
          | (go_at_call 40; exact Calls.quiet_of_same ((HLA.out _).mono (fun _ _ h => ⟨h.1, h.2.symm⟩))))
        clear HFA HLA ewk eon7 emu7 hxs hxp c5 c22
        go_wp2_with fail
        go_roundg (n - (i + 1))
        case measure => omega
        case rel => exact ⟨i + 1, by omega, by omega, by go_num, K.out.step (drewN_below (Below.refl _ _) nq)⟩
      · have hltz : ¬ (i : Int) < (n : Int) := by omega
        obtain rfl : n = i := by omega
        have c5 := K.out.cell 8 rfl
        dsimp only at c5
        go_wp2_with fail
        clear c5 hlt hltz hi hg
        refine (slopesAt_any _ n k5 xs z _ (K.out.read 8 rfl) F.valid F.nz F.liW F.liN).mono ?_
        rintro e w43 ⟨A43, k43, rfl, r43, b43⟩
        have R43 := Lib.hid r43
        have K43 := Lib.hid (K.out.step b43)
        clear K b43 r43
        have K := K43
        clear K43
        have c5 := K.out.cell 8 rfl
        dsimp only at c5
        go_wp2_with fail
        clear c5
        refine (slopePoly_any _ n k5 xs _ (K.out.read 8 rfl) F.valid F.fiW F.fiV).mono ?_
        rintro e w45 ⟨A45, n45, k45, rfl, r45, b45⟩
        have R45 := Lib.hid (R43.out.in_' (bthen b45 (al1 w45 (.cells #[.slice A45 n45 k45] 28))))
        have K45 : Hid (Bag w (w45.alloc (.cells #[.slice A45 n45 k45] 28)) (⟨w45.heap.size, A45, n45, k45, mvFi xs⟩ :: [⟨b22, (some ⟨bs, os, none⟩), n, k22, mvSl n xs⟩, ⟨b20, A20, n20, k20, mvRi n xs⟩, ⟨b18, A18, n18, k18, mvJo n xs⟩, ⟨b16, A16, n16, k16, mvOd n xs⟩, ⟨b14, A14, n14, k14, mvEv n xs⟩, ⟨b12, A12, n12, k12, mvSc n xs y⟩, ⟨b10, A10, n10, k10, mvSt n xs y⟩, ⟨b8, A8, n8, k8, mvSh n xs y⟩, ⟨b5, (some ⟨bp, op, none⟩), n, k5, xs⟩])) := K.out.add b45 r45
        clear K b45 r45
        have K := K45
        clear K45
        have c45 := K.out.cell 0 rfl
        dsimp only at c45
        go_wp2_with fail
        clear c45
        refine (at_of F.dvW _ (K.out.read 0 rfl)).mono ?_
        rintro e w47 ⟨rfl, b47⟩
        have R47 := Lib.hid (R45.out.in_' b47)
        have K47 := Lib.hid (K.out.step b47)
        clear K b47 R45 R43
        have K := K47
        clear K47
        generalize w45.heap.size = b45 at K ⊢
        obtain ⟨bl, ol, rfl, hbl, hcl⟩ := R47.out.at_ (by omega)
        have hl0 := hcl 0 (by omega)
        unfold cx at hl0
        simp only [Nat.add_zero] at hl0
        have HF6 := Lib.hid (fun W => far_any _ _ _ W F.f6W)
        have eon6 := runOp 35 F.c6.add
        have emu6 := runOp 35 F.c6.mul
        have ech6 := F.c6.ok
        generalize (shPass z n xs n).getD 0 (0, 0) = x0 at hl0 HF6
        have hlen0 : (0 : Int) < (n : Int) := by omega
        by_cases hone : n = 1
        · as_aux_lemma =>
            have hlen1 : ¬ (1 : Int) < (n : Int) := by omega
            have hd1 : decide ((1 : Int) < (n : Int)) = false := by simp; omega
            have HONE := Lib.hid hone
            clear hcl hone
            have c5 := K.out.cell 9 rfl
            dsimp only at c5
            have c45 := K.out.cell 0 rfl
            dsimp only at c45
            go_wp2_with fail
            go_quiet (first | (go_at_call 14; exact Calls.quiet_of_same ((HF6.out _).mono (fun _ _ h => ⟨h.1, h.2.symm⟩))))
            clear HF6 eon6 emu6 ech6 c5 c45 hl0 hlen1 hd1
            have K48 := Lib.hid (K.out.step (drewN_below (Below.refl _ _) nq))
            clear K
            have K := K48
            clear K48
            have c5 := K.out.cell 9 rfl
            dsimp only at c5
            go_wp2_with fail
            clear c5
            refine (monic_any _ n k5 xs _ (K.out.read 9 rfl) F.valid F.qf F.moZ F.moQ (by rw [F.moT]; exact F.moV)).mono ?_
            rintro e w49 ⟨A49, n49, k49, rfl, r49, b49⟩
            rw [F.moT] at r49
            obtain rfl : n = n49 := by rw [← r49.len]; exact (monC_len n F.qf hn1).symm
            have K49 : Hid (Bag w (w49.alloc (.cells #[.slice A49 n k49] 28)) (⟨w49.heap.size, A49, n, k49, monC n F.qf⟩ :: [⟨b45, A45, n45, k45, mvFi xs⟩, ⟨b22, (some ⟨bs, os, none⟩), n, k22, mvSl n xs⟩, ⟨b20, A20, n20, k20, mvRi n xs⟩, ⟨b18, A18, n18, k18, mvJo n xs⟩, ⟨b16, A16, n16, k16, mvOd n xs⟩, ⟨b14, A14, n14, k14, mvEv n xs⟩, ⟨b12, A12, n12, k12, mvSc n xs y⟩, ⟨b10, A10, n10, k10, mvSt n xs y⟩, ⟨b8, A8, n8, k8, mvSh n xs y⟩, ⟨b5, (some ⟨bp, op, none⟩), n, k5, xs⟩])) := K.out.add b49 r49
            clear K b49 r49
            have K := K49
            clear K49
            have c5 := K.out.cell 10 rfl
            dsimp only at c5
            go_wp2_with fail
            clear c5
            refine (within_none _ n k5 xs _ HONE.out (K.out.read 10 rfl) F.valid).mono ?_
            rintro e w51 ⟨rfl, b51⟩
            have K51 := Lib.hid (K.out.step b51)
            clear K b51
            have K := K51
            clear K51
            generalize w49.heap.size = b49 at K ⊢
            have c5 := K.out.cell 10 rfl
            dsimp only at c5
            go_wp2_with fail
            clear c5
            refine (thin_any _ n k5 xs _ (K.out.read 10 rfl) F.valid F.trim F.thL).mono ?_
            rintro e w53 ⟨A53, n53, k53, rfl, r53, b53⟩
            have K53 : Hid (Bag w (w53.alloc (.cells #[.slice A53 n53 k53] 28)) (⟨w53.heap.size, A53, n53, k53, xs⟩ :: [⟨b49, A49, n, k49, monC n F.qf⟩, ⟨b45, A45, n45, k45, mvFi xs⟩, ⟨b22, (some ⟨bs, os, none⟩), n, k22, mvSl n xs⟩, ⟨b20, A20, n20, k20, mvRi n xs⟩, ⟨b18, A18, n18, k18, mvJo n xs⟩, ⟨b16, A16, n16, k16, mvOd n xs⟩, ⟨b14, A14, n14, k14, mvEv n xs⟩, ⟨b12, A12, n12, k12, mvSc n xs y⟩, ⟨b10, A10, n10, k10, mvSt n xs y⟩, ⟨b8, A8, n8, k8, mvSh n xs y⟩, ⟨b5, (some ⟨bp, op, none⟩), n, k5, xs⟩])) := K.out.add b53 r53
            clear K b53 r53
            have K := K53
            clear K53
            have HSP := Lib.hid (fun W H H1 => samePoly_any A53 n53 k53 (some ⟨bp, op, none⟩) n k5 xs W H H1 F.same)
            obtain ⟨bm, om, rfl, hbm, hcm⟩ := (K.out.read 1 rfl).at_ (by show 1 ≤ _; omega)
            dsimp only at hbm hcm
            clear hbm hcm
            have hm1 : (FloatKind.f32.format.order 1065353216 1065353216 == some .eq) = true := by decide +kernel
            have hm2 : (FloatKind.f32.format.order 0 0 == some .eq) = true := by decide +kernel
            have hi1 : (0 : Int) ≤ (n : Int) - 1 := by omega
            have hi2 : (n : Int) - 1 < (n : Int) := by omega
            have hgt : ¬ (1 : Int) < (n : Int) := by have := HONE.out; omega
            have c5 := K.out.cell 11 rfl
            dsimp only at c5
            have c53 := K.out.cell 0 rfl
            dsimp only at c53
            go_wp2_with (first | (go_at_call 22; refine (HSP.out _ (K.out.read 0 rfl) (K.out.read 11 rfl)).mono ?_; rintro e w54 ⟨rfl, b54⟩; have K54 := Lib.hid (K.out.step b54); have f49 := K54.out.cell 1 rfl; dsimp only at f49; obtain ⟨_, _, e0, hbm, hcm⟩ := (K54.out.read 1 rfl).at_ (by show 1 ≤ _; omega); dsimp only at e0; cases e0; have hml := hcm (n - 1) (by show n - 1 < n; omega); dsimp only at hml; rw [mon_last n F.qf] at hml; unfold cx at hml; clear b54 hbm hcm))
            go_ret
            refine ⟨?_, K54.out.below⟩
            show Ending.returned (.bool (!decide ((1 : Int) < (n : Int)))) = _
            have hd9 : decide ((1 : Int) < (n : Int)) = false := by simp; omega
            rw [hd9]
            rfl
        · as_aux_lemma =>
            have hn2 : 1 < n := by omega
            clear hone
            obtain ⟨f7, e8, a8, s9, b9, m9, g1, g2, g3, g4, g5, g6, ech7⟩ := F.more hn2
            have HF7 := Lib.hid (fun W => far_any _ _ _ W g1)
            have ee8 := runOp 35 g2
            have ea8 := runOp 35 g3
            have HS9 := Lib.hid (fun W H => sz_of (A := A45) (n := n45) (c := k45) g4 W H)
            have eb9 := runOp 35 g5
            have em9 := runOp 35 g6
            have hl1 := hcl 1 (by omega)
            unfold cx at hl1
            have hlen1 : (1 : Int) < (n : Int) := by omega
            have hf7 : ∃ f : Nat × Nat, f = (shPass z n xs n).getD 1 (0, 0) := ⟨_, rfl⟩
            generalize (shPass z n xs n).getD 1 (0, 0) = x1 at hl1 HF7
            clear hcl g1 g2 g3 g4 g5 g6 hf7
            have c5 := K.out.cell 9 rfl
            dsimp only at c5
            have c45 := K.out.cell 0 rfl
            dsimp only at c45
            go_wp2_with fail
            have hn01 : 0 < n := by omega
            go_region_held3 (fun wx => wx.cell? ⟨b5, 0, none⟩ = some (.slice (some ⟨bp, op, none⟩) n k5) ∧ wx.cell? ⟨b45, 0, none⟩ = some (.slice A45 n45 k45) ∧ wx.cell? ⟨bl, ol, none⟩ = some (.complex .f32 x0.1 x0.2) ∧ wx.cell? ⟨bl, ol + 1, none⟩ = some (.complex .f32 x1.1 x1.2)) (first | exact ⟨c5, c45, hl0, hl1⟩ | go_keep)
              (first | (go_at_call 13; refine (HS9.out _ ((K.out.step (Below.drew (Below.refl _ _))).read 0 rfl)).mono ?_; rintro e w48 ⟨rfl, b48⟩; have B48 := Lib.hid (Below.trans (Below.drew (Below.refl _ _)) b48); have K48 := Lib.hid (K.out.step B48.out); have e5 := K48.out.cell 9 rfl; dsimp only at e5; have e45 := K48.out.cell 0 rfl; dsimp only at e45; have hl0e := (B48.out.cell (p := ⟨bl, ol, none⟩) hbl).trans hl0; have hl1e := (B48.out.cell (p := ⟨bl, ol + 1, none⟩) hbl).trans hl1; clear b48) | (go_at_call_of 14 (Value.complex .f32 x0.1 x0.2); refine (HF6.out _).mono ?_; rintro e w' ⟨rfl, rfl⟩) | (go_at_call_of 14 (Value.complex .f32 x1.1 x1.2); refine (HF7.out _).mono ?_; rintro e w' ⟨rfl, rfl⟩) | (rw [eon6]) | (rw [emu6]) | (rw [ee8]) | (rw [ea8]) | (rw [eb9]) | (rw [em9]))
            clear hn01 HF6 HF7 HS9 eon6 emu6 ech6 ee8 ea8 eb9 em9 ech7 c5 c45 e5 e45 hl0 hl1 hl0e hl1e hlen1 K
            have K := K48
            clear K48
            have c5 := K.out.cell 9 rfl
            dsimp only at c5
            go_wp2_with fail
            clear c5
            refine (monic_any _ n k5 xs _ (K.out.read 9 rfl) F.valid F.qf F.moZ F.moQ (by rw [F.moT]; exact F.moV)).mono ?_
            rintro e w49 ⟨A49, n49, k49, rfl, r49, b49⟩
            rw [F.moT] at r49
            obtain rfl : n = n49 := by rw [← r49.len]; exact (monC_len n F.qf hn1).symm
            have K49 : Hid (Bag w (w49.alloc (.cells #[.slice A49 n k49] 28)) (⟨w49.heap.size, A49, n, k49, monC n F.qf⟩ :: [⟨b45, A45, n45, k45, mvFi xs⟩, ⟨b22, (some ⟨bs, os, none⟩), n, k22, mvSl n xs⟩, ⟨b20, A20, n20, k20, mvRi n xs⟩, ⟨b18, A18, n18, k18, mvJo n xs⟩, ⟨b16, A16, n16, k16, mvOd n xs⟩, ⟨b14, A14, n14, k14, mvEv n xs⟩, ⟨b12, A12, n12, k12, mvSc n xs y⟩, ⟨b10, A10, n10, k10, mvSt n xs y⟩, ⟨b8, A8, n8, k8, mvSh n xs y⟩, ⟨b5, (some ⟨bp, op, none⟩), n, k5, xs⟩])) := K.out.add b49 r49
            clear K b49 r49
            have K := K49
            clear K49
            have c5 := K.out.cell 10 rfl
            dsimp only at c5
            go_wp2_with fail
            clear c5
            obtain ⟨ls, qs, mo, lw, rw_, g1, g2⟩ := F.wi hn2
            refine (within_any _ n k5 xs ls qs mo lw rw_ _ (K.out.read 10 rfl) F.valid hn2 g1).mono ?_
            rintro e w51 ⟨rfl, b51⟩
            have K51 := Lib.hid (K.out.step b51)
            clear K b51
            have K := K51
            clear K51
            generalize w49.heap.size = b49 at K ⊢
            have c5 := K.out.cell 10 rfl
            dsimp only at c5
            go_wp2_with fail
            clear c5
            refine (thin_any _ n k5 xs _ (K.out.read 10 rfl) F.valid F.trim F.thL).mono ?_
            rintro e w53 ⟨A53, n53, k53, rfl, r53, b53⟩
            have K53 : Hid (Bag w (w53.alloc (.cells #[.slice A53 n53 k53] 28)) (⟨w53.heap.size, A53, n53, k53, xs⟩ :: [⟨b49, A49, n, k49, monC n F.qf⟩, ⟨b45, A45, n45, k45, mvFi xs⟩, ⟨b22, (some ⟨bs, os, none⟩), n, k22, mvSl n xs⟩, ⟨b20, A20, n20, k20, mvRi n xs⟩, ⟨b18, A18, n18, k18, mvJo n xs⟩, ⟨b16, A16, n16, k16, mvOd n xs⟩, ⟨b14, A14, n14, k14, mvEv n xs⟩, ⟨b12, A12, n12, k12, mvSc n xs y⟩, ⟨b10, A10, n10, k10, mvSt n xs y⟩, ⟨b8, A8, n8, k8, mvSh n xs y⟩, ⟨b5, (some ⟨bp, op, none⟩), n, k5, xs⟩])) := K.out.add b53 r53
            clear K b53 r53
            have K := K53
            clear K53
            have HSP := Lib.hid (fun W H H1 => samePoly_any A53 n53 k53 (some ⟨bp, op, none⟩) n k5 xs W H H1 F.same)
            obtain ⟨bm, om, rfl, hbm, hcm⟩ := (K.out.read 1 rfl).at_ (by show 1 ≤ _; omega)
            dsimp only at hbm hcm
            clear hbm hcm
            have hm1 : (FloatKind.f32.format.order 1065353216 1065353216 == some .eq) = true := by decide +kernel
            have hm2 : (FloatKind.f32.format.order 0 0 == some .eq) = true := by decide +kernel
            have hi1 : (0 : Int) ≤ (n : Int) - 1 := by omega
            have hi2 : (n : Int) - 1 < (n : Int) := by omega
            have hgt : (1 : Int) < (n : Int) := by omega
            have hge : (FloatKind.f32.format.order rw_ 1065353216 == some .gt || FloatKind.f32.format.order rw_ 1065353216 == some .eq) = true := by rcases g2 with h | h <;> rw [h] <;> rfl
            have HGE := Lib.hid hge
            clear hge g2
            have c5 := K.out.cell 11 rfl
            dsimp only at c5
            have c53 := K.out.cell 0 rfl
            dsimp only at c53
            go_wp2_with (first | (go_at_call 22; refine (HSP.out _ (K.out.read 0 rfl) (K.out.read 11 rfl)).mono ?_; rintro e w54 ⟨rfl, b54⟩; have K54 := Lib.hid (K.out.step b54); have f49 := K54.out.cell 1 rfl; dsimp only at f49; obtain ⟨_, _, e0, hbm, hcm⟩ := (K54.out.read 1 rfl).at_ (by show 1 ≤ _; omega); dsimp only at e0; cases e0; have hml := hcm (n - 1) (by show n - 1 < n; omega); dsimp only at hml; rw [mon_last n F.qf] at hml; unfold cx at hml; clear b54 hbm hcm))
            go_ret
            refine ⟨?_, K54.out.below⟩
            show Ending.returned (.bool (FloatKind.f32.format.order rw_ 1065353216 == some .gt || FloatKind.f32.format.order rw_ 1065353216 == some .eq)) = _
            rw [HGE.out]
end Go.Proofs.Ytfbekiphlaaieaa
