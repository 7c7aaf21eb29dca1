/- FnExactPolyOfReal: the walk of the law: whatever the arguments it answers true and leaves all memory of before as it was. No condition. -/
import Derived.Test.YtlfjnpioamcbhaaReal
import Derived.Test.YtlfjnpioamcbhaaMarkReal
import Derived.Test.YtlfjnpioamcbhaaCPoly
import Derived.Test.YtlfjnpioamcbhaaPolyOf
import Derived.Deep.RegionHeld3
import Derived.Deep.DeepCutAuto
namespace Go.Proofs.Ytlfjnpioamcbhaa
open Go.RowKit

set_option maxHeartbeats 4000000 in
theorem walkPolyOfReal (A0 : Option Addr) (n0 c0 : Nat) (xs0 : List Int) (w : World) (h0 : Rd w w.heap.size A0 n0 c0 xs0) :
    Calls Try.prog 3 #[.agg #[.slice A0 n0 c0]] w fun e w' => e = .returned (.bool true) ∧ Below w.heap.size w w' := by
  have hm0 : n0 ≤ 9223372036854775807 := by have hh1 := h0.cap; have hh2 := h0.most; unfold maxLen at hh2; omega
  by_cases s0 : (1048576 : Int) < n0
  · go_enter Try.func3, Try.ntmps3
    go_wp2_with fail
    refine (szReal_big A0 n0 c0 1048576 _ hm0 (by omega) (by omega) s0).mono ?_
    rintro e w1 ⟨rfl, b1⟩
    go_wp2_with fail
    go_ret
    exact ⟨rfl, bthen (al1 w _) b1⟩
  have kp0 : ∀ t0, (w.alloc (.cells #[.slice A0 n0 c0] t0)).cell? ⟨w.heap.size, 0, none⟩ = some (.slice A0 n0 c0) := by intros; simp [go_sem]
  go_enter Try.func3, Try.ntmps3
  have hn0 : n0 ≤ 1048576 := by omega
  go_wp2_with fail
  refine (szReal_fits A0 n0 c0 (1048576) _ hm0 (by omega) (by omega) (by omega)).mono ?_
  rintro e w1 ⟨rfl, b1⟩
  have B1 := bthen (al1 w _) b1
  have kp0_1 := cell_kept b1 (kp0 _)
  have bbp0_1 : Blk w1 (w.heap.size) 24 #[.slice A0 n0 c0] := Blk.kept (Blk.new w 24 #[.slice A0 n0 c0]) b1
  clear b1 kp0
  go_wp2_with fail
  refine (toReal_any A0 n0 c0 xs0 _ (h0.in_ B1) hn0).mono ?_
  rintro e w2 ⟨As0, cs0, rfl, u2, b2⟩
  have B2 := bthen B1 b2
  have bbp0_2 : Blk w2 (w.heap.size) 24 #[.slice A0 n0 c0] := Blk.kept bbp0_1 b2
  have kp0_2 := cell_kept b2 kp0_1
  clear bbp0_1 kp0_1 B1 b2
  go_wp2_with fail
  refine (polyOf_ref As0 n0 cs0 xs0 _ (Mine.rd u2)).mono ?_
  rintro e w3 ⟨Aw0, nw0, cw0, rfl, u3w0, b3⟩
  have B3 := bthen B2 b3
  have bbp0_3 : Blk w3 (w.heap.size) 24 #[.slice A0 n0 c0] := Blk.kept bbp0_2 b3
  have kp0_3 := cell_kept b3 kp0_2
  have os0_3 := Mine.below u2 b3
  clear bbp0_2 kp0_2 u2 B2 b3
  clear os0_3
  have lp0_w3 : w.heap.size < w3.heap.size := World.block_lt_of_cell? _ _ kp0_3
  go_wp2_with fail
  refine (toReal_any A0 n0 c0 xs0 _ (h0.in_ (B3.alloc B3.size _)) hn0).mono ?_
  rintro e w4 ⟨Ax0, cx0, rfl, u4, b4⟩
  have lbx0 := Lib.hid (lb_of (B3.alloc B3.size _) u4)
  have ap_w0_x0 := apart_cm (CMine.alloc u3w0 _) u4
  have B4 := bthen (B3.alloc B3.size _) b4
  have bbp0_4 : Blk w4 (w.heap.size) 24 #[.slice A0 n0 c0] := Blk.kept (Blk.alloc bbp0_3 _) b4
  have kp0_4 := cell_kept b4 (cell_kept (al1 _ _) kp0_3)
  have bbw0_4 : Blk w4 (w3.heap.size) 28 #[.slice Aw0 nw0 cw0] := Blk.kept (Blk.new _ _ _) b4
  have kw0_4 := cell_kept (b := w3.heap.size) (o := 0) (v := .slice Aw0 nw0 cw0) b4 (by simp [go_sem])
  have ow0_4 := CMine.below (CMine.alloc u3w0 _) b4
  clear bbp0_3 kp0_3 u3w0 B3 b4 lp0_w3
  have lp0_w4 : w.heap.size < w4.heap.size := World.block_lt_of_cell? _ _ kp0_4
  have lw0_w4 : w3.heap.size < w4.heap.size := World.block_lt_of_cell? _ _ kw0_4
  go_wp2_with fail
  refine (polyOf_own Ax0 n0 cx0 xs0 _ (Mine.rd (Mine.alloc u4 _))).mono ?_
  rintro e w5 ⟨Ag0, ng0, cg0, rfl, u5g0, b5⟩
  have lbg0 := Lib.hid (clb_of (B4.alloc B4.size _) u5g0)
  have ap_w0_g0 := capart_of (CMine.alloc ow0_4 _) u5g0
  have ap_x0_g0 := apart_mc (Mine.alloc u4 _) u5g0
  have hng0 : ng0 ≤ 9 := by have hh := CMine.len u5g0; rw [List.length_map] at hh; have hh2 := poly_len xs0; omega
  have B5 := bthen (B4.alloc B4.size _) b5
  have bbp0_5 : Blk w5 (w.heap.size) 24 #[.slice A0 n0 c0] := Blk.kept (Blk.alloc bbp0_4 _) b5
  have kp0_5 := cell_kept b5 (cell_kept (al1 _ _) kp0_4)
  have bbw0_5 : Blk w5 (w3.heap.size) 28 #[.slice Aw0 nw0 cw0] := Blk.kept (Blk.alloc bbw0_4 _) b5
  have kw0_5 := cell_kept b5 (cell_kept (al1 _ _) kw0_4)
  have bbx0_5 : Blk w5 (w4.heap.size) 31 #[.slice Ax0 n0 cx0] := Blk.kept (Blk.new _ _ _) b5
  have kx0_5 := cell_kept (b := w4.heap.size) (o := 0) (v := .slice Ax0 n0 cx0) b5 (by simp [go_sem])
  have ow0_5 := CMine.below (CMine.alloc ow0_4 _) b5
  have ox0_5 := Mine.below (Mine.alloc u4 _) b5
  clear bbp0_4 kp0_4 bbw0_4 kw0_4 ow0_4 u4 B4 b5 lp0_w4 lw0_w4
  have lp0_w5 : w.heap.size < w5.heap.size := World.block_lt_of_cell? _ _ kp0_5
  have lw0_w5 : w3.heap.size < w5.heap.size := World.block_lt_of_cell? _ _ kw0_5
  have lx0_w5 : w4.heap.size < w5.heap.size := World.block_lt_of_cell? _ _ kx0_5
  go_wp2_with fail
  refine (eqPoly_any Ag0 ng0 cg0 Aw0 nw0 cw0 (polyF xs0).1 _ (CMine.rd (CMine.alloc u5g0 _)) (CMine.rd (CMine.alloc ow0_5 _)) (poly_bd xs0)).mono ?_
  rintro e w6 ⟨rfl, b6⟩
  have B6 := bthen (B5.alloc B5.size _) b6
  have bbp0_6 : Blk w6 (w.heap.size) 24 #[.slice A0 n0 c0] := Blk.kept (Blk.alloc bbp0_5 _) b6
  have kp0_6 := cell_kept b6 (cell_kept (al1 _ _) kp0_5)
  have bbw0_6 : Blk w6 (w3.heap.size) 28 #[.slice Aw0 nw0 cw0] := Blk.kept (Blk.alloc bbw0_5 _) b6
  have kw0_6 := cell_kept b6 (cell_kept (al1 _ _) kw0_5)
  have bbx0_6 : Blk w6 (w4.heap.size) 31 #[.slice Ax0 n0 cx0] := Blk.kept (Blk.alloc bbx0_5 _) b6
  have kx0_6 := cell_kept b6 (cell_kept (al1 _ _) kx0_5)
  have bbg0_6 : Blk w6 (w5.heap.size) 28 #[.slice Ag0 ng0 cg0] := Blk.kept (Blk.new _ _ _) b6
  have kg0_6 := cell_kept (b := w5.heap.size) (o := 0) (v := .slice Ag0 ng0 cg0) b6 (by simp [go_sem])
  have ow0_6 := CMine.below (CMine.alloc ow0_5 _) b6
  have ox0_6 := Mine.below (Mine.alloc ox0_5 _) b6
  have og0_6 := CMine.below (CMine.alloc u5g0 _) b6
  clear bbp0_5 kp0_5 bbw0_5 kw0_5 bbx0_5 kx0_5 ow0_5 ox0_5 u5g0 B5 b6 lp0_w5 lw0_w5 lx0_w5
  go_wp2_with fail
  go_region_held3 (fun wx => wx.cell? ⟨w.heap.size, 0, none⟩ = some (.slice A0 n0 c0) ∧ wx.cell? ⟨w4.heap.size, 0, none⟩ = some (.slice Ax0 n0 cx0)) (go_keep)
    (first
      | (go_at_call_of 10 (Value.agg #[Value.slice A0 n0 c0]); refine (toReal_any A0 n0 c0 xs0 _ (h0.in_ B6.drew) hn0).mono ?_; rintro e w7 ⟨Ay0, cy0, rfl, u7, b7⟩; have B7 := bthen B6.drew b7; have bbp0_7 : Blk w7 (w.heap.size) 24 #[.slice A0 n0 c0] := Blk.kept (Blk.drew bbp0_6) b7; have kp0_7 := cell_kept b7 kp0_6; have bbw0_7 : Blk w7 (w3.heap.size) 28 #[.slice Aw0 nw0 cw0] := Blk.kept (Blk.drew bbw0_6) b7; have kw0_7 := cell_kept b7 kw0_6; have bbx0_7 : Blk w7 (w4.heap.size) 31 #[.slice Ax0 n0 cx0] := Blk.kept (Blk.drew bbx0_6) b7; have kx0_7 := cell_kept b7 kx0_6; have bbg0_7 : Blk w7 (w5.heap.size) 28 #[.slice Ag0 ng0 cg0] := Blk.kept (Blk.drew bbg0_6) b7; have kg0_7 := cell_kept b7 kg0_6; have ow0_7 := CMine.below (CMine.drew ow0_6) b7; have ox0_7 := Mine.below (Mine.drew ox0_6) b7; have og0_7 := CMine.below (CMine.drew og0_6) b7; clear bbp0_6 kp0_6 bbw0_6 kw0_6 bbx0_6 kx0_6 bbg0_6 kg0_6 ow0_6 ox0_6 og0_6 B6 b7)
      | (go_at_call 13; refine (eqReal_any Ax0 n0 cx0 xs0 Ay0 n0 cy0 xs0 _ (Mine.rd ox0_7) (Mine.rd u7)).mono ?_; rintro e w8 ⟨rfl, b8⟩; have B8 := bthen B7 b8; have bbp0_8 : Blk w8 (w.heap.size) 24 #[.slice A0 n0 c0] := Blk.kept bbp0_7 b8; have kp0_8 := cell_kept b8 kp0_7; have bbw0_8 : Blk w8 (w3.heap.size) 28 #[.slice Aw0 nw0 cw0] := Blk.kept bbw0_7 b8; have kw0_8 := cell_kept b8 kw0_7; have bbx0_8 : Blk w8 (w4.heap.size) 31 #[.slice Ax0 n0 cx0] := Blk.kept bbx0_7 b8; have kx0_8 := cell_kept b8 kx0_7; have bbg0_8 : Blk w8 (w5.heap.size) 28 #[.slice Ag0 ng0 cg0] := Blk.kept bbg0_7 b8; have kg0_8 := cell_kept b8 kg0_7; have ow0_8 := CMine.below ow0_7 b8; have ox0_8 := Mine.below ox0_7 b8; have og0_8 := CMine.below og0_7 b8; have oy0_8 := Mine.below u7 b8; clear bbp0_7 kp0_7 bbw0_7 kw0_7 bbx0_7 kx0_7 bbg0_7 kg0_7 ow0_7 ox0_7 og0_7 u7 B7 b8))
  clear oy0_8
  go_wp2_with fail
  refine (markReal_any Ax0 n0 cx0 xs0 (1) _ _ ox0_8 (by omega) (by omega) hn0).mono ?_
  rintro e w9 ⟨rfl, u9, g9⟩
  have B9 := below_mark B8 lbx0.out g9
  have bbp0_9 : Blk w9 (w.heap.size) 24 #[.slice A0 n0 c0] := Blk.grown bbp0_8 g9 (Blk.apart bbp0_8 ox0_8 (by decide))
  have kp0_9 := Blk.cell0 bbp0_9
  have bbw0_9 : Blk w9 (w3.heap.size) 28 #[.slice Aw0 nw0 cw0] := Blk.grown bbw0_8 g9 (Blk.apart bbw0_8 ox0_8 (by decide))
  have kw0_9 := Blk.cell0 bbw0_9
  have bbx0_9 : Blk w9 (w4.heap.size) 31 #[.slice Ax0 n0 cx0] := Blk.grown bbx0_8 g9 (Blk.apart bbx0_8 ox0_8 (by decide))
  have kx0_9 := Blk.cell0 bbx0_9
  have bbg0_9 : Blk w9 (w5.heap.size) 28 #[.slice Ag0 ng0 cg0] := Blk.grown bbg0_8 g9 (Blk.apart bbg0_8 ox0_8 (by decide))
  have kg0_9 := Blk.cell0 bbg0_9
  have ow0_9 := cown_mark ow0_8 (Apart.symm ap_w0_x0) g9
  have og0_9 := cown_mark og0_8 ap_x0_g0 g9
  clear kp0_8 bbp0_8 kw0_8 bbw0_8 kx0_8 bbx0_8 kg0_8 bbg0_8 ow0_8 og0_8 ox0_8 g9 B8
  go_wp2_with fail
  refine (eqPoly_any Ag0 ng0 cg0 Aw0 nw0 cw0 (polyF xs0).1 _ (CMine.rd og0_9) (CMine.rd ow0_9) (poly_bd xs0)).mono ?_
  rintro e w10 ⟨rfl, b10⟩
  have B10 := bthen B9 b10
  have bbp0_10 : Blk w10 (w.heap.size) 24 #[.slice A0 n0 c0] := Blk.kept bbp0_9 b10
  have kp0_10 := cell_kept b10 kp0_9
  have bbw0_10 : Blk w10 (w3.heap.size) 28 #[.slice Aw0 nw0 cw0] := Blk.kept bbw0_9 b10
  have kw0_10 := cell_kept b10 kw0_9
  have bbx0_10 : Blk w10 (w4.heap.size) 31 #[.slice Ax0 n0 cx0] := Blk.kept bbx0_9 b10
  have kx0_10 := cell_kept b10 kx0_9
  have bbg0_10 : Blk w10 (w5.heap.size) 28 #[.slice Ag0 ng0 cg0] := Blk.kept bbg0_9 b10
  have kg0_10 := cell_kept b10 kg0_9
  have ow0_10 := CMine.below ow0_9 b10
  have ox0_10 := Mine.below u9 b10
  have og0_10 := CMine.below og0_9 b10
  clear bbp0_9 kp0_9 bbw0_9 kw0_9 bbx0_9 kx0_9 bbg0_9 kg0_9 ow0_9 u9 og0_9 B9 b10
  clear ox0_10
  go_wp2_with fail
  refine (markPoly_any Ag0 ng0 cg0 ((polyF xs0).1.map pt) (1) _ _ og0_10 (by omega) (by omega)).mono ?_
  rintro e w11 ⟨rfl, u11, g11⟩
  have B11 := below_mark B10 lbg0.out g11
  have bbp0_11 : Blk w11 (w.heap.size) 24 #[.slice A0 n0 c0] := Blk.grown bbp0_10 g11 (Blk.capart bbp0_10 og0_10 (by decide))
  have kp0_11 := Blk.cell0 bbp0_11
  have bbw0_11 : Blk w11 (w3.heap.size) 28 #[.slice Aw0 nw0 cw0] := Blk.grown bbw0_10 g11 (Blk.capart bbw0_10 og0_10 (by decide))
  have kw0_11 := Blk.cell0 bbw0_11
  have bbx0_11 : Blk w11 (w4.heap.size) 31 #[.slice Ax0 n0 cx0] := Blk.grown bbx0_10 g11 (Blk.capart bbx0_10 og0_10 (by decide))
  have kx0_11 := Blk.cell0 bbx0_11
  have bbg0_11 : Blk w11 (w5.heap.size) 28 #[.slice Ag0 ng0 cg0] := Blk.grown bbg0_10 g11 (Blk.capart bbg0_10 og0_10 (by decide))
  have kg0_11 := Blk.cell0 bbg0_11
  have ow0_11 := cown_mark ow0_10 (Apart.symm ap_w0_g0) g11
  clear kp0_10 bbp0_10 kw0_10 bbw0_10 kx0_10 bbx0_10 kg0_10 bbg0_10 ow0_10 og0_10 g11 B10
  go_wp2_with fail
  refine (heldPoly_any Ag0 ng0 cg0 (1) _ (CMine.rd u11) (by omega) (by omega)).mono ?_
  rintro e w12 ⟨rfl, b12⟩
  have B12 := bthen B11 b12
  have bbp0_12 : Blk w12 (w.heap.size) 24 #[.slice A0 n0 c0] := Blk.kept bbp0_11 b12
  have kp0_12 := cell_kept b12 kp0_11
  have bbw0_12 : Blk w12 (w3.heap.size) 28 #[.slice Aw0 nw0 cw0] := Blk.kept bbw0_11 b12
  have kw0_12 := cell_kept b12 kw0_11
  have bbx0_12 : Blk w12 (w4.heap.size) 31 #[.slice Ax0 n0 cx0] := Blk.kept bbx0_11 b12
  have kx0_12 := cell_kept b12 kx0_11
  have bbg0_12 : Blk w12 (w5.heap.size) 28 #[.slice Ag0 ng0 cg0] := Blk.kept bbg0_11 b12
  have kg0_12 := cell_kept b12 kg0_11
  have ow0_12 := CMine.below ow0_11 b12
  have og0_12 := CMine.below u11 b12
  clear bbp0_11 kp0_11 bbw0_11 kw0_11 bbx0_11 kx0_11 bbg0_11 kg0_11 ow0_11 u11 B11 b12
  go_wp2_with fail
  refine (toReal_any A0 n0 c0 xs0 _ (h0.in_ B12) hn0).mono ?_
  rintro e w13 ⟨Az0, cz0, rfl, u13, b13⟩
  have B13 := bthen B12 b13
  have bbp0_13 : Blk w13 (w.heap.size) 24 #[.slice A0 n0 c0] := Blk.kept bbp0_12 b13
  have kp0_13 := cell_kept b13 kp0_12
  have bbw0_13 : Blk w13 (w3.heap.size) 28 #[.slice Aw0 nw0 cw0] := Blk.kept bbw0_12 b13
  have kw0_13 := cell_kept b13 kw0_12
  have bbx0_13 : Blk w13 (w4.heap.size) 31 #[.slice Ax0 n0 cx0] := Blk.kept bbx0_12 b13
  have kx0_13 := cell_kept b13 kx0_12
  have bbg0_13 : Blk w13 (w5.heap.size) 28 #[.slice Ag0 ng0 cg0] := Blk.kept bbg0_12 b13
  have kg0_13 := cell_kept b13 kg0_12
  have ow0_13 := CMine.below ow0_12 b13
  have og0_13 := CMine.below og0_12 b13
  clear bbp0_12 kp0_12 bbw0_12 kw0_12 bbx0_12 kx0_12 bbg0_12 kg0_12 ow0_12 og0_12 B12 b13
  go_wp2_with fail
  refine (polyOf_own Az0 n0 cz0 xs0 _ (Mine.rd u13)).mono ?_
  rintro e w14 ⟨Ah0, nh0, ch0, rfl, u14h0, b14⟩
  have B14 := bthen B13 b14
  have bbp0_14 : Blk w14 (w.heap.size) 24 #[.slice A0 n0 c0] := Blk.kept bbp0_13 b14
  have kp0_14 := cell_kept b14 kp0_13
  have bbw0_14 : Blk w14 (w3.heap.size) 28 #[.slice Aw0 nw0 cw0] := Blk.kept bbw0_13 b14
  have kw0_14 := cell_kept b14 kw0_13
  have bbx0_14 : Blk w14 (w4.heap.size) 31 #[.slice Ax0 n0 cx0] := Blk.kept bbx0_13 b14
  have kx0_14 := cell_kept b14 kx0_13
  have bbg0_14 : Blk w14 (w5.heap.size) 28 #[.slice Ag0 ng0 cg0] := Blk.kept bbg0_13 b14
  have kg0_14 := cell_kept b14 kg0_13
  have ow0_14 := CMine.below ow0_13 b14
  have og0_14 := CMine.below og0_13 b14
  have oz0_14 := Mine.below u13 b14
  clear bbp0_13 kp0_13 bbw0_13 kw0_13 bbx0_13 kx0_13 bbg0_13 kg0_13 ow0_13 og0_13 u13 B13 b14
  clear oz0_14
  have lp0_w14 : w.heap.size < w14.heap.size := World.block_lt_of_cell? _ _ kp0_14
  have lw0_w14 : w3.heap.size < w14.heap.size := World.block_lt_of_cell? _ _ kw0_14
  have lx0_w14 : w4.heap.size < w14.heap.size := World.block_lt_of_cell? _ _ kx0_14
  have lg0_w14 : w5.heap.size < w14.heap.size := World.block_lt_of_cell? _ _ kg0_14
  go_wp2_with fail
  refine (eqPoly_any Ah0 nh0 ch0 Aw0 nw0 cw0 (polyF xs0).1 _ (CMine.rd (CMine.alloc u14h0 _)) (CMine.rd (CMine.alloc ow0_14 _)) (poly_bd xs0)).mono ?_
  rintro e w15 ⟨rfl, b15⟩
  have B15 := bthen (B14.alloc B14.size _) b15
  have bbp0_15 : Blk w15 (w.heap.size) 24 #[.slice A0 n0 c0] := Blk.kept (Blk.alloc bbp0_14 _) b15
  have kp0_15 := cell_kept b15 (cell_kept (al1 _ _) kp0_14)
  have bbw0_15 : Blk w15 (w3.heap.size) 28 #[.slice Aw0 nw0 cw0] := Blk.kept (Blk.alloc bbw0_14 _) b15
  have kw0_15 := cell_kept b15 (cell_kept (al1 _ _) kw0_14)
  have bbx0_15 : Blk w15 (w4.heap.size) 31 #[.slice Ax0 n0 cx0] := Blk.kept (Blk.alloc bbx0_14 _) b15
  have kx0_15 := cell_kept b15 (cell_kept (al1 _ _) kx0_14)
  have bbg0_15 : Blk w15 (w5.heap.size) 28 #[.slice Ag0 ng0 cg0] := Blk.kept (Blk.alloc bbg0_14 _) b15
  have kg0_15 := cell_kept b15 (cell_kept (al1 _ _) kg0_14)
  have bbh0_15 : Blk w15 (w14.heap.size) 28 #[.slice Ah0 nh0 ch0] := Blk.kept (Blk.new _ _ _) b15
  have kh0_15 := cell_kept (b := w14.heap.size) (o := 0) (v := .slice Ah0 nh0 ch0) b15 (by simp [go_sem])
  have ow0_15 := CMine.below (CMine.alloc ow0_14 _) b15
  have og0_15 := CMine.below (CMine.alloc og0_14 _) b15
  have oh0_15 := CMine.below (CMine.alloc u14h0 _) b15
  clear bbp0_14 kp0_14 bbw0_14 kw0_14 bbx0_14 kx0_14 bbg0_14 kg0_14 ow0_14 og0_14 u14h0 B14 b15 lp0_w14 lw0_w14 lx0_w14 lg0_w14
  go_wp2_with fail
  refine (heldPoly_any Ag0 ng0 cg0 (1) _ (CMine.rd og0_15) (by omega) (by omega)).mono ?_
  rintro e w16 ⟨rfl, b16⟩
  have B16 := bthen B15 b16
  have bbp0_16 : Blk w16 (w.heap.size) 24 #[.slice A0 n0 c0] := Blk.kept bbp0_15 b16
  have kp0_16 := cell_kept b16 kp0_15
  have bbw0_16 : Blk w16 (w3.heap.size) 28 #[.slice Aw0 nw0 cw0] := Blk.kept bbw0_15 b16
  have kw0_16 := cell_kept b16 kw0_15
  have bbx0_16 : Blk w16 (w4.heap.size) 31 #[.slice Ax0 n0 cx0] := Blk.kept bbx0_15 b16
  have kx0_16 := cell_kept b16 kx0_15
  have bbg0_16 : Blk w16 (w5.heap.size) 28 #[.slice Ag0 ng0 cg0] := Blk.kept bbg0_15 b16
  have kg0_16 := cell_kept b16 kg0_15
  have bbh0_16 : Blk w16 (w14.heap.size) 28 #[.slice Ah0 nh0 ch0] := Blk.kept bbh0_15 b16
  have kh0_16 := cell_kept b16 kh0_15
  have ow0_16 := CMine.below ow0_15 b16
  have og0_16 := CMine.below og0_15 b16
  have oh0_16 := CMine.below oh0_15 b16
  clear bbp0_15 kp0_15 bbw0_15 kw0_15 bbx0_15 kx0_15 bbg0_15 kg0_15 bbh0_15 kh0_15 ow0_15 og0_15 oh0_15 B15 b16
  go_wp2_with fail
  go_ret
  exact ⟨rfl, B16⟩
end Go.Proofs.Ytlfjnpioamcbhaa
