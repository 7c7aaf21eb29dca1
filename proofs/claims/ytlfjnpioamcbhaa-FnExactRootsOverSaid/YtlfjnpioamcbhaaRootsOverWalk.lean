/- FnExactRootsOver: the walk of the law: whatever the arguments it answers true and leaves all memory of before as it was. No condition. -/
import Derived.Test.YtlfjnpioamcbhaaMem
import Derived.Test.YtlfjnpioamcbhaaWhole
import Derived.Test.YtlfjnpioamcbhaaMarkWhole
import Derived.Test.YtlfjnpioamcbhaaRootsOver
import Derived.Deep.RegionHeld3
import Derived.Deep.DeepCutAuto
namespace Go.Proofs.Ytlfjnpioamcbhaa
open Go.RowKit

set_option maxHeartbeats 4000000 in
theorem walkRootsOver (A0 : Option Addr) (n0 c0 : Nat) (xs0 : List Int) (a1 : Int) (w : World) (h0 : Rd w w.heap.size A0 n0 c0 xs0) (bd1 : -9223372036854775808 ≤ a1 ∧ a1 ≤ 9223372036854775807) :
    Calls Try.prog 4 #[.agg #[.slice A0 n0 c0], .int .i64 a1] w fun e w' => e = .returned (.bool true) ∧ Below w.heap.size w w' := by
  have hm0 : n0 ≤ 9223372036854775807 := by have hh1 := h0.cap; have hh2 := h0.most; unfold maxLen at hh2; omega
  by_cases s0 : (1048576 : Int) < n0
  · go_enter Try.func4, Try.ntmps4
    go_wp2_with fail
    refine (szWhole_big A0 n0 c0 1048576 _ hm0 (by omega) (by omega) s0).mono ?_
    rintro e w1 ⟨rfl, b1⟩
    go_wp2_with fail
    go_ret
    exact ⟨rfl, bthen (al1 w _) b1⟩
  have kp0 : ∀ t0, (w.alloc (.cells #[.slice A0 n0 c0] t0)).cell? ⟨w.heap.size, 0, none⟩ = some (.slice A0 n0 c0) := by intros; simp [go_sem]
  go_enter Try.func4, Try.ntmps4
  have hn0 : n0 ≤ 1048576 := by omega
  go_wp2_with fail
  refine (szWhole_fits A0 n0 c0 (1048576) _ hm0 (by omega) (by omega) (by omega)).mono ?_
  rintro e w1 ⟨rfl, b1⟩
  have B1 := bthen (al1 w _) b1
  have kp0_1 := cell_kept b1 (kp0 _)
  have bbp0_1 : Blk w1 (w.heap.size) 38 #[.slice A0 n0 c0] := Blk.kept (Blk.new w 38 #[.slice A0 n0 c0]) b1
  clear b1 kp0
  go_wp2_with fail
  refine (toWhole_any A0 n0 c0 xs0 _ (h0.in_ B1) hn0).mono ?_
  rintro e w2 ⟨As0, cs0, rfl, u2, b2⟩
  have B2 := bthen B1 b2
  have bbp0_2 : Blk w2 (w.heap.size) 38 #[.slice A0 n0 c0] := Blk.kept bbp0_1 b2
  have kp0_2 := cell_kept b2 kp0_1
  clear bbp0_1 kp0_1 B1 b2
  go_wp2_with fail
  refine (roots_ref As0 n0 cs0 xs0 a1 _ (Mine.rd u2) bd1 hn0).mono ?_
  rintro e w3 ⟨Aw0, nw0, cw0, rfl, u3w0, b3⟩
  have B3 := bthen B2 b3
  have bbp0_3 : Blk w3 (w.heap.size) 38 #[.slice A0 n0 c0] := Blk.kept bbp0_2 b3
  have kp0_3 := cell_kept b3 kp0_2
  have os0_3 := Mine.below u2 b3
  clear bbp0_2 kp0_2 u2 B2 b3
  clear os0_3
  go_wp2_with fail
  refine (toWhole_any A0 n0 c0 xs0 _ (h0.in_ B3) hn0).mono ?_
  rintro e w4 ⟨Ax0, cx0, rfl, u4, b4⟩
  have lbx0 := Lib.hid (lb_of B3 u4)
  have ap_w0_x0 := apart_of u3w0 u4
  have B4 := bthen B3 b4
  have bbp0_4 : Blk w4 (w.heap.size) 38 #[.slice A0 n0 c0] := Blk.kept bbp0_3 b4
  have kp0_4 := cell_kept b4 kp0_3
  have ow0_4 := Mine.below u3w0 b4
  clear bbp0_3 kp0_3 u3w0 B3 b4
  have lp0_w4 : w.heap.size < w4.heap.size := World.block_lt_of_cell? _ _ kp0_4
  go_wp2_with fail
  refine (roots_own Ax0 n0 cx0 xs0 a1 _ (Mine.rd (Mine.alloc u4 _)) bd1 hn0).mono ?_
  rintro e w5 ⟨Ag0, ng0, cg0, rfl, u5g0, b5⟩
  have lbg0 := Lib.hid (lb_of (B4.alloc B4.size _) u5g0)
  have ap_w0_g0 := apart_of (Mine.alloc ow0_4 _) u5g0
  have ap_x0_g0 := apart_of (Mine.alloc u4 _) u5g0
  have hng0 : ng0 ≤ 1048576 := by have hh := Mine.len u5g0; have hh2 := rootsF_len xs0 a1; omega
  have B5 := bthen (B4.alloc B4.size _) b5
  have bbp0_5 : Blk w5 (w.heap.size) 38 #[.slice A0 n0 c0] := Blk.kept (Blk.alloc bbp0_4 _) b5
  have kp0_5 := cell_kept b5 (cell_kept (al1 _ _) kp0_4)
  have bbx0_5 : Blk w5 (w4.heap.size) 42 #[.slice Ax0 n0 cx0] := Blk.kept (Blk.new _ _ _) b5
  have kx0_5 := cell_kept (b := w4.heap.size) (o := 0) (v := .slice Ax0 n0 cx0) b5 (by simp [go_sem])
  have ow0_5 := Mine.below (Mine.alloc ow0_4 _) b5
  have ox0_5 := Mine.below (Mine.alloc u4 _) b5
  clear bbp0_4 kp0_4 ow0_4 u4 B4 b5 lp0_w4
  go_wp2_with fail
  refine (eqInts Ag0 ng0 cg0 (rootsF xs0 a1).1 Aw0 nw0 cw0 (rootsF xs0 a1).1 _ (Mine.rd u5g0) (Mine.rd ow0_5)).mono ?_
  rintro e w6 ⟨rfl, q6, hq6⟩
  have b6 := below_of_drewN hq6
  clear hq6
  have B6 := bthen B5 b6
  have bbp0_6 : Blk w6 (w.heap.size) 38 #[.slice A0 n0 c0] := Blk.kept bbp0_5 b6
  have kp0_6 := cell_kept b6 kp0_5
  have bbx0_6 : Blk w6 (w4.heap.size) 42 #[.slice Ax0 n0 cx0] := Blk.kept bbx0_5 b6
  have kx0_6 := cell_kept b6 kx0_5
  have ow0_6 := Mine.below ow0_5 b6
  have ox0_6 := Mine.below ox0_5 b6
  have og0_6 := Mine.below u5g0 b6
  clear bbp0_5 kp0_5 bbx0_5 kx0_5 ow0_5 ox0_5 u5g0 B5 b6
  go_wp2_with fail
  go_region_held3 (fun wx => wx.cell? ⟨w.heap.size, 0, none⟩ = some (.slice A0 n0 c0) ∧ wx.cell? ⟨w4.heap.size, 0, none⟩ = some (.slice Ax0 n0 cx0)) (go_keep)
    (first
      | (go_at_call_of 19 (Value.agg #[Value.slice A0 n0 c0]); refine (toWhole_any A0 n0 c0 xs0 _ (h0.in_ B6.drew) hn0).mono ?_; rintro e w7 ⟨Ay0, cy0, rfl, u7, b7⟩; have B7 := bthen B6.drew b7; have bbp0_7 : Blk w7 (w.heap.size) 38 #[.slice A0 n0 c0] := Blk.kept (Blk.drew bbp0_6) b7; have kp0_7 := cell_kept b7 kp0_6; have bbx0_7 : Blk w7 (w4.heap.size) 42 #[.slice Ax0 n0 cx0] := Blk.kept (Blk.drew bbx0_6) b7; have kx0_7 := cell_kept b7 kx0_6; have ow0_7 := Mine.below (Mine.drew ow0_6) b7; have ox0_7 := Mine.below (Mine.drew ox0_6) b7; have og0_7 := Mine.below (Mine.drew og0_6) b7; clear bbp0_6 kp0_6 bbx0_6 kx0_6 ow0_6 ox0_6 og0_6 B6 b7)
      | (go_at_call 22; refine (eqWhole_any Ax0 n0 cx0 xs0 Ay0 n0 cy0 xs0 _ (Mine.rd ox0_7) (Mine.rd u7)).mono ?_; rintro e w8 ⟨rfl, b8⟩; have B8 := bthen B7 b8; have bbp0_8 : Blk w8 (w.heap.size) 38 #[.slice A0 n0 c0] := Blk.kept bbp0_7 b8; have kp0_8 := cell_kept b8 kp0_7; have bbx0_8 : Blk w8 (w4.heap.size) 42 #[.slice Ax0 n0 cx0] := Blk.kept bbx0_7 b8; have kx0_8 := cell_kept b8 kx0_7; have ow0_8 := Mine.below ow0_7 b8; have ox0_8 := Mine.below ox0_7 b8; have og0_8 := Mine.below og0_7 b8; have oy0_8 := Mine.below u7 b8; clear bbp0_7 kp0_7 bbx0_7 kx0_7 ow0_7 ox0_7 og0_7 u7 B7 b8))
  clear oy0_8
  go_wp2_with fail
  refine (markWhole_any Ax0 n0 cx0 xs0 (1) _ _ ox0_8 (by omega) (by omega) hn0).mono ?_
  rintro e w9 ⟨rfl, u9, g9⟩
  have B9 := below_mark B8 lbx0.out g9
  have bbp0_9 : Blk w9 (w.heap.size) 38 #[.slice A0 n0 c0] := Blk.grown bbp0_8 g9 (Blk.apart bbp0_8 ox0_8 (by decide))
  have kp0_9 := Blk.cell0 bbp0_9
  have bbx0_9 : Blk w9 (w4.heap.size) 42 #[.slice Ax0 n0 cx0] := Blk.grown bbx0_8 g9 (Blk.apart bbx0_8 ox0_8 (by decide))
  have kx0_9 := Blk.cell0 bbx0_9
  have ow0_9 := own_mark ow0_8 (Apart.symm ap_w0_x0) g9
  have og0_9 := own_mark og0_8 ap_x0_g0 g9
  clear kp0_8 bbp0_8 kx0_8 bbx0_8 ow0_8 og0_8 ox0_8 g9 B8
  go_wp2_with fail
  refine (eqInts Ag0 ng0 cg0 (rootsF xs0 a1).1 Aw0 nw0 cw0 (rootsF xs0 a1).1 _ (Mine.rd og0_9) (Mine.rd ow0_9)).mono ?_
  rintro e w10 ⟨rfl, q10, hq10⟩
  have b10 := below_of_drewN hq10
  clear hq10
  have B10 := bthen B9 b10
  have bbp0_10 : Blk w10 (w.heap.size) 38 #[.slice A0 n0 c0] := Blk.kept bbp0_9 b10
  have kp0_10 := cell_kept b10 kp0_9
  have bbx0_10 : Blk w10 (w4.heap.size) 42 #[.slice Ax0 n0 cx0] := Blk.kept bbx0_9 b10
  have kx0_10 := cell_kept b10 kx0_9
  have ow0_10 := Mine.below ow0_9 b10
  have ox0_10 := Mine.below u9 b10
  have og0_10 := Mine.below og0_9 b10
  clear bbp0_9 kp0_9 bbx0_9 kx0_9 ow0_9 u9 og0_9 B9 b10
  clear ox0_10
  go_wp2_with fail
  refine (markInts Ag0 ng0 cg0 (rootsF xs0 a1).1 (1) _ _ og0_10 (by omega) (by omega) hng0).mono ?_
  rintro e w11 ⟨rfl, u11, g11⟩
  have B11 := below_mark B10 lbg0.out g11
  have bbp0_11 : Blk w11 (w.heap.size) 38 #[.slice A0 n0 c0] := Blk.grown bbp0_10 g11 (Blk.apart bbp0_10 og0_10 (by decide))
  have kp0_11 := Blk.cell0 bbp0_11
  have bbx0_11 : Blk w11 (w4.heap.size) 42 #[.slice Ax0 n0 cx0] := Blk.grown bbx0_10 g11 (Blk.apart bbx0_10 og0_10 (by decide))
  have kx0_11 := Blk.cell0 bbx0_11
  have ow0_11 := own_mark ow0_10 (Apart.symm ap_w0_g0) g11
  clear kp0_10 bbp0_10 kx0_10 bbx0_10 ow0_10 og0_10 g11 B10
  go_wp2_with fail
  refine (heldInts Ag0 ng0 cg0 (1) _ (Mine.rd u11) (by omega) (by omega) hng0).mono ?_
  rintro e w12 ⟨rfl, hq12⟩
  have b12 := below_of_eq hq12
  clear hq12
  have B12 := bthen B11 b12
  have bbp0_12 : Blk w12 (w.heap.size) 38 #[.slice A0 n0 c0] := Blk.kept bbp0_11 b12
  have kp0_12 := cell_kept b12 kp0_11
  have bbx0_12 : Blk w12 (w4.heap.size) 42 #[.slice Ax0 n0 cx0] := Blk.kept bbx0_11 b12
  have kx0_12 := cell_kept b12 kx0_11
  have ow0_12 := Mine.below ow0_11 b12
  have og0_12 := Mine.below u11 b12
  clear bbp0_11 kp0_11 bbx0_11 kx0_11 ow0_11 u11 B11 b12
  go_wp2_with fail
  refine (toWhole_any A0 n0 c0 xs0 _ (h0.in_ B12) hn0).mono ?_
  rintro e w13 ⟨Az0, cz0, rfl, u13, b13⟩
  have B13 := bthen B12 b13
  have bbp0_13 : Blk w13 (w.heap.size) 38 #[.slice A0 n0 c0] := Blk.kept bbp0_12 b13
  have kp0_13 := cell_kept b13 kp0_12
  have bbx0_13 : Blk w13 (w4.heap.size) 42 #[.slice Ax0 n0 cx0] := Blk.kept bbx0_12 b13
  have kx0_13 := cell_kept b13 kx0_12
  have ow0_13 := Mine.below ow0_12 b13
  have og0_13 := Mine.below og0_12 b13
  clear bbp0_12 kp0_12 bbx0_12 kx0_12 ow0_12 og0_12 B12 b13
  go_wp2_with fail
  refine (roots_own Az0 n0 cz0 xs0 a1 _ (Mine.rd u13) bd1 hn0).mono ?_
  rintro e w14 ⟨Ah0, nh0, ch0, rfl, u14h0, b14⟩
  have B14 := bthen B13 b14
  have bbp0_14 : Blk w14 (w.heap.size) 38 #[.slice A0 n0 c0] := Blk.kept bbp0_13 b14
  have kp0_14 := cell_kept b14 kp0_13
  have bbx0_14 : Blk w14 (w4.heap.size) 42 #[.slice Ax0 n0 cx0] := Blk.kept bbx0_13 b14
  have kx0_14 := cell_kept b14 kx0_13
  have ow0_14 := Mine.below ow0_13 b14
  have og0_14 := Mine.below og0_13 b14
  have oz0_14 := Mine.below u13 b14
  clear bbp0_13 kp0_13 bbx0_13 kx0_13 ow0_13 og0_13 u13 B13 b14
  clear oz0_14
  go_wp2_with fail
  refine (eqInts Ah0 nh0 ch0 (rootsF xs0 a1).1 Aw0 nw0 cw0 (rootsF xs0 a1).1 _ (Mine.rd u14h0) (Mine.rd ow0_14)).mono ?_
  rintro e w15 ⟨rfl, q15, hq15⟩
  have b15 := below_of_drewN hq15
  clear hq15
  have B15 := bthen B14 b15
  have bbp0_15 : Blk w15 (w.heap.size) 38 #[.slice A0 n0 c0] := Blk.kept bbp0_14 b15
  have kp0_15 := cell_kept b15 kp0_14
  have bbx0_15 : Blk w15 (w4.heap.size) 42 #[.slice Ax0 n0 cx0] := Blk.kept bbx0_14 b15
  have kx0_15 := cell_kept b15 kx0_14
  have ow0_15 := Mine.below ow0_14 b15
  have og0_15 := Mine.below og0_14 b15
  have oh0_15 := Mine.below u14h0 b15
  clear bbp0_14 kp0_14 bbx0_14 kx0_14 ow0_14 og0_14 u14h0 B14 b15
  go_wp2_with fail
  refine (heldInts Ag0 ng0 cg0 (1) _ (Mine.rd og0_15) (by omega) (by omega) hng0).mono ?_
  rintro e w16 ⟨rfl, hq16⟩
  have b16 := below_of_eq hq16
  clear hq16
  have B16 := bthen B15 b16
  have bbp0_16 : Blk w16 (w.heap.size) 38 #[.slice A0 n0 c0] := Blk.kept bbp0_15 b16
  have kp0_16 := cell_kept b16 kp0_15
  have bbx0_16 : Blk w16 (w4.heap.size) 42 #[.slice Ax0 n0 cx0] := Blk.kept bbx0_15 b16
  have kx0_16 := cell_kept b16 kx0_15
  have ow0_16 := Mine.below ow0_15 b16
  have og0_16 := Mine.below og0_15 b16
  have oh0_16 := Mine.below oh0_15 b16
  clear bbp0_15 kp0_15 bbx0_15 kx0_15 ow0_15 og0_15 oh0_15 B15 b16
  go_wp2_with fail
  go_ret
  exact ⟨rfl, B16⟩
end Go.Proofs.Ytlfjnpioamcbhaa
