/- FnExactExactQuotient: the walk of the law: whatever the arguments it answers true and leaves all memory of before as it was. No condition. -/
import Derived.Test.YtanfmhhkabdieaaBox
import Derived.Test.YtanfmhhkabdieaaWhole
import Derived.Test.YtanfmhhkabdieaaMarkWhole
import Derived.Test.YtanfmhhkabdieaaQuoW
import Derived.Deep.RegionHeld3
import Derived.Deep.DeepCutAuto
namespace Go.Proofs.Ytanfmhhkabdieaa
open Go.RowKit

set_option maxHeartbeats 4000000 in
set_option maxRecDepth 10000 in
theorem walkExactQuotient (A0 : Option Addr) (n0 c0 : Nat) (xs0 : List Int) (A1 : Option Addr) (n1 c1 : Nat) (xs1 : List Int) (w : World) (h0 : Rd w w.heap.size A0 n0 c0 xs0) (h1 : Rd w w.heap.size A1 n1 c1 xs1) :
    Calls Try.prog 8 #[.agg #[.slice A0 n0 c0], .agg #[.slice A1 n1 c1]] w fun e w' => e = .returned (.bool true) ∧ Below w.heap.size w w' := by
  have hm0 : n0 ≤ 9223372036854775807 := by have hh1 := h0.cap; have hh2 := h0.most; unfold maxLen at hh2; omega
  have hm1 : n1 ≤ 9223372036854775807 := by have hh1 := h1.cap; have hh2 := h1.most; unfold maxLen at hh2; omega
  by_cases s0 : (1048576 : Int) < n0
  · go_enter Try.func8, Try.ntmps8
    go_wp2_with fail
    refine (szWhole_big A0 n0 c0 1048576 _ hm0 (by omega) (by omega) s0).mono ?_
    rintro e w1 ⟨rfl, b1⟩
    go_wp2_with fail
    go_ret
    exact ⟨rfl, bthen (al2 w _ _) b1⟩
  have kp0 : ∀ t0 t1, ((w.alloc (.cells #[.slice A0 n0 c0] t0)).alloc (.cells #[.slice A1 n1 c1] t1)).cell? ⟨w.heap.size, 0, none⟩ = some (.slice A0 n0 c0) := by intros; simp [go_sem]
  have kp1 : ∀ t0 t1, ((w.alloc (.cells #[.slice A0 n0 c0] t0)).alloc (.cells #[.slice A1 n1 c1] t1)).cell? ⟨w.heap.size + 1, 0, none⟩ = some (.slice A1 n1 c1) := by intros; simp [go_sem]
  go_enter Try.func8, Try.ntmps8
  have hn0 : n0 ≤ 1048576 := by omega
  go_wp2_with fail
  refine (szWhole_fits A0 n0 c0 (1048576) _ hm0 (by omega) (by omega) (by omega)).mono ?_
  rintro e w1 ⟨rfl, b1⟩
  have B1 := bthen (al2 w _ _) b1
  have kp0_1 := cell_kept b1 (kp0 _ _)
  have bbp0_1 : Blk w1 (w.heap.size) 24 #[.slice A0 n0 c0] := Blk.kept (Blk.alloc (Blk.new w 24 #[.slice A0 n0 c0]) _) b1
  have kp1_1 := cell_kept b1 (kp1 _ _)
  have bbp1_1 : Blk w1 (w.heap.size + 1) 24 #[.slice A1 n1 c1] := Blk.kept (Blk.new_at (w.alloc _) 24 #[.slice A1 n1 c1] (by simp)) b1
  clear b1 kp0 kp1
  by_cases s1 : (1048576 - n0 : Int) < n1
  · go_wp2_with fail
    refine (szWhole_big A1 n1 c1 (1048576 - n0) _ hm1 (by omega) (by omega) s1).mono ?_
    rintro e wz ⟨rfl, bz⟩
    go_wp2_with fail
    go_ret
    exact ⟨rfl, bthen B1 bz⟩
  have hn1 : n1 ≤ 1048576 := by omega
  go_wp2_with fail
  refine (szWhole_fits A1 n1 c1 (1048576 - n0) _ hm1 (by omega) (by omega) (by omega)).mono ?_
  rintro e w2 ⟨rfl, b2⟩
  have B2 := bthen B1 b2
  have bbp0_2 : Blk w2 (w.heap.size) 24 #[.slice A0 n0 c0] := Blk.kept bbp0_1 b2
  have kp0_2 := cell_kept b2 kp0_1
  have bbp1_2 : Blk w2 (w.heap.size + 1) 24 #[.slice A1 n1 c1] := Blk.kept bbp1_1 b2
  have kp1_2 := cell_kept b2 kp1_1
  clear bbp0_1 kp0_1 bbp1_1 kp1_1 B1 b2
  go_upto_region 8 with (fail)
  go_cut [6, 7] (fun sa sb wx => ∃ bw Aw0 nw0 cw0, sa = .pointer (some ⟨bw, 0, none⟩) ∧ sb = .bool (quoF xs0 xs1).2 ∧ Blk wx bw 26 #[.slice Aw0 nw0 cw0] ∧ Mine wx w2.heap.size Aw0 nw0 cw0 (quoF xs0 xs1).1 ∧ Below w2.heap.size w2 wx)
  case first =>
    go_region_held3 (fun wx => wx.cell? ⟨w.heap.size, 0, none⟩ = some (.slice A0 n0 c0) ∧ wx.cell? ⟨w.heap.size + 1, 0, none⟩ = some (.slice A1 n1 c1))
      (first | exact ⟨kp0_2, kp1_2⟩ | exact ⟨cell_kept (al1 _ _) kp0_2, cell_kept (al1 _ _) kp1_2⟩ | exact ⟨kq0_3, kq1_3⟩ | exact ⟨cell_kept (al1 _ _) kq0_3, cell_kept (al1 _ _) kq1_3⟩ | exact ⟨cell_kept (Below.setCell K3 lx3 _) kp0_2, cell_kept (Below.setCell K3 lx3 _) kp1_2⟩ | exact ⟨kq0_4, kq1_4⟩ | exact ⟨cell_kept (al1 _ _) kq0_4, cell_kept (al1 _ _) kq1_4⟩ | exact ⟨cell_kept (Below.setCell K4 lx4 _) kp0_2, cell_kept (Below.setCell K4 lx4 _) kp1_2⟩ | exact ⟨kq0_5, kq1_5⟩ | exact ⟨cell_kept (al1 _ _) kq0_5, cell_kept (al1 _ _) kq1_5⟩ | exact ⟨cell_kept (Below.setCell K5 lx5 _) kp0_2, cell_kept (Below.setCell K5 lx5 _) kp1_2⟩ | go_keep)
      (first
        | (go_at_call_of 11 (Value.agg #[Value.slice A0 n0 c0]); refine (toWhole_any A0 n0 c0 xs0 _ (h0.in_ (Below.drew (Below.alloc B2 (Below.size B2) _))) hn0).mono ?_; rintro e w3 ⟨As0, cs0, rfl, u3, b3⟩; have bx3 : Blk w3 w2.heap.size 26 #[.slice none 0 0] := Blk.kept (Blk.drew (Blk.new w2 _ _)) b3; have lx3 : w2.heap.size ≤ w2.heap.size := Nat.le_refl _; have K3 := bthen (Below.drew (al1 w2 _)) b3; have B3 := bthen B2 K3; have kq0_3 := cell_kept K3 kp0_2; have kq1_3 := cell_kept K3 kp1_2)
        | (go_at_call_of 11 (Value.agg #[Value.slice A0 n0 c0]); refine (toWhole_any A0 n0 c0 xs0 _ (h0.in_ (Below.drew B2)) hn0).mono ?_; rintro e w3 ⟨As0, cs0, rfl, u3, b3⟩; have K3 := bthen (Below.drew (Below.refl w2.heap.size w2)) b3; have B3 := bthen B2 K3; have kq0_3 := cell_kept K3 kp0_2; have kq1_3 := cell_kept K3 kp1_2)
        | (go_at_call_of 11 (Value.agg #[Value.slice A1 n1 c1]); refine (toWhole_any A1 n1 c1 xs1 _ (h1.in_ B3) hn1).mono ?_; rintro e w4 ⟨As1, cs1, rfl, u4, b4⟩; have bx4 := Blk.kept bx3 b4; have lx4 := lx3; have K4 := bthen K3 b4; have B4 := bthen B2 K4; have kq0_4 := cell_kept K4 kp0_2; have kq1_4 := cell_kept K4 kp1_2; have us0_4 := Mine.below u3 b4)
        | (go_at_call_of 11 (Value.agg #[Value.slice A1 n1 c1]); refine (toWhole_any A1 n1 c1 xs1 _ (h1.in_ (Below.alloc B3 (Below.size B3) _)) hn1).mono ?_; rintro e w4 ⟨As1, cs1, rfl, u4, b4⟩; have bx4 : Blk w4 w3.heap.size 26 #[.slice none 0 0] := Blk.kept (Blk.new w3 _ _) b4; have lx4 : w2.heap.size ≤ w3.heap.size := Below.size K3; have K4 := bthen (Below.alloc K3 (Below.size K3) _) b4; have B4 := bthen B2 K4; have kq0_4 := cell_kept K4 kp0_2; have kq1_4 := cell_kept K4 kp1_2; have us0_4 := Mine.below (Mine.alloc u3 _) b4)
        | (go_at_call_of 11 (Value.agg #[Value.slice A1 n1 c1]); refine (toWhole_any A1 n1 c1 xs1 _ (h1.in_ B3) hn1).mono ?_; rintro e w4 ⟨As1, cs1, rfl, u4, b4⟩; have K4 := bthen K3 b4; have B4 := bthen B2 K4; have kq0_4 := cell_kept K4 kp0_2; have kq1_4 := cell_kept K4 kp1_2; have us0_4 := Mine.below u3 b4)
        | (go_at_call 24; refine (quo_ref As0 n0 cs0 xs0 As1 n1 cs1 xs1 _ (Mine.rd us0_4) (Mine.rd u4) hn0 hn1).mono ?_; rintro e w5 ⟨Aw0, nw0, cw0, rfl, u5, b5⟩; have bx5 := Blk.kept bx4 b5; have lx5 := lx4; have cbx := Blk.cell0 bx5; have fbx := Blk.frozen0 bx5; have K5 := bthen K4 b5; have B5 := bthen B2 K5; have kq0_5 := cell_kept K5 kp0_2; have kq1_5 := cell_kept K5 kp1_2; have us0_5 := Mine.below us0_4 b5; have us1_5 := Mine.below u4 b5; have U5 := Mine.low u5 (Below.size K4))
        | (go_at_call 24; refine (quo_ref As0 n0 cs0 xs0 As1 n1 cs1 xs1 _ (Mine.rd (Mine.alloc us0_4 _)) (Mine.rd (Mine.alloc u4 _)) hn0 hn1).mono ?_; rintro e w5 ⟨Aw0, nw0, cw0, rfl, u5, b5⟩; have bx5 : Blk w5 w4.heap.size 26 #[.slice none 0 0] := Blk.kept (Blk.new w4 _ _) b5; have lx5 : w2.heap.size ≤ w4.heap.size := Below.size K4; have cbx := Blk.cell0 bx5; have fbx := Blk.frozen0 bx5; have K5 := bthen (Below.alloc K4 (Below.size K4) _) b5; have B5 := bthen B2 K5; have kq0_5 := cell_kept K5 kp0_2; have kq1_5 := cell_kept K5 kp1_2; have us0_5 := Mine.below (Mine.alloc us0_4 _) b5; have us1_5 := Mine.below (Mine.alloc u4 _) b5; have U5 := Mine.low u5 (Below.size (Below.alloc K4 (Below.size K4) _)))
        | (go_at_call 24; refine (quo_ref As0 n0 cs0 xs0 As1 n1 cs1 xs1 _ (Mine.rd us0_4) (Mine.rd u4) hn0 hn1).mono ?_; rintro e w5 ⟨Aw0, nw0, cw0, rfl, u5, b5⟩; have K5 := bthen K4 b5; have B5 := bthen B2 K5; have kq0_5 := cell_kept K5 kp0_2; have kq1_5 := cell_kept K5 kp1_2; have us0_5 := Mine.below us0_4 b5; have us1_5 := Mine.below u4 b5; have U5 := Mine.low u5 (Below.size K4)))
    all_goals
      go_wp2_with fail
      go_meet
      first
        | exact ⟨_, Aw0, nw0, cw0, rfl, rfl, Blk.new _ _ _, Mine.alloc U5 _, Below.alloc K5 (Below.size K5) _⟩
        | exact ⟨_, Aw0, nw0, cw0, rfl, rfl, Blk.set0 bx5 _, mine_set U5 (Blk.apart bx5 U5 (by decide)) _, Below.setCell K5 lx5 _⟩
  obtain ⟨bww0, Aw0, nw0, cw0, rfl, rfl, bbw0_6, u6, b6⟩ := hcut
  obtain ⟨w6, rfl⟩ : ∃ w6 : World, w6 = wc := ⟨_, rfl⟩
  have kw0_6 := Blk.cell0 bbw0_6
  have B6 := bthen B2 b6
  have bbp0_6 : Blk w6 (w.heap.size) 24 #[.slice A0 n0 c0] := Blk.kept bbp0_2 b6
  have kp0_6 := cell_kept b6 kp0_2
  have bbp1_6 : Blk w6 (w.heap.size + 1) 24 #[.slice A1 n1 c1] := Blk.kept bbp1_2 b6
  have kp1_6 := cell_kept b6 kp1_2
  clear bbp0_2 kp0_2 bbp1_2 kp1_2 B2 b6
  go_wp2_with fail
  refine (toWhole_any A0 n0 c0 xs0 _ (h0.in_ B6) hn0).mono ?_
  rintro e w7 ⟨Ax0, cx0, rfl, u7, b7⟩
  have lbx0 := Lib.hid (lb_of B6 u7)
  have ap_w0_x0 := apart_of u6 u7
  have B7 := bthen B6 b7
  have bbp0_7 : Blk w7 (w.heap.size) 24 #[.slice A0 n0 c0] := Blk.kept bbp0_6 b7
  have kp0_7 := cell_kept b7 kp0_6
  have bbp1_7 : Blk w7 (w.heap.size + 1) 24 #[.slice A1 n1 c1] := Blk.kept bbp1_6 b7
  have kp1_7 := cell_kept b7 kp1_6
  have bbw0_7 : Blk w7 (bww0) 26 #[.slice Aw0 nw0 cw0] := Blk.kept bbw0_6 b7
  have kw0_7 := cell_kept b7 kw0_6
  have ow0_7 := Mine.below u6 b7
  clear bbp0_6 kp0_6 bbp1_6 kp1_6 bbw0_6 kw0_6 u6 B6 b7
  have lp0_w7 : w.heap.size < w7.heap.size := World.block_lt_of_cell? _ _ kp0_7
  have lp1_w7 : w.heap.size + 1 < w7.heap.size := World.block_lt_of_cell? _ _ kp1_7
  have lw0_w7 : bww0 < w7.heap.size := World.block_lt_of_cell? _ _ kw0_7
  go_wp2_with fail
  refine (toWhole_any A1 n1 c1 xs1 _ (h1.in_ (B7.alloc B7.size _)) hn1).mono ?_
  rintro e w8 ⟨Ax1, cx1, rfl, u8, b8⟩
  have lbx1 := Lib.hid (lb_of (B7.alloc B7.size _) u8)
  have ap_w0_x1 := apart_of (Mine.alloc ow0_7 _) u8
  have ap_x0_x1 := apart_of (Mine.alloc u7 _) u8
  have B8 := bthen (B7.alloc B7.size _) b8
  have bbp0_8 : Blk w8 (w.heap.size) 24 #[.slice A0 n0 c0] := Blk.kept (Blk.alloc bbp0_7 _) b8
  have kp0_8 := cell_kept b8 (cell_kept (al1 _ _) kp0_7)
  have bbp1_8 : Blk w8 (w.heap.size + 1) 24 #[.slice A1 n1 c1] := Blk.kept (Blk.alloc bbp1_7 _) b8
  have kp1_8 := cell_kept b8 (cell_kept (al1 _ _) kp1_7)
  have bbw0_8 : Blk w8 (bww0) 26 #[.slice Aw0 nw0 cw0] := Blk.kept (Blk.alloc bbw0_7 _) b8
  have kw0_8 := cell_kept b8 (cell_kept (al1 _ _) kw0_7)
  have bbx0_8 : Blk w8 (w7.heap.size) 26 #[.slice Ax0 n0 cx0] := Blk.kept (Blk.new _ _ _) b8
  have kx0_8 := cell_kept (b := w7.heap.size) (o := 0) (v := .slice Ax0 n0 cx0) b8 (by simp [go_sem])
  have ow0_8 := Mine.below (Mine.alloc ow0_7 _) b8
  have ox0_8 := Mine.below (Mine.alloc u7 _) b8
  clear bbp0_7 kp0_7 bbp1_7 kp1_7 bbw0_7 kw0_7 ow0_7 u7 B7 b8 lp0_w7 lp1_w7 lw0_w7
  have lp0_w8 : w.heap.size < w8.heap.size := World.block_lt_of_cell? _ _ kp0_8
  have lp1_w8 : w.heap.size + 1 < w8.heap.size := World.block_lt_of_cell? _ _ kp1_8
  have lw0_w8 : bww0 < w8.heap.size := World.block_lt_of_cell? _ _ kw0_8
  have lx0_w8 : w7.heap.size < w8.heap.size := World.block_lt_of_cell? _ _ kx0_8
  go_wp2_with fail
  refine (quo_own Ax0 n0 cx0 xs0 Ax1 n1 cx1 xs1 _ (Mine.rd (Mine.alloc ox0_8 _)) (Mine.rd (Mine.alloc u8 _)) hn0 hn1).mono ?_
  rintro e w9 ⟨Ag0, ng0, cg0, rfl, u9g0, b9⟩
  have lbg0 := Lib.hid (lb_of (B8.alloc B8.size _) u9g0)
  have ap_w0_g0 := apart_of (Mine.alloc ow0_8 _) u9g0
  have ap_x0_g0 := apart_of (Mine.alloc ox0_8 _) u9g0
  have ap_x1_g0 := apart_of (Mine.alloc u8 _) u9g0
  have hng0 : ng0 ≤ 1048576 := by have hh := Mine.len u9g0; have hh2 := quoF_len xs0 xs1; omega
  have B9 := bthen (B8.alloc B8.size _) b9
  have bbp0_9 : Blk w9 (w.heap.size) 24 #[.slice A0 n0 c0] := Blk.kept (Blk.alloc bbp0_8 _) b9
  have kp0_9 := cell_kept b9 (cell_kept (al1 _ _) kp0_8)
  have bbp1_9 : Blk w9 (w.heap.size + 1) 24 #[.slice A1 n1 c1] := Blk.kept (Blk.alloc bbp1_8 _) b9
  have kp1_9 := cell_kept b9 (cell_kept (al1 _ _) kp1_8)
  have bbw0_9 : Blk w9 (bww0) 26 #[.slice Aw0 nw0 cw0] := Blk.kept (Blk.alloc bbw0_8 _) b9
  have kw0_9 := cell_kept b9 (cell_kept (al1 _ _) kw0_8)
  have bbx0_9 : Blk w9 (w7.heap.size) 26 #[.slice Ax0 n0 cx0] := Blk.kept (Blk.alloc bbx0_8 _) b9
  have kx0_9 := cell_kept b9 (cell_kept (al1 _ _) kx0_8)
  have bbx1_9 : Blk w9 (w8.heap.size) 26 #[.slice Ax1 n1 cx1] := Blk.kept (Blk.new _ _ _) b9
  have kx1_9 := cell_kept (b := w8.heap.size) (o := 0) (v := .slice Ax1 n1 cx1) b9 (by simp [go_sem])
  have ow0_9 := Mine.below (Mine.alloc ow0_8 _) b9
  have ox0_9 := Mine.below (Mine.alloc ox0_8 _) b9
  have ox1_9 := Mine.below (Mine.alloc u8 _) b9
  clear bbp0_8 kp0_8 bbp1_8 kp1_8 bbw0_8 kw0_8 bbx0_8 kx0_8 ow0_8 ox0_8 u8 B8 b9 lp0_w8 lp1_w8 lw0_w8 lx0_w8
  have lp0_w9 : w.heap.size < w9.heap.size := World.block_lt_of_cell? _ _ kp0_9
  have lp1_w9 : w.heap.size + 1 < w9.heap.size := World.block_lt_of_cell? _ _ kp1_9
  have lw0_w9 : bww0 < w9.heap.size := World.block_lt_of_cell? _ _ kw0_9
  have lx0_w9 : w7.heap.size < w9.heap.size := World.block_lt_of_cell? _ _ kx0_9
  have lx1_w9 : w8.heap.size < w9.heap.size := World.block_lt_of_cell? _ _ kx1_9
  go_wp2_with fail
  refine (eqWhole_any Ag0 ng0 cg0 (quoF xs0 xs1).1 Aw0 nw0 cw0 (quoF xs0 xs1).1 _ (Mine.rd (Mine.alloc u9g0 _)) (Mine.rd (Mine.alloc ow0_9 _))).mono ?_
  rintro e w10 ⟨rfl, b10⟩
  have B10 := bthen (B9.alloc B9.size _) b10
  have bbp0_10 : Blk w10 (w.heap.size) 24 #[.slice A0 n0 c0] := Blk.kept (Blk.alloc bbp0_9 _) b10
  have kp0_10 := cell_kept b10 (cell_kept (al1 _ _) kp0_9)
  have bbp1_10 : Blk w10 (w.heap.size + 1) 24 #[.slice A1 n1 c1] := Blk.kept (Blk.alloc bbp1_9 _) b10
  have kp1_10 := cell_kept b10 (cell_kept (al1 _ _) kp1_9)
  have bbw0_10 : Blk w10 (bww0) 26 #[.slice Aw0 nw0 cw0] := Blk.kept (Blk.alloc bbw0_9 _) b10
  have kw0_10 := cell_kept b10 (cell_kept (al1 _ _) kw0_9)
  have bbx0_10 : Blk w10 (w7.heap.size) 26 #[.slice Ax0 n0 cx0] := Blk.kept (Blk.alloc bbx0_9 _) b10
  have kx0_10 := cell_kept b10 (cell_kept (al1 _ _) kx0_9)
  have bbx1_10 : Blk w10 (w8.heap.size) 26 #[.slice Ax1 n1 cx1] := Blk.kept (Blk.alloc bbx1_9 _) b10
  have kx1_10 := cell_kept b10 (cell_kept (al1 _ _) kx1_9)
  have bbg0_10 : Blk w10 (w9.heap.size) 26 #[.slice Ag0 ng0 cg0] := Blk.kept (Blk.new _ _ _) b10
  have kg0_10 := cell_kept (b := w9.heap.size) (o := 0) (v := .slice Ag0 ng0 cg0) b10 (by simp [go_sem])
  have ow0_10 := Mine.below (Mine.alloc ow0_9 _) b10
  have ox0_10 := Mine.below (Mine.alloc ox0_9 _) b10
  have ox1_10 := Mine.below (Mine.alloc ox1_9 _) b10
  have og0_10 := Mine.below (Mine.alloc u9g0 _) b10
  clear bbp0_9 kp0_9 bbp1_9 kp1_9 bbw0_9 kw0_9 bbx0_9 kx0_9 bbx1_9 kx1_9 ow0_9 ox0_9 ox1_9 u9g0 B9 b10 lp0_w9 lp1_w9 lw0_w9 lx0_w9 lx1_w9
  go_wp2_with fail
  go_region_held3 (fun wx => wx.cell? ⟨w.heap.size, 0, none⟩ = some (.slice A0 n0 c0) ∧ wx.cell? ⟨w7.heap.size, 0, none⟩ = some (.slice Ax0 n0 cx0)) (go_keep)
    (first
      | (go_at_call_of 11 (Value.agg #[Value.slice A0 n0 c0]); refine (toWhole_any A0 n0 c0 xs0 _ (h0.in_ B10.drew) hn0).mono ?_; rintro e w11 ⟨Ay0, cy0, rfl, u11, b11⟩; have B11 := bthen B10.drew b11; have bbp0_11 : Blk w11 (w.heap.size) 24 #[.slice A0 n0 c0] := Blk.kept (Blk.drew bbp0_10) b11; have kp0_11 := cell_kept b11 kp0_10; have bbp1_11 : Blk w11 (w.heap.size + 1) 24 #[.slice A1 n1 c1] := Blk.kept (Blk.drew bbp1_10) b11; have kp1_11 := cell_kept b11 kp1_10; have bbw0_11 : Blk w11 (bww0) 26 #[.slice Aw0 nw0 cw0] := Blk.kept (Blk.drew bbw0_10) b11; have kw0_11 := cell_kept b11 kw0_10; have bbx0_11 : Blk w11 (w7.heap.size) 26 #[.slice Ax0 n0 cx0] := Blk.kept (Blk.drew bbx0_10) b11; have kx0_11 := cell_kept b11 kx0_10; have bbx1_11 : Blk w11 (w8.heap.size) 26 #[.slice Ax1 n1 cx1] := Blk.kept (Blk.drew bbx1_10) b11; have kx1_11 := cell_kept b11 kx1_10; have bbg0_11 : Blk w11 (w9.heap.size) 26 #[.slice Ag0 ng0 cg0] := Blk.kept (Blk.drew bbg0_10) b11; have kg0_11 := cell_kept b11 kg0_10; have ow0_11 := Mine.below (Mine.drew ow0_10) b11; have ox0_11 := Mine.below (Mine.drew ox0_10) b11; have ox1_11 := Mine.below (Mine.drew ox1_10) b11; have og0_11 := Mine.below (Mine.drew og0_10) b11; clear bbp0_10 kp0_10 bbp1_10 kp1_10 bbw0_10 kw0_10 bbx0_10 kx0_10 bbx1_10 kx1_10 bbg0_10 kg0_10 ow0_10 ox0_10 ox1_10 og0_10 B10 b11)
      | (go_at_call 13; refine (eqWhole_any Ax0 n0 cx0 xs0 Ay0 n0 cy0 xs0 _ (Mine.rd ox0_11) (Mine.rd u11)).mono ?_; rintro e w12 ⟨rfl, b12⟩; have B12 := bthen B11 b12; have bbp0_12 : Blk w12 (w.heap.size) 24 #[.slice A0 n0 c0] := Blk.kept bbp0_11 b12; have kp0_12 := cell_kept b12 kp0_11; have bbp1_12 : Blk w12 (w.heap.size + 1) 24 #[.slice A1 n1 c1] := Blk.kept bbp1_11 b12; have kp1_12 := cell_kept b12 kp1_11; have bbw0_12 : Blk w12 (bww0) 26 #[.slice Aw0 nw0 cw0] := Blk.kept bbw0_11 b12; have kw0_12 := cell_kept b12 kw0_11; have bbx0_12 : Blk w12 (w7.heap.size) 26 #[.slice Ax0 n0 cx0] := Blk.kept bbx0_11 b12; have kx0_12 := cell_kept b12 kx0_11; have bbx1_12 : Blk w12 (w8.heap.size) 26 #[.slice Ax1 n1 cx1] := Blk.kept bbx1_11 b12; have kx1_12 := cell_kept b12 kx1_11; have bbg0_12 : Blk w12 (w9.heap.size) 26 #[.slice Ag0 ng0 cg0] := Blk.kept bbg0_11 b12; have kg0_12 := cell_kept b12 kg0_11; have ow0_12 := Mine.below ow0_11 b12; have ox0_12 := Mine.below ox0_11 b12; have ox1_12 := Mine.below ox1_11 b12; have og0_12 := Mine.below og0_11 b12; have oy0_12 := Mine.below u11 b12; clear bbp0_11 kp0_11 bbp1_11 kp1_11 bbw0_11 kw0_11 bbx0_11 kx0_11 bbx1_11 kx1_11 bbg0_11 kg0_11 ow0_11 ox0_11 ox1_11 og0_11 u11 B11 b12))
  clear oy0_12
  go_wp2_with fail
  go_region_held3 (fun wx => wx.cell? ⟨w.heap.size + 1, 0, none⟩ = some (.slice A1 n1 c1) ∧ wx.cell? ⟨w8.heap.size, 0, none⟩ = some (.slice Ax1 n1 cx1)) (go_keep)
    (first
      | (go_at_call_of 11 (Value.agg #[Value.slice A1 n1 c1]); refine (toWhole_any A1 n1 c1 xs1 _ (h1.in_ B12.drew) hn1).mono ?_; rintro e w13 ⟨Ay1, cy1, rfl, u13, b13⟩; have B13 := bthen B12.drew b13; have bbp0_13 : Blk w13 (w.heap.size) 24 #[.slice A0 n0 c0] := Blk.kept (Blk.drew bbp0_12) b13; have kp0_13 := cell_kept b13 kp0_12; have bbp1_13 : Blk w13 (w.heap.size + 1) 24 #[.slice A1 n1 c1] := Blk.kept (Blk.drew bbp1_12) b13; have kp1_13 := cell_kept b13 kp1_12; have bbw0_13 : Blk w13 (bww0) 26 #[.slice Aw0 nw0 cw0] := Blk.kept (Blk.drew bbw0_12) b13; have kw0_13 := cell_kept b13 kw0_12; have bbx0_13 : Blk w13 (w7.heap.size) 26 #[.slice Ax0 n0 cx0] := Blk.kept (Blk.drew bbx0_12) b13; have kx0_13 := cell_kept b13 kx0_12; have bbx1_13 : Blk w13 (w8.heap.size) 26 #[.slice Ax1 n1 cx1] := Blk.kept (Blk.drew bbx1_12) b13; have kx1_13 := cell_kept b13 kx1_12; have bbg0_13 : Blk w13 (w9.heap.size) 26 #[.slice Ag0 ng0 cg0] := Blk.kept (Blk.drew bbg0_12) b13; have kg0_13 := cell_kept b13 kg0_12; have ow0_13 := Mine.below (Mine.drew ow0_12) b13; have ox0_13 := Mine.below (Mine.drew ox0_12) b13; have ox1_13 := Mine.below (Mine.drew ox1_12) b13; have og0_13 := Mine.below (Mine.drew og0_12) b13; clear bbp0_12 kp0_12 bbp1_12 kp1_12 bbw0_12 kw0_12 bbx0_12 kx0_12 bbx1_12 kx1_12 bbg0_12 kg0_12 ow0_12 ox0_12 ox1_12 og0_12 B12 b13)
      | (go_at_call 13; refine (eqWhole_any Ax1 n1 cx1 xs1 Ay1 n1 cy1 xs1 _ (Mine.rd ox1_13) (Mine.rd u13)).mono ?_; rintro e w14 ⟨rfl, b14⟩; have B14 := bthen B13 b14; have bbp0_14 : Blk w14 (w.heap.size) 24 #[.slice A0 n0 c0] := Blk.kept bbp0_13 b14; have kp0_14 := cell_kept b14 kp0_13; have bbp1_14 : Blk w14 (w.heap.size + 1) 24 #[.slice A1 n1 c1] := Blk.kept bbp1_13 b14; have kp1_14 := cell_kept b14 kp1_13; have bbw0_14 : Blk w14 (bww0) 26 #[.slice Aw0 nw0 cw0] := Blk.kept bbw0_13 b14; have kw0_14 := cell_kept b14 kw0_13; have bbx0_14 : Blk w14 (w7.heap.size) 26 #[.slice Ax0 n0 cx0] := Blk.kept bbx0_13 b14; have kx0_14 := cell_kept b14 kx0_13; have bbx1_14 : Blk w14 (w8.heap.size) 26 #[.slice Ax1 n1 cx1] := Blk.kept bbx1_13 b14; have kx1_14 := cell_kept b14 kx1_13; have bbg0_14 : Blk w14 (w9.heap.size) 26 #[.slice Ag0 ng0 cg0] := Blk.kept bbg0_13 b14; have kg0_14 := cell_kept b14 kg0_13; have ow0_14 := Mine.below ow0_13 b14; have ox0_14 := Mine.below ox0_13 b14; have ox1_14 := Mine.below ox1_13 b14; have og0_14 := Mine.below og0_13 b14; have oy1_14 := Mine.below u13 b14; clear bbp0_13 kp0_13 bbp1_13 kp1_13 bbw0_13 kw0_13 bbx0_13 kx0_13 bbx1_13 kx1_13 bbg0_13 kg0_13 ow0_13 ox0_13 ox1_13 og0_13 u13 B13 b14))
  clear oy1_14
  go_wp2_with fail
  refine (markWhole_any Ax0 n0 cx0 xs0 (1) _ _ ox0_14 (by omega) (by omega) hn0).mono ?_
  rintro e w15 ⟨rfl, u15, g15⟩
  have B15 := below_mark B14 lbx0.out g15
  have bbp0_15 : Blk w15 (w.heap.size) 24 #[.slice A0 n0 c0] := Blk.grown bbp0_14 g15 (Blk.apart bbp0_14 ox0_14 (by decide))
  have kp0_15 := Blk.cell0 bbp0_15
  have bbp1_15 : Blk w15 (w.heap.size + 1) 24 #[.slice A1 n1 c1] := Blk.grown bbp1_14 g15 (Blk.apart bbp1_14 ox0_14 (by decide))
  have kp1_15 := Blk.cell0 bbp1_15
  have bbw0_15 : Blk w15 (bww0) 26 #[.slice Aw0 nw0 cw0] := Blk.grown bbw0_14 g15 (Blk.apart bbw0_14 ox0_14 (by decide))
  have kw0_15 := Blk.cell0 bbw0_15
  have bbx0_15 : Blk w15 (w7.heap.size) 26 #[.slice Ax0 n0 cx0] := Blk.grown bbx0_14 g15 (Blk.apart bbx0_14 ox0_14 (by decide))
  have kx0_15 := Blk.cell0 bbx0_15
  have bbx1_15 : Blk w15 (w8.heap.size) 26 #[.slice Ax1 n1 cx1] := Blk.grown bbx1_14 g15 (Blk.apart bbx1_14 ox0_14 (by decide))
  have kx1_15 := Blk.cell0 bbx1_15
  have bbg0_15 : Blk w15 (w9.heap.size) 26 #[.slice Ag0 ng0 cg0] := Blk.grown bbg0_14 g15 (Blk.apart bbg0_14 ox0_14 (by decide))
  have kg0_15 := Blk.cell0 bbg0_15
  have ow0_15 := own_mark ow0_14 (Apart.symm ap_w0_x0) g15
  have ox1_15 := own_mark ox1_14 ap_x0_x1 g15
  have og0_15 := own_mark og0_14 ap_x0_g0 g15
  clear kp0_14 bbp0_14 kp1_14 bbp1_14 kw0_14 bbw0_14 kx0_14 bbx0_14 kx1_14 bbx1_14 kg0_14 bbg0_14 ow0_14 ox1_14 og0_14 ox0_14 g15 B14
  go_wp2_with fail
  refine (markWhole_any Ax1 n1 cx1 xs1 (1 + n0) _ _ ox1_15 (by omega) (by omega) hn1).mono ?_
  rintro e w16 ⟨rfl, u16, g16⟩
  have B16 := below_mark B15 lbx1.out g16
  have bbp0_16 : Blk w16 (w.heap.size) 24 #[.slice A0 n0 c0] := Blk.grown bbp0_15 g16 (Blk.apart bbp0_15 ox1_15 (by decide))
  have kp0_16 := Blk.cell0 bbp0_16
  have bbp1_16 : Blk w16 (w.heap.size + 1) 24 #[.slice A1 n1 c1] := Blk.grown bbp1_15 g16 (Blk.apart bbp1_15 ox1_15 (by decide))
  have kp1_16 := Blk.cell0 bbp1_16
  have bbw0_16 : Blk w16 (bww0) 26 #[.slice Aw0 nw0 cw0] := Blk.grown bbw0_15 g16 (Blk.apart bbw0_15 ox1_15 (by decide))
  have kw0_16 := Blk.cell0 bbw0_16
  have bbx0_16 : Blk w16 (w7.heap.size) 26 #[.slice Ax0 n0 cx0] := Blk.grown bbx0_15 g16 (Blk.apart bbx0_15 ox1_15 (by decide))
  have kx0_16 := Blk.cell0 bbx0_16
  have bbx1_16 : Blk w16 (w8.heap.size) 26 #[.slice Ax1 n1 cx1] := Blk.grown bbx1_15 g16 (Blk.apart bbx1_15 ox1_15 (by decide))
  have kx1_16 := Blk.cell0 bbx1_16
  have bbg0_16 : Blk w16 (w9.heap.size) 26 #[.slice Ag0 ng0 cg0] := Blk.grown bbg0_15 g16 (Blk.apart bbg0_15 ox1_15 (by decide))
  have kg0_16 := Blk.cell0 bbg0_16
  have ow0_16 := own_mark ow0_15 (Apart.symm ap_w0_x1) g16
  have ox0_16 := own_mark u15 (Apart.symm ap_x0_x1) g16
  have og0_16 := own_mark og0_15 ap_x1_g0 g16
  clear kp0_15 bbp0_15 kp1_15 bbp1_15 kw0_15 bbw0_15 kx0_15 bbx0_15 kx1_15 bbx1_15 kg0_15 bbg0_15 ow0_15 u15 og0_15 ox1_15 g16 B15
  go_wp2_with fail
  refine (eqWhole_any Ag0 ng0 cg0 (quoF xs0 xs1).1 Aw0 nw0 cw0 (quoF xs0 xs1).1 _ (Mine.rd og0_16) (Mine.rd ow0_16)).mono ?_
  rintro e w17 ⟨rfl, b17⟩
  have B17 := bthen B16 b17
  have bbp0_17 : Blk w17 (w.heap.size) 24 #[.slice A0 n0 c0] := Blk.kept bbp0_16 b17
  have kp0_17 := cell_kept b17 kp0_16
  have bbp1_17 : Blk w17 (w.heap.size + 1) 24 #[.slice A1 n1 c1] := Blk.kept bbp1_16 b17
  have kp1_17 := cell_kept b17 kp1_16
  have bbw0_17 : Blk w17 (bww0) 26 #[.slice Aw0 nw0 cw0] := Blk.kept bbw0_16 b17
  have kw0_17 := cell_kept b17 kw0_16
  have bbx0_17 : Blk w17 (w7.heap.size) 26 #[.slice Ax0 n0 cx0] := Blk.kept bbx0_16 b17
  have kx0_17 := cell_kept b17 kx0_16
  have bbx1_17 : Blk w17 (w8.heap.size) 26 #[.slice Ax1 n1 cx1] := Blk.kept bbx1_16 b17
  have kx1_17 := cell_kept b17 kx1_16
  have bbg0_17 : Blk w17 (w9.heap.size) 26 #[.slice Ag0 ng0 cg0] := Blk.kept bbg0_16 b17
  have kg0_17 := cell_kept b17 kg0_16
  have ow0_17 := Mine.below ow0_16 b17
  have ox0_17 := Mine.below ox0_16 b17
  have ox1_17 := Mine.below u16 b17
  have og0_17 := Mine.below og0_16 b17
  clear bbp0_16 kp0_16 bbp1_16 kp1_16 bbw0_16 kw0_16 bbx0_16 kx0_16 bbx1_16 kx1_16 bbg0_16 kg0_16 ow0_16 ox0_16 u16 og0_16 B16 b17
  clear ox0_17
  clear ox1_17
  go_wp2_with fail
  refine (markWhole_any Ag0 ng0 cg0 (quoF xs0 xs1).1 (1) _ _ og0_17 (by omega) (by omega) hng0).mono ?_
  rintro e w18 ⟨rfl, u18, g18⟩
  have B18 := below_mark B17 lbg0.out g18
  have bbp0_18 : Blk w18 (w.heap.size) 24 #[.slice A0 n0 c0] := Blk.grown bbp0_17 g18 (Blk.apart bbp0_17 og0_17 (by decide))
  have kp0_18 := Blk.cell0 bbp0_18
  have bbp1_18 : Blk w18 (w.heap.size + 1) 24 #[.slice A1 n1 c1] := Blk.grown bbp1_17 g18 (Blk.apart bbp1_17 og0_17 (by decide))
  have kp1_18 := Blk.cell0 bbp1_18
  have bbw0_18 : Blk w18 (bww0) 26 #[.slice Aw0 nw0 cw0] := Blk.grown bbw0_17 g18 (Blk.apart bbw0_17 og0_17 (by decide))
  have kw0_18 := Blk.cell0 bbw0_18
  have bbx0_18 : Blk w18 (w7.heap.size) 26 #[.slice Ax0 n0 cx0] := Blk.grown bbx0_17 g18 (Blk.apart bbx0_17 og0_17 (by decide))
  have kx0_18 := Blk.cell0 bbx0_18
  have bbx1_18 : Blk w18 (w8.heap.size) 26 #[.slice Ax1 n1 cx1] := Blk.grown bbx1_17 g18 (Blk.apart bbx1_17 og0_17 (by decide))
  have kx1_18 := Blk.cell0 bbx1_18
  have bbg0_18 : Blk w18 (w9.heap.size) 26 #[.slice Ag0 ng0 cg0] := Blk.grown bbg0_17 g18 (Blk.apart bbg0_17 og0_17 (by decide))
  have kg0_18 := Blk.cell0 bbg0_18
  have ow0_18 := own_mark ow0_17 (Apart.symm ap_w0_g0) g18
  clear kp0_17 bbp0_17 kp1_17 bbp1_17 kw0_17 bbw0_17 kx0_17 bbx0_17 kx1_17 bbx1_17 kg0_17 bbg0_17 ow0_17 og0_17 g18 B17
  go_wp2_with fail
  refine (heldWhole_any Ag0 ng0 cg0 (1) _ (Mine.rd u18) (by omega) (by omega) hng0).mono ?_
  rintro e w19 ⟨rfl, b19⟩
  have B19 := bthen B18 b19
  have bbp0_19 : Blk w19 (w.heap.size) 24 #[.slice A0 n0 c0] := Blk.kept bbp0_18 b19
  have kp0_19 := cell_kept b19 kp0_18
  have bbp1_19 : Blk w19 (w.heap.size + 1) 24 #[.slice A1 n1 c1] := Blk.kept bbp1_18 b19
  have kp1_19 := cell_kept b19 kp1_18
  have bbw0_19 : Blk w19 (bww0) 26 #[.slice Aw0 nw0 cw0] := Blk.kept bbw0_18 b19
  have kw0_19 := cell_kept b19 kw0_18
  have bbx0_19 : Blk w19 (w7.heap.size) 26 #[.slice Ax0 n0 cx0] := Blk.kept bbx0_18 b19
  have kx0_19 := cell_kept b19 kx0_18
  have bbx1_19 : Blk w19 (w8.heap.size) 26 #[.slice Ax1 n1 cx1] := Blk.kept bbx1_18 b19
  have kx1_19 := cell_kept b19 kx1_18
  have bbg0_19 : Blk w19 (w9.heap.size) 26 #[.slice Ag0 ng0 cg0] := Blk.kept bbg0_18 b19
  have kg0_19 := cell_kept b19 kg0_18
  have ow0_19 := Mine.below ow0_18 b19
  have og0_19 := Mine.below u18 b19
  clear bbp0_18 kp0_18 bbp1_18 kp1_18 bbw0_18 kw0_18 bbx0_18 kx0_18 bbx1_18 kx1_18 bbg0_18 kg0_18 ow0_18 u18 B18 b19
  go_upto_region 31 with (fail)
  go_cut [15, 16] (fun sa sb wx => ∃ bw Ah0 nh0 ch0, sa = .pointer (some ⟨bw, 0, none⟩) ∧ sb = .bool (quoF xs0 xs1).2 ∧ Blk wx bw 26 #[.slice Ah0 nh0 ch0] ∧ Mine wx w19.heap.size Ah0 nh0 ch0 (quoF xs0 xs1).1 ∧ Below w19.heap.size w19 wx)
  case first =>
    go_region_held3 (fun wx => wx.cell? ⟨w.heap.size, 0, none⟩ = some (.slice A0 n0 c0) ∧ wx.cell? ⟨w.heap.size + 1, 0, none⟩ = some (.slice A1 n1 c1))
      (first | exact ⟨kp0_19, kp1_19⟩ | exact ⟨cell_kept (al1 _ _) kp0_19, cell_kept (al1 _ _) kp1_19⟩ | exact ⟨kq0_20, kq1_20⟩ | exact ⟨cell_kept (al1 _ _) kq0_20, cell_kept (al1 _ _) kq1_20⟩ | exact ⟨cell_kept (Below.setCell K20 lx20 _) kp0_19, cell_kept (Below.setCell K20 lx20 _) kp1_19⟩ | exact ⟨kq0_21, kq1_21⟩ | exact ⟨cell_kept (al1 _ _) kq0_21, cell_kept (al1 _ _) kq1_21⟩ | exact ⟨cell_kept (Below.setCell K21 lx21 _) kp0_19, cell_kept (Below.setCell K21 lx21 _) kp1_19⟩ | exact ⟨kq0_22, kq1_22⟩ | exact ⟨cell_kept (al1 _ _) kq0_22, cell_kept (al1 _ _) kq1_22⟩ | exact ⟨cell_kept (Below.setCell K22 lx22 _) kp0_19, cell_kept (Below.setCell K22 lx22 _) kp1_19⟩ | go_keep)
      (first
        | (go_at_call_of 11 (Value.agg #[Value.slice A0 n0 c0]); refine (toWhole_any A0 n0 c0 xs0 _ (h0.in_ (Below.drew (Below.alloc B19 (Below.size B19) _))) hn0).mono ?_; rintro e w20 ⟨As0, cs0, rfl, u20, b20⟩; have bx20 : Blk w20 w19.heap.size 26 #[.slice none 0 0] := Blk.kept (Blk.drew (Blk.new w19 _ _)) b20; have lx20 : w19.heap.size ≤ w19.heap.size := Nat.le_refl _; have K20 := bthen (Below.drew (al1 w19 _)) b20; have B20 := bthen B19 K20; have kq0_20 := cell_kept K20 kp0_19; have kq1_20 := cell_kept K20 kp1_19)
        | (go_at_call_of 11 (Value.agg #[Value.slice A0 n0 c0]); refine (toWhole_any A0 n0 c0 xs0 _ (h0.in_ (Below.drew B19)) hn0).mono ?_; rintro e w20 ⟨As0, cs0, rfl, u20, b20⟩; have K20 := bthen (Below.drew (Below.refl w19.heap.size w19)) b20; have B20 := bthen B19 K20; have kq0_20 := cell_kept K20 kp0_19; have kq1_20 := cell_kept K20 kp1_19)
        | (go_at_call_of 11 (Value.agg #[Value.slice A1 n1 c1]); refine (toWhole_any A1 n1 c1 xs1 _ (h1.in_ B20) hn1).mono ?_; rintro e w21 ⟨As1, cs1, rfl, u21, b21⟩; have bx21 := Blk.kept bx20 b21; have lx21 := lx20; have K21 := bthen K20 b21; have B21 := bthen B19 K21; have kq0_21 := cell_kept K21 kp0_19; have kq1_21 := cell_kept K21 kp1_19; have us0_21 := Mine.below u20 b21)
        | (go_at_call_of 11 (Value.agg #[Value.slice A1 n1 c1]); refine (toWhole_any A1 n1 c1 xs1 _ (h1.in_ (Below.alloc B20 (Below.size B20) _)) hn1).mono ?_; rintro e w21 ⟨As1, cs1, rfl, u21, b21⟩; have bx21 : Blk w21 w20.heap.size 26 #[.slice none 0 0] := Blk.kept (Blk.new w20 _ _) b21; have lx21 : w19.heap.size ≤ w20.heap.size := Below.size K20; have K21 := bthen (Below.alloc K20 (Below.size K20) _) b21; have B21 := bthen B19 K21; have kq0_21 := cell_kept K21 kp0_19; have kq1_21 := cell_kept K21 kp1_19; have us0_21 := Mine.below (Mine.alloc u20 _) b21)
        | (go_at_call_of 11 (Value.agg #[Value.slice A1 n1 c1]); refine (toWhole_any A1 n1 c1 xs1 _ (h1.in_ B20) hn1).mono ?_; rintro e w21 ⟨As1, cs1, rfl, u21, b21⟩; have K21 := bthen K20 b21; have B21 := bthen B19 K21; have kq0_21 := cell_kept K21 kp0_19; have kq1_21 := cell_kept K21 kp1_19; have us0_21 := Mine.below u20 b21)
        | (go_at_call 25; refine (quo_own As0 n0 cs0 xs0 As1 n1 cs1 xs1 _ (Mine.rd us0_21) (Mine.rd u21) hn0 hn1).mono ?_; rintro e w22 ⟨Ah0, nh0, ch0, rfl, u22, b22⟩; have bx22 := Blk.kept bx21 b22; have lx22 := lx21; have cbx := Blk.cell0 bx22; have fbx := Blk.frozen0 bx22; have K22 := bthen K21 b22; have B22 := bthen B19 K22; have kq0_22 := cell_kept K22 kp0_19; have kq1_22 := cell_kept K22 kp1_19; have us0_22 := Mine.below us0_21 b22; have us1_22 := Mine.below u21 b22; have U22 := Mine.low u22 (Below.size K21))
        | (go_at_call 25; refine (quo_own As0 n0 cs0 xs0 As1 n1 cs1 xs1 _ (Mine.rd (Mine.alloc us0_21 _)) (Mine.rd (Mine.alloc u21 _)) hn0 hn1).mono ?_; rintro e w22 ⟨Ah0, nh0, ch0, rfl, u22, b22⟩; have bx22 : Blk w22 w21.heap.size 26 #[.slice none 0 0] := Blk.kept (Blk.new w21 _ _) b22; have lx22 : w19.heap.size ≤ w21.heap.size := Below.size K21; have cbx := Blk.cell0 bx22; have fbx := Blk.frozen0 bx22; have K22 := bthen (Below.alloc K21 (Below.size K21) _) b22; have B22 := bthen B19 K22; have kq0_22 := cell_kept K22 kp0_19; have kq1_22 := cell_kept K22 kp1_19; have us0_22 := Mine.below (Mine.alloc us0_21 _) b22; have us1_22 := Mine.below (Mine.alloc u21 _) b22; have U22 := Mine.low u22 (Below.size (Below.alloc K21 (Below.size K21) _)))
        | (go_at_call 25; refine (quo_own As0 n0 cs0 xs0 As1 n1 cs1 xs1 _ (Mine.rd us0_21) (Mine.rd u21) hn0 hn1).mono ?_; rintro e w22 ⟨Ah0, nh0, ch0, rfl, u22, b22⟩; have K22 := bthen K21 b22; have B22 := bthen B19 K22; have kq0_22 := cell_kept K22 kp0_19; have kq1_22 := cell_kept K22 kp1_19; have us0_22 := Mine.below us0_21 b22; have us1_22 := Mine.below u21 b22; have U22 := Mine.low u22 (Below.size K21)))
    all_goals
      go_wp2_with fail
      go_meet
      first
        | exact ⟨_, Ah0, nh0, ch0, rfl, rfl, Blk.new _ _ _, Mine.alloc U22 _, Below.alloc K22 (Below.size K22) _⟩
        | exact ⟨_, Ah0, nh0, ch0, rfl, rfl, Blk.set0 bx22 _, mine_set U22 (Blk.apart bx22 U22 (by decide)) _, Below.setCell K22 lx22 _⟩
  obtain ⟨bwh0, Ah0, nh0, ch0, rfl, rfl, bbh0_23, u23, b23⟩ := hcut
  obtain ⟨w23, rfl⟩ : ∃ w23 : World, w23 = wc := ⟨_, rfl⟩
  have kh0_23 := Blk.cell0 bbh0_23
  have B23 := bthen B19 b23
  have bbp0_23 : Blk w23 (w.heap.size) 24 #[.slice A0 n0 c0] := Blk.kept bbp0_19 b23
  have kp0_23 := cell_kept b23 kp0_19
  have bbp1_23 : Blk w23 (w.heap.size + 1) 24 #[.slice A1 n1 c1] := Blk.kept bbp1_19 b23
  have kp1_23 := cell_kept b23 kp1_19
  have bbw0_23 : Blk w23 (bww0) 26 #[.slice Aw0 nw0 cw0] := Blk.kept bbw0_19 b23
  have kw0_23 := cell_kept b23 kw0_19
  have bbx0_23 : Blk w23 (w7.heap.size) 26 #[.slice Ax0 n0 cx0] := Blk.kept bbx0_19 b23
  have kx0_23 := cell_kept b23 kx0_19
  have bbx1_23 : Blk w23 (w8.heap.size) 26 #[.slice Ax1 n1 cx1] := Blk.kept bbx1_19 b23
  have kx1_23 := cell_kept b23 kx1_19
  have bbg0_23 : Blk w23 (w9.heap.size) 26 #[.slice Ag0 ng0 cg0] := Blk.kept bbg0_19 b23
  have kg0_23 := cell_kept b23 kg0_19
  have ow0_23 := Mine.below ow0_19 b23
  have og0_23 := Mine.below og0_19 b23
  clear bbp0_19 kp0_19 bbp1_19 kp1_19 bbw0_19 kw0_19 bbx0_19 kx0_19 bbx1_19 kx1_19 bbg0_19 kg0_19 ow0_19 og0_19 B19 b23
  go_wp2_with fail
  refine (eqWhole_any Ah0 nh0 ch0 (quoF xs0 xs1).1 Aw0 nw0 cw0 (quoF xs0 xs1).1 _ (Mine.rd u23) (Mine.rd ow0_23)).mono ?_
  rintro e w24 ⟨rfl, b24⟩
  have B24 := bthen B23 b24
  have bbp0_24 : Blk w24 (w.heap.size) 24 #[.slice A0 n0 c0] := Blk.kept bbp0_23 b24
  have kp0_24 := cell_kept b24 kp0_23
  have bbp1_24 : Blk w24 (w.heap.size + 1) 24 #[.slice A1 n1 c1] := Blk.kept bbp1_23 b24
  have kp1_24 := cell_kept b24 kp1_23
  have bbw0_24 : Blk w24 (bww0) 26 #[.slice Aw0 nw0 cw0] := Blk.kept bbw0_23 b24
  have kw0_24 := cell_kept b24 kw0_23
  have bbx0_24 : Blk w24 (w7.heap.size) 26 #[.slice Ax0 n0 cx0] := Blk.kept bbx0_23 b24
  have kx0_24 := cell_kept b24 kx0_23
  have bbx1_24 : Blk w24 (w8.heap.size) 26 #[.slice Ax1 n1 cx1] := Blk.kept bbx1_23 b24
  have kx1_24 := cell_kept b24 kx1_23
  have bbg0_24 : Blk w24 (w9.heap.size) 26 #[.slice Ag0 ng0 cg0] := Blk.kept bbg0_23 b24
  have kg0_24 := cell_kept b24 kg0_23
  have bbh0_24 : Blk w24 (bwh0) 26 #[.slice Ah0 nh0 ch0] := Blk.kept bbh0_23 b24
  have kh0_24 := cell_kept b24 kh0_23
  have ow0_24 := Mine.below ow0_23 b24
  have og0_24 := Mine.below og0_23 b24
  have oh0_24 := Mine.below u23 b24
  clear bbp0_23 kp0_23 bbp1_23 kp1_23 bbw0_23 kw0_23 bbx0_23 kx0_23 bbx1_23 kx1_23 bbg0_23 kg0_23 bbh0_23 kh0_23 ow0_23 og0_23 u23 B23 b24
  go_wp2_with fail
  refine (heldWhole_any Ag0 ng0 cg0 (1) _ (Mine.rd og0_24) (by omega) (by omega) hng0).mono ?_
  rintro e w25 ⟨rfl, b25⟩
  have B25 := bthen B24 b25
  have bbp0_25 : Blk w25 (w.heap.size) 24 #[.slice A0 n0 c0] := Blk.kept bbp0_24 b25
  have kp0_25 := cell_kept b25 kp0_24
  have bbp1_25 : Blk w25 (w.heap.size + 1) 24 #[.slice A1 n1 c1] := Blk.kept bbp1_24 b25
  have kp1_25 := cell_kept b25 kp1_24
  have bbw0_25 : Blk w25 (bww0) 26 #[.slice Aw0 nw0 cw0] := Blk.kept bbw0_24 b25
  have kw0_25 := cell_kept b25 kw0_24
  have bbx0_25 : Blk w25 (w7.heap.size) 26 #[.slice Ax0 n0 cx0] := Blk.kept bbx0_24 b25
  have kx0_25 := cell_kept b25 kx0_24
  have bbx1_25 : Blk w25 (w8.heap.size) 26 #[.slice Ax1 n1 cx1] := Blk.kept bbx1_24 b25
  have kx1_25 := cell_kept b25 kx1_24
  have bbg0_25 : Blk w25 (w9.heap.size) 26 #[.slice Ag0 ng0 cg0] := Blk.kept bbg0_24 b25
  have kg0_25 := cell_kept b25 kg0_24
  have bbh0_25 : Blk w25 (bwh0) 26 #[.slice Ah0 nh0 ch0] := Blk.kept bbh0_24 b25
  have kh0_25 := cell_kept b25 kh0_24
  have ow0_25 := Mine.below ow0_24 b25
  have og0_25 := Mine.below og0_24 b25
  have oh0_25 := Mine.below oh0_24 b25
  clear bbp0_24 kp0_24 bbp1_24 kp1_24 bbw0_24 kw0_24 bbx0_24 kx0_24 bbx1_24 kx1_24 bbg0_24 kg0_24 bbh0_24 kh0_24 ow0_24 og0_24 oh0_24 B24 b25
  go_wp2_with fail
  go_ret
  exact ⟨rfl, B25⟩
end Go.Proofs.Ytanfmhhkabdieaa
