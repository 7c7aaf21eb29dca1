/- FnExactWholeFrom: the walk of the law: whatever the arguments it answers true and leaves all memory of before as it was. No condition. -/
import Derived.Test.YtjhcjpjmpcoopaaMem
import Derived.Test.YtjhcjpjmpcoopaaWhole
import Derived.Test.YtjhcjpjmpcoopaaMarkWhole
import Derived.Test.YtjhcjpjmpcoopaaWholeFrom
import Derived.Deep.RegionHeld3
import Derived.Deep.DeepCutAuto
namespace Go.Proofs.Ytjhcjpjmpcoopaa
open Go.RowKit

set_option maxHeartbeats 4000000 in
theorem walkWholeFrom (A0 : Option Addr) (n0 c0 : Nat) (xs0 : List Int) (w : World) (h0 : Rd w w.heap.size A0 n0 c0 xs0) :
    Calls Try.prog 8 #[.slice A0 n0 c0] w fun e w' => e = .returned (.bool true) ∧ Below w.heap.size w w' := by
  have hm0 : n0 ≤ 9223372036854775807 := by have hh1 := h0.cap; have hh2 := h0.most; unfold maxLen at hh2; omega
  by_cases s0 : (1048576 : Int) < n0
  · go_enter Try.func8, Try.ntmps8
    go_wp2_with fail
    go_ret
    exact ⟨rfl, Below.refl _ _⟩
  go_enter Try.func8, Try.ntmps8
  have hn0 : n0 ≤ 1048576 := by omega
  go_wp2_with fail
  refine (toInts A0 n0 c0 xs0 _ (h0.in_ (Below.refl w.heap.size w)) hn0).mono ?_
  rintro e w1 ⟨As0, cs0, rfl, u1, b1⟩
  have B1 := bthen (Below.refl w.heap.size w) b1
  clear b1
  go_wp2_with fail
  refine (wholeFrom_ref As0 n0 cs0 xs0 _ (Mine.rd u1) hn0).mono ?_
  rintro e w2 ⟨Aw0, nw0, cw0, rfl, u2w0, b2⟩
  have B2 := bthen B1 b2
  have os0_2 := Mine.below u1 b2
  clear u1 B1 b2
  clear os0_2
  go_wp2_with fail
  refine (toInts A0 n0 c0 xs0 _ (h0.in_ (B2.alloc B2.size _)) hn0).mono ?_
  rintro e w3 ⟨Ax0, cx0, rfl, u3, b3⟩
  have lbx0 := Lib.hid (lb_of (B2.alloc B2.size _) u3)
  have ap_w0_x0 := apart_of (Mine.alloc u2w0 _) u3
  have B3 := bthen (B2.alloc B2.size _) b3
  have bbw0_3 : Blk w3 (w2.heap.size) 27 #[.slice Aw0 nw0 cw0] := Blk.kept (Blk.new _ _ _) b3
  have kw0_3 := cell_kept (b := w2.heap.size) (o := 0) (v := .slice Aw0 nw0 cw0) b3 (by simp [go_sem])
  have ow0_3 := Mine.below (Mine.alloc u2w0 _) b3
  clear u2w0 B2 b3
  go_wp2_with fail
  refine (wholeFrom_own Ax0 n0 cx0 xs0 _ (Mine.rd u3) hn0).mono ?_
  rintro e w4 ⟨Ag0, ng0, cg0, rfl, u4g0, b4⟩
  have lbg0 := Lib.hid (lb_of B3 u4g0)
  have ap_w0_g0 := apart_of ow0_3 u4g0
  have ap_x0_g0 := apart_of u3 u4g0
  have hng0 : ng0 ≤ 1048576 := by have hh := Mine.len u4g0; have hh2 := wholeFrom_len xs0; omega
  have B4 := bthen B3 b4
  have bbw0_4 : Blk w4 (w2.heap.size) 27 #[.slice Aw0 nw0 cw0] := Blk.kept bbw0_3 b4
  have kw0_4 := cell_kept b4 kw0_3
  have ow0_4 := Mine.below ow0_3 b4
  have ox0_4 := Mine.below u3 b4
  clear bbw0_3 kw0_3 ow0_3 u3 B3 b4
  have lw0_w4 : w2.heap.size < w4.heap.size := World.block_lt_of_cell? _ _ kw0_4
  go_wp2_with fail
  refine (eqWhole_any Ag0 ng0 cg0 (wholeFromF xs0).1 Aw0 nw0 cw0 (wholeFromF xs0).1 _ (Mine.rd (Mine.alloc u4g0 _)) (Mine.rd (Mine.alloc ow0_4 _))).mono ?_
  rintro e w5 ⟨rfl, b5⟩
  have B5 := bthen (B4.alloc B4.size _) b5
  have bbw0_5 : Blk w5 (w2.heap.size) 27 #[.slice Aw0 nw0 cw0] := Blk.kept (Blk.alloc bbw0_4 _) b5
  have kw0_5 := cell_kept b5 (cell_kept (al1 _ _) kw0_4)
  have bbg0_5 : Blk w5 (w4.heap.size) 27 #[.slice Ag0 ng0 cg0] := Blk.kept (Blk.new _ _ _) b5
  have kg0_5 := cell_kept (b := w4.heap.size) (o := 0) (v := .slice Ag0 ng0 cg0) b5 (by simp [go_sem])
  have ow0_5 := Mine.below (Mine.alloc ow0_4 _) b5
  have ox0_5 := Mine.below (Mine.alloc ox0_4 _) b5
  have og0_5 := Mine.below (Mine.alloc u4g0 _) b5
  clear bbw0_4 kw0_4 ow0_4 ox0_4 u4g0 B4 b5 lw0_w4
  go_wp2_with fail
  refine (toInts A0 n0 c0 xs0 _ (h0.in_ B5) hn0).mono ?_
  rintro e w6 ⟨Ay0, cy0, rfl, u6, b6⟩
  have B6 := bthen B5 b6
  have bbw0_6 : Blk w6 (w2.heap.size) 27 #[.slice Aw0 nw0 cw0] := Blk.kept bbw0_5 b6
  have kw0_6 := cell_kept b6 kw0_5
  have bbg0_6 : Blk w6 (w4.heap.size) 27 #[.slice Ag0 ng0 cg0] := Blk.kept bbg0_5 b6
  have kg0_6 := cell_kept b6 kg0_5
  have ow0_6 := Mine.below ow0_5 b6
  have ox0_6 := Mine.below ox0_5 b6
  have og0_6 := Mine.below og0_5 b6
  clear bbw0_5 kw0_5 bbg0_5 kg0_5 ow0_5 ox0_5 og0_5 B5 b6
  go_wp2_with fail
  refine (eqInts Ax0 n0 cx0 xs0 Ay0 n0 cy0 xs0 _ (Mine.rd ox0_6) (Mine.rd u6)).mono ?_
  rintro e w7 ⟨rfl, q7, hq7⟩
  have b7 := below_of_drewN hq7
  clear hq7
  have B7 := bthen B6 b7
  have bbw0_7 : Blk w7 (w2.heap.size) 27 #[.slice Aw0 nw0 cw0] := Blk.kept bbw0_6 b7
  have kw0_7 := cell_kept b7 kw0_6
  have bbg0_7 : Blk w7 (w4.heap.size) 27 #[.slice Ag0 ng0 cg0] := Blk.kept bbg0_6 b7
  have kg0_7 := cell_kept b7 kg0_6
  have ow0_7 := Mine.below ow0_6 b7
  have ox0_7 := Mine.below ox0_6 b7
  have og0_7 := Mine.below og0_6 b7
  have oy0_7 := Mine.below u6 b7
  clear bbw0_6 kw0_6 bbg0_6 kg0_6 ow0_6 ox0_6 og0_6 u6 B6 b7
  clear oy0_7
  go_wp2_with fail
  refine (markInts Ax0 n0 cx0 xs0 (1) _ _ ox0_7 (by omega) (by omega) hn0).mono ?_
  rintro e w8 ⟨rfl, u8, g8⟩
  have B8 := below_mark B7 lbx0.out g8
  have bbw0_8 : Blk w8 (w2.heap.size) 27 #[.slice Aw0 nw0 cw0] := Blk.grown bbw0_7 g8 (Blk.apart bbw0_7 ox0_7 (by decide))
  have kw0_8 := Blk.cell0 bbw0_8
  have bbg0_8 : Blk w8 (w4.heap.size) 27 #[.slice Ag0 ng0 cg0] := Blk.grown bbg0_7 g8 (Blk.apart bbg0_7 ox0_7 (by decide))
  have kg0_8 := Blk.cell0 bbg0_8
  have ow0_8 := own_mark ow0_7 (Apart.symm ap_w0_x0) g8
  have og0_8 := own_mark og0_7 ap_x0_g0 g8
  clear kw0_7 bbw0_7 kg0_7 bbg0_7 ow0_7 og0_7 ox0_7 g8 B7
  go_wp2_with fail
  refine (eqWhole_any Ag0 ng0 cg0 (wholeFromF xs0).1 Aw0 nw0 cw0 (wholeFromF xs0).1 _ (Mine.rd og0_8) (Mine.rd ow0_8)).mono ?_
  rintro e w9 ⟨rfl, b9⟩
  have B9 := bthen B8 b9
  have bbw0_9 : Blk w9 (w2.heap.size) 27 #[.slice Aw0 nw0 cw0] := Blk.kept bbw0_8 b9
  have kw0_9 := cell_kept b9 kw0_8
  have bbg0_9 : Blk w9 (w4.heap.size) 27 #[.slice Ag0 ng0 cg0] := Blk.kept bbg0_8 b9
  have kg0_9 := cell_kept b9 kg0_8
  have ow0_9 := Mine.below ow0_8 b9
  have ox0_9 := Mine.below u8 b9
  have og0_9 := Mine.below og0_8 b9
  clear bbw0_8 kw0_8 bbg0_8 kg0_8 ow0_8 u8 og0_8 B8 b9
  clear ox0_9
  go_wp2_with fail
  refine (markWhole_any Ag0 ng0 cg0 (wholeFromF xs0).1 (1) _ _ og0_9 (by omega) (by omega) hng0).mono ?_
  rintro e w10 ⟨rfl, u10, g10⟩
  have B10 := below_mark B9 lbg0.out g10
  have bbw0_10 : Blk w10 (w2.heap.size) 27 #[.slice Aw0 nw0 cw0] := Blk.grown bbw0_9 g10 (Blk.apart bbw0_9 og0_9 (by decide))
  have kw0_10 := Blk.cell0 bbw0_10
  have bbg0_10 : Blk w10 (w4.heap.size) 27 #[.slice Ag0 ng0 cg0] := Blk.grown bbg0_9 g10 (Blk.apart bbg0_9 og0_9 (by decide))
  have kg0_10 := Blk.cell0 bbg0_10
  have ow0_10 := own_mark ow0_9 (Apart.symm ap_w0_g0) g10
  clear kw0_9 bbw0_9 kg0_9 bbg0_9 ow0_9 og0_9 g10 B9
  go_wp2_with fail
  refine (heldWhole_any Ag0 ng0 cg0 (1) _ (Mine.rd u10) (by omega) (by omega) hng0).mono ?_
  rintro e w11 ⟨rfl, b11⟩
  have B11 := bthen B10 b11
  have bbw0_11 : Blk w11 (w2.heap.size) 27 #[.slice Aw0 nw0 cw0] := Blk.kept bbw0_10 b11
  have kw0_11 := cell_kept b11 kw0_10
  have bbg0_11 : Blk w11 (w4.heap.size) 27 #[.slice Ag0 ng0 cg0] := Blk.kept bbg0_10 b11
  have kg0_11 := cell_kept b11 kg0_10
  have ow0_11 := Mine.below ow0_10 b11
  have og0_11 := Mine.below u10 b11
  clear bbw0_10 kw0_10 bbg0_10 kg0_10 ow0_10 u10 B10 b11
  go_wp2_with fail
  refine (toInts A0 n0 c0 xs0 _ (h0.in_ B11) hn0).mono ?_
  rintro e w12 ⟨Az0, cz0, rfl, u12, b12⟩
  have B12 := bthen B11 b12
  have bbw0_12 : Blk w12 (w2.heap.size) 27 #[.slice Aw0 nw0 cw0] := Blk.kept bbw0_11 b12
  have kw0_12 := cell_kept b12 kw0_11
  have bbg0_12 : Blk w12 (w4.heap.size) 27 #[.slice Ag0 ng0 cg0] := Blk.kept bbg0_11 b12
  have kg0_12 := cell_kept b12 kg0_11
  have ow0_12 := Mine.below ow0_11 b12
  have og0_12 := Mine.below og0_11 b12
  clear bbw0_11 kw0_11 bbg0_11 kg0_11 ow0_11 og0_11 B11 b12
  go_wp2_with fail
  refine (wholeFrom_own Az0 n0 cz0 xs0 _ (Mine.rd u12) hn0).mono ?_
  rintro e w13 ⟨Ah0, nh0, ch0, rfl, u13h0, b13⟩
  have B13 := bthen B12 b13
  have bbw0_13 : Blk w13 (w2.heap.size) 27 #[.slice Aw0 nw0 cw0] := Blk.kept bbw0_12 b13
  have kw0_13 := cell_kept b13 kw0_12
  have bbg0_13 : Blk w13 (w4.heap.size) 27 #[.slice Ag0 ng0 cg0] := Blk.kept bbg0_12 b13
  have kg0_13 := cell_kept b13 kg0_12
  have ow0_13 := Mine.below ow0_12 b13
  have og0_13 := Mine.below og0_12 b13
  have oz0_13 := Mine.below u12 b13
  clear bbw0_12 kw0_12 bbg0_12 kg0_12 ow0_12 og0_12 u12 B12 b13
  clear oz0_13
  have lw0_w13 : w2.heap.size < w13.heap.size := World.block_lt_of_cell? _ _ kw0_13
  have lg0_w13 : w4.heap.size < w13.heap.size := World.block_lt_of_cell? _ _ kg0_13
  go_wp2_with fail
  refine (eqWhole_any Ah0 nh0 ch0 (wholeFromF xs0).1 Aw0 nw0 cw0 (wholeFromF xs0).1 _ (Mine.rd (Mine.alloc u13h0 _)) (Mine.rd (Mine.alloc ow0_13 _))).mono ?_
  rintro e w14 ⟨rfl, b14⟩
  have B14 := bthen (B13.alloc B13.size _) b14
  have bbw0_14 : Blk w14 (w2.heap.size) 27 #[.slice Aw0 nw0 cw0] := Blk.kept (Blk.alloc bbw0_13 _) b14
  have kw0_14 := cell_kept b14 (cell_kept (al1 _ _) kw0_13)
  have bbg0_14 : Blk w14 (w4.heap.size) 27 #[.slice Ag0 ng0 cg0] := Blk.kept (Blk.alloc bbg0_13 _) b14
  have kg0_14 := cell_kept b14 (cell_kept (al1 _ _) kg0_13)
  have bbh0_14 : Blk w14 (w13.heap.size) 27 #[.slice Ah0 nh0 ch0] := Blk.kept (Blk.new _ _ _) b14
  have kh0_14 := cell_kept (b := w13.heap.size) (o := 0) (v := .slice Ah0 nh0 ch0) b14 (by simp [go_sem])
  have ow0_14 := Mine.below (Mine.alloc ow0_13 _) b14
  have og0_14 := Mine.below (Mine.alloc og0_13 _) b14
  have oh0_14 := Mine.below (Mine.alloc u13h0 _) b14
  clear bbw0_13 kw0_13 bbg0_13 kg0_13 ow0_13 og0_13 u13h0 B13 b14 lw0_w13 lg0_w13
  go_wp2_with fail
  refine (heldWhole_any Ag0 ng0 cg0 (1) _ (Mine.rd og0_14) (by omega) (by omega) hng0).mono ?_
  rintro e w15 ⟨rfl, b15⟩
  have B15 := bthen B14 b15
  have bbw0_15 : Blk w15 (w2.heap.size) 27 #[.slice Aw0 nw0 cw0] := Blk.kept bbw0_14 b15
  have kw0_15 := cell_kept b15 kw0_14
  have bbg0_15 : Blk w15 (w4.heap.size) 27 #[.slice Ag0 ng0 cg0] := Blk.kept bbg0_14 b15
  have kg0_15 := cell_kept b15 kg0_14
  have bbh0_15 : Blk w15 (w13.heap.size) 27 #[.slice Ah0 nh0 ch0] := Blk.kept bbh0_14 b15
  have kh0_15 := cell_kept b15 kh0_14
  have ow0_15 := Mine.below ow0_14 b15
  have og0_15 := Mine.below og0_14 b15
  have oh0_15 := Mine.below oh0_14 b15
  clear bbw0_14 kw0_14 bbg0_14 kg0_14 bbh0_14 kh0_14 ow0_14 og0_14 oh0_14 B14 b15
  go_wp2_with fail
  go_ret
  exact ⟨rfl, B15⟩
end Go.Proofs.Ytjhcjpjmpcoopaa
