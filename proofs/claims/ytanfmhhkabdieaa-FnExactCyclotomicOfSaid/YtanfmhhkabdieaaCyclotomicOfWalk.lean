/- FnExactCyclotomicOf: the walk of the law: whatever the arguments it answers true and leaves all memory of before as it was. No condition. -/
import Derived.Test.YtanfmhhkabdieaaBox
import Derived.Test.YtanfmhhkabdieaaWhole
import Derived.Test.YtanfmhhkabdieaaMarkWhole
import Derived.Test.YtanfmhhkabdieaaCyc
import Derived.Deep.RegionHeld3
import Derived.Deep.DeepCutAuto
namespace Go.Proofs.Ytanfmhhkabdieaa
open Go.RowKit

set_option maxHeartbeats 4000000 in
theorem walkCyclotomicOf (a0 : Int) (w : World) (bd0 : -9223372036854775808 ≤ a0 ∧ a0 ≤ 9223372036854775807) :
    Calls Try.prog 6 #[.int .i64 a0] w fun e w' => e = .returned (.bool true) ∧ Below w.heap.size w w' := by
  go_enter Try.func6, Try.ntmps6
  go_wp2_with fail
  refine (cycOf_ref a0 _ bd0).mono ?_
  rintro e w1 ⟨Aw0, nw0, cw0, rfl, u1w0, b1⟩
  have B1 := bthen (Below.refl w.heap.size w) b1
  clear b1
  go_wp2_with fail
  refine (cycOf_own a0 _ bd0).mono ?_
  rintro e w2 ⟨Ag0, ng0, cg0, rfl, u2g0, b2⟩
  have lbg0 := Lib.hid (lb_of (B1.alloc B1.size _) u2g0)
  have ap_w0_g0 := apart_of (Mine.alloc u1w0 _) u2g0
  have hng0 : ng0 ≤ 1048576 := by have hh := Mine.len u2g0; have hh2 := cycF_len a0; omega
  have B2 := bthen (B1.alloc B1.size _) b2
  have bbw0_2 : Blk w2 (w1.heap.size) 26 #[.slice Aw0 nw0 cw0] := Blk.kept (Blk.new _ _ _) b2
  have kw0_2 := cell_kept (b := w1.heap.size) (o := 0) (v := .slice Aw0 nw0 cw0) b2 (by simp [go_sem])
  have ow0_2 := Mine.below (Mine.alloc u1w0 _) b2
  clear u1w0 B1 b2
  have lw0_w2 : w1.heap.size < w2.heap.size := World.block_lt_of_cell? _ _ kw0_2
  go_wp2_with fail
  refine (eqWhole_any Ag0 ng0 cg0 (cycF a0).1 Aw0 nw0 cw0 (cycF a0).1 _ (Mine.rd (Mine.alloc u2g0 _)) (Mine.rd (Mine.alloc ow0_2 _))).mono ?_
  rintro e w3 ⟨rfl, b3⟩
  have B3 := bthen (B2.alloc B2.size _) b3
  have bbw0_3 : Blk w3 (w1.heap.size) 26 #[.slice Aw0 nw0 cw0] := Blk.kept (Blk.alloc bbw0_2 _) b3
  have kw0_3 := cell_kept b3 (cell_kept (al1 _ _) kw0_2)
  have bbg0_3 : Blk w3 (w2.heap.size) 26 #[.slice Ag0 ng0 cg0] := Blk.kept (Blk.new _ _ _) b3
  have kg0_3 := cell_kept (b := w2.heap.size) (o := 0) (v := .slice Ag0 ng0 cg0) b3 (by simp [go_sem])
  have ow0_3 := Mine.below (Mine.alloc ow0_2 _) b3
  have og0_3 := Mine.below (Mine.alloc u2g0 _) b3
  clear bbw0_2 kw0_2 ow0_2 u2g0 B2 b3 lw0_w2
  go_wp2_with fail
  refine (markWhole_any Ag0 ng0 cg0 (cycF a0).1 (1) _ _ og0_3 (by omega) (by omega) hng0).mono ?_
  rintro e w4 ⟨rfl, u4, g4⟩
  have B4 := below_mark B3 lbg0.out g4
  have bbw0_4 : Blk w4 (w1.heap.size) 26 #[.slice Aw0 nw0 cw0] := Blk.grown bbw0_3 g4 (Blk.apart bbw0_3 og0_3 (by decide))
  have kw0_4 := Blk.cell0 bbw0_4
  have bbg0_4 : Blk w4 (w2.heap.size) 26 #[.slice Ag0 ng0 cg0] := Blk.grown bbg0_3 g4 (Blk.apart bbg0_3 og0_3 (by decide))
  have kg0_4 := Blk.cell0 bbg0_4
  have ow0_4 := own_mark ow0_3 (Apart.symm ap_w0_g0) g4
  clear kw0_3 bbw0_3 kg0_3 bbg0_3 ow0_3 og0_3 g4 B3
  go_wp2_with fail
  refine (heldWhole_any Ag0 ng0 cg0 (1) _ (Mine.rd u4) (by omega) (by omega) hng0).mono ?_
  rintro e w5 ⟨rfl, b5⟩
  have B5 := bthen B4 b5
  have bbw0_5 : Blk w5 (w1.heap.size) 26 #[.slice Aw0 nw0 cw0] := Blk.kept bbw0_4 b5
  have kw0_5 := cell_kept b5 kw0_4
  have bbg0_5 : Blk w5 (w2.heap.size) 26 #[.slice Ag0 ng0 cg0] := Blk.kept bbg0_4 b5
  have kg0_5 := cell_kept b5 kg0_4
  have ow0_5 := Mine.below ow0_4 b5
  have og0_5 := Mine.below u4 b5
  clear bbw0_4 kw0_4 bbg0_4 kg0_4 ow0_4 u4 B4 b5
  go_wp2_with fail
  refine (cycOf_own a0 _ bd0).mono ?_
  rintro e w6 ⟨Ah0, nh0, ch0, rfl, u6h0, b6⟩
  have B6 := bthen B5 b6
  have bbw0_6 : Blk w6 (w1.heap.size) 26 #[.slice Aw0 nw0 cw0] := Blk.kept bbw0_5 b6
  have kw0_6 := cell_kept b6 kw0_5
  have bbg0_6 : Blk w6 (w2.heap.size) 26 #[.slice Ag0 ng0 cg0] := Blk.kept bbg0_5 b6
  have kg0_6 := cell_kept b6 kg0_5
  have ow0_6 := Mine.below ow0_5 b6
  have og0_6 := Mine.below og0_5 b6
  clear bbw0_5 kw0_5 bbg0_5 kg0_5 ow0_5 og0_5 B5 b6
  have lw0_w6 : w1.heap.size < w6.heap.size := World.block_lt_of_cell? _ _ kw0_6
  have lg0_w6 : w2.heap.size < w6.heap.size := World.block_lt_of_cell? _ _ kg0_6
  go_wp2_with fail
  refine (eqWhole_any Ah0 nh0 ch0 (cycF a0).1 Aw0 nw0 cw0 (cycF a0).1 _ (Mine.rd (Mine.alloc u6h0 _)) (Mine.rd (Mine.alloc ow0_6 _))).mono ?_
  rintro e w7 ⟨rfl, b7⟩
  have B7 := bthen (B6.alloc B6.size _) b7
  have bbw0_7 : Blk w7 (w1.heap.size) 26 #[.slice Aw0 nw0 cw0] := Blk.kept (Blk.alloc bbw0_6 _) b7
  have kw0_7 := cell_kept b7 (cell_kept (al1 _ _) kw0_6)
  have bbg0_7 : Blk w7 (w2.heap.size) 26 #[.slice Ag0 ng0 cg0] := Blk.kept (Blk.alloc bbg0_6 _) b7
  have kg0_7 := cell_kept b7 (cell_kept (al1 _ _) kg0_6)
  have bbh0_7 : Blk w7 (w6.heap.size) 26 #[.slice Ah0 nh0 ch0] := Blk.kept (Blk.new _ _ _) b7
  have kh0_7 := cell_kept (b := w6.heap.size) (o := 0) (v := .slice Ah0 nh0 ch0) b7 (by simp [go_sem])
  have ow0_7 := Mine.below (Mine.alloc ow0_6 _) b7
  have og0_7 := Mine.below (Mine.alloc og0_6 _) b7
  have oh0_7 := Mine.below (Mine.alloc u6h0 _) b7
  clear bbw0_6 kw0_6 bbg0_6 kg0_6 ow0_6 og0_6 u6h0 B6 b7 lw0_w6 lg0_w6
  go_wp2_with fail
  refine (heldWhole_any Ag0 ng0 cg0 (1) _ (Mine.rd og0_7) (by omega) (by omega) hng0).mono ?_
  rintro e w8 ⟨rfl, b8⟩
  have B8 := bthen B7 b8
  have bbw0_8 : Blk w8 (w1.heap.size) 26 #[.slice Aw0 nw0 cw0] := Blk.kept bbw0_7 b8
  have kw0_8 := cell_kept b8 kw0_7
  have bbg0_8 : Blk w8 (w2.heap.size) 26 #[.slice Ag0 ng0 cg0] := Blk.kept bbg0_7 b8
  have kg0_8 := cell_kept b8 kg0_7
  have bbh0_8 : Blk w8 (w6.heap.size) 26 #[.slice Ah0 nh0 ch0] := Blk.kept bbh0_7 b8
  have kh0_8 := cell_kept b8 kh0_7
  have ow0_8 := Mine.below ow0_7 b8
  have og0_8 := Mine.below og0_7 b8
  have oh0_8 := Mine.below oh0_7 b8
  clear bbw0_7 kw0_7 bbg0_7 kg0_7 bbh0_7 kh0_7 ow0_7 og0_7 oh0_7 B7 b8
  go_wp2_with fail
  go_ret
  exact ⟨rfl, B8⟩
end Go.Proofs.Ytanfmhhkabdieaa
