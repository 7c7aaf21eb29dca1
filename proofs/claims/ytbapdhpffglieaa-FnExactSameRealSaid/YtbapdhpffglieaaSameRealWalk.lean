/- FnExactSameReal: the walk of the law: whatever the arguments it answers true and leaves all memory of before as it was. No condition. -/
import Derived.Test.YtbapdhpffglieaaReal
import Derived.Test.YtbapdhpffglieaaSame
import Derived.Deep.RegionHeld3
import Derived.Deep.DeepCutAuto
namespace Go.Proofs.Ytbapdhpffglieaa
open Go.RowKit

set_option maxHeartbeats 4000000 in
theorem walkSameReal (A0 : Option Addr) (n0 c0 : Nat) (xs0 : List Int) (A1 : Option Addr) (n1 c1 : Nat) (xs1 : List Int) (w : World) (h0 : Rd w w.heap.size A0 n0 c0 xs0) (h1 : Rd w w.heap.size A1 n1 c1 xs1) :
    Calls Try.prog 5 #[.agg #[.slice A0 n0 c0], .agg #[.slice A1 n1 c1]] w fun e w' => e = .returned (.bool true) ∧ Below w.heap.size w w' := by
  have hm0 : n0 ≤ 9223372036854775807 := by have hh1 := h0.cap; have hh2 := h0.most; unfold maxLen at hh2; omega
  have hm1 : n1 ≤ 9223372036854775807 := by have hh1 := h1.cap; have hh2 := h1.most; unfold maxLen at hh2; omega
  by_cases s0 : (1048576 : Int) < n0
  · go_enter Try.func5, Try.ntmps5
    go_wp2_with fail
    refine (szReal_big A0 n0 c0 1048576 _ hm0 (by omega) (by omega) s0).mono ?_
    rintro e w1 ⟨rfl, b1⟩
    go_wp2_with fail
    go_ret
    exact ⟨rfl, bthen (al2 w _ _) b1⟩
  have kp0 : ∀ t0 t1, ((w.alloc (.cells #[.slice A0 n0 c0] t0)).alloc (.cells #[.slice A1 n1 c1] t1)).cell? ⟨w.heap.size, 0, none⟩ = some (.slice A0 n0 c0) := by intros; simp [go_sem]
  have kp1 : ∀ t0 t1, ((w.alloc (.cells #[.slice A0 n0 c0] t0)).alloc (.cells #[.slice A1 n1 c1] t1)).cell? ⟨w.heap.size + 1, 0, none⟩ = some (.slice A1 n1 c1) := by intros; simp [go_sem]
  go_enter Try.func5, Try.ntmps5
  have hn0 : n0 ≤ 1048576 := by omega
  go_wp2_with fail
  refine (szReal_fits A0 n0 c0 (1048576) _ hm0 (by omega) (by omega) (by omega)).mono ?_
  rintro e w1 ⟨rfl, b1⟩
  have B1 := bthen (al2 w _ _) b1
  have kp0_1 := cell_kept b1 (kp0 _ _)
  have kp1_1 := cell_kept b1 (kp1 _ _)
  clear b1 kp0 kp1
  by_cases s1 : (1048576 - n0 : Int) < n1
  · go_wp2_with fail
    refine (szReal_big A1 n1 c1 (1048576 - n0) _ hm1 (by omega) (by omega) s1).mono ?_
    rintro e wz ⟨rfl, bz⟩
    go_wp2_with fail
    go_ret
    exact ⟨rfl, bthen B1 bz⟩
  have hn1 : n1 ≤ 1048576 := by omega
  go_wp2_with fail
  refine (szReal_fits A1 n1 c1 (1048576 - n0) _ hm1 (by omega) (by omega) (by omega)).mono ?_
  rintro e w2 ⟨rfl, b2⟩
  have B2 := bthen B1 b2
  have kp0_2 := cell_kept b2 kp0_1
  have kp1_2 := cell_kept b2 kp1_1
  clear kp0_1 kp1_1 B1 b2
  go_wp2_with fail
  go_region_held3 (fun wx => wx.cell? ⟨w.heap.size, 0, none⟩ = some (.slice A0 n0 c0) ∧ wx.cell? ⟨w.heap.size + 1, 0, none⟩ = some (.slice A1 n1 c1)) (go_keep)
    (first
      | (go_at_call_of 15 (Value.agg #[Value.slice A0 n0 c0]); refine (toReal_any A0 n0 c0 xs0 _ (h0.in_ B2.drew) hn0).mono ?_; rintro e w3 ⟨As0, cs0, rfl, u3, b3⟩; have B3 := bthen B2.drew b3; have kp0_3 := cell_kept b3 kp0_2; have kp1_3 := cell_kept b3 kp1_2; clear kp0_2 kp1_2 B2 b3)
      | (go_at_call_of 15 (Value.agg #[Value.slice A1 n1 c1]); refine (toReal_any A1 n1 c1 xs1 _ (h1.in_ B3) hn1).mono ?_; rintro e w4 ⟨As1, cs1, rfl, u4, b4⟩; have B4 := bthen B3 b4; have kp0_4 := cell_kept b4 kp0_3; have kp1_4 := cell_kept b4 kp1_3; have os0_4 := Own.below u3 b4; clear kp0_3 kp1_3 u3 B3 b4)
      | (go_at_call 14; refine (sameReal_ref As0 n0 cs0 xs0 As1 n1 cs1 xs1 _ (Own.rd os0_4) (Own.rd u4)).mono ?_; rintro e w5 ⟨rfl, b5⟩; have B5 := bthen B4 b5; have kp0_5 := cell_kept b5 kp0_4; have kp1_5 := cell_kept b5 kp1_4; have os0_5 := Own.below os0_4 b5; have os1_5 := Own.below u4 b5; clear kp0_4 kp1_4 os0_4 u4 B4 b5))
  clear os0_5
  clear os1_5
  go_wp2_with fail
  refine (toReal_any A0 n0 c0 xs0 _ (h0.in_ B5) hn0).mono ?_
  rintro e w6 ⟨Ax0, cx0, rfl, u6, b6⟩
  have B6 := bthen B5 b6
  have kp0_6 := cell_kept b6 kp0_5
  have kp1_6 := cell_kept b6 kp1_5
  clear kp0_5 kp1_5 B5 b6
  have ubx0 : ∀ g, (Value.slice Ax0 n0 cx0).ownBlock = some g → g < w6.heap.size := fun g hg => (World.ownsRow.lt u6 g hg).2
  have lp0_w6 : w.heap.size < w6.heap.size := World.block_lt_of_cell? _ _ kp0_6
  have lp1_w6 : w.heap.size + 1 < w6.heap.size := World.block_lt_of_cell? _ _ kp1_6
  go_wp2_with fail
  refine (toReal_any A1 n1 c1 xs1 _ (h1.in_ (B6.alloc B6.size _)) hn1).mono ?_
  rintro e w7 ⟨Ax1, cx1, rfl, u7, b7⟩
  have B7 := bthen (B6.alloc B6.size _) b7
  have kp0_7 := cell_kept b7 (cell_kept (al1 _ _) kp0_6)
  have kp1_7 := cell_kept b7 (cell_kept (al1 _ _) kp1_6)
  have kx0_7 := cell_kept (b := w6.heap.size) (o := 0) (v := .slice Ax0 n0 cx0) b7 (by simp [go_sem])
  have ox0_7 := Own.below (Own.alloc u6 _) b7
  clear kp0_6 kp1_6 u6 B6 b7 lp0_w6 lp1_w6
  have ubx1 : ∀ g, (Value.slice Ax1 n1 cx1).ownBlock = some g → g < w7.heap.size := fun g hg => (World.ownsRow.lt u7 g hg).2
  have lp0_w7 : w.heap.size < w7.heap.size := World.block_lt_of_cell? _ _ kp0_7
  have lp1_w7 : w.heap.size + 1 < w7.heap.size := World.block_lt_of_cell? _ _ kp1_7
  have lx0_w7 : w6.heap.size < w7.heap.size := World.block_lt_of_cell? _ _ kx0_7
  go_wp2_with fail
  refine (sameReal_own Ax0 n0 cx0 xs0 Ax1 n1 cx1 xs1 _ (Own.rd (Own.alloc ox0_7 _)) (Own.rd (Own.alloc u7 _))).mono ?_
  rintro e w8 ⟨rfl, b8⟩
  have B8 := bthen (B7.alloc B7.size _) b8
  have kp0_8 := cell_kept b8 (cell_kept (al1 _ _) kp0_7)
  have kp1_8 := cell_kept b8 (cell_kept (al1 _ _) kp1_7)
  have kx0_8 := cell_kept b8 (cell_kept (al1 _ _) kx0_7)
  have kx1_8 := cell_kept (b := w7.heap.size) (o := 0) (v := .slice Ax1 n1 cx1) b8 (by simp [go_sem])
  have ox0_8 := Own.below (Own.alloc ox0_7 _) b8
  have ox1_8 := Own.below (Own.alloc u7 _) b8
  clear kp0_7 kp1_7 kx0_7 ox0_7 u7 B7 b8 lp0_w7 lp1_w7 lx0_w7
  go_wp2_with fail
  go_region_held3 (fun wx => wx.cell? ⟨w.heap.size, 0, none⟩ = some (.slice A0 n0 c0) ∧ wx.cell? ⟨w6.heap.size, 0, none⟩ = some (.slice Ax0 n0 cx0)) (go_keep)
    (first
      | (go_at_call_of 15 (Value.agg #[Value.slice A0 n0 c0]); refine (toReal_any A0 n0 c0 xs0 _ (h0.in_ B8.drew) hn0).mono ?_; rintro e w9 ⟨Ay0, cy0, rfl, u9, b9⟩; have B9 := bthen B8.drew b9; have kp0_9 := cell_kept b9 kp0_8; have kp1_9 := cell_kept b9 kp1_8; have kx0_9 := cell_kept b9 kx0_8; have kx1_9 := cell_kept b9 kx1_8; have ox0_9 := Own.below (Own.drew ox0_8) b9; have ox1_9 := Own.below (Own.drew ox1_8) b9; clear kp0_8 kp1_8 kx0_8 kx1_8 ox0_8 ox1_8 B8 b9)
      | (go_at_call 17; refine (eqReal_any Ax0 n0 cx0 xs0 Ay0 n0 cy0 xs0 _ (Own.rd ox0_9) (Own.rd u9)).mono ?_; rintro e w10 ⟨rfl, b10⟩; have B10 := bthen B9 b10; have kp0_10 := cell_kept b10 kp0_9; have kp1_10 := cell_kept b10 kp1_9; have kx0_10 := cell_kept b10 kx0_9; have kx1_10 := cell_kept b10 kx1_9; have ox0_10 := Own.below ox0_9 b10; have ox1_10 := Own.below ox1_9 b10; have oy0_10 := Own.below u9 b10; clear kp0_9 kp1_9 kx0_9 kx1_9 ox0_9 ox1_9 u9 B9 b10))
  clear oy0_10
  go_wp2_with fail
  go_region_held3 (fun wx => wx.cell? ⟨w.heap.size + 1, 0, none⟩ = some (.slice A1 n1 c1) ∧ wx.cell? ⟨w7.heap.size, 0, none⟩ = some (.slice Ax1 n1 cx1)) (go_keep)
    (first
      | (go_at_call_of 15 (Value.agg #[Value.slice A1 n1 c1]); refine (toReal_any A1 n1 c1 xs1 _ (h1.in_ B10.drew) hn1).mono ?_; rintro e w11 ⟨Ay1, cy1, rfl, u11, b11⟩; have B11 := bthen B10.drew b11; have kp0_11 := cell_kept b11 kp0_10; have kp1_11 := cell_kept b11 kp1_10; have kx0_11 := cell_kept b11 kx0_10; have kx1_11 := cell_kept b11 kx1_10; have ox0_11 := Own.below (Own.drew ox0_10) b11; have ox1_11 := Own.below (Own.drew ox1_10) b11; clear kp0_10 kp1_10 kx0_10 kx1_10 ox0_10 ox1_10 B10 b11)
      | (go_at_call 17; refine (eqReal_any Ax1 n1 cx1 xs1 Ay1 n1 cy1 xs1 _ (Own.rd ox1_11) (Own.rd u11)).mono ?_; rintro e w12 ⟨rfl, b12⟩; have B12 := bthen B11 b12; have kp0_12 := cell_kept b12 kp0_11; have kp1_12 := cell_kept b12 kp1_11; have kx0_12 := cell_kept b12 kx0_11; have kx1_12 := cell_kept b12 kx1_11; have ox0_12 := Own.below ox0_11 b12; have ox1_12 := Own.below ox1_11 b12; have oy1_12 := Own.below u11 b12; clear kp0_11 kp1_11 kx0_11 kx1_11 ox0_11 ox1_11 u11 B11 b12))
  clear oy1_12
  go_wp2_with fail
  go_ret
  exact ⟨rfl, B12⟩
end Go.Proofs.Ytbapdhpffglieaa
