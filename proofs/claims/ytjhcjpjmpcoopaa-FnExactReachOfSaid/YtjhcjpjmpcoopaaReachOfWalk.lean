/- FnExactReachOf: the walk of the law: whatever the arguments it answers true and leaves all memory of before as it was. No condition. -/
import Derived.Test.YtjhcjpjmpcoopaaReal
import Derived.Test.YtjhcjpjmpcoopaaReach
import Derived.Deep.RegionHeld3
import Derived.Deep.DeepCutAuto
namespace Go.Proofs.Ytjhcjpjmpcoopaa
open Go.RowKit

set_option maxHeartbeats 4000000 in
theorem walkReachOf (A0 : Option Addr) (n0 c0 : Nat) (xs0 : List Int) (w : World) (h0 : Rd w w.heap.size A0 n0 c0 xs0) :
    Calls Try.prog 5 #[.agg #[.slice A0 n0 c0]] w fun e w' => e = .returned (.bool true) ∧ Below w.heap.size w w' := by
  have hm0 : n0 ≤ 9223372036854775807 := by have hh1 := h0.cap; have hh2 := h0.most; unfold maxLen at hh2; omega
  by_cases s0 : (1048576 : Int) < n0
  · go_enter Try.func5, Try.ntmps5
    go_wp2_with fail
    refine (szReal_big A0 n0 c0 1048576 _ hm0 (by omega) (by omega) s0).mono ?_
    rintro e w1 ⟨rfl, b1⟩
    go_wp2_with fail
    go_ret
    exact ⟨rfl, bthen (al1 w _) b1⟩
  have kp0 : ∀ t0, (w.alloc (.cells #[.slice A0 n0 c0] t0)).cell? ⟨w.heap.size, 0, none⟩ = some (.slice A0 n0 c0) := by intros; simp [go_sem]
  go_enter Try.func5, Try.ntmps5
  have hn0 : n0 ≤ 1048576 := by omega
  go_wp2_with fail
  refine (szReal_fits A0 n0 c0 (1048576) _ hm0 (by omega) (by omega) (by omega)).mono ?_
  rintro e w1 ⟨rfl, b1⟩
  have B1 := bthen (al1 w _) b1
  have kp0_1 := cell_kept b1 (kp0 _)
  clear b1 kp0
  go_wp2_with fail
  refine (toReal_any A0 n0 c0 xs0 _ (h0.in_ B1) hn0).mono ?_
  rintro e w2 ⟨As0, cs0, rfl, u2, b2⟩
  have B2 := bthen B1 b2
  have kp0_2 := cell_kept b2 kp0_1
  clear kp0_1 B1 b2
  go_wp2_with fail
  refine (reachOf_ref As0 n0 cs0 xs0 _ (Mine.rd u2)).mono ?_
  rintro e w3 ⟨rfl, b3⟩
  have B3 := bthen B2 b3
  have kp0_3 := cell_kept b3 kp0_2
  have os0_3 := Mine.below u2 b3
  clear kp0_2 u2 B2 b3
  clear os0_3
  go_wp2_with fail
  refine (toReal_any A0 n0 c0 xs0 _ (h0.in_ B3) hn0).mono ?_
  rintro e w4 ⟨Ax0, cx0, rfl, u4, b4⟩
  have B4 := bthen B3 b4
  have kp0_4 := cell_kept b4 kp0_3
  clear kp0_3 B3 b4
  have lp0_w4 : w.heap.size < w4.heap.size := World.block_lt_of_cell? _ _ kp0_4
  go_wp2_with fail
  refine (reachOf_own Ax0 n0 cx0 xs0 _ (Mine.rd (Mine.alloc u4 _))).mono ?_
  rintro e w5 ⟨rfl, b5⟩
  have B5 := bthen (B4.alloc B4.size _) b5
  have kp0_5 := cell_kept b5 (cell_kept (al1 _ _) kp0_4)
  have kx0_5 := cell_kept (b := w4.heap.size) (o := 0) (v := .slice Ax0 n0 cx0) b5 (by simp [go_sem])
  have ox0_5 := Mine.below (Mine.alloc u4 _) b5
  clear kp0_4 u4 B4 b5 lp0_w4
  go_wp2_with fail
  go_region_held3 (fun wx => wx.cell? ⟨w.heap.size, 0, none⟩ = some (.slice A0 n0 c0) ∧ wx.cell? ⟨w4.heap.size, 0, none⟩ = some (.slice Ax0 n0 cx0)) (go_keep)
    (first
      | (go_at_call_of 18 (Value.agg #[Value.slice A0 n0 c0]); refine (toReal_any A0 n0 c0 xs0 _ (h0.in_ B5.drew) hn0).mono ?_; rintro e w6 ⟨Ay0, cy0, rfl, u6, b6⟩; have B6 := bthen B5.drew b6; have kp0_6 := cell_kept b6 kp0_5; have kx0_6 := cell_kept b6 kx0_5; have ox0_6 := Mine.below (Mine.drew ox0_5) b6; clear kp0_5 kx0_5 ox0_5 B5 b6)
      | (go_at_call 20; refine (eqReal_any Ax0 n0 cx0 xs0 Ay0 n0 cy0 xs0 _ (Mine.rd ox0_6) (Mine.rd u6)).mono ?_; rintro e w7 ⟨rfl, b7⟩; have B7 := bthen B6 b7; have kp0_7 := cell_kept b7 kp0_6; have kx0_7 := cell_kept b7 kx0_6; have ox0_7 := Mine.below ox0_6 b7; have oy0_7 := Mine.below u6 b7; clear kp0_6 kx0_6 ox0_6 u6 B6 b7))
  clear oy0_7
  go_wp2_with fail
  go_ret
  exact ⟨rfl, B7⟩
end Go.Proofs.Ytjhcjpjmpcoopaa
