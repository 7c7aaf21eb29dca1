/- FnExactDivideOver: the walk of the law: whatever the arguments it answers true and leaves all memory of before as it was. No condition. -/
import Derived.Test.YtlfjnpioamcbhaaBox
import Derived.Test.YtlfjnpioamcbhaaWhole
import Derived.Test.YtlfjnpioamcbhaaMarkWhole
import Derived.Test.YtlfjnpioamcbhaaDivW
import Derived.Deep.RegionHeld3
import Derived.Deep.DeepCutAuto
namespace Go.Proofs.Ytlfjnpioamcbhaa
open Go.RowKit

set_option maxHeartbeats 4000000 in
set_option maxRecDepth 10000 in
theorem walkDivideOver (A0 : Option Addr) (n0 c0 : Nat) (xs0 : List Int) (A1 : Option Addr) (n1 c1 : Nat) (xs1 : List Int) (a2 : Int) (w : World) (h0 : Rd w w.heap.size A0 n0 c0 xs0) (h1 : Rd w w.heap.size A1 n1 c1 xs1) (bd2 : -9223372036854775808 ≤ a2 ∧ a2 ≤ 9223372036854775807) :
    Calls Try.prog 7 #[.agg #[.slice A0 n0 c0], .agg #[.slice A1 n1 c1], .int .i64 a2] w fun e w' => e = .returned (.bool true) ∧ Below w.heap.size w w' := by
  have hm0 : n0 ≤ 9223372036854775807 := by have hh1 := h0.cap; have hh2 := h0.most; unfold maxLen at hh2; omega
  have hm1 : n1 ≤ 9223372036854775807 := by have hh1 := h1.cap; have hh2 := h1.most; unfold maxLen at hh2; omega
  by_cases s0 : (1048576 : Int) < n0
  · go_enter Try.func7, Try.ntmps7
    go_wp2_with fail
    refine (szWhole_big A0 n0 c0 1048576 _ hm0 (by omega) (by omega) s0).mono ?_
    rintro e w1 ⟨rfl, b1⟩
    go_wp2_with fail
    go_ret
    exact ⟨rfl, bthen (al2 w _ _) b1⟩
  have kp0 : ∀ t0 t1, ((w.alloc (.cells #[.slice A0 n0 c0] t0)).alloc (.cells #[.slice A1 n1 c1] t1)).cell? ⟨w.heap.size, 0, none⟩ = some (.slice A0 n0 c0) := by intros; simp [go_sem]
  have kp1 : ∀ t0 t1, ((w.alloc (.cells #[.slice A0 n0 c0] t0)).alloc (.cells #[.slice A1 n1 c1] t1)).cell? ⟨w.heap.size + 1, 0, none⟩ = some (.slice A1 n1 c1) := by intros; simp [go_sem]
  go_enter Try.func7, Try.ntmps7
  have hn0 : n0 ≤ 1048576 := by omega
  go_wp2_with fail
  refine (szWhole_fits A0 n0 c0 (1048576) _ hm0 (by omega) (by omega) (by omega)).mono ?_
  rintro e w1 ⟨rfl, b1⟩
  have B1 := bthen (al2 w _ _) b1
  have kp0_1 := cell_kept b1 (kp0 _ _)
  have bbp0_1 : Blk w1 (w.heap.size) 38 #[.slice A0 n0 c0] := Blk.kept (Blk.alloc (Blk.new w 38 #[.slice A0 n0 c0]) _) b1
  have kp1_1 := cell_kept b1 (kp1 _ _)
  have bbp1_1 : Blk w1 (w.heap.size + 1) 38 #[.slice A1 n1 c1] := Blk.kept (Blk.new_at (w.alloc _) 38 #[.slice A1 n1 c1] (by simp)) b1
  clear b1 kp0 kp1
  by_cases s1 : (1048576 - n0 : Int) < n1
  · go_wp2_with fail
    refine (szWhole_big A1 n1 c1 (1048576 - n0) _ hm1 (by omega) (by omega) s1).mono ?_
    rintro e wz ⟨rfl, bz⟩
    go_wp2_with fail
    go_ret
    exact ⟨rfl, bthen B1 bz⟩
  have hn1 : n1 ≤ 1048576 := by omega
  go_wp2_with fail
  refine (szWhole_fits A1 n1 c1 (1048576 - n0) _ hm1 (by omega) (by omega) (by omega)).mono ?_
  rintro e w2 ⟨rfl, b2⟩
  have B2 := bthen B1 b2
  have bbp0_2 : Blk w2 (w.heap.size) 38 #[.slice A0 n0 c0] := Blk.kept bbp0_1 b2
  have kp0_2 := cell_kept b2 kp0_1
  have bbp1_2 : Blk w2 (w.heap.size + 1) 38 #[.slice A1 n1 c1] := Blk.kept bbp1_1 b2
  have kp1_2 := cell_kept b2 kp1_1
  clear bbp0_1 kp0_1 bbp1_1 kp1_1 B1 b2
  go_upto_region 8 with (fail)
  go_cut [8, 9, 10] (fun sa sb sc wx => ∃ bw bz Aw0 nw0 cw0 Aw1 nw1 cw1, sa = .pointer (some ⟨bw, 0, none⟩) ∧ sb = .pointer (some ⟨bz, 0, none⟩) ∧ sc = .bool (divOF xs0 xs1 a2).2.2 ∧ Blk wx bw 42 #[.slice Aw0 nw0 cw0] ∧ Blk wx bz 42 #[.slice Aw1 nw1 cw1] ∧ Mine wx w2.heap.size Aw0 nw0 cw0 (divOF xs0 xs1 a2).1 ∧ Mine wx w2.heap.size Aw1 nw1 cw1 (divOF xs0 xs1 a2).2.1 ∧ Apart Aw0 nw0 Aw1 nw1 ∧ Below w2.heap.size w2 wx)
  case first =>
   as_aux_lemma =>
    go_region_held3 (fun wx => wx.cell? ⟨w.heap.size, 0, none⟩ = some (.slice A0 n0 c0) ∧ wx.cell? ⟨w.heap.size + 1, 0, none⟩ = some (.slice A1 n1 c1))
      (first | exact ⟨kp0_2, kp1_2⟩ | (refine ⟨cell_kept (w := w2) ?_ kp0_2, cell_kept (w := w2) ?_ kp1_2⟩ <;> (repeat (with_reducible first | exact K5 | exact K4 | exact K3 | exact Below.refl _ _ | refine kdrew ?_ | refine kal ?_ _ | refine kset ?_ ?_ | exact g0a | exact g0b | exact g1a | exact g1b | exact g2a | exact g2b))) | go_keep)
      (first
        | (go_at_call_of 19 (Value.agg #[Value.slice A0 n0 c0]); refine (toWhole_any A0 n0 c0 xs0 _ (h0.in_ (bthen B2 (by repeat (with_reducible first | exact K5 | exact K4 | exact K3 | exact Below.refl _ _ | refine kdrew ?_ | refine kal ?_ _ | refine kset ?_ ?_ | exact g0a | exact g0b | exact g1a | exact g1b | exact g2a | exact g2b)))) hn0).mono ?_; rintro e w3 ⟨As0, cs0, rfl, u3, b3⟩; have K3 : Below w2.heap.size w2 w3 := bthen (by repeat (with_reducible first | exact K5 | exact K4 | exact K3 | exact Below.refl _ _ | refine kdrew ?_ | refine kal ?_ _ | refine kset ?_ ?_ | exact g0a | exact g0b | exact g1a | exact g1b | exact g2a | exact g2b)) b3; have kq0_3 := cell_kept K3 kp0_2; have kq1_3 := cell_kept K3 kp1_2; (try have X0a_3 : Blk w3 (w2.heap.size) 42 #[.slice none 0 0] := by first | exact Blk.kept (Blk.drew (Blk.new w2 _ _)) b3 | exact Blk.kept (Blk.drew (Blk.alloc (Blk.new w2 _ _) _)) b3); (try have X0b_3 : Blk w3 (w2.heap.size + 1) 42 #[.slice none 0 0] := by first | exact Blk.kept (Blk.drew (Blk.new_at (w2.alloc _) _ _ (by simp))) b3); have g0a : w2.heap.size ≤ w2.heap.size := Nat.le_refl _; have g0b : w2.heap.size ≤ w2.heap.size + 1 := Nat.le_succ_of_le g0a; (try have lX0a_3 := Blk.lt X0a_3); (try have lX0b_3 := Blk.lt X0b_3); have z3 : w2.heap.size ≤ w3.heap.size := Below.size K3; have us0_3 : Mine w3 w2.heap.size As0 n0 cs0 xs0 := Mine.low u3 (by first | exact Nat.le_refl _ | exact g0a | (simp <;> omega)))
        | (go_at_call_of 19 (Value.agg #[Value.slice A1 n1 c1]); refine (toWhole_any A1 n1 c1 xs1 _ (h1.in_ (bthen B2 (by repeat (with_reducible first | exact K5 | exact K4 | exact K3 | exact Below.refl _ _ | refine kdrew ?_ | refine kal ?_ _ | refine kset ?_ ?_ | exact g0a | exact g0b | exact g1a | exact g1b | exact g2a | exact g2b)))) hn1).mono ?_; rintro e w4 ⟨As1, cs1, rfl, u4, b4⟩; have K4 : Below w2.heap.size w2 w4 := bthen (by repeat (with_reducible first | exact K5 | exact K4 | exact K3 | exact Below.refl _ _ | refine kdrew ?_ | refine kal ?_ _ | refine kset ?_ ?_ | exact g0a | exact g0b | exact g1a | exact g1b | exact g2a | exact g2b)) b4; have kq0_4 := cell_kept K4 kp0_2; have kq1_4 := cell_kept K4 kp1_2; (try have X0a_4 : Blk w4 (w2.heap.size) 42 #[.slice none 0 0] := by first | exact Blk.kept X0a_3 b4 | exact Blk.kept (Blk.alloc X0a_3 _) b4 | exact Blk.kept (Blk.alloc (Blk.alloc X0a_3 _) _) b4); (try have X0b_4 : Blk w4 (w2.heap.size + 1) 42 #[.slice none 0 0] := by first | exact Blk.kept X0b_3 b4 | exact Blk.kept (Blk.alloc X0b_3 _) b4 | exact Blk.kept (Blk.alloc (Blk.alloc X0b_3 _) _) b4); (try have X1a_4 : Blk w4 (w3.heap.size) 42 #[.slice none 0 0] := by first | exact Blk.kept (Blk.new w3 _ _) b4 | exact Blk.kept (Blk.alloc (Blk.new w3 _ _) _) b4); (try have X1b_4 : Blk w4 (w3.heap.size + 1) 42 #[.slice none 0 0] := by first | exact Blk.kept (Blk.new_at (w3.alloc _) _ _ (by simp)) b4); have g1a : w2.heap.size ≤ w3.heap.size := Below.size K3; have g1b : w2.heap.size ≤ w3.heap.size + 1 := Nat.le_succ_of_le g1a; (try have lX0a_4 := Blk.lt X0a_4); (try have lX0b_4 := Blk.lt X0b_4); (try have lX1a_4 := Blk.lt X1a_4); (try have lX1b_4 := Blk.lt X1b_4); have z4 : w2.heap.size ≤ w4.heap.size := Below.size K4; have us0_4 : Mine w4 w2.heap.size As0 n0 cs0 xs0 := (by first | exact Mine.below us0_3 b4 | exact Mine.below (Mine.alloc us0_3 _) b4 | exact Mine.below (Mine.alloc (Mine.alloc us0_3 _) _) b4); have us1_4 : Mine w4 w2.heap.size As1 n1 cs1 xs1 := Mine.low u4 (by first | exact Nat.le_refl _ | exact g1a | (simp <;> omega)))
        | (go_at_call 31; refine (divOver_ref As0 n0 cs0 xs0 As1 n1 cs1 xs1 a2 _ (by first | exact Mine.rd us0_4 | exact Mine.rd (Mine.alloc us0_4 _) | exact Mine.rd (Mine.alloc (Mine.alloc us0_4 _) _)) (by first | exact Mine.rd us1_4 | exact Mine.rd (Mine.alloc us1_4 _) | exact Mine.rd (Mine.alloc (Mine.alloc us1_4 _) _)) bd2 hn0 hn1).mono ?_; rintro e w5 ⟨Aw0, nw0, cw0, Aw1, nw1, cw1, rfl, u5, v5, ap5, b5⟩; have K5 : Below w2.heap.size w2 w5 := bthen (by repeat (with_reducible first | exact K5 | exact K4 | exact K3 | exact Below.refl _ _ | refine kdrew ?_ | refine kal ?_ _ | refine kset ?_ ?_ | exact g0a | exact g0b | exact g1a | exact g1b | exact g2a | exact g2b)) b5; have kq0_5 := cell_kept K5 kp0_2; have kq1_5 := cell_kept K5 kp1_2; (try have X0a_5 : Blk w5 (w2.heap.size) 42 #[.slice none 0 0] := by first | exact Blk.kept X0a_4 b5 | exact Blk.kept (Blk.alloc X0a_4 _) b5 | exact Blk.kept (Blk.alloc (Blk.alloc X0a_4 _) _) b5); (try have X0b_5 : Blk w5 (w2.heap.size + 1) 42 #[.slice none 0 0] := by first | exact Blk.kept X0b_4 b5 | exact Blk.kept (Blk.alloc X0b_4 _) b5 | exact Blk.kept (Blk.alloc (Blk.alloc X0b_4 _) _) b5); (try have X1a_5 : Blk w5 (w3.heap.size) 42 #[.slice none 0 0] := by first | exact Blk.kept X1a_4 b5 | exact Blk.kept (Blk.alloc X1a_4 _) b5 | exact Blk.kept (Blk.alloc (Blk.alloc X1a_4 _) _) b5); (try have X1b_5 : Blk w5 (w3.heap.size + 1) 42 #[.slice none 0 0] := by first | exact Blk.kept X1b_4 b5 | exact Blk.kept (Blk.alloc X1b_4 _) b5 | exact Blk.kept (Blk.alloc (Blk.alloc X1b_4 _) _) b5); (try have X2a_5 : Blk w5 (w4.heap.size) 42 #[.slice none 0 0] := by first | exact Blk.kept (Blk.new w4 _ _) b5 | exact Blk.kept (Blk.alloc (Blk.new w4 _ _) _) b5); (try have X2b_5 : Blk w5 (w4.heap.size + 1) 42 #[.slice none 0 0] := by first | exact Blk.kept (Blk.new_at (w4.alloc _) _ _ (by simp)) b5); have g2a : w2.heap.size ≤ w4.heap.size := Below.size K4; have g2b : w2.heap.size ≤ w4.heap.size + 1 := Nat.le_succ_of_le g2a; (try have lX0a_5 := Blk.lt X0a_5); (try have lX0b_5 := Blk.lt X0b_5); (try have lX1a_5 := Blk.lt X1a_5); (try have lX1b_5 := Blk.lt X1b_5); (try have lX2a_5 := Blk.lt X2a_5); (try have lX2b_5 := Blk.lt X2b_5); have z5 : w2.heap.size ≤ w5.heap.size := Below.size K5; have us0_5 : Mine w5 w2.heap.size As0 n0 cs0 xs0 := (by first | exact Mine.below us0_4 b5 | exact Mine.below (Mine.alloc us0_4 _) b5 | exact Mine.below (Mine.alloc (Mine.alloc us0_4 _) _) b5); have us1_5 : Mine w5 w2.heap.size As1 n1 cs1 xs1 := (by first | exact Mine.below us1_4 b5 | exact Mine.below (Mine.alloc us1_4 _) b5 | exact Mine.below (Mine.alloc (Mine.alloc us1_4 _) _) b5); have UA : Mine w5 w2.heap.size Aw0 nw0 cw0 (divOF xs0 xs1 a2).1 := Mine.low u5 (by first | exact Nat.le_refl _ | exact g2a | (simp <;> omega)); have UB : Mine w5 w2.heap.size Aw1 nw1 cw1 (divOF xs0 xs1 a2).2.1 := Mine.low v5 (by first | exact Nat.le_refl _ | exact g2a | (simp <;> omega)); have APX : Hid (Apart Aw0 nw0 Aw1 nw1) := ap5; (try have cX0a := Blk.cell0 X0a_5); (try have fX0a := Blk.frozen0 X0a_5); (try have aX0a := Lib.hid (Blk.apart X0a_5 UA (by decide))); (try have eX0a := Lib.hid (Blk.apart X0a_5 UB (by decide))); (try have cX0b := Blk.cell0 X0b_5); (try have fX0b := Blk.frozen0 X0b_5); (try have aX0b := Lib.hid (Blk.apart X0b_5 UA (by decide))); (try have eX0b := Lib.hid (Blk.apart X0b_5 UB (by decide))); (try have cX1a := Blk.cell0 X1a_5); (try have fX1a := Blk.frozen0 X1a_5); (try have aX1a := Lib.hid (Blk.apart X1a_5 UA (by decide))); (try have eX1a := Lib.hid (Blk.apart X1a_5 UB (by decide))); (try have cX1b := Blk.cell0 X1b_5); (try have fX1b := Blk.frozen0 X1b_5); (try have aX1b := Lib.hid (Blk.apart X1b_5 UA (by decide))); (try have eX1b := Lib.hid (Blk.apart X1b_5 UB (by decide))); (try have cX2a := Blk.cell0 X2a_5); (try have fX2a := Blk.frozen0 X2a_5); (try have aX2a := Lib.hid (Blk.apart X2a_5 UA (by decide))); (try have eX2a := Lib.hid (Blk.apart X2a_5 UB (by decide))); (try have cX2b := Blk.cell0 X2b_5); (try have fX2b := Blk.frozen0 X2b_5); (try have aX2b := Lib.hid (Blk.apart X2b_5 UA (by decide))); (try have eX2b := Lib.hid (Blk.apart X2b_5 UB (by decide)))))
    all_goals
      go_wp2_with fail
      go_meet
      refine ⟨_, _, Aw0, nw0, cw0, Aw1, nw1, cw1, rfl, rfl, rfl, ?_, ?_, ?_, ?_, APX.out, ?_⟩
      · repeat (first | with_reducible exact Blk.new _ _ _ | with_reducible refine Blk.set0 (v := .slice none 0 0) ?_ _ | (with_reducible refine Blk.set_other ?_ ?hNE _; case hNE => omega) | (with_reducible refine Blk.new_at _ _ _ ?_; simp; done) | with_reducible refine Blk.alloc ?_ _ | with_reducible exact X0a_5 | with_reducible exact X0b_5 | with_reducible exact X1a_5 | with_reducible exact X1b_5 | with_reducible exact X2a_5 | with_reducible exact X2b_5)
      · repeat (first | with_reducible exact Blk.new _ _ _ | with_reducible refine Blk.set0 (v := .slice none 0 0) ?_ _ | (with_reducible refine Blk.set_other ?_ ?hNE _; case hNE => omega) | (with_reducible refine Blk.new_at _ _ _ ?_; simp; done) | with_reducible refine Blk.alloc ?_ _ | with_reducible exact X0a_5 | with_reducible exact X0b_5 | with_reducible exact X1a_5 | with_reducible exact X1b_5 | with_reducible exact X2a_5 | with_reducible exact X2b_5)
      · repeat (with_reducible first | exact UA | refine Mine.alloc ?_ _ | refine mine_set ?_ ?_ _ | exact aX0a.out | exact aX0b.out | exact aX1a.out | exact aX1b.out | exact aX2a.out | exact aX2b.out)
      · repeat (with_reducible first | exact UB | refine Mine.alloc ?_ _ | refine mine_set ?_ ?_ _ | exact eX0a.out | exact eX0b.out | exact eX1a.out | exact eX1b.out | exact eX2a.out | exact eX2b.out)
      · repeat (with_reducible first | exact K5 | exact K4 | exact K3 | exact Below.refl _ _ | refine kdrew ?_ | refine kal ?_ _ | refine kset ?_ ?_ | exact g0a | exact g0b | exact g1a | exact g1b | exact g2a | exact g2b)
  obtain ⟨bww0, bww1, Aw0, nw0, cw0, Aw1, nw1, cw1, rfl, rfl, rfl, bbw0_6, bbw1_6, u6, v6, ap_w0_w1, b6⟩ := hcut
  obtain ⟨w6, rfl⟩ : ∃ w6 : World, w6 = wc := ⟨_, rfl⟩
  have kw0_6 := Blk.cell0 bbw0_6
  have kw1_6 := Blk.cell0 bbw1_6
  have B6 := bthen B2 b6
  have bbp0_6 : Blk w6 (w.heap.size) 38 #[.slice A0 n0 c0] := Blk.kept bbp0_2 b6
  have kp0_6 := cell_kept b6 kp0_2
  have bbp1_6 : Blk w6 (w.heap.size + 1) 38 #[.slice A1 n1 c1] := Blk.kept bbp1_2 b6
  have kp1_6 := cell_kept b6 kp1_2
  clear bbp0_2 kp0_2 bbp1_2 kp1_2 B2 b6
  go_wp2_with fail
  refine (toWhole_any A0 n0 c0 xs0 _ (h0.in_ B6) hn0).mono ?_
  rintro e w7 ⟨Ax0, cx0, rfl, u7, b7⟩
  have lbx0 := Lib.hid (lb_of B6 u7)
  have ap_w0_x0 := apart_of u6 u7
  have ap_w1_x0 := apart_of v6 u7
  have B7 := bthen B6 b7
  have bbp0_7 : Blk w7 (w.heap.size) 38 #[.slice A0 n0 c0] := Blk.kept bbp0_6 b7
  have kp0_7 := cell_kept b7 kp0_6
  have bbp1_7 : Blk w7 (w.heap.size + 1) 38 #[.slice A1 n1 c1] := Blk.kept bbp1_6 b7
  have kp1_7 := cell_kept b7 kp1_6
  have bbw0_7 : Blk w7 (bww0) 42 #[.slice Aw0 nw0 cw0] := Blk.kept bbw0_6 b7
  have kw0_7 := cell_kept b7 kw0_6
  have bbw1_7 : Blk w7 (bww1) 42 #[.slice Aw1 nw1 cw1] := Blk.kept bbw1_6 b7
  have kw1_7 := cell_kept b7 kw1_6
  have ow0_7 := Mine.below u6 b7
  have ow1_7 := Mine.below v6 b7
  clear bbp0_6 kp0_6 bbp1_6 kp1_6 bbw0_6 kw0_6 bbw1_6 kw1_6 u6 v6 B6 b7
  have lp0_w7 : w.heap.size < w7.heap.size := World.block_lt_of_cell? _ _ kp0_7
  have lp1_w7 : w.heap.size + 1 < w7.heap.size := World.block_lt_of_cell? _ _ kp1_7
  have lw0_w7 : bww0 < w7.heap.size := World.block_lt_of_cell? _ _ kw0_7
  have lw1_w7 : bww1 < w7.heap.size := World.block_lt_of_cell? _ _ kw1_7
  go_wp2_with fail
  refine (toWhole_any A1 n1 c1 xs1 _ (h1.in_ (B7.alloc B7.size _)) hn1).mono ?_
  rintro e w8 ⟨Ax1, cx1, rfl, u8, b8⟩
  have lbx1 := Lib.hid (lb_of (B7.alloc B7.size _) u8)
  have ap_w0_x1 := apart_of (Mine.alloc ow0_7 _) u8
  have ap_w1_x1 := apart_of (Mine.alloc ow1_7 _) u8
  have ap_x0_x1 := apart_of (Mine.alloc u7 _) u8
  have B8 := bthen (B7.alloc B7.size _) b8
  have bbp0_8 : Blk w8 (w.heap.size) 38 #[.slice A0 n0 c0] := Blk.kept (Blk.alloc bbp0_7 _) b8
  have kp0_8 := cell_kept b8 (cell_kept (al1 _ _) kp0_7)
  have bbp1_8 : Blk w8 (w.heap.size + 1) 38 #[.slice A1 n1 c1] := Blk.kept (Blk.alloc bbp1_7 _) b8
  have kp1_8 := cell_kept b8 (cell_kept (al1 _ _) kp1_7)
  have bbw0_8 : Blk w8 (bww0) 42 #[.slice Aw0 nw0 cw0] := Blk.kept (Blk.alloc bbw0_7 _) b8
  have kw0_8 := cell_kept b8 (cell_kept (al1 _ _) kw0_7)
  have bbw1_8 : Blk w8 (bww1) 42 #[.slice Aw1 nw1 cw1] := Blk.kept (Blk.alloc bbw1_7 _) b8
  have kw1_8 := cell_kept b8 (cell_kept (al1 _ _) kw1_7)
  have bbx0_8 : Blk w8 (w7.heap.size) 42 #[.slice Ax0 n0 cx0] := Blk.kept (Blk.new _ _ _) b8
  have kx0_8 := cell_kept (b := w7.heap.size) (o := 0) (v := .slice Ax0 n0 cx0) b8 (by simp [go_sem])
  have ow0_8 := Mine.below (Mine.alloc ow0_7 _) b8
  have ow1_8 := Mine.below (Mine.alloc ow1_7 _) b8
  have ox0_8 := Mine.below (Mine.alloc u7 _) b8
  clear bbp0_7 kp0_7 bbp1_7 kp1_7 bbw0_7 kw0_7 bbw1_7 kw1_7 ow0_7 ow1_7 u7 B7 b8 lp0_w7 lp1_w7 lw0_w7 lw1_w7
  have lp0_w8 : w.heap.size < w8.heap.size := World.block_lt_of_cell? _ _ kp0_8
  have lp1_w8 : w.heap.size + 1 < w8.heap.size := World.block_lt_of_cell? _ _ kp1_8
  have lw0_w8 : bww0 < w8.heap.size := World.block_lt_of_cell? _ _ kw0_8
  have lw1_w8 : bww1 < w8.heap.size := World.block_lt_of_cell? _ _ kw1_8
  have lx0_w8 : w7.heap.size < w8.heap.size := World.block_lt_of_cell? _ _ kx0_8
  go_wp2_with fail
  refine (divOver_own Ax0 n0 cx0 xs0 Ax1 n1 cx1 xs1 a2 _ (Mine.rd (Mine.alloc ox0_8 _)) (Mine.rd (Mine.alloc u8 _)) bd2 hn0 hn1).mono ?_
  rintro e w9 ⟨Ag0, ng0, cg0, Ag1, ng1, cg1, rfl, u9g0, u9g1, ap_g0_g1, b9⟩
  have lbg0 := Lib.hid (lb_of (B8.alloc B8.size _) u9g0)
  have ap_w0_g0 := apart_of (Mine.alloc ow0_8 _) u9g0
  have ap_w1_g0 := apart_of (Mine.alloc ow1_8 _) u9g0
  have ap_x0_g0 := apart_of (Mine.alloc ox0_8 _) u9g0
  have ap_x1_g0 := apart_of (Mine.alloc u8 _) u9g0
  have hng0 : ng0 ≤ 1048576 := by have hh := Mine.len u9g0; have hh2 := divOF_len1 xs0 xs1 a2; omega
  have lbg1 := Lib.hid (lb_of (B8.alloc B8.size _) u9g1)
  have ap_w0_g1 := apart_of (Mine.alloc ow0_8 _) u9g1
  have ap_w1_g1 := apart_of (Mine.alloc ow1_8 _) u9g1
  have ap_x0_g1 := apart_of (Mine.alloc ox0_8 _) u9g1
  have ap_x1_g1 := apart_of (Mine.alloc u8 _) u9g1
  have hng1 : ng1 ≤ 1048576 := by have hh := Mine.len u9g1; have hh2 := divOF_len2 xs0 xs1 a2; omega
  have B9 := bthen (B8.alloc B8.size _) b9
  have bbp0_9 : Blk w9 (w.heap.size) 38 #[.slice A0 n0 c0] := Blk.kept (Blk.alloc bbp0_8 _) b9
  have kp0_9 := cell_kept b9 (cell_kept (al1 _ _) kp0_8)
  have bbp1_9 : Blk w9 (w.heap.size + 1) 38 #[.slice A1 n1 c1] := Blk.kept (Blk.alloc bbp1_8 _) b9
  have kp1_9 := cell_kept b9 (cell_kept (al1 _ _) kp1_8)
  have bbw0_9 : Blk w9 (bww0) 42 #[.slice Aw0 nw0 cw0] := Blk.kept (Blk.alloc bbw0_8 _) b9
  have kw0_9 := cell_kept b9 (cell_kept (al1 _ _) kw0_8)
  have bbw1_9 : Blk w9 (bww1) 42 #[.slice Aw1 nw1 cw1] := Blk.kept (Blk.alloc bbw1_8 _) b9
  have kw1_9 := cell_kept b9 (cell_kept (al1 _ _) kw1_8)
  have bbx0_9 : Blk w9 (w7.heap.size) 42 #[.slice Ax0 n0 cx0] := Blk.kept (Blk.alloc bbx0_8 _) b9
  have kx0_9 := cell_kept b9 (cell_kept (al1 _ _) kx0_8)
  have bbx1_9 : Blk w9 (w8.heap.size) 42 #[.slice Ax1 n1 cx1] := Blk.kept (Blk.new _ _ _) b9
  have kx1_9 := cell_kept (b := w8.heap.size) (o := 0) (v := .slice Ax1 n1 cx1) b9 (by simp [go_sem])
  have ow0_9 := Mine.below (Mine.alloc ow0_8 _) b9
  have ow1_9 := Mine.below (Mine.alloc ow1_8 _) b9
  have ox0_9 := Mine.below (Mine.alloc ox0_8 _) b9
  have ox1_9 := Mine.below (Mine.alloc u8 _) b9
  clear bbp0_8 kp0_8 bbp1_8 kp1_8 bbw0_8 kw0_8 bbw1_8 kw1_8 bbx0_8 kx0_8 ow0_8 ow1_8 ox0_8 u8 B8 b9 lp0_w8 lp1_w8 lw0_w8 lw1_w8 lx0_w8
  have lp0_w9 : w.heap.size < w9.heap.size := World.block_lt_of_cell? _ _ kp0_9
  have lp1_w9 : w.heap.size + 1 < w9.heap.size := World.block_lt_of_cell? _ _ kp1_9
  have lw0_w9 : bww0 < w9.heap.size := World.block_lt_of_cell? _ _ kw0_9
  have lw1_w9 : bww1 < w9.heap.size := World.block_lt_of_cell? _ _ kw1_9
  have lx0_w9 : w7.heap.size < w9.heap.size := World.block_lt_of_cell? _ _ kx0_9
  have lx1_w9 : w8.heap.size < w9.heap.size := World.block_lt_of_cell? _ _ kx1_9
  go_wp2_with fail
  refine (eqWhole_any Ag0 ng0 cg0 (divOF xs0 xs1 a2).1 Aw0 nw0 cw0 (divOF xs0 xs1 a2).1 _ (Mine.rd (Mine.alloc (Mine.alloc u9g0 _) _)) (Mine.rd (Mine.alloc (Mine.alloc ow0_9 _) _))).mono ?_
  rintro e w10 ⟨rfl, b10⟩
  have B10 := bthen ((B9.alloc B9.size _).alloc (B9.alloc B9.size _).size _) b10
  have bbp0_10 : Blk w10 (w.heap.size) 38 #[.slice A0 n0 c0] := Blk.kept (Blk.alloc (Blk.alloc bbp0_9 _) _) b10
  have kp0_10 := cell_kept b10 (cell_kept (al1 _ _) (cell_kept (al1 _ _) kp0_9))
  have bbp1_10 : Blk w10 (w.heap.size + 1) 38 #[.slice A1 n1 c1] := Blk.kept (Blk.alloc (Blk.alloc bbp1_9 _) _) b10
  have kp1_10 := cell_kept b10 (cell_kept (al1 _ _) (cell_kept (al1 _ _) kp1_9))
  have bbw0_10 : Blk w10 (bww0) 42 #[.slice Aw0 nw0 cw0] := Blk.kept (Blk.alloc (Blk.alloc bbw0_9 _) _) b10
  have kw0_10 := cell_kept b10 (cell_kept (al1 _ _) (cell_kept (al1 _ _) kw0_9))
  have bbw1_10 : Blk w10 (bww1) 42 #[.slice Aw1 nw1 cw1] := Blk.kept (Blk.alloc (Blk.alloc bbw1_9 _) _) b10
  have kw1_10 := cell_kept b10 (cell_kept (al1 _ _) (cell_kept (al1 _ _) kw1_9))
  have bbx0_10 : Blk w10 (w7.heap.size) 42 #[.slice Ax0 n0 cx0] := Blk.kept (Blk.alloc (Blk.alloc bbx0_9 _) _) b10
  have kx0_10 := cell_kept b10 (cell_kept (al1 _ _) (cell_kept (al1 _ _) kx0_9))
  have bbx1_10 : Blk w10 (w8.heap.size) 42 #[.slice Ax1 n1 cx1] := Blk.kept (Blk.alloc (Blk.alloc bbx1_9 _) _) b10
  have kx1_10 := cell_kept b10 (cell_kept (al1 _ _) (cell_kept (al1 _ _) kx1_9))
  have bbg0_10 : Blk w10 (w9.heap.size) 42 #[.slice Ag0 ng0 cg0] := Blk.kept (Blk.alloc (Blk.new _ _ _) _) b10
  have kg0_10 := cell_kept (b := w9.heap.size) (o := 0) (v := .slice Ag0 ng0 cg0) b10 (by simp [go_sem])
  have bbg1_10 : Blk w10 (w9.heap.size + 1) 42 #[.slice Ag1 ng1 cg1] := Blk.kept (Blk.new_at _ _ _ (by simp)) b10
  have kg1_10 := cell_kept (b := w9.heap.size + 1) (o := 0) (v := .slice Ag1 ng1 cg1) b10 (by simp [go_sem])
  have ow0_10 := Mine.below (Mine.alloc (Mine.alloc ow0_9 _) _) b10
  have ow1_10 := Mine.below (Mine.alloc (Mine.alloc ow1_9 _) _) b10
  have ox0_10 := Mine.below (Mine.alloc (Mine.alloc ox0_9 _) _) b10
  have ox1_10 := Mine.below (Mine.alloc (Mine.alloc ox1_9 _) _) b10
  have og0_10 := Mine.below (Mine.alloc (Mine.alloc u9g0 _) _) b10
  have og1_10 := Mine.below (Mine.alloc (Mine.alloc u9g1 _) _) b10
  clear bbp0_9 kp0_9 bbp1_9 kp1_9 bbw0_9 kw0_9 bbw1_9 kw1_9 bbx0_9 kx0_9 bbx1_9 kx1_9 ow0_9 ow1_9 ox0_9 ox1_9 u9g0 u9g1 B9 b10 lp0_w9 lp1_w9 lw0_w9 lw1_w9 lx0_w9 lx1_w9
  go_wp2_with fail
  refine (eqWhole_any Ag1 ng1 cg1 (divOF xs0 xs1 a2).2.1 Aw1 nw1 cw1 (divOF xs0 xs1 a2).2.1 _ (Mine.rd og1_10) (Mine.rd ow1_10)).mono ?_
  rintro e w11 ⟨rfl, b11⟩
  have B11 := bthen B10 b11
  have bbp0_11 : Blk w11 (w.heap.size) 38 #[.slice A0 n0 c0] := Blk.kept bbp0_10 b11
  have kp0_11 := cell_kept b11 kp0_10
  have bbp1_11 : Blk w11 (w.heap.size + 1) 38 #[.slice A1 n1 c1] := Blk.kept bbp1_10 b11
  have kp1_11 := cell_kept b11 kp1_10
  have bbw0_11 : Blk w11 (bww0) 42 #[.slice Aw0 nw0 cw0] := Blk.kept bbw0_10 b11
  have kw0_11 := cell_kept b11 kw0_10
  have bbw1_11 : Blk w11 (bww1) 42 #[.slice Aw1 nw1 cw1] := Blk.kept bbw1_10 b11
  have kw1_11 := cell_kept b11 kw1_10
  have bbx0_11 : Blk w11 (w7.heap.size) 42 #[.slice Ax0 n0 cx0] := Blk.kept bbx0_10 b11
  have kx0_11 := cell_kept b11 kx0_10
  have bbx1_11 : Blk w11 (w8.heap.size) 42 #[.slice Ax1 n1 cx1] := Blk.kept bbx1_10 b11
  have kx1_11 := cell_kept b11 kx1_10
  have bbg0_11 : Blk w11 (w9.heap.size) 42 #[.slice Ag0 ng0 cg0] := Blk.kept bbg0_10 b11
  have kg0_11 := cell_kept b11 kg0_10
  have bbg1_11 : Blk w11 (w9.heap.size + 1) 42 #[.slice Ag1 ng1 cg1] := Blk.kept bbg1_10 b11
  have kg1_11 := cell_kept b11 kg1_10
  have ow0_11 := Mine.below ow0_10 b11
  have ow1_11 := Mine.below ow1_10 b11
  have ox0_11 := Mine.below ox0_10 b11
  have ox1_11 := Mine.below ox1_10 b11
  have og0_11 := Mine.below og0_10 b11
  have og1_11 := Mine.below og1_10 b11
  clear bbp0_10 kp0_10 bbp1_10 kp1_10 bbw0_10 kw0_10 bbw1_10 kw1_10 bbx0_10 kx0_10 bbx1_10 kx1_10 bbg0_10 kg0_10 bbg1_10 kg1_10 ow0_10 ow1_10 ox0_10 ox1_10 og0_10 og1_10 B10 b11
  go_wp2_with fail
  go_region_held3 (fun wx => wx.cell? ⟨w.heap.size, 0, none⟩ = some (.slice A0 n0 c0) ∧ wx.cell? ⟨w7.heap.size, 0, none⟩ = some (.slice Ax0 n0 cx0)) (go_keep)
    (first
      | (go_at_call_of 19 (Value.agg #[Value.slice A0 n0 c0]); refine (toWhole_any A0 n0 c0 xs0 _ (h0.in_ B11.drew) hn0).mono ?_; rintro e w12 ⟨Ay0, cy0, rfl, u12, b12⟩; have B12 := bthen B11.drew b12; have bbp0_12 : Blk w12 (w.heap.size) 38 #[.slice A0 n0 c0] := Blk.kept (Blk.drew bbp0_11) b12; have kp0_12 := cell_kept b12 kp0_11; have bbp1_12 : Blk w12 (w.heap.size + 1) 38 #[.slice A1 n1 c1] := Blk.kept (Blk.drew bbp1_11) b12; have kp1_12 := cell_kept b12 kp1_11; have bbw0_12 : Blk w12 (bww0) 42 #[.slice Aw0 nw0 cw0] := Blk.kept (Blk.drew bbw0_11) b12; have kw0_12 := cell_kept b12 kw0_11; have bbw1_12 : Blk w12 (bww1) 42 #[.slice Aw1 nw1 cw1] := Blk.kept (Blk.drew bbw1_11) b12; have kw1_12 := cell_kept b12 kw1_11; have bbx0_12 : Blk w12 (w7.heap.size) 42 #[.slice Ax0 n0 cx0] := Blk.kept (Blk.drew bbx0_11) b12; have kx0_12 := cell_kept b12 kx0_11; have bbx1_12 : Blk w12 (w8.heap.size) 42 #[.slice Ax1 n1 cx1] := Blk.kept (Blk.drew bbx1_11) b12; have kx1_12 := cell_kept b12 kx1_11; have bbg0_12 : Blk w12 (w9.heap.size) 42 #[.slice Ag0 ng0 cg0] := Blk.kept (Blk.drew bbg0_11) b12; have kg0_12 := cell_kept b12 kg0_11; have bbg1_12 : Blk w12 (w9.heap.size + 1) 42 #[.slice Ag1 ng1 cg1] := Blk.kept (Blk.drew bbg1_11) b12; have kg1_12 := cell_kept b12 kg1_11; have ow0_12 := Mine.below (Mine.drew ow0_11) b12; have ow1_12 := Mine.below (Mine.drew ow1_11) b12; have ox0_12 := Mine.below (Mine.drew ox0_11) b12; have ox1_12 := Mine.below (Mine.drew ox1_11) b12; have og0_12 := Mine.below (Mine.drew og0_11) b12; have og1_12 := Mine.below (Mine.drew og1_11) b12; clear bbp0_11 kp0_11 bbp1_11 kp1_11 bbw0_11 kw0_11 bbw1_11 kw1_11 bbx0_11 kx0_11 bbx1_11 kx1_11 bbg0_11 kg0_11 bbg1_11 kg1_11 ow0_11 ow1_11 ox0_11 ox1_11 og0_11 og1_11 B11 b12)
      | (go_at_call 22; refine (eqWhole_any Ax0 n0 cx0 xs0 Ay0 n0 cy0 xs0 _ (Mine.rd ox0_12) (Mine.rd u12)).mono ?_; rintro e w13 ⟨rfl, b13⟩; have B13 := bthen B12 b13; have bbp0_13 : Blk w13 (w.heap.size) 38 #[.slice A0 n0 c0] := Blk.kept bbp0_12 b13; have kp0_13 := cell_kept b13 kp0_12; have bbp1_13 : Blk w13 (w.heap.size + 1) 38 #[.slice A1 n1 c1] := Blk.kept bbp1_12 b13; have kp1_13 := cell_kept b13 kp1_12; have bbw0_13 : Blk w13 (bww0) 42 #[.slice Aw0 nw0 cw0] := Blk.kept bbw0_12 b13; have kw0_13 := cell_kept b13 kw0_12; have bbw1_13 : Blk w13 (bww1) 42 #[.slice Aw1 nw1 cw1] := Blk.kept bbw1_12 b13; have kw1_13 := cell_kept b13 kw1_12; have bbx0_13 : Blk w13 (w7.heap.size) 42 #[.slice Ax0 n0 cx0] := Blk.kept bbx0_12 b13; have kx0_13 := cell_kept b13 kx0_12; have bbx1_13 : Blk w13 (w8.heap.size) 42 #[.slice Ax1 n1 cx1] := Blk.kept bbx1_12 b13; have kx1_13 := cell_kept b13 kx1_12; have bbg0_13 : Blk w13 (w9.heap.size) 42 #[.slice Ag0 ng0 cg0] := Blk.kept bbg0_12 b13; have kg0_13 := cell_kept b13 kg0_12; have bbg1_13 : Blk w13 (w9.heap.size + 1) 42 #[.slice Ag1 ng1 cg1] := Blk.kept bbg1_12 b13; have kg1_13 := cell_kept b13 kg1_12; have ow0_13 := Mine.below ow0_12 b13; have ow1_13 := Mine.below ow1_12 b13; have ox0_13 := Mine.below ox0_12 b13; have ox1_13 := Mine.below ox1_12 b13; have og0_13 := Mine.below og0_12 b13; have og1_13 := Mine.below og1_12 b13; have oy0_13 := Mine.below u12 b13; clear bbp0_12 kp0_12 bbp1_12 kp1_12 bbw0_12 kw0_12 bbw1_12 kw1_12 bbx0_12 kx0_12 bbx1_12 kx1_12 bbg0_12 kg0_12 bbg1_12 kg1_12 ow0_12 ow1_12 ox0_12 ox1_12 og0_12 og1_12 u12 B12 b13))
  clear oy0_13
  go_wp2_with fail
  go_region_held3 (fun wx => wx.cell? ⟨w.heap.size + 1, 0, none⟩ = some (.slice A1 n1 c1) ∧ wx.cell? ⟨w8.heap.size, 0, none⟩ = some (.slice Ax1 n1 cx1)) (go_keep)
    (first
      | (go_at_call_of 19 (Value.agg #[Value.slice A1 n1 c1]); refine (toWhole_any A1 n1 c1 xs1 _ (h1.in_ B13.drew) hn1).mono ?_; rintro e w14 ⟨Ay1, cy1, rfl, u14, b14⟩; have B14 := bthen B13.drew b14; have bbp0_14 : Blk w14 (w.heap.size) 38 #[.slice A0 n0 c0] := Blk.kept (Blk.drew bbp0_13) b14; have kp0_14 := cell_kept b14 kp0_13; have bbp1_14 : Blk w14 (w.heap.size + 1) 38 #[.slice A1 n1 c1] := Blk.kept (Blk.drew bbp1_13) b14; have kp1_14 := cell_kept b14 kp1_13; have bbw0_14 : Blk w14 (bww0) 42 #[.slice Aw0 nw0 cw0] := Blk.kept (Blk.drew bbw0_13) b14; have kw0_14 := cell_kept b14 kw0_13; have bbw1_14 : Blk w14 (bww1) 42 #[.slice Aw1 nw1 cw1] := Blk.kept (Blk.drew bbw1_13) b14; have kw1_14 := cell_kept b14 kw1_13; have bbx0_14 : Blk w14 (w7.heap.size) 42 #[.slice Ax0 n0 cx0] := Blk.kept (Blk.drew bbx0_13) b14; have kx0_14 := cell_kept b14 kx0_13; have bbx1_14 : Blk w14 (w8.heap.size) 42 #[.slice Ax1 n1 cx1] := Blk.kept (Blk.drew bbx1_13) b14; have kx1_14 := cell_kept b14 kx1_13; have bbg0_14 : Blk w14 (w9.heap.size) 42 #[.slice Ag0 ng0 cg0] := Blk.kept (Blk.drew bbg0_13) b14; have kg0_14 := cell_kept b14 kg0_13; have bbg1_14 : Blk w14 (w9.heap.size + 1) 42 #[.slice Ag1 ng1 cg1] := Blk.kept (Blk.drew bbg1_13) b14; have kg1_14 := cell_kept b14 kg1_13; have ow0_14 := Mine.below (Mine.drew ow0_13) b14; have ow1_14 := Mine.below (Mine.drew ow1_13) b14; have ox0_14 := Mine.below (Mine.drew ox0_13) b14; have ox1_14 := Mine.below (Mine.drew ox1_13) b14; have og0_14 := Mine.below (Mine.drew og0_13) b14; have og1_14 := Mine.below (Mine.drew og1_13) b14; clear bbp0_13 kp0_13 bbp1_13 kp1_13 bbw0_13 kw0_13 bbw1_13 kw1_13 bbx0_13 kx0_13 bbx1_13 kx1_13 bbg0_13 kg0_13 bbg1_13 kg1_13 ow0_13 ow1_13 ox0_13 ox1_13 og0_13 og1_13 B13 b14)
      | (go_at_call 22; refine (eqWhole_any Ax1 n1 cx1 xs1 Ay1 n1 cy1 xs1 _ (Mine.rd ox1_14) (Mine.rd u14)).mono ?_; rintro e w15 ⟨rfl, b15⟩; have B15 := bthen B14 b15; have bbp0_15 : Blk w15 (w.heap.size) 38 #[.slice A0 n0 c0] := Blk.kept bbp0_14 b15; have kp0_15 := cell_kept b15 kp0_14; have bbp1_15 : Blk w15 (w.heap.size + 1) 38 #[.slice A1 n1 c1] := Blk.kept bbp1_14 b15; have kp1_15 := cell_kept b15 kp1_14; have bbw0_15 : Blk w15 (bww0) 42 #[.slice Aw0 nw0 cw0] := Blk.kept bbw0_14 b15; have kw0_15 := cell_kept b15 kw0_14; have bbw1_15 : Blk w15 (bww1) 42 #[.slice Aw1 nw1 cw1] := Blk.kept bbw1_14 b15; have kw1_15 := cell_kept b15 kw1_14; have bbx0_15 : Blk w15 (w7.heap.size) 42 #[.slice Ax0 n0 cx0] := Blk.kept bbx0_14 b15; have kx0_15 := cell_kept b15 kx0_14; have bbx1_15 : Blk w15 (w8.heap.size) 42 #[.slice Ax1 n1 cx1] := Blk.kept bbx1_14 b15; have kx1_15 := cell_kept b15 kx1_14; have bbg0_15 : Blk w15 (w9.heap.size) 42 #[.slice Ag0 ng0 cg0] := Blk.kept bbg0_14 b15; have kg0_15 := cell_kept b15 kg0_14; have bbg1_15 : Blk w15 (w9.heap.size + 1) 42 #[.slice Ag1 ng1 cg1] := Blk.kept bbg1_14 b15; have kg1_15 := cell_kept b15 kg1_14; have ow0_15 := Mine.below ow0_14 b15; have ow1_15 := Mine.below ow1_14 b15; have ox0_15 := Mine.below ox0_14 b15; have ox1_15 := Mine.below ox1_14 b15; have og0_15 := Mine.below og0_14 b15; have og1_15 := Mine.below og1_14 b15; have oy1_15 := Mine.below u14 b15; clear bbp0_14 kp0_14 bbp1_14 kp1_14 bbw0_14 kw0_14 bbw1_14 kw1_14 bbx0_14 kx0_14 bbx1_14 kx1_14 bbg0_14 kg0_14 bbg1_14 kg1_14 ow0_14 ow1_14 ox0_14 ox1_14 og0_14 og1_14 u14 B14 b15))
  clear oy1_15
  go_wp2_with fail
  refine (markWhole_any Ax0 n0 cx0 xs0 (1) _ _ ox0_15 (by omega) (by omega) hn0).mono ?_
  rintro e w16 ⟨rfl, u16, g16⟩
  have B16 := below_mark B15 lbx0.out g16
  have bbp0_16 : Blk w16 (w.heap.size) 38 #[.slice A0 n0 c0] := Blk.grown bbp0_15 g16 (Blk.apart bbp0_15 ox0_15 (by decide))
  have kp0_16 := Blk.cell0 bbp0_16
  have bbp1_16 : Blk w16 (w.heap.size + 1) 38 #[.slice A1 n1 c1] := Blk.grown bbp1_15 g16 (Blk.apart bbp1_15 ox0_15 (by decide))
  have kp1_16 := Blk.cell0 bbp1_16
  have bbw0_16 : Blk w16 (bww0) 42 #[.slice Aw0 nw0 cw0] := Blk.grown bbw0_15 g16 (Blk.apart bbw0_15 ox0_15 (by decide))
  have kw0_16 := Blk.cell0 bbw0_16
  have bbw1_16 : Blk w16 (bww1) 42 #[.slice Aw1 nw1 cw1] := Blk.grown bbw1_15 g16 (Blk.apart bbw1_15 ox0_15 (by decide))
  have kw1_16 := Blk.cell0 bbw1_16
  have bbx0_16 : Blk w16 (w7.heap.size) 42 #[.slice Ax0 n0 cx0] := Blk.grown bbx0_15 g16 (Blk.apart bbx0_15 ox0_15 (by decide))
  have kx0_16 := Blk.cell0 bbx0_16
  have bbx1_16 : Blk w16 (w8.heap.size) 42 #[.slice Ax1 n1 cx1] := Blk.grown bbx1_15 g16 (Blk.apart bbx1_15 ox0_15 (by decide))
  have kx1_16 := Blk.cell0 bbx1_16
  have bbg0_16 : Blk w16 (w9.heap.size) 42 #[.slice Ag0 ng0 cg0] := Blk.grown bbg0_15 g16 (Blk.apart bbg0_15 ox0_15 (by decide))
  have kg0_16 := Blk.cell0 bbg0_16
  have bbg1_16 : Blk w16 (w9.heap.size + 1) 42 #[.slice Ag1 ng1 cg1] := Blk.grown bbg1_15 g16 (Blk.apart bbg1_15 ox0_15 (by decide))
  have kg1_16 := Blk.cell0 bbg1_16
  have ow0_16 := own_mark ow0_15 (Apart.symm ap_w0_x0) g16
  have ow1_16 := own_mark ow1_15 (Apart.symm ap_w1_x0) g16
  have ox1_16 := own_mark ox1_15 ap_x0_x1 g16
  have og0_16 := own_mark og0_15 ap_x0_g0 g16
  have og1_16 := own_mark og1_15 ap_x0_g1 g16
  clear kp0_15 bbp0_15 kp1_15 bbp1_15 kw0_15 bbw0_15 kw1_15 bbw1_15 kx0_15 bbx0_15 kx1_15 bbx1_15 kg0_15 bbg0_15 kg1_15 bbg1_15 ow0_15 ow1_15 ox1_15 og0_15 og1_15 ox0_15 g16 B15
  go_wp2_with fail
  refine (markWhole_any Ax1 n1 cx1 xs1 (1 + n0) _ _ ox1_16 (by omega) (by omega) hn1).mono ?_
  rintro e w17 ⟨rfl, u17, g17⟩
  have B17 := below_mark B16 lbx1.out g17
  have bbp0_17 : Blk w17 (w.heap.size) 38 #[.slice A0 n0 c0] := Blk.grown bbp0_16 g17 (Blk.apart bbp0_16 ox1_16 (by decide))
  have kp0_17 := Blk.cell0 bbp0_17
  have bbp1_17 : Blk w17 (w.heap.size + 1) 38 #[.slice A1 n1 c1] := Blk.grown bbp1_16 g17 (Blk.apart bbp1_16 ox1_16 (by decide))
  have kp1_17 := Blk.cell0 bbp1_17
  have bbw0_17 : Blk w17 (bww0) 42 #[.slice Aw0 nw0 cw0] := Blk.grown bbw0_16 g17 (Blk.apart bbw0_16 ox1_16 (by decide))
  have kw0_17 := Blk.cell0 bbw0_17
  have bbw1_17 : Blk w17 (bww1) 42 #[.slice Aw1 nw1 cw1] := Blk.grown bbw1_16 g17 (Blk.apart bbw1_16 ox1_16 (by decide))
  have kw1_17 := Blk.cell0 bbw1_17
  have bbx0_17 : Blk w17 (w7.heap.size) 42 #[.slice Ax0 n0 cx0] := Blk.grown bbx0_16 g17 (Blk.apart bbx0_16 ox1_16 (by decide))
  have kx0_17 := Blk.cell0 bbx0_17
  have bbx1_17 : Blk w17 (w8.heap.size) 42 #[.slice Ax1 n1 cx1] := Blk.grown bbx1_16 g17 (Blk.apart bbx1_16 ox1_16 (by decide))
  have kx1_17 := Blk.cell0 bbx1_17
  have bbg0_17 : Blk w17 (w9.heap.size) 42 #[.slice Ag0 ng0 cg0] := Blk.grown bbg0_16 g17 (Blk.apart bbg0_16 ox1_16 (by decide))
  have kg0_17 := Blk.cell0 bbg0_17
  have bbg1_17 : Blk w17 (w9.heap.size + 1) 42 #[.slice Ag1 ng1 cg1] := Blk.grown bbg1_16 g17 (Blk.apart bbg1_16 ox1_16 (by decide))
  have kg1_17 := Blk.cell0 bbg1_17
  have ow0_17 := own_mark ow0_16 (Apart.symm ap_w0_x1) g17
  have ow1_17 := own_mark ow1_16 (Apart.symm ap_w1_x1) g17
  have ox0_17 := own_mark u16 (Apart.symm ap_x0_x1) g17
  have og0_17 := own_mark og0_16 ap_x1_g0 g17
  have og1_17 := own_mark og1_16 ap_x1_g1 g17
  clear kp0_16 bbp0_16 kp1_16 bbp1_16 kw0_16 bbw0_16 kw1_16 bbw1_16 kx0_16 bbx0_16 kx1_16 bbx1_16 kg0_16 bbg0_16 kg1_16 bbg1_16 ow0_16 ow1_16 u16 og0_16 og1_16 ox1_16 g17 B16
  go_wp2_with fail
  refine (eqWhole_any Ag0 ng0 cg0 (divOF xs0 xs1 a2).1 Aw0 nw0 cw0 (divOF xs0 xs1 a2).1 _ (Mine.rd og0_17) (Mine.rd ow0_17)).mono ?_
  rintro e w18 ⟨rfl, b18⟩
  have B18 := bthen B17 b18
  have bbp0_18 : Blk w18 (w.heap.size) 38 #[.slice A0 n0 c0] := Blk.kept bbp0_17 b18
  have kp0_18 := cell_kept b18 kp0_17
  have bbp1_18 : Blk w18 (w.heap.size + 1) 38 #[.slice A1 n1 c1] := Blk.kept bbp1_17 b18
  have kp1_18 := cell_kept b18 kp1_17
  have bbw0_18 : Blk w18 (bww0) 42 #[.slice Aw0 nw0 cw0] := Blk.kept bbw0_17 b18
  have kw0_18 := cell_kept b18 kw0_17
  have bbw1_18 : Blk w18 (bww1) 42 #[.slice Aw1 nw1 cw1] := Blk.kept bbw1_17 b18
  have kw1_18 := cell_kept b18 kw1_17
  have bbx0_18 : Blk w18 (w7.heap.size) 42 #[.slice Ax0 n0 cx0] := Blk.kept bbx0_17 b18
  have kx0_18 := cell_kept b18 kx0_17
  have bbx1_18 : Blk w18 (w8.heap.size) 42 #[.slice Ax1 n1 cx1] := Blk.kept bbx1_17 b18
  have kx1_18 := cell_kept b18 kx1_17
  have bbg0_18 : Blk w18 (w9.heap.size) 42 #[.slice Ag0 ng0 cg0] := Blk.kept bbg0_17 b18
  have kg0_18 := cell_kept b18 kg0_17
  have bbg1_18 : Blk w18 (w9.heap.size + 1) 42 #[.slice Ag1 ng1 cg1] := Blk.kept bbg1_17 b18
  have kg1_18 := cell_kept b18 kg1_17
  have ow0_18 := Mine.below ow0_17 b18
  have ow1_18 := Mine.below ow1_17 b18
  have ox0_18 := Mine.below ox0_17 b18
  have ox1_18 := Mine.below u17 b18
  have og0_18 := Mine.below og0_17 b18
  have og1_18 := Mine.below og1_17 b18
  clear bbp0_17 kp0_17 bbp1_17 kp1_17 bbw0_17 kw0_17 bbw1_17 kw1_17 bbx0_17 kx0_17 bbx1_17 kx1_17 bbg0_17 kg0_17 bbg1_17 kg1_17 ow0_17 ow1_17 ox0_17 u17 og0_17 og1_17 B17 b18
  go_wp2_with fail
  refine (eqWhole_any Ag1 ng1 cg1 (divOF xs0 xs1 a2).2.1 Aw1 nw1 cw1 (divOF xs0 xs1 a2).2.1 _ (Mine.rd og1_18) (Mine.rd ow1_18)).mono ?_
  rintro e w19 ⟨rfl, b19⟩
  have B19 := bthen B18 b19
  have bbp0_19 : Blk w19 (w.heap.size) 38 #[.slice A0 n0 c0] := Blk.kept bbp0_18 b19
  have kp0_19 := cell_kept b19 kp0_18
  have bbp1_19 : Blk w19 (w.heap.size + 1) 38 #[.slice A1 n1 c1] := Blk.kept bbp1_18 b19
  have kp1_19 := cell_kept b19 kp1_18
  have bbw0_19 : Blk w19 (bww0) 42 #[.slice Aw0 nw0 cw0] := Blk.kept bbw0_18 b19
  have kw0_19 := cell_kept b19 kw0_18
  have bbw1_19 : Blk w19 (bww1) 42 #[.slice Aw1 nw1 cw1] := Blk.kept bbw1_18 b19
  have kw1_19 := cell_kept b19 kw1_18
  have bbx0_19 : Blk w19 (w7.heap.size) 42 #[.slice Ax0 n0 cx0] := Blk.kept bbx0_18 b19
  have kx0_19 := cell_kept b19 kx0_18
  have bbx1_19 : Blk w19 (w8.heap.size) 42 #[.slice Ax1 n1 cx1] := Blk.kept bbx1_18 b19
  have kx1_19 := cell_kept b19 kx1_18
  have bbg0_19 : Blk w19 (w9.heap.size) 42 #[.slice Ag0 ng0 cg0] := Blk.kept bbg0_18 b19
  have kg0_19 := cell_kept b19 kg0_18
  have bbg1_19 : Blk w19 (w9.heap.size + 1) 42 #[.slice Ag1 ng1 cg1] := Blk.kept bbg1_18 b19
  have kg1_19 := cell_kept b19 kg1_18
  have ow0_19 := Mine.below ow0_18 b19
  have ow1_19 := Mine.below ow1_18 b19
  have ox0_19 := Mine.below ox0_18 b19
  have ox1_19 := Mine.below ox1_18 b19
  have og0_19 := Mine.below og0_18 b19
  have og1_19 := Mine.below og1_18 b19
  clear bbp0_18 kp0_18 bbp1_18 kp1_18 bbw0_18 kw0_18 bbw1_18 kw1_18 bbx0_18 kx0_18 bbx1_18 kx1_18 bbg0_18 kg0_18 bbg1_18 kg1_18 ow0_18 ow1_18 ox0_18 ox1_18 og0_18 og1_18 B18 b19
  clear ox0_19
  clear ox1_19
  go_wp2_with fail
  refine (markWhole_any Ag0 ng0 cg0 (divOF xs0 xs1 a2).1 (1) _ _ og0_19 (by omega) (by omega) hng0).mono ?_
  rintro e w20 ⟨rfl, u20, g20⟩
  have B20 := below_mark B19 lbg0.out g20
  have bbp0_20 : Blk w20 (w.heap.size) 38 #[.slice A0 n0 c0] := Blk.grown bbp0_19 g20 (Blk.apart bbp0_19 og0_19 (by decide))
  have kp0_20 := Blk.cell0 bbp0_20
  have bbp1_20 : Blk w20 (w.heap.size + 1) 38 #[.slice A1 n1 c1] := Blk.grown bbp1_19 g20 (Blk.apart bbp1_19 og0_19 (by decide))
  have kp1_20 := Blk.cell0 bbp1_20
  have bbw0_20 : Blk w20 (bww0) 42 #[.slice Aw0 nw0 cw0] := Blk.grown bbw0_19 g20 (Blk.apart bbw0_19 og0_19 (by decide))
  have kw0_20 := Blk.cell0 bbw0_20
  have bbw1_20 : Blk w20 (bww1) 42 #[.slice Aw1 nw1 cw1] := Blk.grown bbw1_19 g20 (Blk.apart bbw1_19 og0_19 (by decide))
  have kw1_20 := Blk.cell0 bbw1_20
  have bbx0_20 : Blk w20 (w7.heap.size) 42 #[.slice Ax0 n0 cx0] := Blk.grown bbx0_19 g20 (Blk.apart bbx0_19 og0_19 (by decide))
  have kx0_20 := Blk.cell0 bbx0_20
  have bbx1_20 : Blk w20 (w8.heap.size) 42 #[.slice Ax1 n1 cx1] := Blk.grown bbx1_19 g20 (Blk.apart bbx1_19 og0_19 (by decide))
  have kx1_20 := Blk.cell0 bbx1_20
  have bbg0_20 : Blk w20 (w9.heap.size) 42 #[.slice Ag0 ng0 cg0] := Blk.grown bbg0_19 g20 (Blk.apart bbg0_19 og0_19 (by decide))
  have kg0_20 := Blk.cell0 bbg0_20
  have bbg1_20 : Blk w20 (w9.heap.size + 1) 42 #[.slice Ag1 ng1 cg1] := Blk.grown bbg1_19 g20 (Blk.apart bbg1_19 og0_19 (by decide))
  have kg1_20 := Blk.cell0 bbg1_20
  have ow0_20 := own_mark ow0_19 (Apart.symm ap_w0_g0) g20
  have ow1_20 := own_mark ow1_19 (Apart.symm ap_w1_g0) g20
  have og1_20 := own_mark og1_19 ap_g0_g1 g20
  clear kp0_19 bbp0_19 kp1_19 bbp1_19 kw0_19 bbw0_19 kw1_19 bbw1_19 kx0_19 bbx0_19 kx1_19 bbx1_19 kg0_19 bbg0_19 kg1_19 bbg1_19 ow0_19 ow1_19 og1_19 og0_19 g20 B19
  go_wp2_with fail
  refine (markWhole_any Ag1 ng1 cg1 (divOF xs0 xs1 a2).2.1 (1 + ng0) _ _ og1_20 (by omega) (by omega) hng1).mono ?_
  rintro e w21 ⟨rfl, u21, g21⟩
  have B21 := below_mark B20 lbg1.out g21
  have bbp0_21 : Blk w21 (w.heap.size) 38 #[.slice A0 n0 c0] := Blk.grown bbp0_20 g21 (Blk.apart bbp0_20 og1_20 (by decide))
  have kp0_21 := Blk.cell0 bbp0_21
  have bbp1_21 : Blk w21 (w.heap.size + 1) 38 #[.slice A1 n1 c1] := Blk.grown bbp1_20 g21 (Blk.apart bbp1_20 og1_20 (by decide))
  have kp1_21 := Blk.cell0 bbp1_21
  have bbw0_21 : Blk w21 (bww0) 42 #[.slice Aw0 nw0 cw0] := Blk.grown bbw0_20 g21 (Blk.apart bbw0_20 og1_20 (by decide))
  have kw0_21 := Blk.cell0 bbw0_21
  have bbw1_21 : Blk w21 (bww1) 42 #[.slice Aw1 nw1 cw1] := Blk.grown bbw1_20 g21 (Blk.apart bbw1_20 og1_20 (by decide))
  have kw1_21 := Blk.cell0 bbw1_21
  have bbx0_21 : Blk w21 (w7.heap.size) 42 #[.slice Ax0 n0 cx0] := Blk.grown bbx0_20 g21 (Blk.apart bbx0_20 og1_20 (by decide))
  have kx0_21 := Blk.cell0 bbx0_21
  have bbx1_21 : Blk w21 (w8.heap.size) 42 #[.slice Ax1 n1 cx1] := Blk.grown bbx1_20 g21 (Blk.apart bbx1_20 og1_20 (by decide))
  have kx1_21 := Blk.cell0 bbx1_21
  have bbg0_21 : Blk w21 (w9.heap.size) 42 #[.slice Ag0 ng0 cg0] := Blk.grown bbg0_20 g21 (Blk.apart bbg0_20 og1_20 (by decide))
  have kg0_21 := Blk.cell0 bbg0_21
  have bbg1_21 : Blk w21 (w9.heap.size + 1) 42 #[.slice Ag1 ng1 cg1] := Blk.grown bbg1_20 g21 (Blk.apart bbg1_20 og1_20 (by decide))
  have kg1_21 := Blk.cell0 bbg1_21
  have ow0_21 := own_mark ow0_20 (Apart.symm ap_w0_g1) g21
  have ow1_21 := own_mark ow1_20 (Apart.symm ap_w1_g1) g21
  have og0_21 := own_mark u20 (Apart.symm ap_g0_g1) g21
  clear kp0_20 bbp0_20 kp1_20 bbp1_20 kw0_20 bbw0_20 kw1_20 bbw1_20 kx0_20 bbx0_20 kx1_20 bbx1_20 kg0_20 bbg0_20 kg1_20 bbg1_20 ow0_20 ow1_20 u20 og1_20 g21 B20
  go_wp2_with fail
  refine (heldWhole_any Ag0 ng0 cg0 (1) _ (Mine.rd og0_21) (by omega) (by omega) hng0).mono ?_
  rintro e w22 ⟨rfl, b22⟩
  have B22 := bthen B21 b22
  have bbp0_22 : Blk w22 (w.heap.size) 38 #[.slice A0 n0 c0] := Blk.kept bbp0_21 b22
  have kp0_22 := cell_kept b22 kp0_21
  have bbp1_22 : Blk w22 (w.heap.size + 1) 38 #[.slice A1 n1 c1] := Blk.kept bbp1_21 b22
  have kp1_22 := cell_kept b22 kp1_21
  have bbw0_22 : Blk w22 (bww0) 42 #[.slice Aw0 nw0 cw0] := Blk.kept bbw0_21 b22
  have kw0_22 := cell_kept b22 kw0_21
  have bbw1_22 : Blk w22 (bww1) 42 #[.slice Aw1 nw1 cw1] := Blk.kept bbw1_21 b22
  have kw1_22 := cell_kept b22 kw1_21
  have bbx0_22 : Blk w22 (w7.heap.size) 42 #[.slice Ax0 n0 cx0] := Blk.kept bbx0_21 b22
  have kx0_22 := cell_kept b22 kx0_21
  have bbx1_22 : Blk w22 (w8.heap.size) 42 #[.slice Ax1 n1 cx1] := Blk.kept bbx1_21 b22
  have kx1_22 := cell_kept b22 kx1_21
  have bbg0_22 : Blk w22 (w9.heap.size) 42 #[.slice Ag0 ng0 cg0] := Blk.kept bbg0_21 b22
  have kg0_22 := cell_kept b22 kg0_21
  have bbg1_22 : Blk w22 (w9.heap.size + 1) 42 #[.slice Ag1 ng1 cg1] := Blk.kept bbg1_21 b22
  have kg1_22 := cell_kept b22 kg1_21
  have ow0_22 := Mine.below ow0_21 b22
  have ow1_22 := Mine.below ow1_21 b22
  have og0_22 := Mine.below og0_21 b22
  have og1_22 := Mine.below u21 b22
  clear bbp0_21 kp0_21 bbp1_21 kp1_21 bbw0_21 kw0_21 bbw1_21 kw1_21 bbx0_21 kx0_21 bbx1_21 kx1_21 bbg0_21 kg0_21 bbg1_21 kg1_21 ow0_21 ow1_21 og0_21 u21 B21 b22
  go_wp2_with fail
  refine (heldWhole_any Ag1 ng1 cg1 (1 + ng0) _ (Mine.rd og1_22) (by omega) (by omega) hng1).mono ?_
  rintro e w23 ⟨rfl, b23⟩
  have B23 := bthen B22 b23
  have bbp0_23 : Blk w23 (w.heap.size) 38 #[.slice A0 n0 c0] := Blk.kept bbp0_22 b23
  have kp0_23 := cell_kept b23 kp0_22
  have bbp1_23 : Blk w23 (w.heap.size + 1) 38 #[.slice A1 n1 c1] := Blk.kept bbp1_22 b23
  have kp1_23 := cell_kept b23 kp1_22
  have bbw0_23 : Blk w23 (bww0) 42 #[.slice Aw0 nw0 cw0] := Blk.kept bbw0_22 b23
  have kw0_23 := cell_kept b23 kw0_22
  have bbw1_23 : Blk w23 (bww1) 42 #[.slice Aw1 nw1 cw1] := Blk.kept bbw1_22 b23
  have kw1_23 := cell_kept b23 kw1_22
  have bbx0_23 : Blk w23 (w7.heap.size) 42 #[.slice Ax0 n0 cx0] := Blk.kept bbx0_22 b23
  have kx0_23 := cell_kept b23 kx0_22
  have bbx1_23 : Blk w23 (w8.heap.size) 42 #[.slice Ax1 n1 cx1] := Blk.kept bbx1_22 b23
  have kx1_23 := cell_kept b23 kx1_22
  have bbg0_23 : Blk w23 (w9.heap.size) 42 #[.slice Ag0 ng0 cg0] := Blk.kept bbg0_22 b23
  have kg0_23 := cell_kept b23 kg0_22
  have bbg1_23 : Blk w23 (w9.heap.size + 1) 42 #[.slice Ag1 ng1 cg1] := Blk.kept bbg1_22 b23
  have kg1_23 := cell_kept b23 kg1_22
  have ow0_23 := Mine.below ow0_22 b23
  have ow1_23 := Mine.below ow1_22 b23
  have og0_23 := Mine.below og0_22 b23
  have og1_23 := Mine.below og1_22 b23
  clear bbp0_22 kp0_22 bbp1_22 kp1_22 bbw0_22 kw0_22 bbw1_22 kw1_22 bbx0_22 kx0_22 bbx1_22 kx1_22 bbg0_22 kg0_22 bbg1_22 kg1_22 ow0_22 ow1_22 og0_22 og1_22 B22 b23
  go_upto_region 35 with (fail)
  go_cut [19, 20, 21] (fun sa sb sc wx => ∃ bw bz Ah0 nh0 ch0 Ah1 nh1 ch1, sa = .pointer (some ⟨bw, 0, none⟩) ∧ sb = .pointer (some ⟨bz, 0, none⟩) ∧ sc = .bool (divOF xs0 xs1 a2).2.2 ∧ Blk wx bw 42 #[.slice Ah0 nh0 ch0] ∧ Blk wx bz 42 #[.slice Ah1 nh1 ch1] ∧ Mine wx w23.heap.size Ah0 nh0 ch0 (divOF xs0 xs1 a2).1 ∧ Mine wx w23.heap.size Ah1 nh1 ch1 (divOF xs0 xs1 a2).2.1 ∧ Apart Ah0 nh0 Ah1 nh1 ∧ Below w23.heap.size w23 wx)
  case first =>
   as_aux_lemma =>
    go_region_held3 (fun wx => wx.cell? ⟨w.heap.size, 0, none⟩ = some (.slice A0 n0 c0) ∧ wx.cell? ⟨w.heap.size + 1, 0, none⟩ = some (.slice A1 n1 c1))
      (first | exact ⟨kp0_23, kp1_23⟩ | (refine ⟨cell_kept (w := w23) ?_ kp0_23, cell_kept (w := w23) ?_ kp1_23⟩ <;> (repeat (with_reducible first | exact K26 | exact K25 | exact K24 | exact Below.refl _ _ | refine kdrew ?_ | refine kal ?_ _ | refine kset ?_ ?_ | exact g0a | exact g0b | exact g1a | exact g1b | exact g2a | exact g2b))) | go_keep)
      (first
        | (go_at_call_of 19 (Value.agg #[Value.slice A0 n0 c0]); refine (toWhole_any A0 n0 c0 xs0 _ (h0.in_ (bthen B23 (by repeat (with_reducible first | exact K26 | exact K25 | exact K24 | exact Below.refl _ _ | refine kdrew ?_ | refine kal ?_ _ | refine kset ?_ ?_ | exact g0a | exact g0b | exact g1a | exact g1b | exact g2a | exact g2b)))) hn0).mono ?_; rintro e w24 ⟨As0, cs0, rfl, u24, b24⟩; have K24 : Below w23.heap.size w23 w24 := bthen (by repeat (with_reducible first | exact K26 | exact K25 | exact K24 | exact Below.refl _ _ | refine kdrew ?_ | refine kal ?_ _ | refine kset ?_ ?_ | exact g0a | exact g0b | exact g1a | exact g1b | exact g2a | exact g2b)) b24; have kq0_24 := cell_kept K24 kp0_23; have kq1_24 := cell_kept K24 kp1_23; (try have X0a_24 : Blk w24 (w23.heap.size) 42 #[.slice none 0 0] := by first | exact Blk.kept (Blk.drew (Blk.new w23 _ _)) b24 | exact Blk.kept (Blk.drew (Blk.alloc (Blk.new w23 _ _) _)) b24); (try have X0b_24 : Blk w24 (w23.heap.size + 1) 42 #[.slice none 0 0] := by first | exact Blk.kept (Blk.drew (Blk.new_at (w23.alloc _) _ _ (by simp))) b24); have g0a : w23.heap.size ≤ w23.heap.size := Nat.le_refl _; have g0b : w23.heap.size ≤ w23.heap.size + 1 := Nat.le_succ_of_le g0a; (try have lX0a_24 := Blk.lt X0a_24); (try have lX0b_24 := Blk.lt X0b_24); have z24 : w23.heap.size ≤ w24.heap.size := Below.size K24; have us0_24 : Mine w24 w23.heap.size As0 n0 cs0 xs0 := Mine.low u24 (by first | exact Nat.le_refl _ | exact g0a | (simp <;> omega)))
        | (go_at_call_of 19 (Value.agg #[Value.slice A1 n1 c1]); refine (toWhole_any A1 n1 c1 xs1 _ (h1.in_ (bthen B23 (by repeat (with_reducible first | exact K26 | exact K25 | exact K24 | exact Below.refl _ _ | refine kdrew ?_ | refine kal ?_ _ | refine kset ?_ ?_ | exact g0a | exact g0b | exact g1a | exact g1b | exact g2a | exact g2b)))) hn1).mono ?_; rintro e w25 ⟨As1, cs1, rfl, u25, b25⟩; have K25 : Below w23.heap.size w23 w25 := bthen (by repeat (with_reducible first | exact K26 | exact K25 | exact K24 | exact Below.refl _ _ | refine kdrew ?_ | refine kal ?_ _ | refine kset ?_ ?_ | exact g0a | exact g0b | exact g1a | exact g1b | exact g2a | exact g2b)) b25; have kq0_25 := cell_kept K25 kp0_23; have kq1_25 := cell_kept K25 kp1_23; (try have X0a_25 : Blk w25 (w23.heap.size) 42 #[.slice none 0 0] := by first | exact Blk.kept X0a_24 b25 | exact Blk.kept (Blk.alloc X0a_24 _) b25 | exact Blk.kept (Blk.alloc (Blk.alloc X0a_24 _) _) b25); (try have X0b_25 : Blk w25 (w23.heap.size + 1) 42 #[.slice none 0 0] := by first | exact Blk.kept X0b_24 b25 | exact Blk.kept (Blk.alloc X0b_24 _) b25 | exact Blk.kept (Blk.alloc (Blk.alloc X0b_24 _) _) b25); (try have X1a_25 : Blk w25 (w24.heap.size) 42 #[.slice none 0 0] := by first | exact Blk.kept (Blk.new w24 _ _) b25 | exact Blk.kept (Blk.alloc (Blk.new w24 _ _) _) b25); (try have X1b_25 : Blk w25 (w24.heap.size + 1) 42 #[.slice none 0 0] := by first | exact Blk.kept (Blk.new_at (w24.alloc _) _ _ (by simp)) b25); have g1a : w23.heap.size ≤ w24.heap.size := Below.size K24; have g1b : w23.heap.size ≤ w24.heap.size + 1 := Nat.le_succ_of_le g1a; (try have lX0a_25 := Blk.lt X0a_25); (try have lX0b_25 := Blk.lt X0b_25); (try have lX1a_25 := Blk.lt X1a_25); (try have lX1b_25 := Blk.lt X1b_25); have z25 : w23.heap.size ≤ w25.heap.size := Below.size K25; have us0_25 : Mine w25 w23.heap.size As0 n0 cs0 xs0 := (by first | exact Mine.below us0_24 b25 | exact Mine.below (Mine.alloc us0_24 _) b25 | exact Mine.below (Mine.alloc (Mine.alloc us0_24 _) _) b25); have us1_25 : Mine w25 w23.heap.size As1 n1 cs1 xs1 := Mine.low u25 (by first | exact Nat.le_refl _ | exact g1a | (simp <;> omega)))
        | (go_at_call 32; refine (divOver_own As0 n0 cs0 xs0 As1 n1 cs1 xs1 a2 _ (by first | exact Mine.rd us0_25 | exact Mine.rd (Mine.alloc us0_25 _) | exact Mine.rd (Mine.alloc (Mine.alloc us0_25 _) _)) (by first | exact Mine.rd us1_25 | exact Mine.rd (Mine.alloc us1_25 _) | exact Mine.rd (Mine.alloc (Mine.alloc us1_25 _) _)) bd2 hn0 hn1).mono ?_; rintro e w26 ⟨Ah0, nh0, ch0, Ah1, nh1, ch1, rfl, u26, v26, ap26, b26⟩; have K26 : Below w23.heap.size w23 w26 := bthen (by repeat (with_reducible first | exact K26 | exact K25 | exact K24 | exact Below.refl _ _ | refine kdrew ?_ | refine kal ?_ _ | refine kset ?_ ?_ | exact g0a | exact g0b | exact g1a | exact g1b | exact g2a | exact g2b)) b26; have kq0_26 := cell_kept K26 kp0_23; have kq1_26 := cell_kept K26 kp1_23; (try have X0a_26 : Blk w26 (w23.heap.size) 42 #[.slice none 0 0] := by first | exact Blk.kept X0a_25 b26 | exact Blk.kept (Blk.alloc X0a_25 _) b26 | exact Blk.kept (Blk.alloc (Blk.alloc X0a_25 _) _) b26); (try have X0b_26 : Blk w26 (w23.heap.size + 1) 42 #[.slice none 0 0] := by first | exact Blk.kept X0b_25 b26 | exact Blk.kept (Blk.alloc X0b_25 _) b26 | exact Blk.kept (Blk.alloc (Blk.alloc X0b_25 _) _) b26); (try have X1a_26 : Blk w26 (w24.heap.size) 42 #[.slice none 0 0] := by first | exact Blk.kept X1a_25 b26 | exact Blk.kept (Blk.alloc X1a_25 _) b26 | exact Blk.kept (Blk.alloc (Blk.alloc X1a_25 _) _) b26); (try have X1b_26 : Blk w26 (w24.heap.size + 1) 42 #[.slice none 0 0] := by first | exact Blk.kept X1b_25 b26 | exact Blk.kept (Blk.alloc X1b_25 _) b26 | exact Blk.kept (Blk.alloc (Blk.alloc X1b_25 _) _) b26); (try have X2a_26 : Blk w26 (w25.heap.size) 42 #[.slice none 0 0] := by first | exact Blk.kept (Blk.new w25 _ _) b26 | exact Blk.kept (Blk.alloc (Blk.new w25 _ _) _) b26); (try have X2b_26 : Blk w26 (w25.heap.size + 1) 42 #[.slice none 0 0] := by first | exact Blk.kept (Blk.new_at (w25.alloc _) _ _ (by simp)) b26); have g2a : w23.heap.size ≤ w25.heap.size := Below.size K25; have g2b : w23.heap.size ≤ w25.heap.size + 1 := Nat.le_succ_of_le g2a; (try have lX0a_26 := Blk.lt X0a_26); (try have lX0b_26 := Blk.lt X0b_26); (try have lX1a_26 := Blk.lt X1a_26); (try have lX1b_26 := Blk.lt X1b_26); (try have lX2a_26 := Blk.lt X2a_26); (try have lX2b_26 := Blk.lt X2b_26); have z26 : w23.heap.size ≤ w26.heap.size := Below.size K26; have us0_26 : Mine w26 w23.heap.size As0 n0 cs0 xs0 := (by first | exact Mine.below us0_25 b26 | exact Mine.below (Mine.alloc us0_25 _) b26 | exact Mine.below (Mine.alloc (Mine.alloc us0_25 _) _) b26); have us1_26 : Mine w26 w23.heap.size As1 n1 cs1 xs1 := (by first | exact Mine.below us1_25 b26 | exact Mine.below (Mine.alloc us1_25 _) b26 | exact Mine.below (Mine.alloc (Mine.alloc us1_25 _) _) b26); have UA : Mine w26 w23.heap.size Ah0 nh0 ch0 (divOF xs0 xs1 a2).1 := Mine.low u26 (by first | exact Nat.le_refl _ | exact g2a | (simp <;> omega)); have UB : Mine w26 w23.heap.size Ah1 nh1 ch1 (divOF xs0 xs1 a2).2.1 := Mine.low v26 (by first | exact Nat.le_refl _ | exact g2a | (simp <;> omega)); have APX : Hid (Apart Ah0 nh0 Ah1 nh1) := ap26; (try have cX0a := Blk.cell0 X0a_26); (try have fX0a := Blk.frozen0 X0a_26); (try have aX0a := Lib.hid (Blk.apart X0a_26 UA (by decide))); (try have eX0a := Lib.hid (Blk.apart X0a_26 UB (by decide))); (try have cX0b := Blk.cell0 X0b_26); (try have fX0b := Blk.frozen0 X0b_26); (try have aX0b := Lib.hid (Blk.apart X0b_26 UA (by decide))); (try have eX0b := Lib.hid (Blk.apart X0b_26 UB (by decide))); (try have cX1a := Blk.cell0 X1a_26); (try have fX1a := Blk.frozen0 X1a_26); (try have aX1a := Lib.hid (Blk.apart X1a_26 UA (by decide))); (try have eX1a := Lib.hid (Blk.apart X1a_26 UB (by decide))); (try have cX1b := Blk.cell0 X1b_26); (try have fX1b := Blk.frozen0 X1b_26); (try have aX1b := Lib.hid (Blk.apart X1b_26 UA (by decide))); (try have eX1b := Lib.hid (Blk.apart X1b_26 UB (by decide))); (try have cX2a := Blk.cell0 X2a_26); (try have fX2a := Blk.frozen0 X2a_26); (try have aX2a := Lib.hid (Blk.apart X2a_26 UA (by decide))); (try have eX2a := Lib.hid (Blk.apart X2a_26 UB (by decide))); (try have cX2b := Blk.cell0 X2b_26); (try have fX2b := Blk.frozen0 X2b_26); (try have aX2b := Lib.hid (Blk.apart X2b_26 UA (by decide))); (try have eX2b := Lib.hid (Blk.apart X2b_26 UB (by decide)))))
    all_goals
      go_wp2_with fail
      go_meet
      refine ⟨_, _, Ah0, nh0, ch0, Ah1, nh1, ch1, rfl, rfl, rfl, ?_, ?_, ?_, ?_, APX.out, ?_⟩
      · repeat (first | with_reducible exact Blk.new _ _ _ | with_reducible refine Blk.set0 (v := .slice none 0 0) ?_ _ | (with_reducible refine Blk.set_other ?_ ?hNE _; case hNE => omega) | (with_reducible refine Blk.new_at _ _ _ ?_; simp; done) | with_reducible refine Blk.alloc ?_ _ | with_reducible exact X0a_26 | with_reducible exact X0b_26 | with_reducible exact X1a_26 | with_reducible exact X1b_26 | with_reducible exact X2a_26 | with_reducible exact X2b_26)
      · repeat (first | with_reducible exact Blk.new _ _ _ | with_reducible refine Blk.set0 (v := .slice none 0 0) ?_ _ | (with_reducible refine Blk.set_other ?_ ?hNE _; case hNE => omega) | (with_reducible refine Blk.new_at _ _ _ ?_; simp; done) | with_reducible refine Blk.alloc ?_ _ | with_reducible exact X0a_26 | with_reducible exact X0b_26 | with_reducible exact X1a_26 | with_reducible exact X1b_26 | with_reducible exact X2a_26 | with_reducible exact X2b_26)
      · repeat (with_reducible first | exact UA | refine Mine.alloc ?_ _ | refine mine_set ?_ ?_ _ | exact aX0a.out | exact aX0b.out | exact aX1a.out | exact aX1b.out | exact aX2a.out | exact aX2b.out)
      · repeat (with_reducible first | exact UB | refine Mine.alloc ?_ _ | refine mine_set ?_ ?_ _ | exact eX0a.out | exact eX0b.out | exact eX1a.out | exact eX1b.out | exact eX2a.out | exact eX2b.out)
      · repeat (with_reducible first | exact K26 | exact K25 | exact K24 | exact Below.refl _ _ | refine kdrew ?_ | refine kal ?_ _ | refine kset ?_ ?_ | exact g0a | exact g0b | exact g1a | exact g1b | exact g2a | exact g2b)
  obtain ⟨bwh0, bwh1, Ah0, nh0, ch0, Ah1, nh1, ch1, rfl, rfl, rfl, bbh0_27, bbh1_27, u27, v27, ap_h0_h1, b27⟩ := hcut
  obtain ⟨w27, rfl⟩ : ∃ w27 : World, w27 = wc := ⟨_, rfl⟩
  have kh0_27 := Blk.cell0 bbh0_27
  have kh1_27 := Blk.cell0 bbh1_27
  have B27 := bthen B23 b27
  have bbp0_27 : Blk w27 (w.heap.size) 38 #[.slice A0 n0 c0] := Blk.kept bbp0_23 b27
  have kp0_27 := cell_kept b27 kp0_23
  have bbp1_27 : Blk w27 (w.heap.size + 1) 38 #[.slice A1 n1 c1] := Blk.kept bbp1_23 b27
  have kp1_27 := cell_kept b27 kp1_23
  have bbw0_27 : Blk w27 (bww0) 42 #[.slice Aw0 nw0 cw0] := Blk.kept bbw0_23 b27
  have kw0_27 := cell_kept b27 kw0_23
  have bbw1_27 : Blk w27 (bww1) 42 #[.slice Aw1 nw1 cw1] := Blk.kept bbw1_23 b27
  have kw1_27 := cell_kept b27 kw1_23
  have bbx0_27 : Blk w27 (w7.heap.size) 42 #[.slice Ax0 n0 cx0] := Blk.kept bbx0_23 b27
  have kx0_27 := cell_kept b27 kx0_23
  have bbx1_27 : Blk w27 (w8.heap.size) 42 #[.slice Ax1 n1 cx1] := Blk.kept bbx1_23 b27
  have kx1_27 := cell_kept b27 kx1_23
  have bbg0_27 : Blk w27 (w9.heap.size) 42 #[.slice Ag0 ng0 cg0] := Blk.kept bbg0_23 b27
  have kg0_27 := cell_kept b27 kg0_23
  have bbg1_27 : Blk w27 (w9.heap.size + 1) 42 #[.slice Ag1 ng1 cg1] := Blk.kept bbg1_23 b27
  have kg1_27 := cell_kept b27 kg1_23
  have ow0_27 := Mine.below ow0_23 b27
  have ow1_27 := Mine.below ow1_23 b27
  have og0_27 := Mine.below og0_23 b27
  have og1_27 := Mine.below og1_23 b27
  clear bbp0_23 kp0_23 bbp1_23 kp1_23 bbw0_23 kw0_23 bbw1_23 kw1_23 bbx0_23 kx0_23 bbx1_23 kx1_23 bbg0_23 kg0_23 bbg1_23 kg1_23 ow0_23 ow1_23 og0_23 og1_23 B23 b27
  go_wp2_with fail
  refine (eqWhole_any Ah0 nh0 ch0 (divOF xs0 xs1 a2).1 Aw0 nw0 cw0 (divOF xs0 xs1 a2).1 _ (Mine.rd u27) (Mine.rd ow0_27)).mono ?_
  rintro e w28 ⟨rfl, b28⟩
  have B28 := bthen B27 b28
  have bbp0_28 : Blk w28 (w.heap.size) 38 #[.slice A0 n0 c0] := Blk.kept bbp0_27 b28
  have kp0_28 := cell_kept b28 kp0_27
  have bbp1_28 : Blk w28 (w.heap.size + 1) 38 #[.slice A1 n1 c1] := Blk.kept bbp1_27 b28
  have kp1_28 := cell_kept b28 kp1_27
  have bbw0_28 : Blk w28 (bww0) 42 #[.slice Aw0 nw0 cw0] := Blk.kept bbw0_27 b28
  have kw0_28 := cell_kept b28 kw0_27
  have bbw1_28 : Blk w28 (bww1) 42 #[.slice Aw1 nw1 cw1] := Blk.kept bbw1_27 b28
  have kw1_28 := cell_kept b28 kw1_27
  have bbx0_28 : Blk w28 (w7.heap.size) 42 #[.slice Ax0 n0 cx0] := Blk.kept bbx0_27 b28
  have kx0_28 := cell_kept b28 kx0_27
  have bbx1_28 : Blk w28 (w8.heap.size) 42 #[.slice Ax1 n1 cx1] := Blk.kept bbx1_27 b28
  have kx1_28 := cell_kept b28 kx1_27
  have bbg0_28 : Blk w28 (w9.heap.size) 42 #[.slice Ag0 ng0 cg0] := Blk.kept bbg0_27 b28
  have kg0_28 := cell_kept b28 kg0_27
  have bbg1_28 : Blk w28 (w9.heap.size + 1) 42 #[.slice Ag1 ng1 cg1] := Blk.kept bbg1_27 b28
  have kg1_28 := cell_kept b28 kg1_27
  have bbh0_28 : Blk w28 (bwh0) 42 #[.slice Ah0 nh0 ch0] := Blk.kept bbh0_27 b28
  have kh0_28 := cell_kept b28 kh0_27
  have bbh1_28 : Blk w28 (bwh1) 42 #[.slice Ah1 nh1 ch1] := Blk.kept bbh1_27 b28
  have kh1_28 := cell_kept b28 kh1_27
  have ow0_28 := Mine.below ow0_27 b28
  have ow1_28 := Mine.below ow1_27 b28
  have og0_28 := Mine.below og0_27 b28
  have og1_28 := Mine.below og1_27 b28
  have oh0_28 := Mine.below u27 b28
  have oh1_28 := Mine.below v27 b28
  clear bbp0_27 kp0_27 bbp1_27 kp1_27 bbw0_27 kw0_27 bbw1_27 kw1_27 bbx0_27 kx0_27 bbx1_27 kx1_27 bbg0_27 kg0_27 bbg1_27 kg1_27 bbh0_27 kh0_27 bbh1_27 kh1_27 ow0_27 ow1_27 og0_27 og1_27 u27 v27 B27 b28
  go_wp2_with fail
  refine (eqWhole_any Ah1 nh1 ch1 (divOF xs0 xs1 a2).2.1 Aw1 nw1 cw1 (divOF xs0 xs1 a2).2.1 _ (Mine.rd oh1_28) (Mine.rd ow1_28)).mono ?_
  rintro e w29 ⟨rfl, b29⟩
  have B29 := bthen B28 b29
  have bbp0_29 : Blk w29 (w.heap.size) 38 #[.slice A0 n0 c0] := Blk.kept bbp0_28 b29
  have kp0_29 := cell_kept b29 kp0_28
  have bbp1_29 : Blk w29 (w.heap.size + 1) 38 #[.slice A1 n1 c1] := Blk.kept bbp1_28 b29
  have kp1_29 := cell_kept b29 kp1_28
  have bbw0_29 : Blk w29 (bww0) 42 #[.slice Aw0 nw0 cw0] := Blk.kept bbw0_28 b29
  have kw0_29 := cell_kept b29 kw0_28
  have bbw1_29 : Blk w29 (bww1) 42 #[.slice Aw1 nw1 cw1] := Blk.kept bbw1_28 b29
  have kw1_29 := cell_kept b29 kw1_28
  have bbx0_29 : Blk w29 (w7.heap.size) 42 #[.slice Ax0 n0 cx0] := Blk.kept bbx0_28 b29
  have kx0_29 := cell_kept b29 kx0_28
  have bbx1_29 : Blk w29 (w8.heap.size) 42 #[.slice Ax1 n1 cx1] := Blk.kept bbx1_28 b29
  have kx1_29 := cell_kept b29 kx1_28
  have bbg0_29 : Blk w29 (w9.heap.size) 42 #[.slice Ag0 ng0 cg0] := Blk.kept bbg0_28 b29
  have kg0_29 := cell_kept b29 kg0_28
  have bbg1_29 : Blk w29 (w9.heap.size + 1) 42 #[.slice Ag1 ng1 cg1] := Blk.kept bbg1_28 b29
  have kg1_29 := cell_kept b29 kg1_28
  have bbh0_29 : Blk w29 (bwh0) 42 #[.slice Ah0 nh0 ch0] := Blk.kept bbh0_28 b29
  have kh0_29 := cell_kept b29 kh0_28
  have bbh1_29 : Blk w29 (bwh1) 42 #[.slice Ah1 nh1 ch1] := Blk.kept bbh1_28 b29
  have kh1_29 := cell_kept b29 kh1_28
  have ow0_29 := Mine.below ow0_28 b29
  have ow1_29 := Mine.below ow1_28 b29
  have og0_29 := Mine.below og0_28 b29
  have og1_29 := Mine.below og1_28 b29
  have oh0_29 := Mine.below oh0_28 b29
  have oh1_29 := Mine.below oh1_28 b29
  clear bbp0_28 kp0_28 bbp1_28 kp1_28 bbw0_28 kw0_28 bbw1_28 kw1_28 bbx0_28 kx0_28 bbx1_28 kx1_28 bbg0_28 kg0_28 bbg1_28 kg1_28 bbh0_28 kh0_28 bbh1_28 kh1_28 ow0_28 ow1_28 og0_28 og1_28 oh0_28 oh1_28 B28 b29
  go_wp2_with fail
  refine (heldWhole_any Ag0 ng0 cg0 (1) _ (Mine.rd og0_29) (by omega) (by omega) hng0).mono ?_
  rintro e w30 ⟨rfl, b30⟩
  have B30 := bthen B29 b30
  have bbp0_30 : Blk w30 (w.heap.size) 38 #[.slice A0 n0 c0] := Blk.kept bbp0_29 b30
  have kp0_30 := cell_kept b30 kp0_29
  have bbp1_30 : Blk w30 (w.heap.size + 1) 38 #[.slice A1 n1 c1] := Blk.kept bbp1_29 b30
  have kp1_30 := cell_kept b30 kp1_29
  have bbw0_30 : Blk w30 (bww0) 42 #[.slice Aw0 nw0 cw0] := Blk.kept bbw0_29 b30
  have kw0_30 := cell_kept b30 kw0_29
  have bbw1_30 : Blk w30 (bww1) 42 #[.slice Aw1 nw1 cw1] := Blk.kept bbw1_29 b30
  have kw1_30 := cell_kept b30 kw1_29
  have bbx0_30 : Blk w30 (w7.heap.size) 42 #[.slice Ax0 n0 cx0] := Blk.kept bbx0_29 b30
  have kx0_30 := cell_kept b30 kx0_29
  have bbx1_30 : Blk w30 (w8.heap.size) 42 #[.slice Ax1 n1 cx1] := Blk.kept bbx1_29 b30
  have kx1_30 := cell_kept b30 kx1_29
  have bbg0_30 : Blk w30 (w9.heap.size) 42 #[.slice Ag0 ng0 cg0] := Blk.kept bbg0_29 b30
  have kg0_30 := cell_kept b30 kg0_29
  have bbg1_30 : Blk w30 (w9.heap.size + 1) 42 #[.slice Ag1 ng1 cg1] := Blk.kept bbg1_29 b30
  have kg1_30 := cell_kept b30 kg1_29
  have bbh0_30 : Blk w30 (bwh0) 42 #[.slice Ah0 nh0 ch0] := Blk.kept bbh0_29 b30
  have kh0_30 := cell_kept b30 kh0_29
  have bbh1_30 : Blk w30 (bwh1) 42 #[.slice Ah1 nh1 ch1] := Blk.kept bbh1_29 b30
  have kh1_30 := cell_kept b30 kh1_29
  have ow0_30 := Mine.below ow0_29 b30
  have ow1_30 := Mine.below ow1_29 b30
  have og0_30 := Mine.below og0_29 b30
  have og1_30 := Mine.below og1_29 b30
  have oh0_30 := Mine.below oh0_29 b30
  have oh1_30 := Mine.below oh1_29 b30
  clear bbp0_29 kp0_29 bbp1_29 kp1_29 bbw0_29 kw0_29 bbw1_29 kw1_29 bbx0_29 kx0_29 bbx1_29 kx1_29 bbg0_29 kg0_29 bbg1_29 kg1_29 bbh0_29 kh0_29 bbh1_29 kh1_29 ow0_29 ow1_29 og0_29 og1_29 oh0_29 oh1_29 B29 b30
  go_wp2_with fail
  refine (heldWhole_any Ag1 ng1 cg1 (1 + ng0) _ (Mine.rd og1_30) (by omega) (by omega) hng1).mono ?_
  rintro e w31 ⟨rfl, b31⟩
  have B31 := bthen B30 b31
  have bbp0_31 : Blk w31 (w.heap.size) 38 #[.slice A0 n0 c0] := Blk.kept bbp0_30 b31
  have kp0_31 := cell_kept b31 kp0_30
  have bbp1_31 : Blk w31 (w.heap.size + 1) 38 #[.slice A1 n1 c1] := Blk.kept bbp1_30 b31
  have kp1_31 := cell_kept b31 kp1_30
  have bbw0_31 : Blk w31 (bww0) 42 #[.slice Aw0 nw0 cw0] := Blk.kept bbw0_30 b31
  have kw0_31 := cell_kept b31 kw0_30
  have bbw1_31 : Blk w31 (bww1) 42 #[.slice Aw1 nw1 cw1] := Blk.kept bbw1_30 b31
  have kw1_31 := cell_kept b31 kw1_30
  have bbx0_31 : Blk w31 (w7.heap.size) 42 #[.slice Ax0 n0 cx0] := Blk.kept bbx0_30 b31
  have kx0_31 := cell_kept b31 kx0_30
  have bbx1_31 : Blk w31 (w8.heap.size) 42 #[.slice Ax1 n1 cx1] := Blk.kept bbx1_30 b31
  have kx1_31 := cell_kept b31 kx1_30
  have bbg0_31 : Blk w31 (w9.heap.size) 42 #[.slice Ag0 ng0 cg0] := Blk.kept bbg0_30 b31
  have kg0_31 := cell_kept b31 kg0_30
  have bbg1_31 : Blk w31 (w9.heap.size + 1) 42 #[.slice Ag1 ng1 cg1] := Blk.kept bbg1_30 b31
  have kg1_31 := cell_kept b31 kg1_30
  have bbh0_31 : Blk w31 (bwh0) 42 #[.slice Ah0 nh0 ch0] := Blk.kept bbh0_30 b31
  have kh0_31 := cell_kept b31 kh0_30
  have bbh1_31 : Blk w31 (bwh1) 42 #[.slice Ah1 nh1 ch1] := Blk.kept bbh1_30 b31
  have kh1_31 := cell_kept b31 kh1_30
  have ow0_31 := Mine.below ow0_30 b31
  have ow1_31 := Mine.below ow1_30 b31
  have og0_31 := Mine.below og0_30 b31
  have og1_31 := Mine.below og1_30 b31
  have oh0_31 := Mine.below oh0_30 b31
  have oh1_31 := Mine.below oh1_30 b31
  clear bbp0_30 kp0_30 bbp1_30 kp1_30 bbw0_30 kw0_30 bbw1_30 kw1_30 bbx0_30 kx0_30 bbx1_30 kx1_30 bbg0_30 kg0_30 bbg1_30 kg1_30 bbh0_30 kh0_30 bbh1_30 kh1_30 ow0_30 ow1_30 og0_30 og1_30 oh0_30 oh1_30 B30 b31
  go_wp2_with fail
  go_ret
  exact ⟨rfl, B31⟩
end Go.Proofs.Ytlfjnpioamcbhaa
