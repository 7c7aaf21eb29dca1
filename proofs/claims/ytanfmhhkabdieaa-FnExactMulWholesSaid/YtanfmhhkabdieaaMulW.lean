/- Contracts of MulWholes, the program's and the reference's: 'mulF'. Condition: at most 1048576 terms. -/
import Derived.Test.YtanfmhhkabdieaaMul
import Derived.Test.YtanfmhhkabdieaaTrim
import Derived.Test.YtanfmhhkabdieaaMarkWhole
namespace Go.Proofs.Ytanfmhhkabdieaa
open Go.RowKit

def mulF (xs ys : List Int) : List Int × Bool := if okW xs && okW ys then giveF (prodL xs ys) else ([], false)
theorem giveF_len (xs : List Int) : (giveF xs).1.length ≤ 1048576 := Nat.le_trans (checkF_len _) (by decide)
theorem mulF_len (xs ys : List Int) : (mulF xs ys).1.length ≤ 1048576 := by
  unfold mulF
  split
  · exact giveF_len _
  · simp

set_option maxHeartbeats 2000000 in
theorem mulw_ref (A : Option Addr) (n c : Nat) (xs : List Int) (A' : Option Addr) (m c' : Nat) (ys : List Int) (w : World) (h : Rd w w.heap.size A n c xs) (h' : Rd w w.heap.size A' m c' ys) (_hn : n ≤ 1048576) (_hm : m ≤ 1048576) :
    Calls Try.prog 16 #[.agg #[.slice A n c], .agg #[.slice A' m c']] w fun e w' => ∃ A2 n2 c2, e = .returned (.tuple #[.agg #[.slice A2 n2 c2], .bool (mulF xs ys).2]) ∧ Mine w' w.heap.size A2 n2 c2 (mulF xs ys).1 ∧ Below w.heap.size w w' := by
  have conx := fun b W H hb => isWhole_ref A n c xs b W H hb
  have cony := fun b W H hb => isWhole_ref A' m c' ys b W H hb
  cases tx : okW xs
  case false =>
    have he : mulF xs ys = ([], false) := by unfold mulF; simp [tx]
    rw [he]
    rw [tx] at conx
    have Hx := Lib.hid conx
    clear he conx cony
    go_enter Try.func16, Try.ntmps16
    go_wp2_with fail
    refine (Hx.out _ _ (h.in_ (al3 w _ _ _)) (by simp [go_sem])).mono ?_
    rintro e wz ⟨rfl, rfl⟩
    go_wp2_with fail
    refine bodyPost_ret (v := .tuple #[.agg #[.slice none 0 0], .bool false]) (by simp [results, Try.results16, go_sem]) rfl ⟨none, 0, 0, rfl, Mine.none_ _ _, ?_⟩
    exact (al3 w _ _ _)
  cases ty : okW ys
  case false =>
    have he : mulF xs ys = ([], false) := by unfold mulF; simp [tx, ty]
    rw [he]
    rw [tx] at conx
    have Hx := Lib.hid conx
    rw [ty] at cony
    have Hy := Lib.hid cony
    clear he conx cony
    go_enter Try.func16, Try.ntmps16
    go_wp2_with fail
    refine (Hx.out _ _ (h.in_ (al3 w _ _ _)) (by simp [go_sem])).mono ?_
    rintro e wz ⟨rfl, rfl⟩
    go_wp2_with fail
    refine (Hy.out _ _ (h'.in_ (al3 w _ _ _)) (by simp [go_sem])).mono ?_
    rintro e wz ⟨rfl, rfl⟩
    go_wp2_with fail
    refine bodyPost_ret (v := .tuple #[.agg #[.slice none 0 0], .bool false]) (by simp [results, Try.results16, go_sem]) rfl ⟨none, 0, 0, rfl, Mine.none_ _ _, ?_⟩
    exact (al3 w _ _ _)
  have he : mulF xs ys = giveF (prodL xs ys) := by unfold mulF; simp [tx, ty]
  rw [he]
  rw [tx] at conx
  have Hx := Lib.hid conx
  have Tx := Lib.hid tx
  rw [ty] at cony
  have Hy := Lib.hid cony
  have Ty := Lib.hid ty
  clear he conx cony
  have hl0 := okW_len Tx.out
  rw [h.len] at hl0
  have hl1 := okW_len Ty.out
  rw [h'.len] at hl1
  have HX := Lib.hid (okW_bd Tx.out)
  have HY := Lib.hid (okW_bd Ty.out)
  go_enter Try.func16, Try.ntmps16
  go_wp2_with fail
  refine (Hx.out _ _ (h.in_ (al3 w _ _ _)) (by simp [go_sem])).mono ?_
  rintro e wz ⟨rfl, rfl⟩
  go_wp2_with fail
  refine (Hy.out _ _ (h'.in_ (al3 w _ _ _)) (by simp [go_sem])).mono ?_
  rintro e wz ⟨rfl, rfl⟩
  go_wp2_with fail
  refine (mulL_ref A n c xs A' m c' ys _ (h.in_ (al3 w _ _ _)) (h'.in_ (al3 w _ _ _)) hl0 hl1 HX.out HY.out).mono ?_
  rintro e w1 ⟨A2, n2, c2, rfl, u2o, b1⟩
  have u2 := Mine.low u2o (base' := w.heap.size) (al3 w _ _ _).size
  have B1 := bthen (al3 w _ _ _) b1
  have P0_1 : Blk w1 (w.heap.size) 26 #[.slice A n c] := Blk.kept (Blk.alloc (Blk.alloc (Blk.new w _ _) _) _) b1
  have cp0_1 := P0_1.cell0
  have P1_1 : Blk w1 (w.heap.size + 1) 26 #[.slice A' m c'] := Blk.kept (Blk.alloc (Blk.new_at (w.alloc _) _ _ (by simp)) _) b1
  have cp1_1 := P1_1.cell0
  have R0_1 : Blk w1 (w.heap.size + 1 + 1) 26 #[.slice none 0 0] := Blk.kept (Blk.new_at ((w.alloc _).alloc _) _ _ (by simp)) b1
  clear b1
  have hl2 : 0 < n2 ∧ n2 ≤ 1048576 := by rw [← u2.len, prodL_len, h.len, h'.len]; omega
  clear u2o h h'
  go_wp2_with fail
  refine (give_ref A2 n2 c2 (prodL xs ys) _ u2.rd hl2.2 hl2.1).mono ?_
  rintro e w2 ⟨A3, n3, c3, rfl, u3o, b2⟩
  have u3 := Mine.low u3o (base' := w.heap.size) B1.size
  have B2 := bthen B1 b2
  have P0_2 : Blk w2 (w.heap.size) 26 #[.slice A n c] := Blk.kept P0_1 b2
  have cp0_2 := P0_2.cell0
  have P1_2 : Blk w2 (w.heap.size + 1) 26 #[.slice A' m c'] := Blk.kept P1_1 b2
  have cp1_2 := P1_2.cell0
  have R0_2 : Blk w2 (w.heap.size + 1 + 1) 26 #[.slice none 0 0] := Blk.kept R0_1 b2
  clear b2 B1 P0_1 cp0_1 P1_1 cp1_1 R0_1
  clear u3o u2
  have AR := Lib.hid (Blk.apart R0_2 u3 (by decide))
  have U := Lib.hid u3
  have BB := Lib.hid B2
  have cr := R0_2.cell0
  have fr := R0_2.frozen0
  go_wp2_with fail
  refine bodyPost_ret (v := .tuple #[.agg #[.slice A3 n3 c3], .bool (giveF (prodL xs ys)).2]) (by simp [results, Try.results16, go_sem, cr]) rfl ⟨A3, n3, c3, rfl, ?_, ?_⟩
  · exact mine_set U.out AR.out _
  · exact BB.out.setCell (by simp; omega) _

set_option maxHeartbeats 2000000 in
theorem mulw_own (A : Option Addr) (n c : Nat) (xs : List Int) (A' : Option Addr) (m c' : Nat) (ys : List Int) (w : World) (h : Rd w w.heap.size A n c xs) (h' : Rd w w.heap.size A' m c' ys) (_hn : n ≤ 1048576) (_hm : m ≤ 1048576) :
    Calls Try.prog 17 #[.agg #[.slice A n c], .agg #[.slice A' m c']] w fun e w' => ∃ A2 n2 c2, e = .returned (.tuple #[.agg #[.slice A2 n2 c2], .bool (mulF xs ys).2]) ∧ Mine w' w.heap.size A2 n2 c2 (mulF xs ys).1 ∧ Below w.heap.size w w' := by
  have conx := fun W H => validWhole_own A n c xs W H
  have cony := fun W H => validWhole_own A' m c' ys W H
  cases tx : okW xs
  case false =>
    have he : mulF xs ys = ([], false) := by unfold mulF; simp [tx]
    rw [he]
    rw [tx] at conx
    have Hx := Lib.hid conx
    clear he conx cony
    go_enter Try.func17, Try.ntmps17
    go_wp2_with fail
    refine (Hx.out _ (h.in_ (al3 w _ _ _))).mono ?_
    rintro e w1 ⟨rfl, b1⟩
    have B1 := bthen (al3 w _ _ _) b1
    have P0_1 : Blk w1 (w.heap.size) 26 #[.slice A n c] := Blk.kept (Blk.alloc (Blk.alloc (Blk.new w _ _) _) _) b1
    have cp0_1 := P0_1.cell0
    have P1_1 : Blk w1 (w.heap.size + 1) 26 #[.slice A' m c'] := Blk.kept (Blk.alloc (Blk.new_at (w.alloc _) _ _ (by simp)) _) b1
    have cp1_1 := P1_1.cell0
    have R0_1 : Blk w1 (w.heap.size + 1 + 1) 26 #[.slice none 0 0] := Blk.kept (Blk.new_at ((w.alloc _).alloc _) _ _ (by simp)) b1
    clear b1
    have cr0 := R0_1.cell0
    have fr0 := R0_1.frozen0
    go_wp2_with fail
    refine bodyPost_ret (v := .tuple #[.agg #[.slice none 0 0], .bool false]) (by simp [results, Try.results17, go_sem, cr0]) rfl ⟨none, 0, 0, rfl, Mine.none_ _ _, ?_⟩
    exact (B1.setCell (by simp; omega) _)
  cases ty : okW ys
  case false =>
    have he : mulF xs ys = ([], false) := by unfold mulF; simp [tx, ty]
    rw [he]
    rw [tx] at conx
    have Hx := Lib.hid conx
    rw [ty] at cony
    have Hy := Lib.hid cony
    clear he conx cony
    go_enter Try.func17, Try.ntmps17
    go_wp2_with fail
    refine (Hx.out _ (h.in_ (al3 w _ _ _))).mono ?_
    rintro e w1 ⟨rfl, b1⟩
    have B1 := bthen (al3 w _ _ _) b1
    have P0_1 : Blk w1 (w.heap.size) 26 #[.slice A n c] := Blk.kept (Blk.alloc (Blk.alloc (Blk.new w _ _) _) _) b1
    have cp0_1 := P0_1.cell0
    have P1_1 : Blk w1 (w.heap.size + 1) 26 #[.slice A' m c'] := Blk.kept (Blk.alloc (Blk.new_at (w.alloc _) _ _ (by simp)) _) b1
    have cp1_1 := P1_1.cell0
    have R0_1 : Blk w1 (w.heap.size + 1 + 1) 26 #[.slice none 0 0] := Blk.kept (Blk.new_at ((w.alloc _).alloc _) _ _ (by simp)) b1
    clear b1
    go_wp2_with fail
    refine (Hy.out _ (h'.in_ B1)).mono ?_
    rintro e w2 ⟨rfl, b2⟩
    have B2 := bthen B1 b2
    have P0_2 : Blk w2 (w.heap.size) 26 #[.slice A n c] := Blk.kept P0_1 b2
    have cp0_2 := P0_2.cell0
    have P1_2 : Blk w2 (w.heap.size + 1) 26 #[.slice A' m c'] := Blk.kept P1_1 b2
    have cp1_2 := P1_2.cell0
    have R0_2 : Blk w2 (w.heap.size + 1 + 1) 26 #[.slice none 0 0] := Blk.kept R0_1 b2
    clear b2 B1 P0_1 cp0_1 P1_1 cp1_1 R0_1
    have cr0 := R0_2.cell0
    have fr0 := R0_2.frozen0
    go_wp2_with fail
    refine bodyPost_ret (v := .tuple #[.agg #[.slice none 0 0], .bool false]) (by simp [results, Try.results17, go_sem, cr0]) rfl ⟨none, 0, 0, rfl, Mine.none_ _ _, ?_⟩
    exact (B2.setCell (by simp; omega) _)
  have he : mulF xs ys = giveF (prodL xs ys) := by unfold mulF; simp [tx, ty]
  rw [he]
  rw [tx] at conx
  have Hx := Lib.hid conx
  have Tx := Lib.hid tx
  rw [ty] at cony
  have Hy := Lib.hid cony
  have Ty := Lib.hid ty
  clear he conx cony
  have hl0 := okW_len Tx.out
  rw [h.len] at hl0
  have hl1 := okW_len Ty.out
  rw [h'.len] at hl1
  have HX := Lib.hid (okW_bd Tx.out)
  have HY := Lib.hid (okW_bd Ty.out)
  change Calls _ _ _ _ fun e w' => ∃ A2 n2 c2, e = .returned (.tuple #[.agg #[.slice A2 n2 c2], .bool (checkF (trimL (prodL xs ys))).2]) ∧ Mine w' w.heap.size A2 n2 c2 (checkF (trimL (prodL xs ys))).1 ∧ Below w.heap.size w w'
  go_enter Try.func17, Try.ntmps17
  go_wp2_with fail
  refine (Hx.out _ (h.in_ (al3 w _ _ _))).mono ?_
  rintro e w1 ⟨rfl, b1⟩
  have B1 := bthen (al3 w _ _ _) b1
  have P0_1 : Blk w1 (w.heap.size) 26 #[.slice A n c] := Blk.kept (Blk.alloc (Blk.alloc (Blk.new w _ _) _) _) b1
  have cp0_1 := P0_1.cell0
  have P1_1 : Blk w1 (w.heap.size + 1) 26 #[.slice A' m c'] := Blk.kept (Blk.alloc (Blk.new_at (w.alloc _) _ _ (by simp)) _) b1
  have cp1_1 := P1_1.cell0
  have R0_1 : Blk w1 (w.heap.size + 1 + 1) 26 #[.slice none 0 0] := Blk.kept (Blk.new_at ((w.alloc _).alloc _) _ _ (by simp)) b1
  clear b1
  go_wp2_with fail
  refine (Hy.out _ (h'.in_ B1)).mono ?_
  rintro e w2 ⟨rfl, b2⟩
  have B2 := bthen B1 b2
  have P0_2 : Blk w2 (w.heap.size) 26 #[.slice A n c] := Blk.kept P0_1 b2
  have cp0_2 := P0_2.cell0
  have P1_2 : Blk w2 (w.heap.size + 1) 26 #[.slice A' m c'] := Blk.kept P1_1 b2
  have cp1_2 := P1_2.cell0
  have R0_2 : Blk w2 (w.heap.size + 1 + 1) 26 #[.slice none 0 0] := Blk.kept R0_1 b2
  clear b2 B1 P0_1 cp0_1 P1_1 cp1_1 R0_1
  go_wp2_with fail
  refine (mulL_own A n c xs A' m c' ys _ (h.in_ B2) (h'.in_ B2) hl0 hl1 HX.out HY.out).mono ?_
  rintro e w3 ⟨A2, n2, c2, rfl, u2o, b3⟩
  have u2 := Mine.low u2o (base' := w.heap.size) B2.size
  have B3 := bthen B2 b3
  have P0_3 : Blk w3 (w.heap.size) 26 #[.slice A n c] := Blk.kept P0_2 b3
  have cp0_3 := P0_3.cell0
  have P1_3 : Blk w3 (w.heap.size + 1) 26 #[.slice A' m c'] := Blk.kept P1_2 b3
  have cp1_3 := P1_3.cell0
  have R0_3 : Blk w3 (w.heap.size + 1 + 1) 26 #[.slice none 0 0] := Blk.kept R0_2 b3
  clear b3 B2 P0_2 cp0_2 P1_2 cp1_2 R0_2
  have hl2 : 0 < n2 ∧ n2 ≤ 1048576 := by rw [← u2.len, prodL_len, h.len, h'.len]; omega
  clear u2o h h'
  go_wp2_with fail
  refine (whole_own A2 n2 c2 (prodL xs ys) _ _ u2 hl2.2 hl2.1).mono ?_
  rintro e w4 ⟨k3, rfl, u3, b4⟩
  have B4 := bthen B3 b4
  have P0_4 : Blk w4 (w.heap.size) 26 #[.slice A n c] := Blk.kept P0_3 b4
  have cp0_4 := P0_4.cell0
  have P1_4 : Blk w4 (w.heap.size + 1) 26 #[.slice A' m c'] := Blk.kept P1_3 b4
  have cp1_4 := P1_4.cell0
  have R0_4 : Blk w4 (w.heap.size + 1 + 1) 26 #[.slice none 0 0] := Blk.kept R0_3 b4
  clear b4 B3 P0_3 cp0_3 P1_3 cp1_3 R0_3
  clear u2
  go_wp2_with fail
  refine (checked_own A2 k3 k3 (trimL (prodL xs ys)) _ _ u3).mono ?_
  rintro e w5 ⟨A4, n4, c4, rfl, u4, b5⟩
  have B5 := bthen B4 b5
  have P0_5 : Blk w5 (w.heap.size) 26 #[.slice A n c] := Blk.kept P0_4 b5
  have cp0_5 := P0_5.cell0
  have P1_5 : Blk w5 (w.heap.size + 1) 26 #[.slice A' m c'] := Blk.kept P1_4 b5
  have cp1_5 := P1_5.cell0
  have R0_5 : Blk w5 (w.heap.size + 1 + 1) 26 #[.slice none 0 0] := Blk.kept R0_4 b5
  clear b5 B4 P0_4 cp0_4 P1_4 cp1_4 R0_4
  clear u3
  have AR := Lib.hid (Blk.apart R0_5 u4 (by decide))
  have U := Lib.hid u4
  have BB := Lib.hid B5
  have cr := R0_5.cell0
  have fr := R0_5.frozen0
  go_wp2_with fail
  refine bodyPost_ret (v := .tuple #[.agg #[.slice A4 n4 c4], .bool (checkF (trimL (prodL xs ys))).2]) (by simp [results, Try.results17, go_sem, cr]) rfl ⟨A4, n4, c4, rfl, ?_, ?_⟩
  · exact mine_set U.out AR.out _
  · exact BB.out.setCell (by simp; omega) _
end Go.Proofs.Ytanfmhhkabdieaa
