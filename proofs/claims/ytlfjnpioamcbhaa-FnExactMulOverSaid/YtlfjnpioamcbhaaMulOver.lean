/- Contracts of MulOver, the program's and the reference's: 'mulOverF'. Condition: at most 1048576 terms. -/
import Derived.Test.YtlfjnpioamcbhaaMul
import Derived.Test.YtlfjnpioamcbhaaMods
import Derived.Test.YtlfjnpioamcbhaaBox
import Derived.Test.YtlfjnpioamcbhaaTrim
import Derived.Test.YtlfjnpioamcbhaaOverTwo
namespace Go.Proofs.Ytlfjnpioamcbhaa
open Go.RowKit

def mulOverF (xs ys : List Int) (p : Int) : List Int × Bool := if (primeB p && overB xs p) && (primeB p && overB ys p) then giveF (trimL (modL (prodL xs ys) p)) else ([], false)
theorem mulOverF_len (xs ys : List Int) (p : Int) : (mulOverF xs ys p).1.length ≤ 1048576 := by
  unfold mulOverF
  split
  · exact Nat.le_trans (checkF_len _) (by decide)
  · simp
theorem prodU_bd12 (xs ys : List Int) (hx : ∀ j, 0 ≤ xs.getD j 0 ∧ xs.getD j 0 ≤ 12) (hy : ∀ j, 0 ≤ ys.getD j 0 ∧ ys.getD j 0 ≤ 12) (i : Nat) :
    ∀ j, -((i : Int) * 144) ≤ (prodU xs ys i).getD j 0 ∧ (prodU xs ys i).getD j 0 ≤ (i : Int) * 144 := by
  induction i with
  | zero =>
    intro j
    have : (prodU xs ys 0).getD j 0 = 0 := by
      unfold prodU
      by_cases hj : j < xs.length + ys.length - 1
      · rw [getD_eq (by simpa using hj)]; simp
      · exact getD_beyond (by simp; omega)
    rw [this]
    omega
  | succ i ih =>
    intro j
    have h1 := (rowU_bd ys (xs.getD i 0) i (prodU xs ys i) ((i : Int) * 144) 144 (by decide) ih (fun k => by
      have h2 := hx i
      have h3 := hy k
      have := mul_bd 12 12 (a := xs.getD i 0) (b := ys.getD k 0) (by omega) (by omega) (by omega) (by omega)
      omega) ys.length j).1
    rw [prodU]
    omega
theorem prodL_bd12 (xs ys : List Int) (hl : xs.length ≤ 17) (hx : ∀ j, 0 ≤ xs.getD j 0 ∧ xs.getD j 0 ≤ 12) (hy : ∀ j, 0 ≤ ys.getD j 0 ∧ ys.getD j 0 ≤ 12) (j : Nat) : -1000000000 ≤ (prodL xs ys).getD j 0 ∧ (prodL xs ys).getD j 0 ≤ 1000000000 := by
  have := prodU_bd12 xs ys hx hy xs.length j
  unfold prodL
  omega
theorem modL_tlen (xs : List Int) (p : Int) (h : 0 < xs.length) (h2 : xs.length ≤ 1048576) : 0 < (trimL (modL xs p)).length ∧ (trimL (modL xs p)).length ≤ 1048576 := by
  rw [trimL_len]
  have e : (modL xs p).length = xs.length := by simp [modL]
  rw [e]
  have h3 := tlen_pos (modL xs p) xs.length h
  have h4 := tlen_le (modL xs p) xs.length
  omega

set_option maxHeartbeats 2000000 in
theorem mulo_ref (A : Option Addr) (n c : Nat) (xs : List Int) (A' : Option Addr) (m c' : Nat) (ys : List Int) (p : Int) (w : World) (h : Rd w w.heap.size A n c xs) (h' : Rd w w.heap.size A' m c' ys) (_bdp : -9223372036854775808 ≤ p ∧ p ≤ 9223372036854775807) (_hn : n ≤ 1048576) (_hm : m ≤ 1048576) :
    Calls Try.prog 29 #[.agg #[.slice A n c], .agg #[.slice A' m c'], .int .i64 p] w fun e w' => ∃ A2 n2 c2, e = .returned (.tuple #[.agg #[.slice A2 n2 c2], .bool (mulOverF xs ys p).2]) ∧ Mine w' w.heap.size A2 n2 c2 (mulOverF xs ys p).1 ∧ Below w.heap.size w w' := by
  have conx := fun b W H hb => over_spec A n c xs p b W H hb
  have cony := fun b W H hb => over_spec A' m c' ys p b W H hb
  cases tx : (primeB p && overB xs p)
  case false =>
    have he : mulOverF xs ys p = ([], false) := by unfold mulOverF; rw [tx]; rfl
    rw [he]
    rw [tx] at conx
    have Hx := Lib.hid conx
    clear he conx cony
    go_enter Try.func29, Try.ntmps29
    go_wp2_with fail
    refine (Hx.out _ _ (h.in_ (al3 w _ _ _)) (by simp [go_sem])).mono ?_
    rintro e wz ⟨rfl, rfl⟩
    go_wp2_with fail
    refine bodyPost_ret (v := .tuple #[.agg #[.slice none 0 0], .bool false]) (by simp [results, Try.results29, go_sem]) rfl ⟨none, 0, 0, rfl, Mine.none_ _ _, ?_⟩
    exact (al3 w _ _ _)
  cases ty : (primeB p && overB ys p)
  case false =>
    have he : mulOverF xs ys p = ([], false) := by unfold mulOverF; rw [tx, ty]; rfl
    rw [he]
    rw [tx] at conx
    have Hx := Lib.hid conx
    rw [ty] at cony
    have Hy := Lib.hid cony
    clear he conx cony
    go_enter Try.func29, Try.ntmps29
    go_wp2_with fail
    refine (Hx.out _ _ (h.in_ (al3 w _ _ _)) (by simp [go_sem])).mono ?_
    rintro e wz ⟨rfl, rfl⟩
    go_wp2_with fail
    refine (Hy.out _ _ (h'.in_ (al3 w _ _ _)) (by simp [go_sem])).mono ?_
    rintro e wz ⟨rfl, rfl⟩
    go_wp2_with fail
    refine bodyPost_ret (v := .tuple #[.agg #[.slice none 0 0], .bool false]) (by simp [results, Try.results29, go_sem]) rfl ⟨none, 0, 0, rfl, Mine.none_ _ _, ?_⟩
    exact (al3 w _ _ _)
  have he : mulOverF xs ys p = giveF (trimL (modL (prodL xs ys) p)) := by unfold mulOverF; rw [tx, ty]; rfl
  rw [he]
  rw [tx] at conx
  have Hx := Lib.hid conx
  have Tx := Lib.hid tx
  rw [ty] at cony
  have Hy := Lib.hid cony
  have Ty := Lib.hid ty
  clear he conx cony
  have hpq := Tx.out
  rw [Bool.and_eq_true] at hpq
  have hpq' := Ty.out
  rw [Bool.and_eq_true] at hpq'
  have hpr := prime_range hpq.1
  have hov := hpq.2
  have hov' := hpq'.2
  have hl0 := okW_len (overB_ok hov)
  rw [h.len] at hl0
  have hl1 := okW_len (overB_ok hov')
  rw [h'.len] at hl1
  have HX : Hid (∀ j, 0 ≤ xs.getD j 0 ∧ xs.getD j 0 ≤ 12) := fun j => overB_bd hov hpr j
  have HY : Hid (∀ j, 0 ≤ ys.getD j 0 ∧ ys.getD j 0 ≤ 12) := fun j => overB_bd hov' hpr j
  clear hov hov' hpq
  clear hpq'
  go_enter Try.func29, Try.ntmps29
  go_wp2_with fail
  refine (Hx.out _ _ (h.in_ (al3 w _ _ _)) (by simp [go_sem])).mono ?_
  rintro e wz ⟨rfl, rfl⟩
  go_wp2_with fail
  refine (Hy.out _ _ (h'.in_ (al3 w _ _ _)) (by simp [go_sem])).mono ?_
  rintro e wz ⟨rfl, rfl⟩
  go_wp2_with fail
  refine (mulL_ref A n c xs A' m c' ys _ (h.in_ (al3 w _ _ _)) (h'.in_ (al3 w _ _ _)) hl0 hl1 (fun j => by have := HX.out j; omega) (fun j => by have := HY.out j; omega)).mono ?_
  rintro e w1 ⟨A1, n1, c1, rfl, u1, b1⟩
  have B1 := bthen (al3 w _ _ _) b1
  have P0_1 : Blk w1 (w.heap.size) 42 #[.slice A n c] := Blk.kept (Blk.alloc (Blk.alloc (Blk.new w _ _) _) _) b1
  have cp0_1 := P0_1.cell0
  have P1_1 : Blk w1 (w.heap.size + 1) 42 #[.slice A' m c'] := Blk.kept (Blk.alloc (Blk.new_at (w.alloc _) _ _ (by simp)) _) b1
  have cp1_1 := P1_1.cell0
  have R0_1 : Blk w1 (w.heap.size + 1 + 1) 42 #[.slice none 0 0] := Blk.kept (Blk.new_at ((w.alloc _).alloc _) _ _ (by simp)) b1
  clear b1
  have hl2 : 0 < n1 ∧ n1 ≤ 1048576 := by rw [← u1.len, prodL_len, h.len, h'.len]; omega
  have HPB := Lib.hid (prodL_bd12 xs ys (by rw [h.len]; exact hl0.2) HX.out HY.out)
  clear h h'
  go_wp2_with fail
  refine (mods_ref A1 n1 c1 (prodL xs ys) p _ u1.rd HPB.out hpr hl2.2 hl2.1).mono ?_
  rintro e w2 ⟨A2, n2, c2, rfl, u2o, b2⟩
  have u2 := Mine.low u2o (base' := w.heap.size) B1.size
  have hl3 := modL_tlen (prodL xs ys) p (by rw [u1.len]; exact hl2.1) (by rw [u1.len]; exact hl2.2)
  have B2 := bthen B1 b2
  have P0_2 : Blk w2 (w.heap.size) 42 #[.slice A n c] := Blk.kept P0_1 b2
  have cp0_2 := P0_2.cell0
  have P1_2 : Blk w2 (w.heap.size + 1) 42 #[.slice A' m c'] := Blk.kept P1_1 b2
  have cp1_2 := P1_2.cell0
  have R0_2 : Blk w2 (w.heap.size + 1 + 1) 42 #[.slice none 0 0] := Blk.kept R0_1 b2
  clear b2 B1 P0_1 cp0_1 P1_1 cp1_1 R0_1
  rw [u2.len] at hl3
  clear u1 u2o hl2
  have hl2 := hl3
  go_wp2_with fail
  refine (give_ref A2 n2 c2 (trimL (modL (prodL xs ys) p)) _ u2.rd hl2.2 hl2.1).mono ?_
  rintro e w3 ⟨A3, n3, c3, rfl, u3o, b3⟩
  have u3 := Mine.low u3o (base' := w.heap.size) B2.size
  have B3 := bthen B2 b3
  have P0_3 : Blk w3 (w.heap.size) 42 #[.slice A n c] := Blk.kept P0_2 b3
  have cp0_3 := P0_3.cell0
  have P1_3 : Blk w3 (w.heap.size + 1) 42 #[.slice A' m c'] := Blk.kept P1_2 b3
  have cp1_3 := P1_3.cell0
  have R0_3 : Blk w3 (w.heap.size + 1 + 1) 42 #[.slice none 0 0] := Blk.kept R0_2 b3
  clear b3 B2 P0_2 cp0_2 P1_2 cp1_2 R0_2
  clear u3o u2
  have AR := Lib.hid (Blk.apart R0_3 u3 (by decide))
  have U := Lib.hid u3
  have BB := Lib.hid B3
  have cr := R0_3.cell0
  have fr := R0_3.frozen0
  go_wp2_with fail
  refine bodyPost_ret (v := .tuple #[.agg #[.slice A3 n3 c3], .bool (giveF (trimL (modL (prodL xs ys) p))).2]) (by simp [results, Try.results29, go_sem, cr]) rfl ⟨A3, n3, c3, rfl, ?_, ?_⟩
  · exact mine_set U.out AR.out _
  · exact BB.out.setCell (by simp; omega) _

set_option maxHeartbeats 2000000 in
theorem mulOver_own (A : Option Addr) (n c : Nat) (xs : List Int) (A' : Option Addr) (m c' : Nat) (ys : List Int) (p : Int) (w : World) (h : Rd w w.heap.size A n c xs) (h' : Rd w w.heap.size A' m c' ys)
    (hl0 : 1 ≤ n ∧ n ≤ 17) (hl1 : 1 ≤ m ∧ m ≤ 17) (hx : ∀ j, 0 ≤ xs.getD j 0 ∧ xs.getD j 0 ≤ 12) (hy : ∀ j, 0 ≤ ys.getD j 0 ∧ ys.getD j 0 ≤ 12) (hpr : 2 ≤ p ∧ p ≤ 13) :
    Calls Try.prog 55 #[.agg #[.slice A n c], .agg #[.slice A' m c'], .int .i64 p] w fun e w' => ∃ A2 n2 c2, e = .returned (.agg #[.slice A2 n2 c2]) ∧ Mine w' w.heap.size A2 n2 c2 (trimL (modL (prodL xs ys) p)) ∧ Below w.heap.size w w' := by
  have HX := Lib.hid hx
  have HY := Lib.hid hy
  clear hx hy
  go_enter Try.func55, Try.ntmps55
  go_wp2_with fail
  refine (mulL_own A n c xs A' m c' ys _ (h.in_ (al3 w _ _ _)) (h'.in_ (al3 w _ _ _)) hl0 hl1 (fun j => by have := HX.out j; omega) (fun j => by have := HY.out j; omega)).mono ?_
  rintro e w1 ⟨A1, n1, c1, rfl, u1, b1⟩
  have B1 := bthen (al3 w _ _ _) b1
  have P0_1 : Blk w1 (w.heap.size) 42 #[.slice A n c] := Blk.kept (Blk.alloc (Blk.alloc (Blk.new w _ _) _) _) b1
  have cp0_1 := P0_1.cell0
  have P1_1 : Blk w1 (w.heap.size + 1) 42 #[.slice A' m c'] := Blk.kept (Blk.alloc (Blk.new_at (w.alloc _) _ _ (by simp)) _) b1
  have cp1_1 := P1_1.cell0
  have R0_1 : Blk w1 (w.heap.size + 1 + 1) 42 #[.slice none 0 0] := Blk.kept (Blk.new_at ((w.alloc _).alloc _) _ _ (by simp)) b1
  clear b1
  have hl2 : 0 < n1 ∧ n1 ≤ 1048576 := by rw [← u1.len, prodL_len, h.len, h'.len]; omega
  have HPB := Lib.hid (prodL_bd12 xs ys (by rw [h.len]; exact hl0.2) HX.out HY.out)
  clear h h'
  go_wp2_with fail
  refine (over_own A1 n1 c1 (prodL xs ys) p _ u1.rd HPB.out hpr hl2.2 hl2.1).mono ?_
  rintro e w2 ⟨A2, n2, c2, rfl, u2o, b2⟩
  have u2 := Mine.low u2o (base' := w.heap.size) B1.size
  have B2 := bthen B1 b2
  have P0_2 : Blk w2 (w.heap.size) 42 #[.slice A n c] := Blk.kept P0_1 b2
  have cp0_2 := P0_2.cell0
  have P1_2 : Blk w2 (w.heap.size + 1) 42 #[.slice A' m c'] := Blk.kept P1_1 b2
  have cp1_2 := P1_2.cell0
  have R0_2 : Blk w2 (w.heap.size + 1 + 1) 42 #[.slice none 0 0] := Blk.kept R0_1 b2
  clear b2 B1 P0_1 cp0_1 P1_1 cp1_1 R0_1
  clear u2o u1
  have AR := Lib.hid (Blk.apart R0_2 u2 (by decide))
  have U := Lib.hid u2
  have BB := Lib.hid B2
  have cr := R0_2.cell0
  have fr := R0_2.frozen0
  go_wp2_with fail
  refine bodyPost_ret (v := .agg #[.slice A2 n2 c2]) (by simp [results, Try.results55, go_sem, cr]) rfl ⟨A2, n2, c2, rfl, ?_, ?_⟩
  · exact mine_set U.out AR.out _
  · exact BB.out.setCell (by simp; omega) _

set_option maxHeartbeats 2000000 in
theorem mulo_own (A : Option Addr) (n c : Nat) (xs : List Int) (A' : Option Addr) (m c' : Nat) (ys : List Int) (p : Int) (w : World) (h : Rd w w.heap.size A n c xs) (h' : Rd w w.heap.size A' m c' ys) (_bdp : -9223372036854775808 ≤ p ∧ p ≤ 9223372036854775807) (_hn : n ≤ 1048576) (_hm : m ≤ 1048576) :
    Calls Try.prog 30 #[.agg #[.slice A n c], .agg #[.slice A' m c'], .int .i64 p] w fun e w' => ∃ A2 n2 c2, e = .returned (.tuple #[.agg #[.slice A2 n2 c2], .bool (mulOverF xs ys p).2]) ∧ Mine w' w.heap.size A2 n2 c2 (mulOverF xs ys p).1 ∧ Below w.heap.size w w' := by
  have conx := fun bl W h0 h1 H H' => over2_own A n c xs A' m c' ys p bl W h0 h1 H H'
  cases tx : ((primeB p && overB xs p) && (primeB p && overB ys p))
  case false =>
    have he : mulOverF xs ys p = ([], false) := by unfold mulOverF; rw [tx]; rfl
    rw [he]
    rw [tx] at conx
    have Hx := Lib.hid conx
    clear he conx
    go_enter Try.func30, Try.ntmps30
    go_wp2_with fail
    refine (Hx.out _ _ (by simp [go_sem]) (by simp [go_sem]) (h.in_ (al4 w _ _ _ _)) (h'.in_ (al4 w _ _ _ _))).mono ?_
    rintro e w1 ⟨rfl, b1⟩
    have B1 := bthen (al4 w _ _ _ _) b1
    have P0_1 : Blk w1 (w.heap.size) 42 #[.slice A n c] := Blk.kept (Blk.alloc (Blk.alloc (Blk.alloc (Blk.new w _ _) _) _) _) b1
    have cp0_1 := P0_1.cell0
    have P1_1 : Blk w1 (w.heap.size + 1) 42 #[.slice A' m c'] := Blk.kept (Blk.alloc (Blk.alloc (Blk.new_at (w.alloc _) _ _ (by simp)) _) _) b1
    have cp1_1 := P1_1.cell0
    have R0_1 : Blk w1 (w.heap.size + 1 + 1) 42 #[.slice none 0 0] := Blk.kept (Blk.alloc (Blk.new_at ((w.alloc _).alloc _) _ _ (by simp)) _) b1
    clear b1
    have cr0 := R0_1.cell0
    have fr0 := R0_1.frozen0
    go_wp2_with fail
    refine bodyPost_ret (v := .tuple #[.agg #[.slice none 0 0], .bool false]) (by simp [results, Try.results30, go_sem, cr0]) rfl ⟨none, 0, 0, rfl, Mine.none_ _ _, ?_⟩
    exact (B1.setCell (by simp; omega) _)
  have he : mulOverF xs ys p = giveF (trimL (modL (prodL xs ys) p)) := by unfold mulOverF; rw [tx]; rfl
  rw [he]
  rw [tx] at conx
  have Hx := Lib.hid conx
  have Tx := Lib.hid tx
  clear he conx
  have hpq := Tx.out
  rw [Bool.and_eq_true, Bool.and_eq_true, Bool.and_eq_true] at hpq
  have hpr := prime_range hpq.1.1
  have hov := hpq.1.2
  have hov' := hpq.2.2
  have hl0 := okW_len (overB_ok hov)
  rw [h.len] at hl0
  have hl1 := okW_len (overB_ok hov')
  rw [h'.len] at hl1
  have HX : Hid (∀ j, 0 ≤ xs.getD j 0 ∧ xs.getD j 0 ≤ 12) := fun j => overB_bd hov hpr j
  have HY : Hid (∀ j, 0 ≤ ys.getD j 0 ∧ ys.getD j 0 ≤ 12) := fun j => overB_bd hov' hpr j
  clear hov hov' hpq
  have hgi : giveF (trimL (modL (prodL xs ys) p)) = checkF (trimL (modL (prodL xs ys) p)) := by unfold giveF; rw [trimL_idem]
  rw [hgi]
  clear hgi
  go_enter Try.func30, Try.ntmps30
  go_wp2_with fail
  refine (Hx.out _ _ (by simp [go_sem]) (by simp [go_sem]) (h.in_ (al4 w _ _ _ _)) (h'.in_ (al4 w _ _ _ _))).mono ?_
  rintro e w1 ⟨rfl, b1⟩
  have B1 := bthen (al4 w _ _ _ _) b1
  have P0_1 : Blk w1 (w.heap.size) 42 #[.slice A n c] := Blk.kept (Blk.alloc (Blk.alloc (Blk.alloc (Blk.new w _ _) _) _) _) b1
  have cp0_1 := P0_1.cell0
  have P1_1 : Blk w1 (w.heap.size + 1) 42 #[.slice A' m c'] := Blk.kept (Blk.alloc (Blk.alloc (Blk.new_at (w.alloc _) _ _ (by simp)) _) _) b1
  have cp1_1 := P1_1.cell0
  have R0_1 : Blk w1 (w.heap.size + 1 + 1) 42 #[.slice none 0 0] := Blk.kept (Blk.alloc (Blk.new_at ((w.alloc _).alloc _) _ _ (by simp)) _) b1
  clear b1
  go_wp2_with fail
  refine (mulOver_own A n c xs A' m c' ys p _ (h.in_ B1) (h'.in_ B1) hl0 hl1 HX.out HY.out hpr).mono ?_
  rintro e w2 ⟨A2, n2, c2, rfl, u2o, b2⟩
  have u2 := Mine.low u2o (base' := w.heap.size) B1.size
  have B2 := bthen B1 b2
  have P0_2 : Blk w2 (w.heap.size) 42 #[.slice A n c] := Blk.kept P0_1 b2
  have cp0_2 := P0_2.cell0
  have P1_2 : Blk w2 (w.heap.size + 1) 42 #[.slice A' m c'] := Blk.kept P1_1 b2
  have cp1_2 := P1_2.cell0
  have R0_2 : Blk w2 (w.heap.size + 1 + 1) 42 #[.slice none 0 0] := Blk.kept R0_1 b2
  clear b2 B1 P0_1 cp0_1 P1_1 cp1_1 R0_1
  clear u2o h h'
  go_wp2_with fail
  refine (checked_own A2 n2 c2 (trimL (modL (prodL xs ys) p)) _ _ u2).mono ?_
  rintro e w3 ⟨A4, n4, c4, rfl, u4, b3⟩
  have B3 := bthen B2 b3
  have P0_3 : Blk w3 (w.heap.size) 42 #[.slice A n c] := Blk.kept P0_2 b3
  have cp0_3 := P0_3.cell0
  have P1_3 : Blk w3 (w.heap.size + 1) 42 #[.slice A' m c'] := Blk.kept P1_2 b3
  have cp1_3 := P1_3.cell0
  have R0_3 : Blk w3 (w.heap.size + 1 + 1) 42 #[.slice none 0 0] := Blk.kept R0_2 b3
  clear b3 B2 P0_2 cp0_2 P1_2 cp1_2 R0_2
  clear u2
  have AR := Lib.hid (Blk.apart R0_3 u4 (by decide))
  have U := Lib.hid u4
  have BB := Lib.hid B3
  have cr := R0_3.cell0
  have fr := R0_3.frozen0
  go_wp2_with fail
  refine bodyPost_ret (v := .tuple #[.agg #[.slice A4 n4 c4], .bool (checkF (trimL (modL (prodL xs ys) p))).2]) (by simp [results, Try.results30, go_sem, cr]) rfl ⟨A4, n4, c4, rfl, ?_, ?_⟩
  · exact mine_set U.out AR.out _
  · exact BB.out.setCell (by simp; omega) _
end Go.Proofs.Ytlfjnpioamcbhaa
