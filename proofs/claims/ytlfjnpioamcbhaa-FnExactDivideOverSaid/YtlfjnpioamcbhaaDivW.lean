/- Contracts of DivideOver, the program's and the reference's: 'divOF'. Condition: at most 1048576 terms. -/
import Derived.Test.YtlfjnpioamcbhaaDivI
import Derived.RegionTactic
namespace Go.Proofs.Ytlfjnpioamcbhaa
open Go.RowKit
def divOF (xs ys : List Int) (p : Int) : List Int × List Int × Bool := if ((primeB p && overB xs p) && (primeB p && overB ys p)) && !zeroB ys then ((divQR xs ys p).1, (divQR xs ys p).2, true) else ([], [], false)
theorem trimL_le (xs : List Int) : (trimL xs).length ≤ xs.length := by rw [trimL_len]; exact tlen_le _ _
theorem divP_len2 (ys : List Int) (m : Nat) (v p : Int) (k : Nat) : ∀ L out, (divP ys m v p k L out).2.length = out.length := by
  induction k with
  | zero => intro L out; rfl
  | succ k ih => intro L out; rw [divP, ih, List.length_set]
theorem divQR_len (xs ys : List Int) (p : Int) : (divQR xs ys p).1.length ≤ xs.length + 1 ∧ (divQR xs ys p).2.length ≤ xs.length + 1 := by
  unfold divQR
  split
  · constructor
    · simp
    · show xs.length ≤ _; omega
  · constructor
    · refine Nat.le_trans (trimL_le _) ?_
      rw [divP_len2, List.length_replicate]
      omega
    · refine Nat.le_trans (trimL_le _) ?_
      rw [divP_len1]
      omega
theorem divOF_ov {xs ys : List Int} {p : Int} (h : (((primeB p && overB xs p) && (primeB p && overB ys p)) && !zeroB ys) = true) : xs.length ≤ 17 := by
  simp only [Bool.and_eq_true] at h
  exact (okW_len (overB_ok h.1.1.2)).2
theorem divOF_len1 (xs ys : List Int) (p : Int) : (divOF xs ys p).1.length ≤ 1048576 := by
  unfold divOF
  split
  · rename_i h
    have h1 := divOF_ov h
    have h2 := (divQR_len xs ys p).1
    show (divQR xs ys p).1.length ≤ _
    omega
  · simp
theorem divOF_len2 (xs ys : List Int) (p : Int) : (divOF xs ys p).2.1.length ≤ 1048576 := by
  unfold divOF
  split
  · rename_i h
    have h1 := divOF_ov h
    have h2 := (divQR_len xs ys p).2
    show (divQR xs ys p).2.length ≤ _
    omega
  · simp

set_option maxRecDepth 10000 in
set_option maxHeartbeats 4000000 in
theorem divOver_ref (A : Option Addr) (n c : Nat) (xs : List Int) (A' : Option Addr) (m c' : Nat) (ys : List Int) (p : Int) (w : World) (h : Rd w w.heap.size A n c xs) (h' : Rd w w.heap.size A' m c' ys) (_bdp : -9223372036854775808 ≤ p ∧ p ≤ 9223372036854775807) (_hn : n ≤ 1048576) (_hm : m ≤ 1048576) :
    Calls Try.prog 31 #[.agg #[.slice A n c], .agg #[.slice A' m c'], .int .i64 p] w fun e w' => ∃ A2 n2 c2 A3 n3 c3, e = .returned (.tuple #[.agg #[.slice A2 n2 c2], .agg #[.slice A3 n3 c3], .bool (divOF xs ys p).2.2]) ∧ Mine w' w.heap.size A2 n2 c2 (divOF xs ys p).1 ∧ Mine w' w.heap.size A3 n3 c3 (divOF xs ys p).2.1 ∧ Apart A2 n2 A3 n3 ∧ Below w.heap.size w w' := by
  have conx := fun b W H hb => over_spec A n c xs p b W H hb
  have cony := fun b W H hb => over_spec A' m c' ys p b W H hb
  have conz := fun W H => zero_ref A' m c' ys W H
  cases tx : (primeB p && overB xs p)
  case false =>
    have he : divOF xs ys p = ([], [], false) := by unfold divOF; rw [tx]; rfl
    rw [he]
    rw [tx] at conx
    have Hx := Lib.hid conx
    clear he conx cony conz
    go_enter Try.func31, Try.ntmps31
    go_wp2_with fail
    refine (Hx.out _ _ (h.in_ (al4 w _ _ _ _)) (by simp [go_sem])).mono ?_
    rintro e wz ⟨rfl, rfl⟩
    go_wp2_with fail
    refine bodyPost_ret (v := .tuple #[.agg #[.slice none 0 0], .agg #[.slice none 0 0], .bool false]) (by simp [results, Try.results31, go_sem]) rfl ⟨none, 0, 0, none, 0, 0, rfl, Mine.none_ _ _, Mine.none_ _ _, apart_none, ?_⟩
    exact (al4 w _ _ _ _)
  cases ty : (primeB p && overB ys p)
  case false =>
    have he : divOF xs ys p = ([], [], false) := by unfold divOF; rw [tx, ty]; rfl
    rw [he]
    rw [tx] at conx
    have Hx := Lib.hid conx
    rw [ty] at cony
    have Hy := Lib.hid cony
    clear he conx cony conz
    go_enter Try.func31, Try.ntmps31
    go_wp2_with fail
    refine (Hx.out _ _ (h.in_ (al4 w _ _ _ _)) (by simp [go_sem])).mono ?_
    rintro e wz ⟨rfl, rfl⟩
    go_wp2_with fail
    refine (Hy.out _ _ (h'.in_ (al4 w _ _ _ _)) (by simp [go_sem])).mono ?_
    rintro e wz ⟨rfl, rfl⟩
    go_wp2_with fail
    refine bodyPost_ret (v := .tuple #[.agg #[.slice none 0 0], .agg #[.slice none 0 0], .bool false]) (by simp [results, Try.results31, go_sem]) rfl ⟨none, 0, 0, none, 0, 0, rfl, Mine.none_ _ _, Mine.none_ _ _, apart_none, ?_⟩
    exact (al4 w _ _ _ _)
  cases tz : zeroB ys
  case true =>
    have he : divOF xs ys p = ([], [], false) := by unfold divOF; rw [tx, ty, tz]; rfl
    rw [he]
    rw [tx] at conx
    have Hx := Lib.hid conx
    rw [ty] at cony
    have Hy := Lib.hid cony
    rw [tz] at conz
    have Hz := Lib.hid conz
    clear he conx cony conz
    go_enter Try.func31, Try.ntmps31
    go_wp2_with fail
    refine (Hx.out _ _ (h.in_ (al4 w _ _ _ _)) (by simp [go_sem])).mono ?_
    rintro e wz ⟨rfl, rfl⟩
    go_wp2_with fail
    refine (Hy.out _ _ (h'.in_ (al4 w _ _ _ _)) (by simp [go_sem])).mono ?_
    rintro e wz ⟨rfl, rfl⟩
    go_wp2_with fail
    refine (Hz.out _ (h'.in_ (al4 w _ _ _ _))).mono ?_
    rintro e wz ⟨rfl, rfl⟩
    go_wp2_with fail
    refine bodyPost_ret (v := .tuple #[.agg #[.slice none 0 0], .agg #[.slice none 0 0], .bool false]) (by simp [results, Try.results31, go_sem]) rfl ⟨none, 0, 0, none, 0, 0, rfl, Mine.none_ _ _, Mine.none_ _ _, apart_none, ?_⟩
    exact (al4 w _ _ _ _)
  have he : divOF xs ys p = ((divQR xs ys p).1, (divQR xs ys p).2, true) := by unfold divOF; rw [tx, ty, tz]; rfl
  rw [he]
  rw [tx] at conx
  have Hx := Lib.hid conx
  have Tx := Lib.hid tx
  rw [ty] at cony
  have Hy := Lib.hid cony
  have Ty := Lib.hid ty
  rw [tz] at conz
  have Hz := Lib.hid conz
  have Tz := Lib.hid tz
  clear he conx cony conz
  have hpq := Tx.out
  rw [Bool.and_eq_true] at hpq
  have hpq' := Ty.out
  rw [Bool.and_eq_true] at hpq'
  have hpr := prime_range hpq.1
  have hov := hpq.2
  have hov' := hpq'.2
  have hl0 := okW_len (overB_ok hov)
  rw [h.len] at hl0
  have hl1 := okW_len (overB_ok hov')
  rw [h'.len] at hl1
  obtain ⟨P, rfl⟩ := Int.eq_ofNat_of_zero_le (show 0 ≤ p by omega)
  have HXo : Hid (∀ j, 0 ≤ xs.getD j 0 ∧ xs.getD j 0 < (P : Int)) := fun j => overB_lt hov hpr.1 j
  have HYo : Hid (∀ j, 0 ≤ ys.getD j 0 ∧ ys.getD j 0 < (P : Int)) := fun j => overB_lt hov' hpr.1 j
  have HDo := Lib.hid (last_pos hov' Tz.out hpr.1)
  have HTo := Lib.hid (trim_okW (overB_ok hov))
  have HPo := Lib.hid hpq.1
  clear hov hov' hpq hpq'
  go_enter Try.func31, Try.ntmps31
  go_wp2_with fail
  refine (Hx.out _ _ (h.in_ (al4 w _ _ _ _)) (by simp [go_sem])).mono ?_
  rintro e wz ⟨rfl, rfl⟩
  go_wp2_with fail
  refine (Hy.out _ _ (h'.in_ (al4 w _ _ _ _)) (by simp [go_sem])).mono ?_
  rintro e wz ⟨rfl, rfl⟩
  go_wp2_with fail
  refine (Hz.out _ (h'.in_ (al4 w _ _ _ _))).mono ?_
  rintro e wz ⟨rfl, rfl⟩
  go_wp2_with fail
  refine (divo_ref A n c xs A' m c' ys P _ (h.in_ (al4 w _ _ _ _)) (h'.in_ (al4 w _ _ _ _)) hl0 hl1 HPo.out HXo.out HYo.out HDo.out HTo.out).mono ?_
  rintro e w1 ⟨A2, n2, c2, A3, n3, c3, rfl, u2o, u3o, ap, b1⟩
  have u2 := Mine.low u2o (base' := w.heap.size) (al4 w _ _ _ _).size
  have u3 := Mine.low u3o (base' := w.heap.size) (al4 w _ _ _ _).size
  have B1 := bthen (al4 w _ _ _ _) b1
  have P0_1 : Blk w1 (w.heap.size) 42 #[.slice A n c] := Blk.kept (Blk.alloc (Blk.alloc (Blk.alloc (Blk.new w _ _) _) _) _) b1
  have cp0_1 := P0_1.cell0
  have P1_1 : Blk w1 (w.heap.size + 1) 42 #[.slice A' m c'] := Blk.kept (Blk.alloc (Blk.alloc (Blk.new_at (w.alloc _) _ _ (by simp)) _) _) b1
  have cp1_1 := P1_1.cell0
  have R0_1 : Blk w1 (w.heap.size + 1 + 1) 42 #[.slice none 0 0] := Blk.kept (Blk.alloc (Blk.new_at ((w.alloc _).alloc _) _ _ (by simp)) _) b1
  have R1_1 : Blk w1 (w.heap.size + 1 + 1 + 1) 42 #[.slice none 0 0] := Blk.kept (Blk.new_at (((w.alloc _).alloc _).alloc _) _ _ (by simp)) b1
  clear b1
  clear u2o u3o h h'
  have AR0 := Lib.hid (Blk.apart R0_1 u2 (by decide))
  have AR1 := Lib.hid (Blk.apart R1_1 u2 (by decide))
  have AS0 := Lib.hid (Blk.apart R0_1 u3 (by decide))
  have AS1 := Lib.hid (Blk.apart R1_1 u3 (by decide))
  have U2 := Lib.hid u2
  have U3 := Lib.hid u3
  have AP := Lib.hid ap
  have BB := Lib.hid B1
  have cr0 := R0_1.cell0
  have fr0 := R0_1.frozen0
  have cr1 := R1_1.cell0
  have fr1 := R1_1.frozen0
  go_wp2_with fail
  refine bodyPost_ret (v := .tuple #[.agg #[.slice A2 n2 c2], .agg #[.slice A3 n3 c3], .bool true]) (by simp [results, Try.results31, go_sem, cr0, cr1]) rfl ⟨A2, n2, c2, A3, n3, c3, rfl, ?_, ?_, AP.out, ?_⟩
  · exact mine_set (mine_set U2.out AR0.out _) AR1.out _
  · exact mine_set (mine_set U3.out AS0.out _) AS1.out _
  · exact (BB.out.setCell (by simp <;> omega) _).setCell (by simp <;> omega) _

set_option maxRecDepth 10000 in
set_option maxHeartbeats 4000000 in
theorem divOver_own (A : Option Addr) (n c : Nat) (xs : List Int) (A' : Option Addr) (m c' : Nat) (ys : List Int) (p : Int) (w : World) (h : Rd w w.heap.size A n c xs) (h' : Rd w w.heap.size A' m c' ys) (_bdp : -9223372036854775808 ≤ p ∧ p ≤ 9223372036854775807) (_hn : n ≤ 1048576) (_hm : m ≤ 1048576) :
    Calls Try.prog 32 #[.agg #[.slice A n c], .agg #[.slice A' m c'], .int .i64 p] w fun e w' => ∃ A2 n2 c2 A3 n3 c3, e = .returned (.tuple #[.agg #[.slice A2 n2 c2], .agg #[.slice A3 n3 c3], .bool (divOF xs ys p).2.2]) ∧ Mine w' w.heap.size A2 n2 c2 (divOF xs ys p).1 ∧ Mine w' w.heap.size A3 n3 c3 (divOF xs ys p).2.1 ∧ Apart A2 n2 A3 n3 ∧ Below w.heap.size w w' := by
  have conx := fun bl W h0 h1 H H' => over2_own A n c xs A' m c' ys p bl W h0 h1 H H'
  have conz := fun W H => zero_own A' m c' ys W H
  cases tx : ((primeB p && overB xs p) && (primeB p && overB ys p))
  case false =>
    have he : divOF xs ys p = ([], [], false) := by unfold divOF; rw [tx]; rfl
    rw [he]
    rw [tx] at conx
    have Hx := Lib.hid conx
    clear he conx conz
    go_enter Try.func32, Try.ntmps32
    go_wp2_with fail
    refine (Hx.out _ _ (by simp [go_sem]) (by simp [go_sem]) (h.in_ (Below.alloc (al4 w _ _ _ _) (by simp; omega) _)) (h'.in_ (Below.alloc (al4 w _ _ _ _) (by simp; omega) _))).mono ?_
    rintro e w1 ⟨rfl, b1⟩
    have B1 := bthen (Below.alloc (al4 w _ _ _ _) (by simp; omega) _) b1
    have P0_1 : Blk w1 (w.heap.size) 42 #[.slice A n c] := Blk.kept (Blk.alloc (Blk.alloc (Blk.alloc (Blk.alloc (Blk.new w _ _) _) _) _) _) b1
    have cp0_1 := P0_1.cell0
    have P1_1 : Blk w1 (w.heap.size + 1) 42 #[.slice A' m c'] := Blk.kept (Blk.alloc (Blk.alloc (Blk.alloc (Blk.new_at (w.alloc _) _ _ (by simp)) _) _) _) b1
    have cp1_1 := P1_1.cell0
    have R0_1 : Blk w1 (w.heap.size + 1 + 1) 42 #[.slice none 0 0] := Blk.kept (Blk.alloc (Blk.alloc (Blk.new_at ((w.alloc _).alloc _) _ _ (by simp)) _) _) b1
    have R1_1 : Blk w1 (w.heap.size + 1 + 1 + 1) 42 #[.slice none 0 0] := Blk.kept (Blk.alloc (Blk.new_at (((w.alloc _).alloc _).alloc _) _ _ (by simp)) _) b1
    clear b1
    have cr1 := R1_1.cell0
    have fr1 := R1_1.frozen0
    have cr0 := R0_1.cell0
    have fr0 := R0_1.frozen0
    go_wp2_with fail
    refine bodyPost_ret (v := .tuple #[.agg #[.slice none 0 0], .agg #[.slice none 0 0], .bool false]) (by simp [results, Try.results32, go_sem, cr0, cr1]) rfl ⟨none, 0, 0, none, 0, 0, rfl, Mine.none_ _ _, Mine.none_ _ _, apart_none, ?_⟩
    exact ((B1.setCell (by simp; omega) _).setCell (by simp; omega) _)
  cases tz : zeroB ys
  case true =>
    have he : divOF xs ys p = ([], [], false) := by unfold divOF; rw [tx, tz]; rfl
    rw [he]
    rw [tx] at conx
    have Hx := Lib.hid conx
    rw [tz] at conz
    have Hz := Lib.hid conz
    clear he conx conz
    go_enter Try.func32, Try.ntmps32
    go_wp2_with fail
    refine (Hx.out _ _ (by simp [go_sem]) (by simp [go_sem]) (h.in_ (Below.alloc (al4 w _ _ _ _) (by simp; omega) _)) (h'.in_ (Below.alloc (al4 w _ _ _ _) (by simp; omega) _))).mono ?_
    rintro e w1 ⟨rfl, b1⟩
    have B1 := bthen (Below.alloc (al4 w _ _ _ _) (by simp; omega) _) b1
    have P0_1 : Blk w1 (w.heap.size) 42 #[.slice A n c] := Blk.kept (Blk.alloc (Blk.alloc (Blk.alloc (Blk.alloc (Blk.new w _ _) _) _) _) _) b1
    have cp0_1 := P0_1.cell0
    have P1_1 : Blk w1 (w.heap.size + 1) 42 #[.slice A' m c'] := Blk.kept (Blk.alloc (Blk.alloc (Blk.alloc (Blk.new_at (w.alloc _) _ _ (by simp)) _) _) _) b1
    have cp1_1 := P1_1.cell0
    have R0_1 : Blk w1 (w.heap.size + 1 + 1) 42 #[.slice none 0 0] := Blk.kept (Blk.alloc (Blk.alloc (Blk.new_at ((w.alloc _).alloc _) _ _ (by simp)) _) _) b1
    have R1_1 : Blk w1 (w.heap.size + 1 + 1 + 1) 42 #[.slice none 0 0] := Blk.kept (Blk.alloc (Blk.new_at (((w.alloc _).alloc _).alloc _) _ _ (by simp)) _) b1
    clear b1
    go_wp2_with fail
    refine (Hz.out _ (h'.in_ B1)).mono ?_
    rintro e w2 ⟨rfl, b2⟩
    have B2 := bthen B1 b2
    have P0_2 : Blk w2 (w.heap.size) 42 #[.slice A n c] := Blk.kept P0_1 b2
    have cp0_2 := P0_2.cell0
    have P1_2 : Blk w2 (w.heap.size + 1) 42 #[.slice A' m c'] := Blk.kept P1_1 b2
    have cp1_2 := P1_2.cell0
    have R0_2 : Blk w2 (w.heap.size + 1 + 1) 42 #[.slice none 0 0] := Blk.kept R0_1 b2
    have R1_2 : Blk w2 (w.heap.size + 1 + 1 + 1) 42 #[.slice none 0 0] := Blk.kept R1_1 b2
    clear b2 B1 P0_1 cp0_1 P1_1 cp1_1 R0_1 R1_1
    have cr1 := R1_2.cell0
    have fr1 := R1_2.frozen0
    have cr0 := R0_2.cell0
    have fr0 := R0_2.frozen0
    go_wp2_with fail
    refine bodyPost_ret (v := .tuple #[.agg #[.slice none 0 0], .agg #[.slice none 0 0], .bool false]) (by simp [results, Try.results32, go_sem, cr0, cr1]) rfl ⟨none, 0, 0, none, 0, 0, rfl, Mine.none_ _ _, Mine.none_ _ _, apart_none, ?_⟩
    exact ((B2.setCell (by simp; omega) _).setCell (by simp; omega) _)
  have he : divOF xs ys p = ((divQR xs ys p).1, (divQR xs ys p).2, true) := by unfold divOF; rw [tx, tz]; rfl
  rw [he]
  rw [tx] at conx
  have Hx := Lib.hid conx
  have Tx := Lib.hid tx
  rw [tz] at conz
  have Hz := Lib.hid conz
  have Tz := Lib.hid tz
  clear he conx conz
  have hpq := Tx.out
  rw [Bool.and_eq_true, Bool.and_eq_true, Bool.and_eq_true] at hpq
  have hpr := prime_range hpq.1.1
  have hov := hpq.1.2
  have hov' := hpq.2.2
  have hl0 := okW_len (overB_ok hov)
  rw [h.len] at hl0
  have hl1 := okW_len (overB_ok hov')
  rw [h'.len] at hl1
  obtain ⟨P, rfl⟩ := Int.eq_ofNat_of_zero_le (show 0 ≤ p by omega)
  have HXo : Hid (∀ j, 0 ≤ xs.getD j 0 ∧ xs.getD j 0 < (P : Int)) := fun j => overB_lt hov hpr.1 j
  have HYo : Hid (∀ j, 0 ≤ ys.getD j 0 ∧ ys.getD j 0 < (P : Int)) := fun j => overB_lt hov' hpr.1 j
  have HDo := Lib.hid (last_pos hov' Tz.out hpr.1)
  have HTo := Lib.hid (trim_okW (overB_ok hov))
  have HPo := Lib.hid hpq.1.1
  clear hov hov' hpq 
  go_enter Try.func32, Try.ntmps32
  go_wp2_with fail
  refine (Hx.out _ _ (by simp [go_sem]) (by simp [go_sem]) (h.in_ (Below.alloc (al4 w _ _ _ _) (by simp; omega) _)) (h'.in_ (Below.alloc (al4 w _ _ _ _) (by simp; omega) _))).mono ?_
  rintro e w1 ⟨rfl, b1⟩
  have B1 := bthen (Below.alloc (al4 w _ _ _ _) (by simp; omega) _) b1
  have P0_1 : Blk w1 (w.heap.size) 42 #[.slice A n c] := Blk.kept (Blk.alloc (Blk.alloc (Blk.alloc (Blk.alloc (Blk.new w _ _) _) _) _) _) b1
  have cp0_1 := P0_1.cell0
  have P1_1 : Blk w1 (w.heap.size + 1) 42 #[.slice A' m c'] := Blk.kept (Blk.alloc (Blk.alloc (Blk.alloc (Blk.new_at (w.alloc _) _ _ (by simp)) _) _) _) b1
  have cp1_1 := P1_1.cell0
  have R0_1 : Blk w1 (w.heap.size + 1 + 1) 42 #[.slice none 0 0] := Blk.kept (Blk.alloc (Blk.alloc (Blk.new_at ((w.alloc _).alloc _) _ _ (by simp)) _) _) b1
  have R1_1 : Blk w1 (w.heap.size + 1 + 1 + 1) 42 #[.slice none 0 0] := Blk.kept (Blk.alloc (Blk.new_at (((w.alloc _).alloc _).alloc _) _ _ (by simp)) _) b1
  clear b1
  go_wp2_with fail
  refine (Hz.out _ (h'.in_ B1)).mono ?_
  rintro e w2 ⟨rfl, b2⟩
  have B2 := bthen B1 b2
  have P0_2 : Blk w2 (w.heap.size) 42 #[.slice A n c] := Blk.kept P0_1 b2
  have cp0_2 := P0_2.cell0
  have P1_2 : Blk w2 (w.heap.size + 1) 42 #[.slice A' m c'] := Blk.kept P1_1 b2
  have cp1_2 := P1_2.cell0
  have R0_2 : Blk w2 (w.heap.size + 1 + 1) 42 #[.slice none 0 0] := Blk.kept R0_1 b2
  have R1_2 : Blk w2 (w.heap.size + 1 + 1 + 1) 42 #[.slice none 0 0] := Blk.kept R1_1 b2
  clear b2 B1 P0_1 cp0_1 P1_1 cp1_1 R0_1 R1_1
  go_wp2_with fail
  refine (divo_own A n c xs A' m c' ys P _ (h.in_ B2) (h'.in_ B2) hl0 hl1 HPo.out HXo.out HYo.out HDo.out HTo.out).mono ?_
  rintro e w3 ⟨A2, n2, c2, A3, n3, c3, rfl, u2o, u3o, ap, b3⟩
  have u2 := Mine.low u2o (base' := w.heap.size) B2.size
  have u3 := Mine.low u3o (base' := w.heap.size) B2.size
  have B3 := bthen B2 b3
  have P0_3 : Blk w3 (w.heap.size) 42 #[.slice A n c] := Blk.kept P0_2 b3
  have cp0_3 := P0_3.cell0
  have P1_3 : Blk w3 (w.heap.size + 1) 42 #[.slice A' m c'] := Blk.kept P1_2 b3
  have cp1_3 := P1_3.cell0
  have R0_3 : Blk w3 (w.heap.size + 1 + 1) 42 #[.slice none 0 0] := Blk.kept R0_2 b3
  have R1_3 : Blk w3 (w.heap.size + 1 + 1 + 1) 42 #[.slice none 0 0] := Blk.kept R1_2 b3
  clear b3 B2 P0_2 cp0_2 P1_2 cp1_2 R0_2 R1_2
  clear u2o u3o h h'
  go_upto_region 4 with (fail)
  have q0 : Blk ((w3.alloc (.cells #[.slice A2 n2 c2] 42)).alloc (.cells #[.slice A3 n3 c3] 42)) w3.heap.size 42 #[.slice A2 n2 c2] := Blk.alloc (Blk.new w3 _ _) _
  have q1 : Blk ((w3.alloc (.cells #[.slice A2 n2 c2] 42)).alloc (.cells #[.slice A3 n3 c3] 42)) (w3.heap.size + 1) 42 #[.slice A3 n3 c3] := Blk.new_at (w3.alloc _) _ _ (by simp)
  have R0n : Blk ((w3.alloc (.cells #[.slice A2 n2 c2] 42)).alloc (.cells #[.slice A3 n3 c3] 42)) (w.heap.size + 1 + 1) 42 #[.slice none 0 0] := Blk.alloc (Blk.alloc R0_3 _) _
  have R1n : Blk ((w3.alloc (.cells #[.slice A2 n2 c2] 42)).alloc (.cells #[.slice A3 n3 c3] 42)) (w.heap.size + 1 + 1 + 1) 42 #[.slice none 0 0] := Blk.alloc (Blk.alloc R1_3 _) _
  have Bn : Below w.heap.size w ((w3.alloc (.cells #[.slice A2 n2 c2] 42)).alloc (.cells #[.slice A3 n3 c3] 42)) := (B3.alloc B3.size _).alloc (B3.alloc B3.size _).size _
  have u2n : Mine ((w3.alloc (.cells #[.slice A2 n2 c2] 42)).alloc (.cells #[.slice A3 n3 c3] 42)) w.heap.size A2 n2 c2 (divQR xs ys P).1 := Mine.alloc (Mine.alloc u2 _) _
  have u3n : Mine ((w3.alloc (.cells #[.slice A2 n2 c2] 42)).alloc (.cells #[.slice A3 n3 c3] 42)) w.heap.size A3 n3 c3 (divQR xs ys P).2 := Mine.alloc (Mine.alloc u3 _) _
  have hd1 : w.heap.size + 1 + 1 ≠ w3.heap.size := Nat.ne_of_lt R0_3.lt
  have hd2 : w.heap.size + 1 + 1 + 1 ≠ w3.heap.size := Nat.ne_of_lt R1_3.lt
  have hd3 : w.heap.size + 1 + 1 ≠ w3.heap.size + 1 := by have := R0_3.lt; omega
  have hd4 : w.heap.size + 1 + 1 + 1 ≠ w3.heap.size + 1 := by have := R1_3.lt; omega
  clear u2 u3 R0_3 R1_3 B3
  generalize hWn : (w3.alloc (.cells #[.slice A2 n2 c2] 42)).alloc (.cells #[.slice A3 n3 c3] 42) = wn at q0 q1 R0n R1n Bn u2n u3n ⊢
  clear hWn
  have cq0 := q0.cell0
  have cq1 := q1.cell0
  have cr0 := R0n.cell0
  have fr0 := R0n.frozen0
  have cr1 := R1n.cell0
  have fr1 := R1n.frozen0
  have AR0 := Lib.hid (Blk.apart R0n u2n (by decide))
  have AR1 := Lib.hid (Blk.apart R1n u2n (by decide))
  have AS0 := Lib.hid (Blk.apart R0n u3n (by decide))
  have AS1 := Lib.hid (Blk.apart R1n u3n (by decide))
  have U2 := Lib.hid u2n
  have U3 := Lib.hid u3n
  have AP := Lib.hid ap
  have BB := Lib.hid Bn
  clear q0 q1 R0n R1n u2n u3n ap Bn
  go_region
  all_goals
    go_wp2_with fail
    refine bodyPost_ret (v := .tuple #[.agg #[.slice A2 n2 c2], .agg #[.slice A3 n3 c3], .bool true]) (by simp [results, Try.results32, go_sem, cr0, cr1]) rfl ⟨A2, n2, c2, A3, n3, c3, rfl, ?_, ?_, AP.out, ?_⟩
    · first | exact Mine.drew (mine_set (mine_set U2.out AR0.out _) AR1.out _) | exact Mine.drew (mine_set (mine_set U2.out AR1.out _) AR0.out _)
    · first | exact Mine.drew (mine_set (mine_set U3.out AS0.out _) AS1.out _) | exact Mine.drew (mine_set (mine_set U3.out AS1.out _) AS0.out _)
    · exact Below.drew ((BB.out.setCell (by simp <;> omega) _).setCell (by simp <;> omega) _)
end Go.Proofs.Ytlfjnpioamcbhaa
