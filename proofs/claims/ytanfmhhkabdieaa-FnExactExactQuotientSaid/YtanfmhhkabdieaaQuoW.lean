/- Contracts of ExactQuotient, the program's and the reference's: 'quoF'. Condition: at most 1048576 terms. -/
import Derived.Test.YtanfmhhkabdieaaQuo
import Derived.Test.YtanfmhhkabdieaaFind
import Derived.Deep.RegionHeld3
namespace Go.Proofs.Ytanfmhhkabdieaa
open Go.RowKit

def quoF (xs ys : List Int) : List Int × Bool := if (okW xs && okW ys) && !zeroB ys then (if (divF xs ys).2 = true then giveF (divF xs ys).1 else ([], false)) else ([], false)
theorem quoF_len (xs ys : List Int) : (quoF xs ys).1.length ≤ 1048576 := by
  unfold quoF
  split
  · split
    · exact Nat.le_trans (checkF_len _) (by decide)
    · simp
  · simp
theorem last_ne {xs : List Int} (h : okW xs = true) (hz : zeroB xs = false) : lastOf xs ≠ 0 := by
  have h1 := (okW_true.1 h).1
  rcases h1.2.2 with e | e
  · intro h0
    unfold lastOf at h0
    rw [e] at h0
    unfold zeroB at hz
    have h2 : xs.getD 0 0 = 0 := h0
    rw [e, h2] at hz
    simp at hz
  · exact e
def quoEnd : Option (List Int × List Int) → List Int × Bool
  | none => ([], false)
  | some (L, out) => if allIn 0 0 L then giveF out else ([], false)
theorem quoEnd_some (L out : List Int) : quoEnd (some (L, out)) = if allIn 0 0 L then giveF out else ([], false) := rfl
theorem quoEnd_of (r : Option (List Int × List Int)) : (if (divEnd r).2 = true then giveF (divEnd r).1 else ([], false)) = quoEnd r := by
  cases r with
  | none => rfl
  | some p =>
    obtain ⟨L, out⟩ := p
    rw [divEnd_some, quoEnd_some]
    cases allIn 0 0 L <;> rfl
theorem ne_inB (x : Int) : (x != 0) = !inB x 0 0 := by
  by_cases h : x = 0
  · subst h; rfl
  · have h1 : inB x 0 0 = false := inB_false.2 (by omega)
    rw [h1]; simpa using h
theorem quoTest (w : World) : Tells 54 #[] (fun t => !inB t 0 0) w := by
  intro x q
  show Calls Try.prog 54 #[.int .i64 x] _ _
  have HN := Lib.hid (ne_inB x)
  go_enter Try.func54, Try.ntmps54
  go_wp2_with fail
  go_ret
  exact ⟨ret_bool HN.out, 0, rfl⟩
theorem quoTest_enters : ∀ args w, (callFunc 54 args).run Try.prog w = .ok (.enter 54 args) w := enters_of Try.func54 (by kernel_rfl) rfl

set_option maxHeartbeats 2000000 in
theorem quo_ref (A : Option Addr) (n c : Nat) (xs : List Int) (A' : Option Addr) (m c' : Nat) (ys : List Int) (w : World) (h : Rd w w.heap.size A n c xs) (h' : Rd w w.heap.size A' m c' ys) (_hn : n ≤ 1048576) (_hm : m ≤ 1048576) :
    Calls Try.prog 24 #[.agg #[.slice A n c], .agg #[.slice A' m c']] w fun e w' => ∃ A2 n2 c2, e = .returned (.tuple #[.agg #[.slice A2 n2 c2], .bool (quoF xs ys).2]) ∧ Mine w' w.heap.size A2 n2 c2 (quoF xs ys).1 ∧ Below w.heap.size w w' := by
  have conx := fun b W H hb => isWhole_ref A n c xs b W H hb
  have cony := fun b W H hb => isWhole_ref A' m c' ys b W H hb
  have conz := fun W H => zero_ref A' m c' ys W H
  cases tx : okW xs
  case false =>
    have he : quoF xs ys = ([], false) := by unfold quoF; simp [tx]
    rw [he]
    rw [tx] at conx
    have Hx := Lib.hid conx
    clear he conx cony conz
    go_enter Try.func24, Try.ntmps24
    go_wp2_with fail
    refine (Hx.out _ _ (h.in_ (al3 w _ _ _)) (by simp [go_sem])).mono ?_
    rintro e wz ⟨rfl, rfl⟩
    go_wp2_with fail
    refine bodyPost_ret (v := .tuple #[.agg #[.slice none 0 0], .bool false]) (by simp [results, Try.results24, go_sem]) rfl ⟨none, 0, 0, rfl, Mine.none_ _ _, ?_⟩
    exact (al3 w _ _ _)
  cases ty : okW ys
  case false =>
    have he : quoF xs ys = ([], false) := by unfold quoF; simp [tx, ty]
    rw [he]
    rw [tx] at conx
    have Hx := Lib.hid conx
    rw [ty] at cony
    have Hy := Lib.hid cony
    clear he conx cony conz
    go_enter Try.func24, Try.ntmps24
    go_wp2_with fail
    refine (Hx.out _ _ (h.in_ (al3 w _ _ _)) (by simp [go_sem])).mono ?_
    rintro e wz ⟨rfl, rfl⟩
    go_wp2_with fail
    refine (Hy.out _ _ (h'.in_ (al3 w _ _ _)) (by simp [go_sem])).mono ?_
    rintro e wz ⟨rfl, rfl⟩
    go_wp2_with fail
    refine bodyPost_ret (v := .tuple #[.agg #[.slice none 0 0], .bool false]) (by simp [results, Try.results24, go_sem]) rfl ⟨none, 0, 0, rfl, Mine.none_ _ _, ?_⟩
    exact (al3 w _ _ _)
  cases tz : zeroB ys
  case true =>
    have he : quoF xs ys = ([], false) := by unfold quoF; simp [tx, ty, tz]
    rw [he]
    rw [tx] at conx
    have Hx := Lib.hid conx
    rw [ty] at cony
    have Hy := Lib.hid cony
    rw [tz] at conz
    have Hz := Lib.hid conz
    clear he conx cony conz
    go_enter Try.func24, Try.ntmps24
    go_wp2_with fail
    refine (Hx.out _ _ (h.in_ (al3 w _ _ _)) (by simp [go_sem])).mono ?_
    rintro e wz ⟨rfl, rfl⟩
    go_wp2_with fail
    refine (Hy.out _ _ (h'.in_ (al3 w _ _ _)) (by simp [go_sem])).mono ?_
    rintro e wz ⟨rfl, rfl⟩
    go_wp2_with fail
    refine (Hz.out _ (h'.in_ (al3 w _ _ _))).mono ?_
    rintro e wz ⟨rfl, rfl⟩
    go_wp2_with fail
    refine bodyPost_ret (v := .tuple #[.agg #[.slice none 0 0], .bool false]) (by simp [results, Try.results24, go_sem]) rfl ⟨none, 0, 0, rfl, Mine.none_ _ _, ?_⟩
    exact (al3 w _ _ _)
  have he : quoF xs ys = (if (divF xs ys).2 = true then giveF (divF xs ys).1 else ([], false)) := by unfold quoF; simp [tx, ty, tz]
  rw [he]
  rw [tx] at conx
  have Hx := Lib.hid conx
  have Tx := Lib.hid tx
  rw [ty] at cony
  have Hy := Lib.hid cony
  have Ty := Lib.hid ty
  rw [tz] at conz
  have Hz := Lib.hid conz
  have Tz := Lib.hid tz
  clear he conx cony conz
  have hl0 := okW_len Tx.out
  rw [h.len] at hl0
  have hl1 := okW_len Ty.out
  rw [h'.len] at hl1
  have HX := Lib.hid (okW_bd Tx.out)
  have HY := Lib.hid (okW_bd Ty.out)
  have HD := Lib.hid (last_ne Ty.out Tz.out)
  have hlen := Lib.hid h.len
  have hlen' := Lib.hid h'.len
  have hdc := fun W H H' => divide_ref A n c xs A' m c' ys W H H' (by omega) (by omega) HX.out HY.out HD.out
  have hdl := Lib.hid (divF_len xs ys)
  have hdp := Lib.hid (@divF_pos xs ys)
  cases hok : (divF xs ys).2
  case false =>
    rw [hok] at hdc
    rw [if_neg (by decide)]
    have HDC := Lib.hid hdc
    clear hdc hok
    go_enter Try.func24, Try.ntmps24
    go_wp2_with fail
    refine (Hx.out _ _ (h.in_ (al3 w _ _ _)) (by simp [go_sem])).mono ?_
    rintro e wz ⟨rfl, rfl⟩
    go_wp2_with fail
    refine (Hy.out _ _ (h'.in_ (al3 w _ _ _)) (by simp [go_sem])).mono ?_
    rintro e wz ⟨rfl, rfl⟩
    go_wp2_with fail
    refine (Hz.out _ (h'.in_ (al3 w _ _ _))).mono ?_
    rintro e wz ⟨rfl, rfl⟩
    go_wp2_with fail
    refine (HDC.out _ (h.in_ (al3 w _ _ _)) (h'.in_ (al3 w _ _ _))).mono ?_
    rintro e w1 ⟨A2, n2, c2, rfl, -, b1⟩
    have B1 := bthen (al3 w _ _ _) b1
    have P0_1 : Blk w1 (w.heap.size) 26 #[.slice A n c] := Blk.kept (Blk.alloc (Blk.alloc (Blk.new w _ _) _) _) b1
    have cp0_1 := P0_1.cell0
    have P1_1 : Blk w1 (w.heap.size + 1) 26 #[.slice A' m c'] := Blk.kept (Blk.alloc (Blk.new_at (w.alloc _) _ _ (by simp)) _) b1
    have cp1_1 := P1_1.cell0
    have R0_1 : Blk w1 (w.heap.size + 1 + 1) 26 #[.slice none 0 0] := Blk.kept (Blk.new_at ((w.alloc _).alloc _) _ _ (by simp)) b1
    clear b1
    have cr0 := R0_1.cell0
    have fr0 := R0_1.frozen0
    go_wp2_with fail
    refine bodyPost_ret (v := .tuple #[.agg #[.slice none 0 0], .bool false]) (by simp [results, Try.results24, go_sem, cr0]) rfl ⟨none, 0, 0, rfl, Mine.none_ _ _, ?_⟩
    exact (B1.setCell (by simp; omega) _)
  rw [hok] at hdc
  rw [if_pos rfl]
  have hpos := hdp.out hok
  have HDC := Lib.hid hdc
  have hll := hdl.out
  rw [hlen.out] at hll
  clear hdc hok
  go_enter Try.func24, Try.ntmps24
  go_wp2_with fail
  refine (Hx.out _ _ (h.in_ (al3 w _ _ _)) (by simp [go_sem])).mono ?_
  rintro e wz ⟨rfl, rfl⟩
  go_wp2_with fail
  refine (Hy.out _ _ (h'.in_ (al3 w _ _ _)) (by simp [go_sem])).mono ?_
  rintro e wz ⟨rfl, rfl⟩
  go_wp2_with fail
  refine (Hz.out _ (h'.in_ (al3 w _ _ _))).mono ?_
  rintro e wz ⟨rfl, rfl⟩
  go_wp2_with fail
  refine (HDC.out _ (h.in_ (al3 w _ _ _)) (h'.in_ (al3 w _ _ _))).mono ?_
  rintro e w1 ⟨A2, n2, c2, rfl, u2o, b1⟩
  have u2 := Mine.low u2o (base' := w.heap.size) (al3 w _ _ _).size
  have B1 := bthen (al3 w _ _ _) b1
  have P0_1 : Blk w1 (w.heap.size) 26 #[.slice A n c] := Blk.kept (Blk.alloc (Blk.alloc (Blk.new w _ _) _) _) b1
  have cp0_1 := P0_1.cell0
  have P1_1 : Blk w1 (w.heap.size + 1) 26 #[.slice A' m c'] := Blk.kept (Blk.alloc (Blk.new_at (w.alloc _) _ _ (by simp)) _) b1
  have cp1_1 := P1_1.cell0
  have R0_1 : Blk w1 (w.heap.size + 1 + 1) 26 #[.slice none 0 0] := Blk.kept (Blk.new_at ((w.alloc _).alloc _) _ _ (by simp)) b1
  clear b1
  have hl2 : 0 < n2 ∧ n2 ≤ 1048576 := by rw [← u2.len]; omega
  clear u2o h h' hpos hll
  go_wp2_with fail
  refine (give_ref A2 n2 c2 ((divF xs ys).1) _ u2.rd hl2.2 hl2.1).mono ?_
  rintro e w2 ⟨A3, n3, c3, rfl, u3o, b2⟩
  have u3 := Mine.low u3o (base' := w.heap.size) B1.size
  have B2 := bthen B1 b2
  have P0_2 : Blk w2 (w.heap.size) 26 #[.slice A n c] := Blk.kept P0_1 b2
  have cp0_2 := P0_2.cell0
  have P1_2 : Blk w2 (w.heap.size + 1) 26 #[.slice A' m c'] := Blk.kept P1_1 b2
  have cp1_2 := P1_2.cell0
  have R0_2 : Blk w2 (w.heap.size + 1 + 1) 26 #[.slice none 0 0] := Blk.kept R0_1 b2
  clear b2 B1 P0_1 cp0_1 P1_1 cp1_1 R0_1
  clear u3o u2
  have AR := Lib.hid (Blk.apart R0_2 u3 (by decide))
  have U := Lib.hid u3
  have BB := Lib.hid B2
  have cr := R0_2.cell0
  have fr := R0_2.frozen0
  go_wp2_with fail
  refine bodyPost_ret (v := .tuple #[.agg #[.slice A3 n3 c3], .bool (giveF ((divF xs ys).1)).2]) (by simp [results, Try.results24, go_sem, cr]) rfl ⟨A3, n3, c3, rfl, ?_, ?_⟩
  · exact mine_set U.out AR.out _
  · exact BB.out.setCell (by simp; omega) _

set_option maxRecDepth 10000 in
set_option maxHeartbeats 4000000 in
theorem quo_own (A : Option Addr) (n c : Nat) (xs : List Int) (A' : Option Addr) (m c' : Nat) (ys : List Int) (w : World) (h : Rd w w.heap.size A n c xs) (h' : Rd w w.heap.size A' m c' ys) (_hn : n ≤ 1048576) (_hm : m ≤ 1048576) :
    Calls Try.prog 25 #[.agg #[.slice A n c], .agg #[.slice A' m c']] w fun e w' => ∃ A2 n2 c2, e = .returned (.tuple #[.agg #[.slice A2 n2 c2], .bool (quoF xs ys).2]) ∧ Mine w' w.heap.size A2 n2 c2 (quoF xs ys).1 ∧ Below w.heap.size w w' := by
  have conx := fun W H => validWhole_own A n c xs W H
  have cony := fun W H => validWhole_own A' m c' ys W H
  have conz := fun W H => zero_own A' m c' ys W H
  cases tx : okW xs
  case false =>
    have he : quoF xs ys = ([], false) := by unfold quoF; simp [tx]
    rw [he]
    rw [tx] at conx
    have Hx := Lib.hid conx
    clear he conx cony conz
    go_enter Try.func25, Try.ntmps25
    go_wp2_with fail
    refine (Hx.out _ (h.in_ (al3 w _ _ _))).mono ?_
    rintro e w1 ⟨rfl, b1⟩
    have B1 := bthen (al3 w _ _ _) b1
    have P0_1 : Blk w1 (w.heap.size) 26 #[.slice A n c] := Blk.kept (Blk.alloc (Blk.alloc (Blk.new w _ _) _) _) b1
    have cp0_1 := P0_1.cell0
    have P1_1 : Blk w1 (w.heap.size + 1) 26 #[.slice A' m c'] := Blk.kept (Blk.alloc (Blk.new_at (w.alloc _) _ _ (by simp)) _) b1
    have cp1_1 := P1_1.cell0
    have R0_1 : Blk w1 (w.heap.size + 1 + 1) 26 #[.slice none 0 0] := Blk.kept (Blk.new_at ((w.alloc _).alloc _) _ _ (by simp)) b1
    clear b1
    have cr0 := R0_1.cell0
    have fr0 := R0_1.frozen0
    go_wp2_with fail
    refine bodyPost_ret (v := .tuple #[.agg #[.slice none 0 0], .bool false]) (by simp [results, Try.results25, go_sem, cr0]) rfl ⟨none, 0, 0, rfl, Mine.none_ _ _, ?_⟩
    exact (B1.setCell (by simp; omega) _)
  cases ty : okW ys
  case false =>
    have he : quoF xs ys = ([], false) := by unfold quoF; simp [tx, ty]
    rw [he]
    rw [tx] at conx
    have Hx := Lib.hid conx
    rw [ty] at cony
    have Hy := Lib.hid cony
    clear he conx cony conz
    go_enter Try.func25, Try.ntmps25
    go_wp2_with fail
    refine (Hx.out _ (h.in_ (al3 w _ _ _))).mono ?_
    rintro e w1 ⟨rfl, b1⟩
    have B1 := bthen (al3 w _ _ _) b1
    have P0_1 : Blk w1 (w.heap.size) 26 #[.slice A n c] := Blk.kept (Blk.alloc (Blk.alloc (Blk.new w _ _) _) _) b1
    have cp0_1 := P0_1.cell0
    have P1_1 : Blk w1 (w.heap.size + 1) 26 #[.slice A' m c'] := Blk.kept (Blk.alloc (Blk.new_at (w.alloc _) _ _ (by simp)) _) b1
    have cp1_1 := P1_1.cell0
    have R0_1 : Blk w1 (w.heap.size + 1 + 1) 26 #[.slice none 0 0] := Blk.kept (Blk.new_at ((w.alloc _).alloc _) _ _ (by simp)) b1
    clear b1
    go_wp2_with fail
    refine (Hy.out _ (h'.in_ B1)).mono ?_
    rintro e w2 ⟨rfl, b2⟩
    have B2 := bthen B1 b2
    have P0_2 : Blk w2 (w.heap.size) 26 #[.slice A n c] := Blk.kept P0_1 b2
    have cp0_2 := P0_2.cell0
    have P1_2 : Blk w2 (w.heap.size + 1) 26 #[.slice A' m c'] := Blk.kept P1_1 b2
    have cp1_2 := P1_2.cell0
    have R0_2 : Blk w2 (w.heap.size + 1 + 1) 26 #[.slice none 0 0] := Blk.kept R0_1 b2
    clear b2 B1 P0_1 cp0_1 P1_1 cp1_1 R0_1
    have cr0 := R0_2.cell0
    have fr0 := R0_2.frozen0
    go_wp2_with fail
    refine bodyPost_ret (v := .tuple #[.agg #[.slice none 0 0], .bool false]) (by simp [results, Try.results25, go_sem, cr0]) rfl ⟨none, 0, 0, rfl, Mine.none_ _ _, ?_⟩
    exact (B2.setCell (by simp; omega) _)
  cases tz : zeroB ys
  case true =>
    have he : quoF xs ys = ([], false) := by unfold quoF; simp [tx, ty, tz]
    rw [he]
    rw [tx] at conx
    have Hx := Lib.hid conx
    rw [ty] at cony
    have Hy := Lib.hid cony
    rw [tz] at conz
    have Hz := Lib.hid conz
    clear he conx cony conz
    go_enter Try.func25, Try.ntmps25
    go_wp2_with fail
    refine (Hx.out _ (h.in_ (al3 w _ _ _))).mono ?_
    rintro e w1 ⟨rfl, b1⟩
    have B1 := bthen (al3 w _ _ _) b1
    have P0_1 : Blk w1 (w.heap.size) 26 #[.slice A n c] := Blk.kept (Blk.alloc (Blk.alloc (Blk.new w _ _) _) _) b1
    have cp0_1 := P0_1.cell0
    have P1_1 : Blk w1 (w.heap.size + 1) 26 #[.slice A' m c'] := Blk.kept (Blk.alloc (Blk.new_at (w.alloc _) _ _ (by simp)) _) b1
    have cp1_1 := P1_1.cell0
    have R0_1 : Blk w1 (w.heap.size + 1 + 1) 26 #[.slice none 0 0] := Blk.kept (Blk.new_at ((w.alloc _).alloc _) _ _ (by simp)) b1
    clear b1
    go_wp2_with fail
    refine (Hy.out _ (h'.in_ B1)).mono ?_
    rintro e w2 ⟨rfl, b2⟩
    have B2 := bthen B1 b2
    have P0_2 : Blk w2 (w.heap.size) 26 #[.slice A n c] := Blk.kept P0_1 b2
    have cp0_2 := P0_2.cell0
    have P1_2 : Blk w2 (w.heap.size + 1) 26 #[.slice A' m c'] := Blk.kept P1_1 b2
    have cp1_2 := P1_2.cell0
    have R0_2 : Blk w2 (w.heap.size + 1 + 1) 26 #[.slice none 0 0] := Blk.kept R0_1 b2
    clear b2 B1 P0_1 cp0_1 P1_1 cp1_1 R0_1
    go_wp2_with fail
    refine (Hz.out _ (h'.in_ B2)).mono ?_
    rintro e w3 ⟨rfl, b3⟩
    have B3 := bthen B2 b3
    have P0_3 : Blk w3 (w.heap.size) 26 #[.slice A n c] := Blk.kept P0_2 b3
    have cp0_3 := P0_3.cell0
    have P1_3 : Blk w3 (w.heap.size + 1) 26 #[.slice A' m c'] := Blk.kept P1_2 b3
    have cp1_3 := P1_3.cell0
    have R0_3 : Blk w3 (w.heap.size + 1 + 1) 26 #[.slice none 0 0] := Blk.kept R0_2 b3
    clear b3 B2 P0_2 cp0_2 P1_2 cp1_2 R0_2
    have cr0 := R0_3.cell0
    have fr0 := R0_3.frozen0
    go_wp2_with fail
    refine bodyPost_ret (v := .tuple #[.agg #[.slice none 0 0], .bool false]) (by simp [results, Try.results25, go_sem, cr0]) rfl ⟨none, 0, 0, rfl, Mine.none_ _ _, ?_⟩
    exact (B3.setCell (by simp; omega) _)
  have he : quoF xs ys = (if (divF xs ys).2 = true then giveF (divF xs ys).1 else ([], false)) := by unfold quoF; simp [tx, ty, tz]
  rw [he]
  rw [tx] at conx
  have Hx := Lib.hid conx
  have Tx := Lib.hid tx
  rw [ty] at cony
  have Hy := Lib.hid cony
  have Ty := Lib.hid ty
  rw [tz] at conz
  have Hz := Lib.hid conz
  have Tz := Lib.hid tz
  clear he conx cony conz
  have hl0 := okW_len Tx.out
  rw [h.len] at hl0
  have hl1 := okW_len Ty.out
  rw [h'.len] at hl1
  have HX := Lib.hid (okW_bd Tx.out)
  have HY := Lib.hid (okW_bd Ty.out)
  have HD := Lib.hid (last_ne Ty.out Tz.out)
  have hlen := Lib.hid h.len
  have hlen' := Lib.hid h'.len
  have hzc := fun W H => zero_own A n c xs W H
  cases hz : zeroB xs
  case true =>
    have he : (if (divF xs ys).2 = true then giveF (divF xs ys).1 else ([], false)) = ([0], true) := by
      have h1 : divF xs ys = ([0], true) := by unfold divF; rw [hz]; rfl
      rw [h1]
      rfl
    rw [he]
    rw [hz] at hzc
    have HZ0 := Lib.hid hzc
    clear he hzc
    go_enter Try.func25, Try.ntmps25
    go_wp2_with fail
    refine (Hx.out _ (h.in_ (al3 w _ _ _))).mono ?_
    rintro e w1 ⟨rfl, b1⟩
    have B1 := bthen (al3 w _ _ _) b1
    have P0_1 : Blk w1 (w.heap.size) 26 #[.slice A n c] := Blk.kept (Blk.alloc (Blk.alloc (Blk.new w _ _) _) _) b1
    have cp0_1 := P0_1.cell0
    have P1_1 : Blk w1 (w.heap.size + 1) 26 #[.slice A' m c'] := Blk.kept (Blk.alloc (Blk.new_at (w.alloc _) _ _ (by simp)) _) b1
    have cp1_1 := P1_1.cell0
    have R0_1 : Blk w1 (w.heap.size + 1 + 1) 26 #[.slice none 0 0] := Blk.kept (Blk.new_at ((w.alloc _).alloc _) _ _ (by simp)) b1
    clear b1
    go_wp2_with fail
    refine (Hy.out _ (h'.in_ B1)).mono ?_
    rintro e w2 ⟨rfl, b2⟩
    have B2 := bthen B1 b2
    have P0_2 : Blk w2 (w.heap.size) 26 #[.slice A n c] := Blk.kept P0_1 b2
    have cp0_2 := P0_2.cell0
    have P1_2 : Blk w2 (w.heap.size + 1) 26 #[.slice A' m c'] := Blk.kept P1_1 b2
    have cp1_2 := P1_2.cell0
    have R0_2 : Blk w2 (w.heap.size + 1 + 1) 26 #[.slice none 0 0] := Blk.kept R0_1 b2
    clear b2 B1 P0_1 cp0_1 P1_1 cp1_1 R0_1
    go_wp2_with fail
    refine (Hz.out _ (h'.in_ B2)).mono ?_
    rintro e w3 ⟨rfl, b3⟩
    have B3 := bthen B2 b3
    have P0_3 : Blk w3 (w.heap.size) 26 #[.slice A n c] := Blk.kept P0_2 b3
    have cp0_3 := P0_3.cell0
    have P1_3 : Blk w3 (w.heap.size + 1) 26 #[.slice A' m c'] := Blk.kept P1_2 b3
    have cp1_3 := P1_3.cell0
    have R0_3 : Blk w3 (w.heap.size + 1 + 1) 26 #[.slice none 0 0] := Blk.kept R0_2 b3
    clear b3 B2 P0_2 cp0_2 P1_2 cp1_2 R0_2
    go_wp2_with fail
    refine (HZ0.out _ (h.in_ B3)).mono ?_
    rintro e w4 ⟨rfl, b4⟩
    have B4 := bthen B3 b4
    have P0_4 : Blk w4 (w.heap.size) 26 #[.slice A n c] := Blk.kept P0_3 b4
    have cp0_4 := P0_4.cell0
    have P1_4 : Blk w4 (w.heap.size + 1) 26 #[.slice A' m c'] := Blk.kept P1_3 b4
    have cp1_4 := P1_4.cell0
    have R0_4 : Blk w4 (w.heap.size + 1 + 1) 26 #[.slice none 0 0] := Blk.kept R0_3 b4
    clear b4 B3 P0_3 cp0_3 P1_3 cp1_3 R0_3
    have u1 := Own.mine (own_lit w4 [0] 1 rfl (by simp [maxLen]))
    have br2 := Blk.alloc R0_4 (.cells (iv [0]).toArray 2)
    have cr : (w4.alloc (.cells #[.int .i64 0] 2)).cell? ⟨w.heap.size + 1 + 1, 0, none⟩ = some (.slice none 0 0) := br2.cell0
    have fr : (w4.alloc (.cells #[.int .i64 0] 2)).frozen? ⟨w.heap.size + 1 + 1, 0, none⟩ = false := br2.frozen0
    have AR := Lib.hid (Blk.apart br2 u1 (by decide))
    have U1 := Lib.hid (Mine.low u1 (base' := w.heap.size) B4.size)
    have BB := Lib.hid (B4.alloc B4.size (.cells (iv [0]).toArray 2))
    have hlt1 := R0_4.lt
    have c1 := R0_4.cell0
    clear br2 u1
    go_wp2_with fail
    refine bodyPost_ret (v := .tuple #[.agg #[.slice (some ⟨w4.heap.size, 0, none⟩) 1 1], .bool true]) (by simp [results, Try.results25, go_sem, c1, hlt1]) rfl ⟨_, 1, 1, rfl, ?_, ?_⟩
    · rw [← World.setCell_alloc_past _ _ _ _ hlt1]; exact mine_set U1.out AR.out _
    · rw [← World.setCell_alloc_past _ _ _ _ hlt1]; exact BB.out.setCell (by simp; omega) _
  rw [hz] at hzc
  have HZ0 := Lib.hid hzc
  clear hzc
  have HZQ := Lib.hid hz
  by_cases hlt : n < m
  · have hltz : (n : Int) - 1 < (m : Int) - 1 := by omega
    have he : (if (divF xs ys).2 = true then giveF (divF xs ys).1 else ([], false)) = ([], false) := by
      have h1 : divF xs ys = ([], false) := by unfold divF; rw [hz, hlen.out, hlen'.out, if_neg (by decide), if_pos hlt]
      rw [h1]
      rfl
    rw [he]
    clear he hz hlt
    go_enter Try.func25, Try.ntmps25
    go_wp2_with fail
    refine (Hx.out _ (h.in_ (al3 w _ _ _))).mono ?_
    rintro e w1 ⟨rfl, b1⟩
    have B1 := bthen (al3 w _ _ _) b1
    have P0_1 : Blk w1 (w.heap.size) 26 #[.slice A n c] := Blk.kept (Blk.alloc (Blk.alloc (Blk.new w _ _) _) _) b1
    have cp0_1 := P0_1.cell0
    have P1_1 : Blk w1 (w.heap.size + 1) 26 #[.slice A' m c'] := Blk.kept (Blk.alloc (Blk.new_at (w.alloc _) _ _ (by simp)) _) b1
    have cp1_1 := P1_1.cell0
    have R0_1 : Blk w1 (w.heap.size + 1 + 1) 26 #[.slice none 0 0] := Blk.kept (Blk.new_at ((w.alloc _).alloc _) _ _ (by simp)) b1
    clear b1
    go_wp2_with fail
    refine (Hy.out _ (h'.in_ B1)).mono ?_
    rintro e w2 ⟨rfl, b2⟩
    have B2 := bthen B1 b2
    have P0_2 : Blk w2 (w.heap.size) 26 #[.slice A n c] := Blk.kept P0_1 b2
    have cp0_2 := P0_2.cell0
    have P1_2 : Blk w2 (w.heap.size + 1) 26 #[.slice A' m c'] := Blk.kept P1_1 b2
    have cp1_2 := P1_2.cell0
    have R0_2 : Blk w2 (w.heap.size + 1 + 1) 26 #[.slice none 0 0] := Blk.kept R0_1 b2
    clear b2 B1 P0_1 cp0_1 P1_1 cp1_1 R0_1
    go_wp2_with fail
    refine (Hz.out _ (h'.in_ B2)).mono ?_
    rintro e w3 ⟨rfl, b3⟩
    have B3 := bthen B2 b3
    have P0_3 : Blk w3 (w.heap.size) 26 #[.slice A n c] := Blk.kept P0_2 b3
    have cp0_3 := P0_3.cell0
    have P1_3 : Blk w3 (w.heap.size + 1) 26 #[.slice A' m c'] := Blk.kept P1_2 b3
    have cp1_3 := P1_3.cell0
    have R0_3 : Blk w3 (w.heap.size + 1 + 1) 26 #[.slice none 0 0] := Blk.kept R0_2 b3
    clear b3 B2 P0_2 cp0_2 P1_2 cp1_2 R0_2
    go_wp2_with fail
    refine (HZ0.out _ (h.in_ B3)).mono ?_
    rintro e w4 ⟨rfl, b4⟩
    have B4 := bthen B3 b4
    have P0_4 : Blk w4 (w.heap.size) 26 #[.slice A n c] := Blk.kept P0_3 b4
    have cp0_4 := P0_4.cell0
    have P1_4 : Blk w4 (w.heap.size + 1) 26 #[.slice A' m c'] := Blk.kept P1_3 b4
    have cp1_4 := P1_4.cell0
    have R0_4 : Blk w4 (w.heap.size + 1 + 1) 26 #[.slice none 0 0] := Blk.kept R0_3 b4
    clear b4 B3 P0_3 cp0_3 P1_3 cp1_3 R0_3
    go_wp2_with fail
    refine (degree_any A' m c' _ (by omega)).mono ?_
    rintro e w5 ⟨rfl, b5⟩
    have B5 := bthen B4 b5
    have P0_5 : Blk w5 (w.heap.size) 26 #[.slice A n c] := Blk.kept P0_4 b5
    have cp0_5 := P0_5.cell0
    have P1_5 : Blk w5 (w.heap.size + 1) 26 #[.slice A' m c'] := Blk.kept P1_4 b5
    have cp1_5 := P1_5.cell0
    have R0_5 : Blk w5 (w.heap.size + 1 + 1) 26 #[.slice none 0 0] := Blk.kept R0_4 b5
    clear b5 B4 P0_4 cp0_4 P1_4 cp1_4 R0_4
    go_wp2_with fail
    refine (degree_any A n c _ (by omega)).mono ?_
    rintro e w6 ⟨rfl, b6⟩
    have B6 := bthen B5 b6
    have P0_6 : Blk w6 (w.heap.size) 26 #[.slice A n c] := Blk.kept P0_5 b6
    have cp0_6 := P0_6.cell0
    have P1_6 : Blk w6 (w.heap.size + 1) 26 #[.slice A' m c'] := Blk.kept P1_5 b6
    have cp1_6 := P1_6.cell0
    have R0_6 : Blk w6 (w.heap.size + 1 + 1) 26 #[.slice none 0 0] := Blk.kept R0_5 b6
    clear b6 B5 P0_5 cp0_5 P1_5 cp1_5 R0_5
    have cr0 := R0_6.cell0
    have fr0 := R0_6.frozen0
    go_wp2_with fail
    refine bodyPost_ret (v := .tuple #[.agg #[.slice none 0 0], .bool false]) (by simp [results, Try.results25, go_sem, cr0]) rfl ⟨none, 0, 0, rfl, Mine.none_ _ _, ?_⟩
    exact (B6.setCell (by simp; omega) _)
  have hltz : ¬ (n : Int) - 1 < (m : Int) - 1 := by omega
  obtain ⟨K, hK⟩ : ∃ K : Nat, K + m = n + 1 := ⟨n + 1 - m, by omega⟩
  have HF : Hid ((if (divF xs ys).2 = true then giveF (divF xs ys).1 else ([], false)) = quoEnd (divU ys m (lastOf ys) K xs (List.replicate K 0))) := by
    show _ = _
    have h1 : divF xs ys = divEnd (divU ys m (lastOf ys) K xs (List.replicate K 0)) := by
      unfold divF
      rw [hz, hlen.out, hlen'.out, if_neg (by decide), if_neg hlt, show n + 1 - m = K by omega]
    rw [h1, quoEnd_of]
  generalize (if (divF xs ys).2 = true then giveF (divF xs ys).1 else ([], false)) = R at HF
  have hdb := HY.out (ys.length - 1)
  change -1000000 ≤ lastOf ys ∧ lastOf ys ≤ 1000000 at hdb
  have hlast := fun W H => last_any A' m c' ys W H (by omega)
  have hd := HD.out
  generalize lastOf ys = d at hd hdb hlast HF
  have HLAST := Lib.hid hlast
  have hdz : (d == 0) = false := by simpa using hd
  have HD2 := Lib.hid hd
  obtain ⟨i0, hi0, hz0, hz1, hz2⟩ := info_parts int64_info
  clear hz hlt hd hlast HD
  go_enter Try.func25, Try.ntmps25
  go_wp2_with fail
  refine (Hx.out _ (h.in_ (al3 w _ _ _))).mono ?_
  rintro e w1 ⟨rfl, b1⟩
  have B1 := bthen (al3 w _ _ _) b1
  have P0_1 : Blk w1 (w.heap.size) 26 #[.slice A n c] := Blk.kept (Blk.alloc (Blk.alloc (Blk.new w _ _) _) _) b1
  have cp0_1 := P0_1.cell0
  have P1_1 : Blk w1 (w.heap.size + 1) 26 #[.slice A' m c'] := Blk.kept (Blk.alloc (Blk.new_at (w.alloc _) _ _ (by simp)) _) b1
  have cp1_1 := P1_1.cell0
  have R0_1 : Blk w1 (w.heap.size + 1 + 1) 26 #[.slice none 0 0] := Blk.kept (Blk.new_at ((w.alloc _).alloc _) _ _ (by simp)) b1
  clear b1
  go_wp2_with fail
  refine (Hy.out _ (h'.in_ B1)).mono ?_
  rintro e w2 ⟨rfl, b2⟩
  have B2 := bthen B1 b2
  have P0_2 : Blk w2 (w.heap.size) 26 #[.slice A n c] := Blk.kept P0_1 b2
  have cp0_2 := P0_2.cell0
  have P1_2 : Blk w2 (w.heap.size + 1) 26 #[.slice A' m c'] := Blk.kept P1_1 b2
  have cp1_2 := P1_2.cell0
  have R0_2 : Blk w2 (w.heap.size + 1 + 1) 26 #[.slice none 0 0] := Blk.kept R0_1 b2
  clear b2 B1 P0_1 cp0_1 P1_1 cp1_1 R0_1
  go_wp2_with fail
  refine (Hz.out _ (h'.in_ B2)).mono ?_
  rintro e w3 ⟨rfl, b3⟩
  have B3 := bthen B2 b3
  have P0_3 : Blk w3 (w.heap.size) 26 #[.slice A n c] := Blk.kept P0_2 b3
  have cp0_3 := P0_3.cell0
  have P1_3 : Blk w3 (w.heap.size + 1) 26 #[.slice A' m c'] := Blk.kept P1_2 b3
  have cp1_3 := P1_3.cell0
  have R0_3 : Blk w3 (w.heap.size + 1 + 1) 26 #[.slice none 0 0] := Blk.kept R0_2 b3
  clear b3 B2 P0_2 cp0_2 P1_2 cp1_2 R0_2
  go_wp2_with fail
  refine (HZ0.out _ (h.in_ B3)).mono ?_
  rintro e w4 ⟨rfl, b4⟩
  have B4 := bthen B3 b4
  have P0_4 : Blk w4 (w.heap.size) 26 #[.slice A n c] := Blk.kept P0_3 b4
  have cp0_4 := P0_4.cell0
  have P1_4 : Blk w4 (w.heap.size + 1) 26 #[.slice A' m c'] := Blk.kept P1_3 b4
  have cp1_4 := P1_4.cell0
  have R0_4 : Blk w4 (w.heap.size + 1 + 1) 26 #[.slice none 0 0] := Blk.kept R0_3 b4
  clear b4 B3 P0_3 cp0_3 P1_3 cp1_3 R0_3
  go_wp2_with fail
  refine (degree_any A' m c' _ (by omega)).mono ?_
  rintro e w5 ⟨rfl, b5⟩
  have B5 := bthen B4 b5
  have P0_5 : Blk w5 (w.heap.size) 26 #[.slice A n c] := Blk.kept P0_4 b5
  have cp0_5 := P0_5.cell0
  have P1_5 : Blk w5 (w.heap.size + 1) 26 #[.slice A' m c'] := Blk.kept P1_4 b5
  have cp1_5 := P1_5.cell0
  have R0_5 : Blk w5 (w.heap.size + 1 + 1) 26 #[.slice none 0 0] := Blk.kept R0_4 b5
  clear b5 B4 P0_4 cp0_4 P1_4 cp1_4 R0_4
  go_wp2_with fail
  refine (degree_any A n c _ (by omega)).mono ?_
  rintro e w6 ⟨rfl, b6⟩
  have B6 := bthen B5 b6
  have P0_6 : Blk w6 (w.heap.size) 26 #[.slice A n c] := Blk.kept P0_5 b6
  have cp0_6 := P0_6.cell0
  have P1_6 : Blk w6 (w.heap.size + 1) 26 #[.slice A' m c'] := Blk.kept P1_5 b6
  have cp1_6 := P1_6.cell0
  have R0_6 : Blk w6 (w.heap.size + 1 + 1) 26 #[.slice none 0 0] := Blk.kept R0_5 b6
  clear b6 B5 P0_5 cp0_5 P1_5 cp1_5 R0_5
  go_wp2_with fail
  refine (clone_any A n c xs _ (h.in_ B6) _hn).mono ?_
  rintro e w7 ⟨A1, c1, rfl, u7o, b7⟩
  obtain ⟨g, rfl, hg1, hg2⟩ := (Own.mine u7o).at_ (by omega)
  have l0 := b7.size
  have bw : Blk w7 (w.heap.size + 1) 26 #[.slice A' m c'] := Blk.kept P1_6 b7
  have lw := bw.lt
  have cw := bw.cell0
  have U7 := Lib.hid (Own.mine u7o)
  have B7 := Lib.hid b7
  have P1 := Lib.hid P1_6
  have R6 := Lib.hid R0_6
  have BB6 := Lib.hid B6
  have H1 := Lib.hid h'
  have hWG : w.heap.size ≤ w6.heap.size := B6.size
  clear b7 u7o P0_6 P1_6 R0_6 cp0_6 cp1_6 B6 h h' bw Hx Hy Hz HZ0 Tx Ty Tz HZQ
  go_wp2_with (at_make; go_must (refine wpList_make_full _ rfl _ _ 22 rfl w7.heap.size 2 i0 _ 1 Try.underlying22 hi0 hz0 hz1 .i64 .i64 _ _ K rfl rfl (by omega) (by omega) (by rw [hz2]; omega) (by simp [maxLen]; omega) (Nat.le_refl _) ?_); intro w8 hown hgr; have hown0 : Hid (Mine w8 w6.heap.size (some ⟨w7.heap.size, 0, none⟩) K K (List.replicate K 0)) := (by show Mine _ _ _ _ _ _; have e : (madeCells (Value.int .i64 0).cells (K * 1)).toList = iv (List.replicate K 0) := (by rw [zeros_iv]); rw [e] at hown; exact Mine.low (Own.mine hown) l0); have bel2 : Below w7.heap.size w7 w8 := (Below.refl w7.heap.size w7).grown hgr (Nat.le_refl _) (by simp); have hbel := Lib.hid (bthen B7.out bel2); have O3 := Lib.hid (Mine.below U7.out bel2); clear hown hgr hi0 hz0 hz1 hz2 bel2)
  have hne : g ≠ w7.heap.size := by omega
  clear B7 U7
  generalize hgo2 : w7.heap.size = go at *
  clear hgo2
  have hKb : K ≤ 17 := by omega
  go_loopg [9, 10, 11] K (fun gg s9 _s10 _s11 wr => ∃ (k : Nat) (i : Int) (L out : List Int), k ≤ K ∧ k ≤ gg ∧ i = (k : Int) - 1 ∧ s9 = .int .i64 i ∧ Mine wr w6.heap.size (some ⟨g, 0, none⟩) n c1 L ∧ Mine wr w6.heap.size (some ⟨go, 0, none⟩) K K out ∧ Below w6.heap.size w6 wr ∧ Aside (divU ys m d k L out = divU ys m d K xs (List.replicate K 0)) ∧ Aside (∀ j, -(1000000 + ((K : Int) - k) * 1000000000000) ≤ L.getD j 0 ∧ L.getD j 0 ≤ 1000000 + ((K : Int) - k) * 1000000000000))
  case atStart => exact ⟨K, _, xs, _, Nat.le_refl _, Nat.le_refl _, rfl, by go_num, O3.out, hown0.out, hbel.out, rfl, fun j => by have := HX.out j; omega⟩
  case round =>
    clear O3 hown0 hbel
    obtain ⟨k, i, L, out, hk, hgk, hi, rfl, ho, ho2, hb, hA, hB⟩ := hrel
    by_cases hk0 : k = 0
    · obtain rfl : i = -1 := by omega
      have HE : Hid (R = quoEnd (some (L, out))) := by
        show R = _
        rw [HF.out, ← hA.out, hk0]
        rfl
      have hcf := fun W H => containsFunc_any 54 #[] quoTest_enters (fun t => !inB t 0 0) (some ⟨g, 0, none⟩) n c1 L W (quoTest W) H
      rw [any_not_allIn] at hcf
      have R1 := Blk.kept R6.out hb
      have B1 := bthen BB6.out hb
      have u1 := Mine.rd ho
      have HO2 := Lib.hid ho2
      have hBs := hb.size
      clear hi hA hk0 ho ho2 hB hb
      cases hall : allIn 0 0 L
      case false =>
        have hR : R = ([], false) := by rw [HE.out, quoEnd_some, if_neg (by rw [hall]; decide)]
        subst hR
        rw [hall] at hcf
        have HCF := Lib.hid hcf
        clear hall hcf HE
        go_wp2_with fail
        refine (HCF.out _ u1).mono ?_
        rintro e w9 ⟨rfl, q9, hw9⟩
        have b9 := below_of_drewN hw9
        have R9 := Blk.kept R1 b9
        have B9 := bthen B1 b9
        clear hw9 b9 u1 R1 B1
        have cr0 := R9.cell0
        have fr0 := R9.frozen0
        go_wp2_with fail
        refine bodyPost_ret (v := .tuple #[.agg #[.slice none 0 0], .bool false]) (by simp [results, Try.results25, go_sem, cr0]) rfl ⟨none, 0, 0, rfl, Mine.none_ _ _, ?_⟩
        exact (B9.setCell (by simp; omega) _)
      have hR : R = giveF out := by rw [HE.out, quoEnd_some, if_pos hall]
      subst hR
      rw [hall] at hcf
      have HCF := Lib.hid hcf
      clear hall hcf HE
      go_wp2_with fail
      refine (HCF.out _ u1).mono ?_
      rintro e w9 ⟨rfl, q9, hw9⟩
      have b9 := below_of_drewN hw9
      have R9 := Blk.kept R1 b9
      have B9 := bthen B1 b9
      have u9 := Mine.below HO2.out b9
      clear hw9 b9 u1 R1 B1 HO2
      go_wp2_with fail
      refine (whole_own (some ⟨go, 0, none⟩) K K out _ _ u9 (by omega) (by omega)).mono ?_
      rintro e w10 ⟨k10, rfl, u10o, b10⟩
      have R10 := Blk.kept R9 b10
      have B10 := bthen B9 b10
      have u10 := Mine.low u10o (base' := w.heap.size) hWG
      clear u10o b10 R9 B9 u9
      go_wp2_with fail
      refine (checked_own (some ⟨go, 0, none⟩) k10 k10 (trimL out) _ _ u10).mono ?_
      rintro e w11 ⟨A5, n5, c5, rfl, u5, b5⟩
      have R5 := Blk.kept R10 b5
      have B5 := bthen B10 b5
      clear u10 b5 R10 B10
      have AR := Lib.hid (Blk.apart R5 u5 (by decide))
      have U := Lib.hid u5
      have BB := Lib.hid B5
      have cr := R5.cell0
      have fr := R5.frozen0
      go_wp2_with fail
      refine bodyPost_ret (v := .tuple #[.agg #[.slice A5 n5 c5], .bool (checkF (trimL out)).2]) (by simp [results, Try.results25, go_sem, cr]) rfl ⟨A5, n5, c5, rfl, ?_, ?_⟩
      · exact mine_set U.out AR.out _
      · exact BB.out.setCell (by simp; omega) _
    · obtain ⟨k', rfl⟩ : ∃ k', k = k' + 1 := ⟨k - 1, by omega⟩
      obtain rfl : i = (k' : Int) := by omega
      clear hi hk0
      obtain ⟨j, hj⟩ : ∃ j : Nat, j = k' + (m - 1) := ⟨_, rfl⟩
      have hjz : (k' : Int) + ((m : Int) - 1) = (j : Int) := by omega
      have hjn : j < n := by omega
      have hat := Mine.cell ho hjn
      have hvb := hB.out j
      have HNO : Hid (¬ (L.getD j 0).tmod d = 0 → R = ([], false)) := fun h0 => by rw [HF.out, ← hA.out, divU_no (by rw [← hj]; exact h0)]; rfl
      have HNO2 : Hid ((L.getD j 0).tmod d = 0 → inB ((L.getD j 0).tdiv d) (-1000000) 1000000 = false → R = ([], false)) := fun h0 h1 => by rw [HF.out, ← hA.out, divU_no2 (by rw [← hj]; exact h0) (by rw [← hj]; exact h1)]; rfl
      have HYES : Hid ((L.getD j 0).tmod d = 0 → inB ((L.getD j 0).tdiv d) (-1000000) 1000000 = true → divU ys m d k' (rowU ys (-((L.getD j 0).tdiv d)) k' L m) (out.set k' ((L.getD j 0).tdiv d)) = divU ys m d K xs (List.replicate K 0)) := fun h0 h1 => by
        have hh := hA.out
        rw [divU_yes (by rw [← hj]; exact h0) (by rw [← hj]; exact h1), ← hj] at hh
        exact hh
      have HJ := Lib.hid hj
      clear hA hj
      have HVC : Hid (∀ w9, Mine w9 w6.heap.size (some ⟨g, 0, none⟩) n c1 L → w9.cell? ⟨g, j, none⟩ = some (.int .i64 (L.getD j 0))) := fun w9 h9 => Mine.cell h9 hjn
      generalize L.getD j 0 = v at hat hvb HNO HNO2 HYES HVC
      have htm := tmod_bd v d _ hvb
      have htd := tdiv_bdI v d _ hvb
      have HBB := Lib.hid hB
      clear hB
      have cb := Blk.cell0 (Blk.kept P1.out hb)
      have rb := Lib.hid (H1.out.in_ (bthen BB6.out hb))
      have HO := Lib.hid ho
      have HO2 := Lib.hid ho2
      have HB := Lib.hid hb
      have hwm : IntKind.i64.wrap (v.tmod d) = v.tmod d := IntWalk.i64_in _ (by omega)
      have hjl : (j : Int) < (n : Int) := by omega
      have hj0 : (0 : Int) ≤ (j : Int) := by omega
      have hw3 : IntKind.i64.wrap (j : Int) = (j : Int) := IntWalk.i64_in _ (by omega)
      have hkz : (0 : Int) ≤ (k' : Int) := by omega
      have hd0 : ¬ d = 0 := HD2.out
      clear ho ho2 hb
      go_wp2_with fail
      go_region_held3 (fun wx => wx.cell? ⟨g, j, none⟩ = some (.int .i64 v) ∧ wx.cell? ⟨w.heap.size + 1, 0, none⟩ = some (.slice A' m c')) (first | go_keep | exact ⟨kv, kb⟩)
        (first
          | (go_at_call 52; refine (HLAST.out _ (Rd.drew rb.out)).mono ?_; rintro e wl ⟨rfl, bl⟩; have HOl := Lib.hid (Mine.below (Mine.drew HO.out) bl); have HO2l := Lib.hid (Mine.below (Mine.drew HO2.out) bl); have HBl := Lib.hid (Below.trans (Below.drew HB.out) (bl.mono HB.out.size)); have kv := HVC.out _ HOl.out; have kb := Blk.cell0 (Blk.kept P1.out HBl.out); clear bl))
      by_cases hr : v.tmod d = 0
      case neg =>
        have hr2 : (v.tmod d != 0) = true := by simpa using hr
        have hR := HNO.out hr
        subst hR
        have R9 := Blk.kept R6.out HBl.out
        have B9 := bthen BB6.out HBl.out
        clear hr HNO HNO2 HYES
        have cr0 := R9.cell0
        have fr0 := R9.frozen0
        go_wp2_with fail
        refine bodyPost_ret (v := .tuple #[.agg #[.slice none 0 0], .bool false]) (by simp [results, Try.results25, go_sem, cr0]) rfl ⟨none, 0, 0, rfl, Mine.none_ _ _, ?_⟩
        exact (B9.setCell (by simp; omega) _)
      have HHr := Lib.hid hr
      clear HNO hwm
      have hwd : IntKind.i64.wrap (v.tdiv d) = v.tdiv d := IntWalk.i64_in _ (by omega)
      generalize hqq : v.tdiv d = q at htd HNO2 HYES
      have hwq : IntKind.i64.wrap q = q := IntWalk.i64_in _ (by omega)
      have hkK : k' < K := by omega
      have hkKz : (k' : Int) < (K : Int) := by omega
      have hatl := HVC.out _ HOl.out
      have cbl := Blk.cell0 (Blk.kept P1.out HBl.out)
      have rbl := Lib.hid (H1.out.in_ (bthen BB6.out HBl.out))
      go_wp2_with fail
      go_region_held3 (fun wx => wx.cell? ⟨g, j, none⟩ = some (.int .i64 v) ∧ wx.cell? ⟨w.heap.size + 1, 0, none⟩ = some (.slice A' m c')) (first | go_keep | exact ⟨kv2, kb2⟩ | exact ⟨kv3, kb3⟩)
        (first
          | (go_at_call 52; refine (HLAST.out _ (Rd.drew rbl.out)).mono ?_; rintro e wn ⟨rfl, bn⟩; have OA := Mine.below (Mine.drew HOl.out) bn; have OB := Mine.below (Mine.drew HO2l.out) bn; have BA : Below w6.heap.size w6 wn := Below.trans (Below.drew HBl.out) (bn.mono HBl.out.size); have kv2 := HVC.out _ OA; have kb2 := Blk.cell0 (Blk.kept P1.out BA); have fq := Mine.frozen OB (by omega) k'; have cq := Mine.cell OB hkK; have hst := Mine.stored OB (by omega) k' q; have hcn : (wn.setCell ⟨go, k', none⟩ (.int .i64 q)).cell? ⟨go, k', none⟩ = some (.int .i64 q) := (Mine.cell hst.1 hkK).trans (by rw [getD_set _ _ _ _ (by rw [OB.len]; exact hkK), if_pos rfl]); have HOn := Lib.hid (mine_other OA hst.2 hne); have HO2n := Lib.hid hst.1; have HBn := Lib.hid (BA.setCell (p := ⟨go, k', none⟩) l0 (.int .i64 q)); have kv3 := HVC.out _ HOn.out; have kb3 := Blk.cell0 (Blk.kept P1.out HBn.out); generalize out.getD k' 0 = z0 at cq; clear bn hst OA OB BA))
      clear kv2 kb2 fq cq kv3 kb3 hd0
      have hcon := fun W => in_own q (-1000000) 1000000 W
      cases hin : inB q (-1000000) 1000000
      case false =>
        have hR := HNO2.out HHr.out hin
        subst hR
        rw [hin] at hcon
        have HIN := Lib.hid hcon
        clear hin hcon HNO2 HYES
        go_wp2_with fail
        refine (HIN.out _).mono ?_
        rintro e wz ⟨rfl, rfl⟩
        have R9 := Blk.kept R6.out HBn.out
        have B9 := bthen BB6.out HBn.out
        have cr0 := R9.cell0
        have fr0 := R9.frozen0
        go_wp2_with fail
        refine bodyPost_ret (v := .tuple #[.agg #[.slice none 0 0], .bool false]) (by simp [results, Try.results25, go_sem, cr0]) rfl ⟨none, 0, 0, rfl, Mine.none_ _ _, ?_⟩
        exact (B9.setCell (by simp; omega) _)
      have HQ := Lib.hid (HYES.out HHr.out hin)
      have hqb := inB_true.1 hin
      rw [hin] at hcon
      have HIN := Lib.hid hcon
      clear hin hcon HNO2 HYES
      go_wp2_with fail
      refine (HIN.out _).mono ?_
      rintro e wz ⟨rfl, rfl⟩
      have cbn := Blk.cell0 (Blk.kept P1.out HBn.out)
      go_wp2_with fail
      clear HIN htd hqq hwd hwq cbn hcn
      go_loopg [10, 11, 84] m (fun gg _s10 _s11 si wr => ∃ i : Nat, i ≤ m ∧ m - i ≤ gg ∧ si = .int .i64 i ∧ Mine wr w6.heap.size (some ⟨g, 0, none⟩) n c1 (rowU ys (-q) k' L i) ∧ Mine wr w6.heap.size (some ⟨go, 0, none⟩) K K (out.set k' q) ∧ Below w6.heap.size w6 wr)
      case atStart => exact ⟨0, Nat.zero_le _, by omega, rfl, HOn.out, HO2n.out, HBn.out⟩
      case round =>
        clear HOn HO2n HBn
        obtain ⟨i, hi, hg3, rfl, ho, ho2, hb⟩ := hrel
        by_cases hlt2 : i < m
        · have hltz2 : (i : Int) < (m : Int) := by omega
          have r1 := H1.out.in_ (bthen BB6.out hb)
          obtain ⟨b', o', e', hbl', hc'⟩ := r1.at_ (by omega)
          subst e'
          have hyc := hc' i hlt2
          have hyb := HY.out i
          have hpb := mulT_bd hqb hyb
          obtain ⟨t, ht⟩ : ∃ t : Nat, t = k' + i := ⟨_, rfl⟩
          have htz : (k' : Int) + (i : Int) = (t : Int) := by omega
          have htn : t < n := by omega
          have hzb := (rowU_bd64 ys q k' L _ HBB.out.out hqb HY.out i t).2 (by omega)
          have hst := Mine.stored ho (by omega) t ((rowU ys (-q) k' L i).getD t 0 + -q * ys.getD i 0)
          have hat := Mine.cell ho htn
          have hfr := Mine.frozen ho (by omega) t
          have hqc := (Mine.cell ho2 hkK).trans (show some (Value.int IntKind.i64 ((out.set k' q).getD k' 0)) = some (.int .i64 q) by
            have h7 := ho2.len
            rw [List.length_set] at h7
            rw [getD_set _ _ _ _ (by rw [h7]; exact hkK), if_pos rfl])
          have HS : Hid (Mine (wr.setCell ⟨g, t, none⟩ (.int .i64 ((rowU ys (-q) k' L i).getD t 0 + -q * ys.getD i 0))) w6.heap.size (some ⟨g, 0, none⟩) n c1 (rowU ys (-q) k' L (i + 1))) := by
            show Mine _ _ _ _ _ _
            rw [rowU, addAt, ← ht]
            exact hst.1
          have HO2 := Lib.hid (mine_other ho2 hst.2 (Ne.symm hne))
          have HB2 := Lib.hid (hb.setCell (p := ⟨g, t, none⟩) hg1 (.int .i64 ((rowU ys (-q) k' L i).getD t 0 + -q * ys.getD i 0)))
          have HT := Lib.hid ht
          clear hst hb ho ho2 ht r1 hc'
          generalize ys.getD i 0 = y at hyc hpb HS HO2 HB2
          generalize (rowU ys (-q) k' L i).getD t 0 = z at hat hzb HS HO2 HB2
          rw [show z + -q * y = z - q * y by rw [Int.neg_mul]; rfl] at HS HO2 HB2
          generalize hp : q * y = p at hpb HS HO2 HB2
          have HPP := Lib.hid hp
          clear hyb hp
          have hw1 : IntKind.i64.wrap p = p := IntWalk.i64_in _ (by omega)
          have hw2 : IntKind.i64.wrap (z - p) = z - p := IntWalk.i64_in _ (by omega)
          have hw4 : IntKind.i64.wrap ((k' : Int) + (i : Int)) = (k' : Int) + (i : Int) := IntWalk.i64_in _ (by omega)
          have hjl2 : (t : Int) < (n : Int) := by omega
          have hj02 : (0 : Int) ≤ (t : Int) := by omega
          have hpq : q * y = p := HPP.out
          go_wp2_with fail
          go_region
          clear hw1 hw2 hw4 hjl2 hj02 hpq
          go_wp2_with fail
          go_roundg (m - (i + 1))
          case measure => omega
          case rel => exact ⟨i + 1, by omega, by omega, by go_num, Mine.drew HS.out, Mine.drew HO2.out, Below.drew HB2.out⟩
        · have hltz2 : ¬ (i : Int) < (m : Int) := by omega
          obtain rfl : i = m := by omega
          have HO := Lib.hid ho
          have HO2 := Lib.hid ho2
          have HB2 := Lib.hid hb
          clear ho ho2 hb
          go_wp2_with fail
          go_roundg k'
          case measure => omega
          case rel =>
            refine ⟨k', (k' : Int) - 1, _, _, by omega, by omega, rfl, by go_num, HO.out, HO2.out, HB2.out, HQ.out, fun j => ?_⟩
            have h5 := (rowU_bd64 ys q k' L _ HBB.out.out hqb HY.out i j).1
            omega
end Go.Proofs.Ytanfmhhkabdieaa
