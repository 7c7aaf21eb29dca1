/- Contracts of AddWholes, the program's and the reference's: 'addF'. Condition: at most 1048576 terms. -/
import Derived.Test.YtanfmhhkabdieaaMul
import Derived.Test.YtanfmhhkabdieaaBox
import Derived.Test.YtanfmhhkabdieaaTrim
import Derived.Test.YtanfmhhkabdieaaAt
import Derived.Lib.MinMax
import Derived.Deep.DeepCutAuto
namespace Go.Proofs.Ytanfmhhkabdieaa
open Go.RowKit

def addU (xs ys : List Int) (x y : Int) : Nat → List Int
  | 0 => []
  | k + 1 => addU xs ys x y k ++ [x * xs.getD k 0 + y * ys.getD k 0]
def addL (xs ys : List Int) (x y : Int) : List Int := addU xs ys x y (max xs.length ys.length)
def addF (xs ys : List Int) (x y : Int) : List Int × Bool := if ((okW xs && okW ys) && inB x (-1000) 1000) && inB y (-1000) 1000 then giveF (addL xs ys x y) else ([], false)
theorem addF_len (xs ys : List Int) (x y : Int) : (addF xs ys x y).1.length ≤ 1048576 := by
  unfold addF
  split
  · exact Nat.le_trans (checkF_len _) (by decide)
  · simp
theorem addU_len (xs ys : List Int) (x y : Int) (k : Nat) : (addU xs ys x y k).length = k := by
  induction k with
  | zero => rfl
  | succ k ih => rw [addU, List.length_append, ih]; rfl
theorem addU_get (xs ys : List Int) (x y : Int) (k j : Nat) (h : j < k) : (addU xs ys x y k).getD j 0 = x * xs.getD j 0 + y * ys.getD j 0 := by
  induction k with
  | zero => omega
  | succ k ih =>
    rw [addU]
    by_cases hj : j < k
    · rw [getD_append _ _ _ (by rw [addU_len]; exact hj), ih hj]
    · obtain rfl : j = k := by omega
      have : (addU xs ys x y j ++ [x * xs.getD j 0 + y * ys.getD j 0]).getD j 0 = (addU xs ys x y j ++ [x * xs.getD j 0 + y * ys.getD j 0]).getD ((addU xs ys x y j).length) 0 := by rw [addU_len]
      rw [this]
      simp
theorem getD_zeros (L j : Nat) : (List.replicate L (0 : Int)).getD j 0 = 0 := by
  by_cases hj : j < L
  · rw [getD_eq (by simpa using hj)]; simp
  · exact getD_beyond (by simp; omega)
theorem rowU_get (ys : List Int) (x : Int) (L : List Int) (k j : Nat) (hj : j < L.length) : (rowU ys x 0 L k).getD j 0 = if j < k then L.getD j 0 + x * ys.getD j 0 else L.getD j 0 := by
  induction k with
  | zero => rw [rowU, if_neg (by omega)]
  | succ k ih =>
    rw [rowU, addAt_get, ih, rowU_len, Nat.zero_add]
    by_cases h1 : k = j
    · subst h1
      rw [if_pos ⟨rfl, hj⟩, if_neg (by omega), if_pos (by omega)]
    · rw [if_neg (fun h => h1 h.1)]
      by_cases h2 : j < k
      · rw [if_pos h2, if_pos (by omega)]
      · rw [if_neg h2, if_neg (by omega)]
theorem add_rows (xs ys : List Int) (x y : Int) : rowU ys y 0 (rowU xs x 0 (List.replicate (max xs.length ys.length) 0) xs.length) ys.length = addL xs ys x y := by
  apply ext_getD
  · rw [rowU_len, rowU_len, List.length_replicate, addL, addU_len]
  · intro j hj
    rw [rowU_len, rowU_len, List.length_replicate] at hj
    rw [rowU_get _ _ _ _ _ (by rw [rowU_len, List.length_replicate]; exact hj), rowU_get _ _ _ _ _ (by rw [List.length_replicate]; exact hj), getD_zeros, addL, addU_get _ _ _ _ _ _ hj]
    by_cases h1 : j < xs.length <;> by_cases h2 : j < ys.length
    · rw [if_pos h1, if_pos h2]; omega
    · rw [if_pos h1, if_neg h2, getD_beyond (xs := ys) (by omega)]; omega
    · rw [if_neg h1, if_pos h2, getD_beyond (xs := xs) (by omega)]; omega
    · omega

set_option maxHeartbeats 2000000 in
theorem addw_ref (A : Option Addr) (n c : Nat) (xs : List Int) (A' : Option Addr) (m c' : Nat) (ys : List Int) (x : Int) (y : Int) (w : World) (h : Rd w w.heap.size A n c xs) (h' : Rd w w.heap.size A' m c' ys) (_bdx : -9223372036854775808 ≤ x ∧ x ≤ 9223372036854775807) (_bdy : -9223372036854775808 ≤ y ∧ y ≤ 9223372036854775807) (_hn : n ≤ 1048576) (_hm : m ≤ 1048576) :
    Calls Try.prog 10 #[.agg #[.slice A n c], .agg #[.slice A' m c'], .int .i64 x, .int .i64 y] w fun e w' => ∃ A2 n2 c2, e = .returned (.tuple #[.agg #[.slice A2 n2 c2], .bool (addF xs ys x y).2]) ∧ Mine w' w.heap.size A2 n2 c2 (addF xs ys x y).1 ∧ Below w.heap.size w w' := by
  have conx := fun b W H hb => isWhole_ref A n c xs b W H hb
  have cony := fun b W H hb => isWhole_ref A' m c' ys b W H hb
  have conu := fun W => in_ref x (-1000) 1000 W
  have conv := fun W => in_ref y (-1000) 1000 W
  cases tx : okW xs
  case false =>
    have he : addF xs ys x y = ([], false) := by unfold addF; simp [tx]
    rw [he]
    rw [tx] at conx
    have Hx := Lib.hid conx
    clear he conx cony conu conv
    go_enter Try.func10, Try.ntmps10
    go_wp2_with fail
    refine (Hx.out _ _ (h.in_ (al3 w _ _ _)) (by simp [go_sem])).mono ?_
    rintro e wz ⟨rfl, rfl⟩
    go_wp2_with fail
    refine bodyPost_ret (v := .tuple #[.agg #[.slice none 0 0], .bool false]) (by simp [results, Try.results10, go_sem]) rfl ⟨none, 0, 0, rfl, Mine.none_ _ _, ?_⟩
    exact (al3 w _ _ _)
  cases ty : okW ys
  case false =>
    have he : addF xs ys x y = ([], false) := by unfold addF; simp [tx, ty]
    rw [he]
    rw [tx] at conx
    have Hx := Lib.hid conx
    rw [ty] at cony
    have Hy := Lib.hid cony
    clear he conx cony conu conv
    go_enter Try.func10, Try.ntmps10
    go_wp2_with fail
    refine (Hx.out _ _ (h.in_ (al3 w _ _ _)) (by simp [go_sem])).mono ?_
    rintro e wz ⟨rfl, rfl⟩
    go_wp2_with fail
    refine (Hy.out _ _ (h'.in_ (al3 w _ _ _)) (by simp [go_sem])).mono ?_
    rintro e wz ⟨rfl, rfl⟩
    go_wp2_with fail
    refine bodyPost_ret (v := .tuple #[.agg #[.slice none 0 0], .bool false]) (by simp [results, Try.results10, go_sem]) rfl ⟨none, 0, 0, rfl, Mine.none_ _ _, ?_⟩
    exact (al3 w _ _ _)
  cases tu : inB x (-1000) 1000
  case false =>
    have he : addF xs ys x y = ([], false) := by unfold addF; simp [tx, ty, tu]
    rw [he]
    rw [tx] at conx
    have Hx := Lib.hid conx
    rw [ty] at cony
    have Hy := Lib.hid cony
    rw [tu] at conu
    have Hu := Lib.hid conu
    clear he conx cony conu conv
    go_enter Try.func10, Try.ntmps10
    go_wp2_with fail
    refine (Hx.out _ _ (h.in_ (al3 w _ _ _)) (by simp [go_sem])).mono ?_
    rintro e wz ⟨rfl, rfl⟩
    go_wp2_with fail
    refine (Hy.out _ _ (h'.in_ (al3 w _ _ _)) (by simp [go_sem])).mono ?_
    rintro e wz ⟨rfl, rfl⟩
    go_wp2_with fail
    refine (Hu.out _ ).mono ?_
    rintro e wz ⟨rfl, rfl⟩
    go_wp2_with fail
    refine bodyPost_ret (v := .tuple #[.agg #[.slice none 0 0], .bool false]) (by simp [results, Try.results10, go_sem]) rfl ⟨none, 0, 0, rfl, Mine.none_ _ _, ?_⟩
    exact (al3 w _ _ _)
  cases tv : inB y (-1000) 1000
  case false =>
    have he : addF xs ys x y = ([], false) := by unfold addF; simp [tx, ty, tu, tv]
    rw [he]
    rw [tx] at conx
    have Hx := Lib.hid conx
    rw [ty] at cony
    have Hy := Lib.hid cony
    rw [tu] at conu
    have Hu := Lib.hid conu
    rw [tv] at conv
    have Hv := Lib.hid conv
    clear he conx cony conu conv
    go_enter Try.func10, Try.ntmps10
    go_wp2_with fail
    refine (Hx.out _ _ (h.in_ (al3 w _ _ _)) (by simp [go_sem])).mono ?_
    rintro e wz ⟨rfl, rfl⟩
    go_wp2_with fail
    refine (Hy.out _ _ (h'.in_ (al3 w _ _ _)) (by simp [go_sem])).mono ?_
    rintro e wz ⟨rfl, rfl⟩
    go_wp2_with fail
    refine (Hu.out _ ).mono ?_
    rintro e wz ⟨rfl, rfl⟩
    go_wp2_with fail
    refine (Hv.out _ ).mono ?_
    rintro e wz ⟨rfl, rfl⟩
    go_wp2_with fail
    refine bodyPost_ret (v := .tuple #[.agg #[.slice none 0 0], .bool false]) (by simp [results, Try.results10, go_sem]) rfl ⟨none, 0, 0, rfl, Mine.none_ _ _, ?_⟩
    exact (al3 w _ _ _)
  have he : addF xs ys x y = giveF (addL xs ys x y) := by unfold addF; simp [tx, ty, tu, tv]
  rw [he]
  rw [tx] at conx
  have Hx := Lib.hid conx
  have Tx := Lib.hid tx
  rw [ty] at cony
  have Hy := Lib.hid cony
  have Ty := Lib.hid ty
  rw [tu] at conu
  have Hu := Lib.hid conu
  have Tu := Lib.hid tu
  rw [tv] at conv
  have Hv := Lib.hid conv
  have Tv := Lib.hid tv
  clear he conx cony conu conv
  have hl0 := okW_len Tx.out
  rw [h.len] at hl0
  have hl1 := okW_len Ty.out
  rw [h'.len] at hl1
  have HX := Lib.hid (okW_bd Tx.out)
  have HY := Lib.hid (okW_bd Ty.out)
  have hxb := inB_true.1 Tu.out
  have hyb := inB_true.1 Tv.out
  have hlen := Lib.hid h.len
  have hlen' := Lib.hid h'.len
  obtain ⟨L, hL⟩ : ∃ L : Nat, max n m = L := ⟨_, rfl⟩
  obtain ⟨i0, hi0, hz0, hz1, hz2⟩ := info_parts int64_info
  obtain ⟨b, o, rfl, hbl, hc⟩ := h.at_ (by omega)
  obtain ⟨b', o', rfl, hbl', hc'⟩ := h'.at_ (by omega)
  have HC := Lib.hid hc
  have HC' := Lib.hid hc'
  have HLz : Hid (max (n : Int) (m : Int) = (L : Int)) := by show _ = _; omega
  clear hc hc'
  go_enter Try.func10, Try.ntmps10
  go_wp2_with fail
  refine (Hx.out _ _ (h.in_ (al3 w _ _ _)) (by simp [go_sem])).mono ?_
  rintro e wz ⟨rfl, rfl⟩
  go_wp2_with fail
  refine (Hy.out _ _ (h'.in_ (al3 w _ _ _)) (by simp [go_sem])).mono ?_
  rintro e wz ⟨rfl, rfl⟩
  go_wp2_with fail
  refine (Hu.out _ ).mono ?_
  rintro e wz ⟨rfl, rfl⟩
  go_wp2_with fail
  refine (Hv.out _ ).mono ?_
  rintro e wz ⟨rfl, rfl⟩
  go_upto_region 3 with (fail)
  have B0 : Below w.heap.size w (((w.alloc (.cells #[.slice (some ⟨b, o, none⟩) n c] 26)).alloc (.cells #[.slice (some ⟨b', o', none⟩) m c'] 26)).alloc (.cells #[.slice none 0 0] 26)) := al3 w _ _ _
  have P0 : Blk (((w.alloc (.cells #[.slice (some ⟨b, o, none⟩) n c] 26)).alloc (.cells #[.slice (some ⟨b', o', none⟩) m c'] 26)).alloc (.cells #[.slice none 0 0] 26)) w.heap.size 26 #[.slice (some ⟨b, o, none⟩) n c] := (Blk.alloc (Blk.alloc (Blk.new w _ _) _) _)
  have P1 : Blk (((w.alloc (.cells #[.slice (some ⟨b, o, none⟩) n c] 26)).alloc (.cells #[.slice (some ⟨b', o', none⟩) m c'] 26)).alloc (.cells #[.slice none 0 0] 26)) (w.heap.size + 1) 26 #[.slice (some ⟨b', o', none⟩) m c'] := (Blk.alloc (Blk.new_at (w.alloc _) _ _ (by simp)) _)
  have R0 : Blk (((w.alloc (.cells #[.slice (some ⟨b, o, none⟩) n c] 26)).alloc (.cells #[.slice (some ⟨b', o', none⟩) m c'] 26)).alloc (.cells #[.slice none 0 0] 26)) (w.heap.size + 1 + 1) 26 #[.slice none 0 0] := (Blk.new_at ((w.alloc _).alloc _) _ _ (by simp))
  generalize hW0 : ((w.alloc (.cells #[.slice (some ⟨b, o, none⟩) n c] 26)).alloc (.cells #[.slice (some ⟨b', o', none⟩) m c'] 26)).alloc (.cells #[.slice none 0 0] 26) = W0 at B0 P0 P1 R0 ⊢
  have HW := Lib.hid hW0
  clear hW0 h h'
  have cp0 := P0.cell0
  have cp1 := P1.cell0
  go_wp2_with (at_make; go_must (refine wpList_make_full _ rfl _ _ 22 rfl W0.heap.size 2 i0 _ 1 Try.underlying22 hi0 hz0 hz1 .i64 .i64 _ _ L rfl rfl HLz.out HLz.out (by rw [hz2]; omega) (by simp [maxLen]; omega) (Nat.le_refl _) ?_); intro w1 hown hgr; have hown0 : Hid (Own w1 W0.heap.size (some ⟨W0.heap.size, 0, none⟩) L L (rowU xs x 0 (List.replicate L 0) 0)) := (by show Own _ _ _ _ _ _; have e : (madeCells (Value.int .i64 0).cells (L * 1)).toList = iv (List.replicate L 0) := (by rw [zeros_iv]); rw [e] at hown; exact hown); have hbel := Lib.hid ((Below.refl W0.heap.size W0).grown hgr (Nat.le_refl _) (by simp)); have cp0' := Blk.cell0 (Blk.kept P0 hbel.out); clear hown hgr hi0 hz0 hz1 hz2 cp0 cp1)
  go_loopg [11, 41] n (fun g _s si wr => ∃ k : Nat, k ≤ n ∧ n - k ≤ g ∧ si = .int .i64 k ∧ Own wr W0.heap.size (some ⟨W0.heap.size, 0, none⟩) L L (rowU xs x 0 (List.replicate L 0) k) ∧ Below W0.heap.size W0 wr)
  case atStart => exact ⟨0, Nat.zero_le _, by omega, rfl, hown0.out, hbel.out⟩
  case round =>
    clear hown0 hbel
    obtain ⟨k, hk, hg, rfl, ho, hb⟩ := hrel
    by_cases hlt : k < n
    · have hltz : (k : Int) < (n : Int) := by omega
      have BB := bthen B0 hb
      have hxc := (BB.cell (p := ⟨b, o + k, none⟩) hbl).trans (HC.out k hlt)
      have hvb := HX.out k
      have cp := Blk.cell0 (Blk.kept P0 hb)
      have hpb := mul_bd 1000 1000000 (a := x) (b := xs.getD k 0) (by omega) (by omega) (by omega) (by omega)
      have hkL : k < L := by omega
      have hlenL : (rowU xs x 0 (List.replicate L 0) k).length = L := by rw [rowU_len, List.length_replicate]
      have hzb := (rowU_bd xs x 0 (List.replicate L 0) 0 1000000000 (by decide) (fun j => by simp only [getD_zeros]; omega) (fun k => by
        have h2 := HX.out k
        have := mul_bd 1000 1000000 (a := x) (b := xs.getD k 0) (by omega) (by omega) (by omega) (by omega)
        omega) k k).2 (by omega)
      have hst := World.ownsRow.stored (n := L) ho k (.int .i64 ((rowU xs x 0 (List.replicate L 0) k).getD k 0 + x * xs.getD k 0))
      have hat := World.ownsRow.cellAt (n := L) ho k (by omega)
      have hfr := World.ownsRow.frozenAt (n := L) ho k
      rw [iv_get _ _ (by rw [hlenL]; exact hkL)] at hat
      rw [iv_set] at hst
      have HS : Hid (Own (wr.setCell ⟨W0.heap.size, k, none⟩ (.int .i64 ((rowU xs x 0 (List.replicate L 0) k).getD k 0 + x * xs.getD k 0))) W0.heap.size (some ⟨W0.heap.size, 0, none⟩) L L (rowU xs x 0 (List.replicate L 0) (k + 1))) := by
        show Own _ _ _ _ _ _
        rw [rowU, addAt, Nat.zero_add]
        exact hst.1
      have HB := Lib.hid (hb.setCell (p := ⟨W0.heap.size, k, none⟩) (Nat.le_refl _) (.int .i64 ((rowU xs x 0 (List.replicate L 0) k).getD k 0 + x * xs.getD k 0)))
      clear hst hb ho hlenL BB hvb
      generalize xs.getD k 0 = y1 at hxc hpb HS HB
      generalize (rowU xs x 0 (List.replicate L 0) k).getD k 0 = z at hat hzb HS HB
      generalize hp : x * y1 = p at hpb HS HB
      have HPP := Lib.hid hp
      have hw1 : IntKind.i64.wrap p = p := IntWalk.i64_in _ (by omega)
      have hw2 : IntKind.i64.wrap (z + p) = z + p := IntWalk.i64_in _ (by omega)
      have hjl : (k : Int) < (L : Int) := by omega
      have hj0 : (0 : Int) ≤ (k : Int) := by omega
      go_wp2_with fail
      go_region
      clear hw1 hw2 hjl hj0
      go_wp2_with fail
      go_roundg (n - (k + 1))
      case measure => omega
      case rel => exact ⟨k + 1, by omega, by omega, by go_num, Own.drew HS.out, Below.drew HB.out⟩
    · have hltz : ¬ (k : Int) < (n : Int) := by omega
      obtain rfl : n = k := by omega
      have HO : Hid (Own wr W0.heap.size (some ⟨W0.heap.size, 0, none⟩) L L (rowU ys y 0 (rowU xs x 0 (List.replicate L 0) n) 0)) := ho
      have HB := Lib.hid hb
      have cp := Blk.cell0 (Blk.kept P1 hb)
      clear ho hb
      go_wp2_with fail
      go_loopg [12, 61] m (fun g _s si wr => ∃ k : Nat, k ≤ m ∧ m - k ≤ g ∧ si = .int .i64 k ∧ Own wr W0.heap.size (some ⟨W0.heap.size, 0, none⟩) L L (rowU ys y 0 (rowU xs x 0 (List.replicate L 0) n) k) ∧ Below W0.heap.size W0 wr)
      case atStart => exact ⟨0, Nat.zero_le _, by omega, rfl, HO.out, HB.out⟩
      case round =>
        clear HO HB
        obtain ⟨k, hk, hg, rfl, ho, hb⟩ := hrel
        by_cases hlt : k < m
        · have hltz : (k : Int) < (m : Int) := by omega
          have BB := bthen B0 hb
          have hxc := (BB.cell (p := ⟨b', o' + k, none⟩) hbl').trans (HC'.out k hlt)
          have hvb := HY.out k
          have cp := Blk.cell0 (Blk.kept P1 hb)
          have hpb := mul_bd 1000 1000000 (a := y) (b := ys.getD k 0) (by omega) (by omega) (by omega) (by omega)
          have hkL : k < L := by omega
          have hlenL : (rowU ys y 0 (rowU xs x 0 (List.replicate L 0) n) k).length = L := by rw [rowU_len, rowU_len, List.length_replicate]
          have hzb := (rowU_bd ys y 0 (rowU xs x 0 (List.replicate L 0) n) 1000000000 1000000000 (by decide) (fun j => by
            have := (rowU_bd xs x 0 (List.replicate L 0) 0 1000000000 (by decide) (fun j => by simp only [getD_zeros]; omega) (fun k => by
              have h2 := HX.out k
              have := mul_bd 1000 1000000 (a := x) (b := xs.getD k 0) (by omega) (by omega) (by omega) (by omega)
              omega) n j).1
            omega) (fun k => by
            have h2 := HY.out k
            have := mul_bd 1000 1000000 (a := y) (b := ys.getD k 0) (by omega) (by omega) (by omega) (by omega)
            omega) k k).2 (by omega)
          have hst := World.ownsRow.stored (n := L) ho k (.int .i64 ((rowU ys y 0 (rowU xs x 0 (List.replicate L 0) n) k).getD k 0 + y * ys.getD k 0))
          have hat := World.ownsRow.cellAt (n := L) ho k (by omega)
          have hfr := World.ownsRow.frozenAt (n := L) ho k
          rw [iv_get _ _ (by rw [hlenL]; exact hkL)] at hat
          rw [iv_set] at hst
          have HS : Hid (Own (wr.setCell ⟨W0.heap.size, k, none⟩ (.int .i64 ((rowU ys y 0 (rowU xs x 0 (List.replicate L 0) n) k).getD k 0 + y * ys.getD k 0))) W0.heap.size (some ⟨W0.heap.size, 0, none⟩) L L (rowU ys y 0 (rowU xs x 0 (List.replicate L 0) n) (k + 1))) := by
            show Own _ _ _ _ _ _
            rw [rowU, addAt, Nat.zero_add]
            exact hst.1
          have HB := Lib.hid (hb.setCell (p := ⟨W0.heap.size, k, none⟩) (Nat.le_refl _) (.int .i64 ((rowU ys y 0 (rowU xs x 0 (List.replicate L 0) n) k).getD k 0 + y * ys.getD k 0)))
          clear hst hb ho hlenL BB hvb
          generalize ys.getD k 0 = y1 at hxc hpb HS HB
          generalize (rowU ys y 0 (rowU xs x 0 (List.replicate L 0) n) k).getD k 0 = z at hat hzb HS HB
          generalize hp : y * y1 = p at hpb HS HB
          have HPP := Lib.hid hp
          have hw1 : IntKind.i64.wrap p = p := IntWalk.i64_in _ (by omega)
          have hw2 : IntKind.i64.wrap (z + p) = z + p := IntWalk.i64_in _ (by omega)
          have hjl : (k : Int) < (L : Int) := by omega
          have hj0 : (0 : Int) ≤ (k : Int) := by omega
          go_wp2_with fail
          go_region
          clear hw1 hw2 hjl hj0
          go_wp2_with fail
          go_roundg (m - (k + 1))
          case measure => omega
          case rel => exact ⟨k + 1, by omega, by omega, by go_num, Own.drew HS.out, Below.drew HB.out⟩
        · have hltz : ¬ (k : Int) < (m : Int) := by omega
          obtain rfl : m = k := by omega
          have HO : Hid (Own wr W0.heap.size (some ⟨W0.heap.size, 0, none⟩) L L (addL xs ys x y)) := by
            show Own _ _ _ _ _ _
            rw [← add_rows xs ys x y, hlen.out, hlen'.out, hL]
            exact ho
          have HB := Lib.hid hb
          have R1 := Blk.kept R0 hb
          clear ho hb
          go_wp2_with fail
          refine (give_ref (some ⟨W0.heap.size, 0, none⟩) L L (addL xs ys x y) _ (Own.rd HO.out) (by omega) (by omega)).mono ?_
          rintro e w9 ⟨A3, n3, c3, rfl, u3o, b9⟩
          have B8 := bthen B0 HB.out
          have B9 := bthen B8 b9
          have R9 := Blk.kept R1 b9
          have u3 := Mine.low u3o (base' := w.heap.size) B8.size
          clear u3o R1 B8 b9
          have AR := Lib.hid (Blk.apart R9 u3 (by decide))
          have U := Lib.hid u3
          have BB := Lib.hid B9
          have cr := R9.cell0
          have fr := R9.frozen0
          go_wp2_with fail
          refine bodyPost_ret (v := .tuple #[.agg #[.slice A3 n3 c3], .bool (giveF (addL xs ys x y)).2]) (by simp [results, Try.results10, go_sem, cr]) rfl ⟨A3, n3, c3, rfl, ?_, ?_⟩
          · exact mine_set U.out AR.out _
          · exact BB.out.setCell (by simp; omega) _

set_option maxHeartbeats 2000000 in
theorem addw_own (A : Option Addr) (n c : Nat) (xs : List Int) (A' : Option Addr) (m c' : Nat) (ys : List Int) (x : Int) (y : Int) (w : World) (h : Rd w w.heap.size A n c xs) (h' : Rd w w.heap.size A' m c' ys) (_bdx : -9223372036854775808 ≤ x ∧ x ≤ 9223372036854775807) (_bdy : -9223372036854775808 ≤ y ∧ y ≤ 9223372036854775807) (_hn : n ≤ 1048576) (_hm : m ≤ 1048576) :
    Calls Try.prog 12 #[.agg #[.slice A n c], .agg #[.slice A' m c'], .int .i64 x, .int .i64 y] w fun e w' => ∃ A2 n2 c2, e = .returned (.tuple #[.agg #[.slice A2 n2 c2], .bool (addF xs ys x y).2]) ∧ Mine w' w.heap.size A2 n2 c2 (addF xs ys x y).1 ∧ Below w.heap.size w w' := by
  have conx := fun W H => validWhole_own A n c xs W H
  have cony := fun W H => validWhole_own A' m c' ys W H
  have conu := fun W => in_own x (-1000) 1000 W
  have conv := fun W => in_own y (-1000) 1000 W
  cases tx : okW xs
  case false =>
    have he : addF xs ys x y = ([], false) := by unfold addF; simp [tx]
    rw [he]
    rw [tx] at conx
    have Hx := Lib.hid conx
    clear he conx cony conu conv
    go_enter Try.func12, Try.ntmps12
    go_wp2_with fail
    refine (Hx.out _ (h.in_ (al3 w _ _ _))).mono ?_
    rintro e w1 ⟨rfl, b1⟩
    have B1 := bthen (al3 w _ _ _) b1
    have P0_1 : Blk w1 (w.heap.size) 26 #[.slice A n c] := Blk.kept (Blk.alloc (Blk.alloc (Blk.new w _ _) _) _) b1
    have cp0_1 := P0_1.cell0
    have P1_1 : Blk w1 (w.heap.size + 1) 26 #[.slice A' m c'] := Blk.kept (Blk.alloc (Blk.new_at (w.alloc _) _ _ (by simp)) _) b1
    have cp1_1 := P1_1.cell0
    have R0_1 : Blk w1 (w.heap.size + 1 + 1) 26 #[.slice none 0 0] := Blk.kept (Blk.new_at ((w.alloc _).alloc _) _ _ (by simp)) b1
    clear b1
    have cr0 := R0_1.cell0
    have fr0 := R0_1.frozen0
    go_wp2_with fail
    refine bodyPost_ret (v := .tuple #[.agg #[.slice none 0 0], .bool false]) (by simp [results, Try.results12, go_sem, cr0]) rfl ⟨none, 0, 0, rfl, Mine.none_ _ _, ?_⟩
    exact (B1.setCell (by simp; omega) _)
  cases ty : okW ys
  case false =>
    have he : addF xs ys x y = ([], false) := by unfold addF; simp [tx, ty]
    rw [he]
    rw [tx] at conx
    have Hx := Lib.hid conx
    rw [ty] at cony
    have Hy := Lib.hid cony
    clear he conx cony conu conv
    go_enter Try.func12, Try.ntmps12
    go_wp2_with fail
    refine (Hx.out _ (h.in_ (al3 w _ _ _))).mono ?_
    rintro e w1 ⟨rfl, b1⟩
    have B1 := bthen (al3 w _ _ _) b1
    have P0_1 : Blk w1 (w.heap.size) 26 #[.slice A n c] := Blk.kept (Blk.alloc (Blk.alloc (Blk.new w _ _) _) _) b1
    have cp0_1 := P0_1.cell0
    have P1_1 : Blk w1 (w.heap.size + 1) 26 #[.slice A' m c'] := Blk.kept (Blk.alloc (Blk.new_at (w.alloc _) _ _ (by simp)) _) b1
    have cp1_1 := P1_1.cell0
    have R0_1 : Blk w1 (w.heap.size + 1 + 1) 26 #[.slice none 0 0] := Blk.kept (Blk.new_at ((w.alloc _).alloc _) _ _ (by simp)) b1
    clear b1
    go_wp2_with fail
    refine (Hy.out _ (h'.in_ B1)).mono ?_
    rintro e w2 ⟨rfl, b2⟩
    have B2 := bthen B1 b2
    have P0_2 : Blk w2 (w.heap.size) 26 #[.slice A n c] := Blk.kept P0_1 b2
    have cp0_2 := P0_2.cell0
    have P1_2 : Blk w2 (w.heap.size + 1) 26 #[.slice A' m c'] := Blk.kept P1_1 b2
    have cp1_2 := P1_2.cell0
    have R0_2 : Blk w2 (w.heap.size + 1 + 1) 26 #[.slice none 0 0] := Blk.kept R0_1 b2
    clear b2 B1 P0_1 cp0_1 P1_1 cp1_1 R0_1
    have cr0 := R0_2.cell0
    have fr0 := R0_2.frozen0
    go_wp2_with fail
    refine bodyPost_ret (v := .tuple #[.agg #[.slice none 0 0], .bool false]) (by simp [results, Try.results12, go_sem, cr0]) rfl ⟨none, 0, 0, rfl, Mine.none_ _ _, ?_⟩
    exact (B2.setCell (by simp; omega) _)
  cases tu : inB x (-1000) 1000
  case false =>
    have he : addF xs ys x y = ([], false) := by unfold addF; simp [tx, ty, tu]
    rw [he]
    rw [tx] at conx
    have Hx := Lib.hid conx
    rw [ty] at cony
    have Hy := Lib.hid cony
    rw [tu] at conu
    have Hu := Lib.hid conu
    clear he conx cony conu conv
    go_enter Try.func12, Try.ntmps12
    go_wp2_with fail
    refine (Hx.out _ (h.in_ (al3 w _ _ _))).mono ?_
    rintro e w1 ⟨rfl, b1⟩
    have B1 := bthen (al3 w _ _ _) b1
    have P0_1 : Blk w1 (w.heap.size) 26 #[.slice A n c] := Blk.kept (Blk.alloc (Blk.alloc (Blk.new w _ _) _) _) b1
    have cp0_1 := P0_1.cell0
    have P1_1 : Blk w1 (w.heap.size + 1) 26 #[.slice A' m c'] := Blk.kept (Blk.alloc (Blk.new_at (w.alloc _) _ _ (by simp)) _) b1
    have cp1_1 := P1_1.cell0
    have R0_1 : Blk w1 (w.heap.size + 1 + 1) 26 #[.slice none 0 0] := Blk.kept (Blk.new_at ((w.alloc _).alloc _) _ _ (by simp)) b1
    clear b1
    go_wp2_with fail
    refine (Hy.out _ (h'.in_ B1)).mono ?_
    rintro e w2 ⟨rfl, b2⟩
    have B2 := bthen B1 b2
    have P0_2 : Blk w2 (w.heap.size) 26 #[.slice A n c] := Blk.kept P0_1 b2
    have cp0_2 := P0_2.cell0
    have P1_2 : Blk w2 (w.heap.size + 1) 26 #[.slice A' m c'] := Blk.kept P1_1 b2
    have cp1_2 := P1_2.cell0
    have R0_2 : Blk w2 (w.heap.size + 1 + 1) 26 #[.slice none 0 0] := Blk.kept R0_1 b2
    clear b2 B1 P0_1 cp0_1 P1_1 cp1_1 R0_1
    go_wp2_with fail
    refine (Hu.out _ ).mono ?_
    rintro e wz ⟨rfl, rfl⟩
    have cr0 := R0_2.cell0
    have fr0 := R0_2.frozen0
    go_wp2_with fail
    refine bodyPost_ret (v := .tuple #[.agg #[.slice none 0 0], .bool false]) (by simp [results, Try.results12, go_sem, cr0]) rfl ⟨none, 0, 0, rfl, Mine.none_ _ _, ?_⟩
    exact (B2.setCell (by simp; omega) _)
  cases tv : inB y (-1000) 1000
  case false =>
    have he : addF xs ys x y = ([], false) := by unfold addF; simp [tx, ty, tu, tv]
    rw [he]
    rw [tx] at conx
    have Hx := Lib.hid conx
    rw [ty] at cony
    have Hy := Lib.hid cony
    rw [tu] at conu
    have Hu := Lib.hid conu
    rw [tv] at conv
    have Hv := Lib.hid conv
    clear he conx cony conu conv
    go_enter Try.func12, Try.ntmps12
    go_wp2_with fail
    refine (Hx.out _ (h.in_ (al3 w _ _ _))).mono ?_
    rintro e w1 ⟨rfl, b1⟩
    have B1 := bthen (al3 w _ _ _) b1
    have P0_1 : Blk w1 (w.heap.size) 26 #[.slice A n c] := Blk.kept (Blk.alloc (Blk.alloc (Blk.new w _ _) _) _) b1
    have cp0_1 := P0_1.cell0
    have P1_1 : Blk w1 (w.heap.size + 1) 26 #[.slice A' m c'] := Blk.kept (Blk.alloc (Blk.new_at (w.alloc _) _ _ (by simp)) _) b1
    have cp1_1 := P1_1.cell0
    have R0_1 : Blk w1 (w.heap.size + 1 + 1) 26 #[.slice none 0 0] := Blk.kept (Blk.new_at ((w.alloc _).alloc _) _ _ (by simp)) b1
    clear b1
    go_wp2_with fail
    refine (Hy.out _ (h'.in_ B1)).mono ?_
    rintro e w2 ⟨rfl, b2⟩
    have B2 := bthen B1 b2
    have P0_2 : Blk w2 (w.heap.size) 26 #[.slice A n c] := Blk.kept P0_1 b2
    have cp0_2 := P0_2.cell0
    have P1_2 : Blk w2 (w.heap.size + 1) 26 #[.slice A' m c'] := Blk.kept P1_1 b2
    have cp1_2 := P1_2.cell0
    have R0_2 : Blk w2 (w.heap.size + 1 + 1) 26 #[.slice none 0 0] := Blk.kept R0_1 b2
    clear b2 B1 P0_1 cp0_1 P1_1 cp1_1 R0_1
    go_wp2_with fail
    refine (Hu.out _ ).mono ?_
    rintro e wz ⟨rfl, rfl⟩
    go_wp2_with fail
    refine (Hv.out _ ).mono ?_
    rintro e wz ⟨rfl, rfl⟩
    have cr0 := R0_2.cell0
    have fr0 := R0_2.frozen0
    go_wp2_with fail
    refine bodyPost_ret (v := .tuple #[.agg #[.slice none 0 0], .bool false]) (by simp [results, Try.results12, go_sem, cr0]) rfl ⟨none, 0, 0, rfl, Mine.none_ _ _, ?_⟩
    exact (B2.setCell (by simp; omega) _)
  have he : addF xs ys x y = giveF (addL xs ys x y) := by unfold addF; simp [tx, ty, tu, tv]
  rw [he]
  rw [tx] at conx
  have Hx := Lib.hid conx
  have Tx := Lib.hid tx
  rw [ty] at cony
  have Hy := Lib.hid cony
  have Ty := Lib.hid ty
  rw [tu] at conu
  have Hu := Lib.hid conu
  have Tu := Lib.hid tu
  rw [tv] at conv
  have Hv := Lib.hid conv
  have Tv := Lib.hid tv
  clear he conx cony conu conv
  change Calls _ _ _ _ fun e w' => ∃ A2 n2 c2, e = .returned (.tuple #[.agg #[.slice A2 n2 c2], .bool (checkF (trimL (addL xs ys x y))).2]) ∧ Mine w' w.heap.size A2 n2 c2 (checkF (trimL (addL xs ys x y))).1 ∧ Below w.heap.size w w'
  have hl0 := okW_len Tx.out
  rw [h.len] at hl0
  have hl1 := okW_len Ty.out
  rw [h'.len] at hl1
  have HX := Lib.hid (okW_bd Tx.out)
  have HY := Lib.hid (okW_bd Ty.out)
  have hxb := inB_true.1 Tu.out
  have hyb := inB_true.1 Tv.out
  have hlen := Lib.hid h.len
  have hlen' := Lib.hid h'.len
  obtain ⟨L, hL⟩ : ∃ L : Nat, max n m = L := ⟨_, rfl⟩
  go_enter Try.func12, Try.ntmps12
  go_wp2_with fail
  refine (Hx.out _ (h.in_ (al3 w _ _ _))).mono ?_
  rintro e w1 ⟨rfl, b1⟩
  have B1 := bthen (al3 w _ _ _) b1
  have P0_1 : Blk w1 (w.heap.size) 26 #[.slice A n c] := Blk.kept (Blk.alloc (Blk.alloc (Blk.new w _ _) _) _) b1
  have cp0_1 := P0_1.cell0
  have P1_1 : Blk w1 (w.heap.size + 1) 26 #[.slice A' m c'] := Blk.kept (Blk.alloc (Blk.new_at (w.alloc _) _ _ (by simp)) _) b1
  have cp1_1 := P1_1.cell0
  have R0_1 : Blk w1 (w.heap.size + 1 + 1) 26 #[.slice none 0 0] := Blk.kept (Blk.new_at ((w.alloc _).alloc _) _ _ (by simp)) b1
  clear b1
  go_wp2_with fail
  refine (Hy.out _ (h'.in_ B1)).mono ?_
  rintro e w2 ⟨rfl, b2⟩
  have B2 := bthen B1 b2
  have P0_2 : Blk w2 (w.heap.size) 26 #[.slice A n c] := Blk.kept P0_1 b2
  have cp0_2 := P0_2.cell0
  have P1_2 : Blk w2 (w.heap.size + 1) 26 #[.slice A' m c'] := Blk.kept P1_1 b2
  have cp1_2 := P1_2.cell0
  have R0_2 : Blk w2 (w.heap.size + 1 + 1) 26 #[.slice none 0 0] := Blk.kept R0_1 b2
  clear b2 B1 P0_1 cp0_1 P1_1 cp1_1 R0_1
  go_wp2_with fail
  refine (Hu.out _ ).mono ?_
  rintro e wz ⟨rfl, rfl⟩
  go_wp2_with fail
  refine (Hv.out _ ).mono ?_
  rintro e wz ⟨rfl, rfl⟩
  have BB2 := Lib.hid B2
  have l0 := P0_2.lt
  have l1 := P1_2.lt
  go_wp2_with fail
  go_loopg [10, 11, 39] L (fun g s10 _s si wr => ∃ (k : Nat) (Ao : Option Addr) (co : Nat), k ≤ L ∧ L - k ≤ g ∧ si = .int .i64 k ∧ s10 = .slice Ao k co ∧ Own wr w2.heap.size Ao k co (addU xs ys x y k) ∧ Below w2.heap.size w2 wr)
  case atStart => exact ⟨0, _, _, Nat.zero_le _, by omega, rfl, rfl, own_empty w2, al1 w2 _⟩
  case round =>
    obtain ⟨k, Ao, co, hk, hg, rfl, rfl, ho, hb⟩ := hrel
    have BW := bthen BB2.out hb
    by_cases hlt : k < L
    · have hltz : (k : Int) < (L : Int) := by omega
      have r0 := Lib.hid (h.in_ BW)
      have r1 := Lib.hid (h'.in_ BW)
      have hc0 := Blk.cell0 (Blk.kept P0_2 hb)
      have hc1 := Blk.cell0 (Blk.kept P1_2 hb)
      have hv0 := HX.out k
      have hv1 := HY.out k
      have hI0 := Lib.hid (fun W H => integerAt_any A n c xs k W H (by omega))
      have hI1 := Lib.hid (fun W H => integerAt_any A' m c' ys k W H (by omega))
      have HS : Hid (addU xs ys x y (k + 1) = addU xs ys x y k ++ [x * xs.getD k 0 + y * ys.getD k 0]) := rfl
      have hp0 := mul_bd 1000 1000000 (a := x) (b := xs.getD k 0) (by omega) (by omega) (by omega) (by omega)
      have hp1 := mul_bd 1000 1000000 (a := y) (b := ys.getD k 0) (by omega) (by omega) (by omega) (by omega)
      have hbs := hb.size
      clear h h' BW hv0 hv1
      generalize xs.getD k 0 = v0 at hI0 HS hp0
      generalize ys.getD k 0 = v1 at hI1 HS hp1
      generalize hq0 : x * v0 = q0 at HS hp0
      generalize hq1 : y * v1 = q1 at HS hp1
      have hw1 : IntKind.i64.wrap q0 = q0 := IntWalk.i64_in _ (by omega)
      have hw2 : IntKind.i64.wrap q1 = q1 := IntWalk.i64_in _ (by omega)
      have hw3 : IntKind.i64.wrap (q0 + q1) = q0 + q1 := IntWalk.i64_in _ (by omega)
      have HO := Lib.hid ho
      have HB := Lib.hid hb
      clear ho hb
      go_wp2_with fail
      go_region_held3 (fun wx => wx.cell? ⟨w.heap.size, 0, none⟩ = some (.slice A n c) ∧ wx.cell? ⟨w.heap.size + 1, 0, none⟩ = some (.slice A' m c')) (first | go_keep | exact ⟨cell_kept (al1 _ _) hc0, cell_kept (al1 _ _) hc1⟩ | exact ⟨hk0, hk1⟩)
        (first
          | (refine step_append_rd rfl (.tmp 42) (.tmp 56) rfl w2.heap.size Ao k co (addU xs ys x y k) rfl (Own.drew (Own.alloc HO.out _)) _ _ 1 1 [q0 + q1] rfl (Rd.drew (rd_lit wr [q0 + q1] 2 1 rfl (by simp [maxLen]))) (by omega) (by simp; omega) ?_; intro A2 c2 w9 ho9 hg9; have B9 := Lib.hid (bgrown (Below.drew (Below.alloc HB.out (Below.size HB.out) _)) (Own.drew (Own.alloc HO.out _)) (Nat.le_refl _) hg9); have hk0 := Blk.cell0 (Blk.kept P0_2 B9.out); have hk1 := Blk.cell0 (Blk.kept P1_2 B9.out); have O9 := Lib.hid ho9; clear ho9 hg9)
          | (go_at_call_of 33 (Value.slice A n c); refine (hI0.out _ (Rd.drew r0.out)).mono ?_; rintro e wz ⟨rfl, rfl⟩)
          | (go_at_call_of 33 (Value.slice A' m c'); refine (hI1.out _ (Rd.drew r1.out)).mono ?_; rintro e wz ⟨rfl, rfl⟩))
      go_wp2_with fail
      go_roundg (L - (k + 1))
      case measure => omega
      case rel => exact ⟨k + 1, A2, c2, by omega, by omega, by go_num, rfl, by rw [HS.out]; exact O9.out, B9.out⟩
    · have hltz : ¬ (k : Int) < (L : Int) := by omega
      obtain rfl : k = L := by omega
      have HU : Hid (Mine wr w2.heap.size Ao k co (addL xs ys x y)) := by
        show Mine _ _ _ _ _ _
        unfold addL
        rw [hlen.out, hlen'.out, hL]
        exact Own.mine ho
      have R3 := Blk.kept R0_2 hb
      have B3 := bthen BB2.out hb
      clear ho hb
      go_wp2_with fail
      refine (whole_own Ao k co (addL xs ys x y) _ _ HU.out (by omega) (by omega)).mono ?_
      rintro e w4 ⟨k4, rfl, u4o, b4⟩
      have R4 := Blk.kept R3 b4
      have B4 := bthen B3 b4
      have u4 := Mine.low u4o (base' := w.heap.size) BB2.out.size
      clear u4o b4 R3 B3
      go_wp2_with fail
      refine (checked_own Ao k4 k4 (trimL (addL xs ys x y)) _ _ u4).mono ?_
      rintro e w5 ⟨A5, n5, c5, rfl, u5, b5⟩
      have R5 := Blk.kept R4 b5
      have B5 := bthen B4 b5
      clear u4 b5 R4 B4
      have AR := Lib.hid (Blk.apart R5 u5 (by decide))
      have U := Lib.hid u5
      have BB := Lib.hid B5
      have cr := R5.cell0
      have fr := R5.frozen0
      go_wp2_with fail
      refine bodyPost_ret (v := .tuple #[.agg #[.slice A5 n5 c5], .bool (checkF (trimL (addL xs ys x y))).2]) (by simp [results, Try.results12, go_sem, cr]) rfl ⟨A5, n5, c5, rfl, ?_, ?_⟩
      · exact mine_set U.out AR.out _
      · exact BB.out.setCell (by simp; omega) _
end Go.Proofs.Ytanfmhhkabdieaa
