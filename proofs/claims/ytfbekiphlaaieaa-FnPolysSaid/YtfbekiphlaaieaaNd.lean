/- Contracts of halves and MulHalves. Condition: nothing is left open by the words; the polynomials are valid, at most eight terms. -/
import Derived.Test.YtfbekiphlaaieaaNc
import Derived.Deep.CutBlock
import Derived.Deep.DeepCutAuto
namespace Go.Proofs.Ytfbekiphlaaieaa
open Go.RowKit

/-- The product by halves of two lists of 2 to the power of d terms. -/
def hvC : Nat → List (Nat × Nat) → List (Nat × Nat) → List (Nat × Nat)
  | 0, xs, ys => prodC xs ys 1 1
  | 1, xs, ys => prodC xs ys 2 2
  | d + 2, xs, ys => halvesC (hvC (d + 1)) (2 ^ (d + 1)) xs ys
/-- Nothing is left open in it. -/
def HalfW : Nat → List (Nat × Nat) → List (Nat × Nat) → Prop
  | 0, xs, ys => ProdW xs ys 1 1
  | 1, xs, ys => ProdW xs ys 2 2
  | d + 2, xs, ys => HalfW (d + 1) (xs.take (2 ^ (d + 1))) (ys.take (2 ^ (d + 1))) ∧ HalfW (d + 1) (xs.drop (2 ^ (d + 1))) (ys.drop (2 ^ (d + 1))) ∧
      (∀ k, k < 2 ^ (d + 1) → PlusW ((xs.take (2 ^ (d + 1))).getD k (0, 0)) ((xs.drop (2 ^ (d + 1))).getD k (0, 0)) (sumF (xs.take (2 ^ (d + 1))) (xs.drop (2 ^ (d + 1))) k)) ∧
      (∀ k, k < 2 ^ (d + 1) → PlusW ((ys.take (2 ^ (d + 1))).getD k (0, 0)) ((ys.drop (2 ^ (d + 1))).getD k (0, 0)) (sumF (ys.take (2 ^ (d + 1))) (ys.drop (2 ^ (d + 1))) k)) ∧
      HalfC (hvC (d + 1)) (2 ^ (d + 1)) xs ys ∧ HalfW (d + 1) (zipW (2 ^ (d + 1)) (sumF (xs.take (2 ^ (d + 1))) (xs.drop (2 ^ (d + 1))))) (zipW (2 ^ (d + 1)) (sumF (ys.take (2 ^ (d + 1))) (ys.drop (2 ^ (d + 1)))))

set_option maxHeartbeats 1000000 in
theorem halves_base (A : Option Addr) (n c : Nat) (xs : List (Nat × Nat)) (A1 : Option Addr) (c1 : Nat) (ys : List (Nat × Nat)) (w : World) (h1 : 1 ≤ n) (h2 : n ≤ 2) (hx : CRd w w.heap.size A n c xs) (hy : CRd w w.heap.size A1 n c1 ys) (hP : ProdW xs ys n n) :
    Calls Try.prog 69 #[.slice A n c, .slice A1 n c1] w fun e w' => ∃ A' c', e = .returned (.slice A' (n + n - 1) c') ∧ CMine w' w.heap.size A' (n + n - 1) c' (prodC xs ys n n) ∧ Below w.heap.size w w' := by
  have hle : (n : Int) ≤ 2 := by omega
  have HX := Lib.hid hx
  have HY := Lib.hid hy
  have HP := Lib.hid hP
  clear hx hy hP
  go_enter Try.func69, Try.ntmps69
  go_wp2_with fail
  refine (products_any A n c xs A1 n c1 ys _ HX.out HY.out h1 (by omega) h1 (by omega) HP.out).mono ?_
  rintro e w1 ⟨A', c', rfl, m1, b1⟩
  have M1 := Lib.hid m1
  have B1 := Lib.hid b1
  clear m1 b1
  go_wp2_with fail
  go_ret
  exact ⟨_, _, rfl, M1.out, B1.out⟩
theorem halves_any (d : Nat) : d ≤ 3 → ∀ (A : Option Addr) (c : Nat) (xs : List (Nat × Nat)) (A1 : Option Addr) (c1 : Nat) (ys : List (Nat × Nat)) (w : World), CRd w w.heap.size A (2 ^ d) c xs → CRd w w.heap.size A1 (2 ^ d) c1 ys → HalfW d xs ys →
    Calls Try.prog 69 #[.slice A (2 ^ d : Nat) c, .slice A1 (2 ^ d : Nat) c1] w fun e w' => ∃ A' c', e = .returned (.slice A' (2 * 2 ^ d - 1) c') ∧ CMine w' w.heap.size A' (2 * 2 ^ d - 1) c' (hvC d xs ys) ∧ Below w.heap.size w w' := by
  match d with
  | 0 => exact fun _ A c xs A1 c1 ys w hx hy hP => halves_base A 1 c xs A1 c1 ys w (by omega) (by omega) hx hy hP
  | 1 => exact fun _ A c xs A1 c1 ys w hx hy hP => halves_base A 2 c xs A1 c1 ys w (by omega) (by omega) hx hy hP
  | d + 2 =>
    intro hd A c xs A1 c1 ys w hx hy hP
    obtain ⟨p1, p2, p3, p4, p5, p6⟩ := hP
    have hp : 2 ≤ 2 ^ (d + 1) ∧ 2 ^ (d + 1) ≤ 8 := by
      have : d = 0 ∨ d = 1 := by omega
      rcases this with rfl | rfl <;> decide
    exact halves_step (2 ^ (d + 1)) hp.1 hp.2 (hvC (d + 1)) (HalfW (d + 1)) (halves_any (d + 1) (by omega)) A (2 ^ (d + 2)) c xs A1 c1 ys w (by rw [Nat.pow_succ]; omega) hx hy p1 p2 p3 p4 p5 p6
/-- 'copy(out, s)', out a row of the call's own that is known whole: no other row turns. -/
theorem wpList_copy_grown {w : World} {ops : Array Oper} {rest : List Oper} {o : Oper} {a : Act} {Q : Exit → Act → World → Prop} (hgd : o.guard = none) (d s : Operand)
    (ho : o.op = .call { callee := .builtin .copy, args := #[d, s], argTypes := #[25, 25] })
    (g dl dc : Nat) (hd : a.eval d = .slice (some ⟨g, 0, none⟩) dl dc) (B : Nat) (A : Option Addr) (m c : Nat) (xs : List (Nat × Nat)) (hs : a.eval s = .slice A m c) (hr : CRd w B A m c xs) (hm : m ≤ dl) (hm0 : 0 < m)
    (L : List (Nat × Nat)) (hg : w.heap[g]? = some (.cells (civ L).toArray 34 (0, 0))) (hfit : m ≤ L.length)
    (h : ∀ w', Hid (w'.heap[g]? = some (.cells (civ (lay L 0 xs)).toArray 34 (0, 0))) → w.grownBy w' (some g) → wpList Try.prog ops Q rest (a.put o.dst (goInt m)) w') : wpList Try.prog ops Q (o :: rest) a w := by
  have hl := hr.len
  have hc : (civ xs).length = m := by rw [civ_length]; exact hl
  obtain ⟨ad, rfl, hsrc⟩ := crd_src hr hm0
  refine wpList_copy_own hgd d s _ _ ho 34 Try.underlying25 (by kernel_rfl) g 0 dl dc ad m c hd hs (civ L).toArray 34 hg (civ xs) (by rw [hc]; exact (Nat.min_eq_left hm).symm) hsrc (by rw [hc]; simp only [List.size_toArray, civ_length]; omega) (by intro v hv; unfold civ at hv; obtain ⟨x, _, rfl⟩ := List.mem_map.1 hv; rfl) ?_
  rw [hc]
  refine h _ ?_ ⟨rfl, rfl, rfl, by simp [World.setRow], fun k _ hk => setRow_other w g k _ (fun e => hk (by rw [e]))⟩
  show _ = _
  have e1 := civ_lay L 0 xs
  unfold splice at e1
  rw [hc] at e1
  simp only [List.take_zero, List.nil_append, Nat.zero_add] at e1 ⊢
  rw [e1]
  exact setRow_heap w g _ _ _ _ hg
theorem two_rows (w : World) (p : Nat) : (((w.alloc (.cells (madeCells #[.complex .f32 0 0] p) 34)).alloc (.cells (madeCells #[.complex .f32 0 0] p) 34)).drew).heap[w.heap.size]? = some (.cells (civ (List.replicate p (0, 0))).toArray 34 (0, 0)) ∧
    (((w.alloc (.cells (madeCells #[.complex .f32 0 0] p) 34)).alloc (.cells (madeCells #[.complex .f32 0 0] p) 34)).drew).heap[w.heap.size + 1]? = some (.cells (civ (List.replicate p (0, 0))).toArray 34 (0, 0)) := by
  have h1 := made_row w p
  have h2 := made_row (w.alloc (.cells (madeCells #[.complex .f32 0 0] p) 34)) p
  have e : (w.alloc (.cells (madeCells #[.complex .f32 0 0] p) 34)).heap.size = w.heap.size + 1 := by simp
  rw [e] at h2
  exact ⟨((al1 (w.alloc (.cells (madeCells #[.complex .f32 0 0] p) 34)) (.cells (madeCells #[.complex .f32 0 0] p) 34)).block w.heap.size (by rw [e]; omega)).trans h1, h2⟩
/-- How many times 1 is doubled. -/
def hvD (n m : Nat) : Nat := if max n m ≤ 1 then 0 else if max n m ≤ 2 then 1 else if max n m ≤ 4 then 2 else 3
def padW (d : Nat) (xs : List (Nat × Nat)) : List (Nat × Nat) := lay (List.replicate (2 ^ d) (0, 0)) 0 xs
theorem hvD_spec (n m : Nat) (hn : n ≤ 8) (hm : m ≤ 8) (h1 : 1 ≤ n) : hvD n m ≤ 3 ∧ n ≤ 2 ^ hvD n m ∧ m ≤ 2 ^ hvD n m ∧ ∀ k, k < hvD n m → 2 ^ k < n ∨ 2 ^ k < m := by
  unfold hvD
  split
  · refine ⟨by omega, by omega, by omega, fun k hk => by omega⟩
  · split
    · refine ⟨by omega, by omega, by omega, fun k hk => ?_⟩
      have : k = 0 := by omega
      subst this
      omega
    · split
      · refine ⟨by omega, by omega, by omega, fun k hk => ?_⟩
        have : k = 0 ∨ k = 1 := by omega
        rcases this with rfl | rfl <;> omega
      · refine ⟨by omega, by omega, by omega, fun k hk => ?_⟩
        have : k = 0 ∨ k = 1 ∨ k = 2 := by omega
        rcases this with rfl | rfl | rfl <;> omega
set_option maxHeartbeats 4000000 in
set_option maxRecDepth 10000 in
theorem mulHalves_any (A : Option Addr) (n c : Nat) (xs : List (Nat × Nat)) (A1 : Option Addr) (m c1 : Nat) (ys : List (Nat × Nat)) (w : World) (h : CRd w w.heap.size A n c xs) (h1 : CRd w w.heap.size A1 m c1 ys) (hv : Valid xs) (hv1 : Valid ys) (hn8 : n ≤ 8) (hm8 : m ≤ 8) (d : Nat) (hd : hvD n m = d) (hP : HalfW d (padW d xs) (padW d ys)) (hv2 : Valid (trimC (hvC d (padW d xs) (padW d ys)))) :
    Calls Try.prog 27 #[.agg #[.slice A n c], .agg #[.slice A1 m c1]] w fun e w' => ∃ A' n' c', e = .returned (.tuple #[.agg #[.slice A' n' c'], .bool true]) ∧ CRd w' w'.heap.size A' n' c' (trimC (hvC d (padW d xs) (padW d ys))) ∧ Below w.heap.size w w' := by
  have hn : 1 ≤ n := by have := hv.one; rwa [h.len] at this
  have hn17 : n ≤ 17 := by have := hv.most; rwa [h.len] at this
  have hm : 1 ≤ m := by have := hv1.one; rwa [h1.len] at this
  have hm17 : m ≤ 17 := by have := hv1.most; rwa [h1.len] at this
  have HR := Lib.hid h
  have HS := Lib.hid h1
  have HV := Lib.hid hv
  have HV1 := Lib.hid hv1
  have HV2 := Lib.hid hv2
  have HP := Lib.hid hP
  clear h h1 hv hv1 hv2 hP
  go_enter Try.func27, Try.ntmps27
  go_wp2_with fail
  refine (valid_any A n c xs _ (HR.out.in_' (al3 w _ _ _)) HV.out).mono ?_
  rintro e w1 ⟨rfl, b1⟩
  have KA1 := Lib.hid (Blk.kept (Blk.alloc (Blk.alloc (Blk.new w 28 #[.slice A n c]) _) _) b1)
  have KB1 : Hid (Blk w1 (w.heap.size + 1) 28 #[.slice A1 m c1]) := Blk.kept (Blk.alloc (Blk.new_at (w.alloc _) _ _ (by simp)) _) b1
  have KR1 : Hid (Blk w1 (w.heap.size + 1 + 1) 28 #[.slice none 0 0]) := Blk.kept (Blk.new_at ((w.alloc _).alloc _) _ _ (by simp)) b1
  have cb1 := KB1.out.cell0
  have B1 := Lib.hid (bthen (al3 w _ _ _) b1)
  clear b1
  go_wp2_with fail
  refine (valid_any A1 m c1 ys _ (HS.out.in_' B1.out) HV1.out).mono ?_
  rintro e w2 ⟨rfl, b2⟩
  have KA2 := Lib.hid (Blk.kept KA1.out b2)
  have KB2 := Lib.hid (Blk.kept KB1.out b2)
  have KR2 := Lib.hid (Blk.kept KR1.out b2)
  have ca2 := KA2.out.cell0
  have cb2 := KB2.out.cell0
  have B2 := Lib.hid (bthen B1.out b2)
  clear b2 cb1 KA1 KB1 KR1
  obtain ⟨hd3, hdn, hdm, hdk⟩ := hvD_spec n m hn8 hm8 hn
  rw [hd] at hd3 hdn hdm hdk
  obtain ⟨N, hN⟩ : ∃ N, 2 ^ d = N := ⟨_, rfl⟩
  have hN8 : N ≤ 8 := by
    rw [← hN]
    have : d = 0 ∨ d = 1 ∨ d = 2 ∨ d = 3 := by omega
    rcases this with rfl | rfl | rfl | rfl <;> decide
  have HD := Lib.hid hdk
  have HNN := Lib.hid hN
  rw [hN] at hdn hdm
  clear hdk hN hd
  go_wp2_with fail
  go_loopg [6] d (fun g s6 wr => ∃ k p : Nat, k ≤ d ∧ d - k ≤ g ∧ p = 2 ^ k ∧ s6 = .int .i64 p ∧ wr = w2)
  case atStart => exact ⟨0, 1, by omega, by omega, rfl, rfl, rfl⟩
  case round =>
    obtain ⟨k, p, hk, hg, hp, rfl, rfl⟩ := hrel
    by_cases hlt : k < d
    · have hps := HD.out k hlt
      rw [← hp] at hps
      have hpn : Hid (p * 2 = 2 ^ (k + 1)) := by show p * 2 = _; rw [hp, Nat.pow_succ]
      have hp8 : p ≤ 8 := by omega
      clear hp
      by_cases h1 : p < n
      · have h1z : (p : Int) < (n : Int) := by omega
        clear hps
        go_wp2_with fail
        go_roundg (d - (k + 1))
        case measure => omega
        case rel => exact ⟨k + 1, p * 2, by omega, by omega, hpn.out, by go_num, rfl⟩
      · have h1z : ¬ (p : Int) < (n : Int) := by omega
        have h2z : (p : Int) < (m : Int) := by omega
        clear hps
        go_wp2_with fail
        go_roundg (d - (k + 1))
        case measure => omega
        case rel => exact ⟨k + 1, p * 2, by omega, by omega, hpn.out, by go_num, rfl⟩
    · obtain rfl : d = k := by omega
      have hpN : p = N := hp.trans HNN.out
      subst hpN
      have h1z : ¬ (p : Int) < (n : Int) := by omega
      have h2z : ¬ (p : Int) < (m : Int) := by omega
      have hmk := run_make_row' (P := Try.prog) 25 34 (.complex .f32 0 0) 8 Try.underlying25 c64_info rfl .i64 .i64 p (by omega) (by omega)
      clear hp
      go_wp2_with fail
      go_cut [7, 8] (fun sx sy wx => ∃ gx gy, sx = .slice (some ⟨gx, 0, none⟩) p p ∧ sy = .slice (some ⟨gy, 0, none⟩) p p ∧ wr.heap.size ≤ gx ∧ wr.heap.size ≤ gy ∧ gx ≠ gy ∧ wx.heap[gx]? = some (.cells (civ (List.replicate p (0, 0))).toArray 34 (0, 0)) ∧ wx.heap[gy]? = some (.cells (civ (List.replicate p (0, 0))).toArray 34 (0, 0)) ∧ Below wr.heap.size wr wx)
      case first =>
        go_region
        all_goals
          go_wp2_with fail
          go_meet
          first
            | exact ⟨wr.heap.size, wr.heap.size + 1, rfl, rfl, Nat.le_refl _, Nat.le_succ _, Nat.ne_of_lt (Nat.lt_succ_self _), (two_rows wr p).1, (two_rows wr p).2, Below.drew (al2 wr _ _)⟩
            | exact ⟨wr.heap.size + 1, wr.heap.size, rfl, rfl, Nat.le_succ _, Nat.le_refl _, Nat.ne_of_gt (Nat.lt_succ_self _), (two_rows wr p).2, (two_rows wr p).1, Below.drew (al2 wr _ _)⟩
      obtain ⟨gx, gy, rfl, rfl, hgx, hgy, hne, GX, GY, bc⟩ := hcut
      obtain ⟨w6, rfl⟩ : ∃ w6 : World, w6 = wc := ⟨_, rfl⟩
      have KA6 := Lib.hid (Blk.kept KA2.out bc)
      have KB6 := Lib.hid (Blk.kept KB2.out bc)
      have KR6 := Lib.hid (Blk.kept KR2.out bc)
      have ca6 := KA6.out.cell0
      have R6 := Lib.hid (HR.out.in_' (bthen B2.out bc))
      have HGX := Lib.hid GX
      have HGY := Lib.hid GY
      have BC := Lib.hid bc
      clear GX GY bc ca2 cb2 h1z h2z hmk
      have hpos : 0 < n := by omega
      have hpos1 : 0 < m := by omega
      go_wp2_with (first
        | (refine wpList_copy_grown rfl _ _ rfl gx p p rfl _ A n c xs rfl R6.out hdn hpos (List.replicate p (0, 0)) HGX.out (by rw [List.length_replicate]; exact hdn) ?_; intro w7 hg7 hr7; have HG7 := Lib.hid hg7.out; have HGY7 := Lib.hid ((hr7.block gy (Array.getElem?_eq_some_iff.1 HGY.out).1 (fun e => hne (by injection e with e; exact e.symm))).trans HGY.out); have BC7 := Lib.hid (BC.out.grown hr7 BC.out.size (fun k e => by injection e with e; omega)); have KB7 := Lib.hid (Blk.kept KB2.out BC7.out); have cb7 := KB7.out.cell0; have S7 := Lib.hid (HS.out.in_' (bthen B2.out BC7.out)); clear hg7 hr7)
        | (refine wpList_copy_grown rfl _ _ rfl gy p p rfl _ A1 m c1 ys rfl S7.out hdm hpos1 (List.replicate p (0, 0)) HGY7.out (by rw [List.length_replicate]; exact hdm) ?_; intro w8 hg8 hr8; have HG8 := Lib.hid hg8.out; have HGX8 := Lib.hid ((hr8.block gx (Array.getElem?_eq_some_iff.1 HG7.out).1 (fun e => hne (by injection e with e))).trans HG7.out); have BC8 := Lib.hid (BC7.out.grown hr8 BC7.out.size (fun k e => by injection e with e; omega)); have KR8 := Lib.hid (Blk.kept KR2.out BC8.out); clear hg8 hr8))
      have lx : (lay (List.replicate p (0, 0)) 0 xs).length = p := by rw [lay_len _ _ _ (by rw [List.length_replicate, HR.out.len]; omega), List.length_replicate]
      have ly : (lay (List.replicate p (0, 0)) 0 ys).length = p := by rw [lay_len _ _ _ (by rw [List.length_replicate, HS.out.len]; omega), List.length_replicate]
      have RX := Lib.hid (CMine.rd (cmine_row (base := 0) HGX8.out lx (by unfold maxLen; omega) (Nat.zero_le _)))
      have RY := Lib.hid (CMine.rd (cmine_row (base := 0) HG8.out ly (by unfold maxLen; omega) (Nat.zero_le _)))
      have hpd := HNN.out
      have HH := Lib.hid (halves_any d hd3)
      have HPD := HP.out
      unfold padW at HPD
      rw [hpd] at HH HPD
      have HPE := Lib.hid HPD
      have HVE := Lib.hid HV2.out
      have hvd : hvC d (padW d xs) (padW d ys) = hvC d (lay (List.replicate p (0, 0)) 0 xs) (lay (List.replicate p (0, 0)) 0 ys) := by unfold padW; rw [hpd]
      have hp1 : 1 ≤ p := by omega
      clear hpd HPD lx ly ca6 cb7 HP
      rw [hvd] at HVE
      have HVX := Lib.hid hvd
      clear hvd HV2
      generalize lay (List.replicate p (0, 0)) 0 xs = X at *
      generalize lay (List.replicate p (0, 0)) 0 ys = Y at *
      refine (HH.out _ p X _ p Y _ RX.out RY.out HPE.out).mono ?_
      rintro e w9 ⟨A3, c3, rfl, m9, b9⟩
      have KR9 := Lib.hid (Blk.kept KR8.out b9)
      have R9 := Lib.hid (CMine.rd m9)
      have B9 := Lib.hid (bthen (bthen B2.out BC8.out) b9)
      clear m9 b9
      obtain ⟨q, hq⟩ : ∃ q, 2 * p - 1 = q := ⟨_, rfl⟩
      have hq1 : 1 ≤ q := by omega
      have hqi : 2 * (p : Int) - 1 = (q : Int) := by omega
      rw [hq] at R9 ⊢
      clear hq
      go_wp2_with fail
      refine (polyOf_any A3 q c3 (hvC d X Y) _ R9.out hq1 HVE.out).mono ?_
      rintro e w10 ⟨rfl, r10, b10⟩
      have KR10 := Lib.hid (Blk.kept KR9.out b10)
      have R10 := Lib.hid r10
      have B10 := Lib.hid (bthen B9.out b10)
      clear b10 r10
      have c10 := KR10.out.cell0
      have f10 := KR10.out.frozen0
      go_wp2_with fail
      refine bodyPost_ret (v := .tuple #[.agg #[.slice A3 (trimN (hvC d X Y) q) (trimN (hvC d X Y) q)], .bool true]) (by simp [results, Try.results27, go_sem, c10]) rfl ⟨_, _, _, rfl, ?_, ?_⟩
      · rw [HVX.out]
        have h9 := R10.out.set_other c10 (by intro p e; unfold cx at e; cases e) (.slice A3 (trimN (hvC d X Y) q) (trimN (hvC d X Y) q))
        simpa using h9
      · exact B10.out.setCell (by simp; omega) _
end Go.Proofs.Ytfbekiphlaaieaa
