/- Contracts of halves and MulHalves. Condition: nothing is left open by the words; the polynomials are valid. -/
import Derived.Test.YtfbekiphlaaieaaNb
import Derived.Laws.CopyOwn
namespace Go.Proofs.Ytfbekiphlaaieaa
open Go.RowKit

/-- What lies behind the first h. -/
theorem CRd.rest {w : World} {B b o n c : Nat} {xs : List (Nat × Nat)} (h : CRd w B (some ⟨b, o, none⟩) n c xs) {k : Nat} (hk : k < n) : CRd w B (some ⟨b, o + k, none⟩) (n - k) (c - k) (xs.drop k) := by
  have h1 := h.cap
  have h2 := h.most
  refine ⟨by rw [List.length_drop, h.len], by omega, by omega, fun _ => ?_⟩
  obtain ⟨b', o', e, hb, hc⟩ := h.at_ (by omega)
  cases e
  refine ⟨b, o + k, rfl, hb, fun j hj => ?_⟩
  rw [Nat.add_assoc, hc (k + j) (by omega)]
  simp [List.getD, List.getElem?_drop]
/-- A list over another one. -/
def lay (L : List (Nat × Nat)) (off : Nat) (xs : List (Nat × Nat)) : List (Nat × Nat) := splice L off xs
theorem lay_len (L : List (Nat × Nat)) (off : Nat) (xs : List (Nat × Nat)) (h : off + xs.length ≤ L.length) : (lay L off xs).length = L.length := length_splice L off xs h
theorem civ_lay (L : List (Nat × Nat)) (off : Nat) (xs : List (Nat × Nat)) : splice (civ L) off (civ xs) = civ (lay L off xs) := by
  unfold lay splice civ
  simp [List.map_take, List.map_drop]
theorem crd_src {w : World} {B : Nat} {A : Option Addr} {n c : Nat} {xs : List (Nat × Nat)} (h : CRd w B A n c xs) (hn : 0 < n) : ∃ ad, A = some ad ∧ ∀ j v, (civ xs)[j]? = some v → w.cell? (ad.add j) = some v := by
  obtain ⟨b, o, rfl, _, hc⟩ := h.at_ hn
  refine ⟨_, rfl, fun j v hj => ?_⟩
  have hjn : j < xs.length := by
    have := (List.getElem?_eq_some_iff.1 hj).1
    rwa [civ_length] at this
  rw [civ_get xs j hjn] at hj
  have hadd : (⟨b, o, none⟩ : Addr).add j = ⟨b, o + j, none⟩ := by unfold Addr.add; split <;> simp_all
  rw [hadd, hc j (by rw [← h.len]; exact hjn)]
  exact hj
/-- 'copy(out[off:], s)', out a row of the call's own that is known whole. -/
theorem wpList_copy_crd {w : World} {ops : Array Oper} {rest : List Oper} {o : Oper} {a : Act} {Q : Exit → Act → World → Prop} (hgd : o.guard = none) (d s : Operand)
    (ho : o.op = .call { callee := .builtin .copy, args := #[d, s], argTypes := #[25, 25] })
    (g off dl dc : Nat) (hd : a.eval d = .slice (some ⟨g, off, none⟩) dl dc) (B : Nat) (A : Option Addr) (m c : Nat) (xs : List (Nat × Nat)) (hs : a.eval s = .slice A m c) (hr : CRd w B A m c xs) (hm : m ≤ dl)
    (L : List (Nat × Nat)) (hg : w.heap[g]? = some (.cells (civ L).toArray 34 (0, 0))) (hfit : off + m ≤ L.length) (w0 : World) (hb : Below w0.heap.size w0 w) (hBg : w0.heap.size ≤ g)
    (h : ∀ w', Hid (w'.heap[g]? = some (.cells (civ (lay L off xs)).toArray 34 (0, 0))) → Below w0.heap.size w0 w' → wpList Try.prog ops Q rest (a.put o.dst (goInt m)) w') : wpList Try.prog ops Q (o :: rest) a w := by
  have hl := hr.len
  have hc : (civ xs).length = m := by rw [civ_length]; exact hl
  refine wpList_copy_splice hgd d s _ _ ho 34 Try.underlying25 (by kernel_rfl) _ A dl dc m c hd hs g off (civ L) 34 hg (civ xs) (by rw [hc]; exact (Nat.min_eq_left hm).symm) (fun h0 => ⟨rfl, crd_src hr (by omega)⟩) (by rw [hc, civ_length]; exact hfit) (by intro v hv; unfold civ at hv; obtain ⟨x, _, rfl⟩ := List.mem_map.1 hv; rfl) _ w0 hb hBg ?_
  intro w' h1 h2
  rw [hc]
  have h3 := h1.out
  rw [civ_lay] at h3
  exact h w' h3 h2
theorem cmine_row {w : World} {base g r : Nat} {L : List (Nat × Nat)} (hg : w.heap[g]? = some (.cells (civ L).toArray 34 (0, 0))) (hl : L.length = r) (hr : r ≤ maxLen) (hb : base ≤ g) : CMine w base (some ⟨g, 0, none⟩) r r L :=
  ⟨hl, Nat.le_refl _, hr, fun _ => ⟨g, (civ L).toArray, rfl, hb, hg, by simp [civ, hl], by rw [List.take_of_length_le (by simp [civ, hl])]⟩⟩
theorem made_row (w : World) (r : Nat) : (w.alloc (.cells (madeCells #[.complex .f32 0 0] r) 34)).heap[w.heap.size]? = some (.cells (civ (List.replicate r (0, 0))).toArray 34 (0, 0)) := by
  rw [heap_new]
  have e : madeCells #[Value.complex .f32 0 0] r = (civ (List.replicate r (0, 0))).toArray := by
    rw [← Array.toArray_toList (xs := madeCells #[Value.complex .f32 0 0] r), toList_madeCells_one]
    congr 1
    simp [civ, cx]
  rw [e]
/-- The halves side by side. -/
theorem lay_two (lo hi : List (Nat × Nat)) (v : Nat) (hl : lo.length = v) (hh : hi.length = v) : lay (lay (List.replicate (v + 1 + v) (0, 0)) 0 lo) (v + 1) hi = lo ++ (0, 0) :: hi := by
  unfold lay splice
  rw [List.take_zero, List.nil_append, Nat.zero_add, hl, hh, List.drop_replicate]
  have e1 : v + 1 + v - v = v + 1 := by omega
  rw [e1, List.take_append, List.drop_append, hl]
  have e2 : v + 1 - v = 1 := by omega
  have e3 : v + 1 + v - v = v + 1 := by omega
  rw [e2, e3, List.take_of_length_le (by omega), List.drop_of_length_le (by omega), List.take_replicate, List.drop_replicate]
  have e4 : min 1 (v + 1) = 1 := by omega
  rw [e4, Nat.sub_self]
  simp
/-- What lies at a place behind the mixed part. -/
def hvT (L0 LM LL LH : List (Nat × Nat)) (j i : Nat) : Nat × Nat := plusF (L0.getD j (0, 0)) (minusF (minusF (LM.getD i (0, 0)) (LL.getD i (0, 0))) (LH.getD i (0, 0)))
def hvL (L0 LM LL LH : List (Nat × Nat)) (u r i : Nat) : List (Nat × Nat) := zipW r fun j => if u ≤ j ∧ j < u + i then hvT L0 LM LL LH j (j - u) else L0.getD j (0, 0)
theorem hvL_zero (L0 LM LL LH : List (Nat × Nat)) (u r : Nat) (h : L0.length = r) : hvL L0 LM LL LH u r 0 = L0 := by
  refine List.ext_getElem (by simp [hvL, zipW, h]) fun j h1 h2 => ?_
  simp only [hvL, zipW, List.getElem_map, List.getElem_range]
  rw [if_neg (by omega)]
  simp [List.getD, h2]
theorem hvL_get (L0 LM LL LH : List (Nat × Nat)) (u r i : Nat) (h : u + i < r) : (hvL L0 LM LL LH u r i).getD (u + i) (0, 0) = L0.getD (u + i) (0, 0) := by
  unfold hvL
  rw [zipW_get _ _ _ h, if_neg (by omega)]
theorem hvL_set (L0 LM LL LH : List (Nat × Nat)) (u r i : Nat) : (hvL L0 LM LL LH u r i).set (u + i) (hvT L0 LM LL LH (u + i) i) = hvL L0 LM LL LH u r (i + 1) := by
  refine List.ext_getElem (by simp [hvL, zipW]) fun j h1 h2 => ?_
  simp only [List.getElem_set, hvL, zipW, List.getElem_map, List.getElem_range]
  by_cases e : u + i = j
  · subst e
    rw [if_pos rfl, if_pos (by omega), Nat.add_sub_cancel_left]
  · rw [if_neg e]
    by_cases e1 : u ≤ j ∧ j < u + i
    · rw [if_pos e1, if_pos (by omega)]
    · rw [if_neg e1, if_neg (by omega)]
def halvesC (F : List (Nat × Nat) → List (Nat × Nat) → List (Nat × Nat)) (u : Nat) (xs ys : List (Nat × Nat)) : List (Nat × Nat) :=
  hvL (F (xs.take u) (ys.take u) ++ (0, 0) :: F (xs.drop u) (ys.drop u)) (F (zipW u (sumF (xs.take u) (xs.drop u))) (zipW u (sumF (ys.take u) (ys.drop u)))) (F (xs.take u) (ys.take u)) (F (xs.drop u) (ys.drop u)) u (2 * (2 * u) - 1) (2 * u - 1)
/-- Nothing is left open in the last step. -/
def HalfT (L0 LM LL LH : List (Nat × Nat)) (u v : Nat) : Prop := ∀ i, i < v → MinusW (LM.getD i (0, 0)) (LL.getD i (0, 0)) (minusF (LM.getD i (0, 0)) (LL.getD i (0, 0))) ∧ MinusW (minusF (LM.getD i (0, 0)) (LL.getD i (0, 0))) (LH.getD i (0, 0)) (minusF (minusF (LM.getD i (0, 0)) (LL.getD i (0, 0))) (LH.getD i (0, 0))) ∧
  PlusW (L0.getD (u + i) (0, 0)) (minusF (minusF (LM.getD i (0, 0)) (LL.getD i (0, 0))) (LH.getD i (0, 0))) (hvT L0 LM LL LH (u + i) i)
def HalfC (F : List (Nat × Nat) → List (Nat × Nat) → List (Nat × Nat)) (u : Nat) (xs ys : List (Nat × Nat)) : Prop :=
  HalfT (F (xs.take u) (ys.take u) ++ (0, 0) :: F (xs.drop u) (ys.drop u)) (F (zipW u (sumF (xs.take u) (xs.drop u))) (zipW u (sumF (ys.take u) (ys.drop u)))) (F (xs.take u) (ys.take u)) (F (xs.drop u) (ys.drop u)) u (2 * u - 1)
set_option maxHeartbeats 4000000 in
set_option maxRecDepth 10000 in
theorem halves_step (u : Nat) (h2 : 2 ≤ u) (h8 : u ≤ 8) (F : List (Nat × Nat) → List (Nat × Nat) → List (Nat × Nat)) (P : List (Nat × Nat) → List (Nat × Nat) → Prop)
    (IH : ∀ (A : Option Addr) (c : Nat) (xs : List (Nat × Nat)) (A1 : Option Addr) (c1 : Nat) (ys : List (Nat × Nat)) (w : World), CRd w w.heap.size A u c xs → CRd w w.heap.size A1 u c1 ys → P xs ys →
      Calls Try.prog 69 #[.slice A u c, .slice A1 u c1] w fun e w' => ∃ A' c', e = .returned (.slice A' (2 * u - 1) c') ∧ CMine w' w.heap.size A' (2 * u - 1) c' (F xs ys) ∧ Below w.heap.size w w')
    (A : Option Addr) (n c : Nat) (xs : List (Nat × Nat)) (A1 : Option Addr) (c1 : Nat) (ys : List (Nat × Nat)) (w : World) (hn : n = 2 * u) (hx : CRd w w.heap.size A n c xs) (hy : CRd w w.heap.size A1 n c1 ys)
    (p1 : P (xs.take u) (ys.take u)) (p2 : P (xs.drop u) (ys.drop u))
    (hs : ∀ k, k < u → PlusW ((xs.take u).getD k (0, 0)) ((xs.drop u).getD k (0, 0)) (sumF (xs.take u) (xs.drop u) k)) (ht : ∀ k, k < u → PlusW ((ys.take u).getD k (0, 0)) ((ys.drop u).getD k (0, 0)) (sumF (ys.take u) (ys.drop u) k))
    (pc : HalfC F u xs ys)
    (p3 : P (zipW u (sumF (xs.take u) (xs.drop u))) (zipW u (sumF (ys.take u) (ys.drop u)))) :
    Calls Try.prog 69 #[.slice A n c, .slice A1 n c1] w fun e w' => ∃ A' c', e = .returned (.slice A' (2 * n - 1) c') ∧ CMine w' w.heap.size A' (2 * n - 1) c' (halvesC F u xs ys) ∧ Below w.heap.size w w' := by
  obtain ⟨v, hv⟩ : ∃ v, 2 * u - 1 = v := ⟨_, rfl⟩
  obtain ⟨r, hr⟩ : ∃ r, 2 * n - 1 = r := ⟨_, rfl⟩
  rw [hv] at IH
  unfold HalfC at pc
  rw [hv] at pc
  rw [hr]
  have hri : 2 * (n : Int) - 1 = (r : Int) := by omega
  have hrv := Lib.hid (show r = v + 1 + v by omega)
  have hnv := Lib.hid (show n = v + 1 by omega)
  have huv := Lib.hid (show u + v < r by omega)
  have hmk := run_make_row' (P := Try.prog) 25 34 (.complex .f32 0 0) 8 Try.underlying25 c64_info rfl .i64 .i64 r (by omega) (by omega)
  have HC := Lib.hid pc
  clear pc
  have hdv : (n : Int) / 2 = (u : Int) := by omega
  have hdt : (n : Int).tdiv 2 = (u : Int) := by rw [Int.tdiv_eq_ediv_of_nonneg (by omega)]; omega
  have hn2 : ¬ (n : Int) ≤ 2 := by omega
  have hc := hx.cap
  have hc1 := hy.cap
  obtain ⟨b, o, rfl, hb, _⟩ := hx.at_ (by omega)
  obtain ⟨b1, o1, rfl, hb1, _⟩ := hy.at_ (by omega)
  have XL := Lib.hid (hx.cut (k := u) (by omega) (c' := c) (by omega) hx.most)
  have YL := Lib.hid (hy.cut (k := u) (by omega) (c' := c1) (by omega) hy.most)
  have XH := Lib.hid (hx.rest (k := u) (by omega))
  have YH := Lib.hid (hy.rest (k := u) (by omega))
  have q1 : (0 : Int) ≤ (u : Int) := by omega
  have q2 : (u : Int) ≤ (c : Int) := by omega
  have q3 : (u : Int) ≤ (n : Int) := by omega
  have q4 : (u : Int) ≤ (c1 : Int) := by omega
  have q5 : (n : Int) - (u : Int) = (u : Int) := by omega
  have q6 : n - u = u := by omega
  have q7 : (n : Int) ≤ (c : Int) := by omega
  have q8 : (n : Int) ≤ (c1 : Int) := by omega
  have q9 : (u : Int) < (c : Int) := by omega
  have q10 : (u : Int) < (c1 : Int) := by omega
  rw [q6] at XH YH
  have HN := Lib.hid hn
  have PL := Lib.hid p1
  have PH := Lib.hid p2
  have PS := Lib.hid hs
  have PT := Lib.hid ht
  have PM := Lib.hid p3
  clear hx hy hn p1 p2 p3 hs ht
  go_enter Try.func69, Try.ntmps69
  go_wp2_with fail
  go_region_held3 (fun _ => True) (first | trivial | go_keep)
    (first
      | (go_at_call 69; with_reducible refine (IH _ _ _ _ _ _ _ (XL.out.in_' (Below.drew (Below.refl _ _))) (YL.out.in_' (Below.drew (Below.refl _ _))) PL.out).mono ?_; rintro e w1 ⟨AL, cL, rfl, mL, bL⟩; have ML := Lib.hid mL; have BL' : Below w.heap.size w w1 := bthen (Below.drew (Below.refl _ _)) bL; have BL := Lib.hid BL'; clear BL'; clear mL bL)
      | (go_at_call 69; refine (IH _ _ _ _ _ _ _ (XH.out.in_' BL.out) (YH.out.in_' BL.out) PH.out).mono ?_; rintro e w2 ⟨AH, cH, rfl, mH, bH⟩; have MH := Lib.hid mH; have ML2 := Lib.hid (ML.out.below bH); have BH := Lib.hid (bthen BL.out bH); clear mH bH))
  have XL2 := Lib.hid (XL.out.in_' BH.out)
  have YL2 := Lib.hid (YL.out.in_' BH.out)
  have XH2 := Lib.hid (XH.out.in_' BH.out)
  have YH2 := Lib.hid (YH.out.in_' BH.out)
  clear ML BL
  go_wp2_with fail
  go_region_held3 (fun _ => True) (first | trivial | go_keep)
    (first
      | (go_at_call 67; with_reducible refine (sums_any _ _ _ _ _ _ _ _ u _ (XL2.out.in_' (Below.drew (Below.refl _ _))) (XH2.out.in_' (Below.drew (Below.refl _ _))) (Nat.max_self u) (by omega) PS.out).mono ?_; rintro e w3 ⟨AX, cX, rfl, mX, bX⟩; have MX := Lib.hid (COwn.in_rd mX); have BX' : Below w2.heap.size w2 w3 := bthen (Below.drew (Below.refl _ _)) bX; have BX := Lib.hid BX'; clear BX' mX bX)
      | (go_at_call 67; with_reducible refine (sums_any _ _ _ _ _ _ _ _ u _ (YL2.out.in_' BX.out) (YH2.out.in_' BX.out) (Nat.max_self u) (by omega) PT.out).mono ?_; rintro e w4 ⟨AY, cY, rfl, mY, bY⟩; have MY := Lib.hid (COwn.in_rd mY); have MX2 := Lib.hid (MX.out.in_' bY); have BY := Lib.hid (bthen BX.out bY); clear mY bY)
      | (go_at_call 69; refine (IH _ _ _ _ _ _ _ MX2.out MY.out PM.out).mono ?_; rintro e w5 ⟨AM, cM, rfl, mM, bM⟩; have MM := Lib.hid mM; have BM := Lib.hid (bthen BY.out bM); clear mM bM))
  have ML3 := Lib.hid (ML2.out.below BM.out)
  have MH3 := Lib.hid (MH.out.below BM.out)
  have B5 := Lib.hid (bthen BH.out BM.out)
  clear XL YL XH YH XL2 YL2 XH2 YH2 ML2 MH MX MX2 MY BX BY BM BH
  have hnr0 : (0 : Int) ≤ (n : Int) := by omega
  have hnr : (n : Int) ≤ (r : Int) := by omega
  have hnr1 : (n : Int) < (r : Int) := by omega
  have hnr2 : (r : Int) - (n : Int) = (v : Int) := by omega
  have hnr3 : r - n = v := by omega
  clear q1 q2 q3 q4 q5 q6 q7 q8 q9 q10 hdv hdt hn2
  have hvr : v ≤ r := by omega
  have LenL := Lib.hid ML3.out.len
  have LenH := Lib.hid MH3.out.len
  have LenM := Lib.hid MM.out.len
  generalize hLL : F (xs.take u) (ys.take u) = LL at *
  generalize hLH : F (xs.drop u) (ys.drop u) = LH at *
  generalize hLM : F (zipW u (sumF (xs.take u) (xs.drop u))) (zipW u (sumF (ys.take u) (ys.drop u))) = LM at *
  have EL := Lib.hid hLL
  have EH := Lib.hid hLH
  have EM := Lib.hid hLM
  clear hLL hLH hLM
  go_wp2_with (first
    | ((refine wpList_copy_crd rfl _ _ rfl w5.heap.size 0 r r rfl _ AL v cL LL rfl (CMine.rd (ML3.out.alloc _)) hvr (List.replicate r (0, 0)) (made_row w5 r) (by rw [List.length_replicate]; omega) w5 (al1 w5 _) (Nat.le_refl _) ?_); intro w6 hg6 hb6; have HG6 := Lib.hid hg6.out; have B6 := Lib.hid hb6; clear hg6 hb6)
    | ((refine wpList_copy_crd rfl _ _ rfl w5.heap.size n v _ rfl _ AH v cH LH rfl (CMine.rd (MH3.out.below B6.out)) (Nat.le_refl _) _ HG6.out (by rw [lay_len _ _ _ (by rw [List.length_replicate, LenL.out]; omega), List.length_replicate]; omega) w5 B6.out (Nat.le_refl _) ?_); intro w7 hg7 hb7; have HG7 := Lib.hid hg7.out; have B7 := Lib.hid hb7; clear hg7 hb7))
  have G7 := HG7.out
  rw [hnv.out, hrv.out, lay_two LL LH v LenL.out LenH.out] at G7
  obtain ⟨L0, hL0⟩ : ∃ L0, L0 = LL ++ (0, 0) :: LH := ⟨_, rfl⟩
  rw [← hL0] at G7
  have hl0 : L0.length = r := by rw [hL0, List.length_append, List.length_cons, LenL.out, LenH.out, hrv.out]; omega
  have M7 := cmine_row (base := w.heap.size) (r := r) G7 hl0 (by unfold maxLen; omega) B5.out.size
  have H0 := Lib.hid hL0
  have HL0 := Lib.hid hl0
  have hg7 : w5.heap.size < w7.heap.size := (M7.at_ (by omega)).elim (fun g h => by have := h.1; cases this; exact h.2.2)
  have e0 := hvL_zero L0 LM LL LH u r hl0
  rw [← e0] at M7
  have RL := Lib.hid (CMine.rd ML3.out)
  have RH := Lib.hid (CMine.rd MH3.out)
  have RM := Lib.hid (CMine.rd MM.out)
  have M8 := Lib.hid M7
  clear G7 hL0 hl0 M7 e0 HG6 HG7 B6 ML3 MH3 MM hmk hnr0 hnr hnr1 hnr2 hnr3
  have hbase : w.heap.size ≤ w5.heap.size := B5.out.size
  obtain ⟨g, hg⟩ : ∃ g, w5.heap.size = g := ⟨_, rfl⟩
  have M9 : Hid (CMine w7 w.heap.size (some ⟨g, 0, none⟩) r r (hvL L0 LM LL LH u r 0)) := by
    show CMine _ _ _ _ _ _
    rw [← hg]; exact M8.out
  rw [hg] at hg7 hbase ⊢
  have HGE := Lib.hid hg
  clear M8 hg
  go_loopg [65] v (fun gg s65 wr => ∃ i : Nat, i ≤ v ∧ v - i ≤ gg ∧ s65 = .int .i64 i ∧ CMine wr w.heap.size (some ⟨g, 0, none⟩) r r (hvL L0 LM LL LH u r i) ∧ w7.grownBy wr (some g))
  case atStart => exact ⟨0, by omega, by omega, rfl, M9.out, World.grownBy.refl _ _⟩
  case round =>
    clear M9
    obtain ⟨i, hi, hgi, rfl, hmm, hgr⟩ := hrel
    by_cases hlt : i < v
    · have hltz : (i : Int) < (v : Int) := by omega
      have hi0 : (0 : Int) ≤ (i : Int) := by omega
      obtain ⟨bL, oL, rfl, hbL, hcL⟩ := RL.out.at_ (by omega)
      obtain ⟨bH, oH, rfl, hbH, hcH⟩ := RH.out.at_ (by omega)
      obtain ⟨bM, oM, rfl, hbM, hcM⟩ := RM.out.at_ (by omega)
      have BW : Below w5.heap.size w5 wr := B7.out.grown hgr B7.out.size (fun k e => by injection e with e; have := HGE.out; omega)
      have hxL := (BW.cell (p := ⟨bL, oL + i, none⟩) hbL).trans (hcL i hlt)
      have hxH := (BW.cell (p := ⟨bH, oH + i, none⟩) hbH).trans (hcH i hlt)
      have hxM := (BW.cell (p := ⟨bM, oM + i, none⟩) hbM).trans (hcM i hlt)
      unfold cx at hxL hxH hxM
      clear hcL hcH hcM
      have hHC := HC.out i hlt
      have hrr : u + v < r := huv.out
      have hset := hvL_set L0 LM LL LH u r i
      have hst := CMine.stored hmm (by omega) (u + i) (hvT L0 LM LL LH (u + i) i)
      have hck := CMine.cell hmm (show u + i < r by omega)
      rw [hvL_get L0 LM LL LH u r i (by omega)] at hck
      have hfk := CMine.frozen hmm (by omega) (u + i)
      rw [hset] at hst
      clear hset
      have HM := Lib.hid hst.1
      have HGR := Lib.hid (grown_trans hgr hst.2)
      rw [← H0.out] at hHC
      generalize hvT L0 LM LL LH (u + i) i = x at hHC HM HGR
      generalize minusF (minusF (LM.getD i (0, 0)) (LL.getD i (0, 0))) (LH.getD i (0, 0)) = x2 at hHC
      generalize minusF (LM.getD i (0, 0)) (LL.getD i (0, 0)) = x1 at hHC
      generalize LM.getD i (0, 0) = yM at hHC hxM
      generalize LL.getD i (0, 0) = yL at hHC hxL
      generalize LH.getD i (0, 0) = yH at hHC hxH
      generalize L0.getD (u + i) (0, 0) = y0 at hHC hck
      have H1 := Lib.hid (fun W => minus_any yM yL x1 W hHC.1)
      have H2 := Lib.hid (fun W => minus_any x1 yH x2 W hHC.2.1)
      have H3 := Lib.hid (fun W => plus_any y0 x2 x W hHC.2.2)
      unfold cx at hck HM HGR
      have hst1 := fun (W : World) (ad : Addr) (mo : Mode) => run_store Try.prog W ad (.complex .f32 x.1 x.2) mo rfl
      obtain ⟨k, hk⟩ : ∃ k : Nat, u + i = k := ⟨_, rfl⟩
      have hki : (u : Int) + (i : Int) = (k : Int) := by omega
      have hk0 : (0 : Int) ≤ (k : Int) := by omega
      have hkr : (k : Int) < (r : Int) := by omega
      have hw1 : IntKind.i64.wrap (k : Int) = (k : Int) := IntWalk.i64_in _ (by omega)
      rw [hk] at hck hfk HM HGR
      clear hst hgr hmm hHC BW hrr hk
      go_wp2_with fail
      go_region_with (first
        | (go_at_call_of 48 (Value.complex .f32 yM.1 yM.2); refine (H1.out _).mono ?_; rintro e w' ⟨rfl, rfl⟩)
        | (go_at_call_of 48 (Value.complex .f32 x1.1 x1.2); refine (H2.out _).mono ?_; rintro e w' ⟨rfl, rfl⟩)
        | (go_at_call 56; refine (H3.out _).mono ?_; rintro e w' ⟨rfl, rfl⟩))
      all_goals
        go_wp2_with fail
        go_roundg (v - (i + 1))
        case measure => omega
        case rel => exact ⟨i + 1, by omega, by omega, by go_num, CMine.drew HM.out, grown_drew HGR.out⟩
    · have hltz : ¬ (i : Int) < (v : Int) := by omega
      obtain rfl : v = i := by omega
      have HM := Lib.hid hmm
      have HB := Lib.hid (bthen B5.out (B7.out.grown hgr B7.out.size (fun k e => by injection e with e; have := HGE.out; omega)))
      clear hmm hgr
      go_wp2_with fail
      go_ret
      refine ⟨_, _, rfl, ?_, HB.out⟩
      have e1 : halvesC F u xs ys = hvL L0 LM LL LH u r v := by
        unfold halvesC
        rw [EL.out, EH.out, EM.out, ← H0.out, hv]
        have e2 : 2 * (2 * u) - 1 = r := by have := HN.out; omega
        rw [e2]
      rw [e1]
      exact HM.out
end Go.Proofs.Ytfbekiphlaaieaa
