/- append onto a row of the call's own, whatever slice is appended; contracts of slices.Clone and slices.Clip. Condition: at most some millions of terms. -/
import Derived.Test.YtlfjnpioamcbhaaBase
import Derived.Test.YtlfjnpioamcbhaaPlain
import Derived.Maps.AppendAt
import Derived.Lib.SliceRun
import Derived.RegionTactic
namespace Go.Proofs.Ytlfjnpioamcbhaa
open Go.RowKit

theorem own_form {w : World} {base : Nat} {v : Value} {n : Nat} {xs : List Int} (h : w.ownsRow base 2 1 v n (iv xs)) : ∃ A c, v = .slice A n c ∧ Own w base A n c xs := by
  have h0 := h
  rcases h.2 with ⟨rfl, rfl⟩ | ⟨g, cap, cur, rfl, _⟩
  · exact ⟨none, 0, rfl, h0⟩
  · exact ⟨_, _, rfl, h0⟩
theorem run_append_nil (w : World) (base : Nat) (ty : TypeId) {A0 : Option Addr} {n0 c0 : Nat} {xs : List Int} (hown : Own w base A0 n0 c0 xs) (c : Nat) :
    (Builtin.append_ #[22, 22] ty #[.slice A0 n0 c0, .slice none 0 c]).run Try.prog w = .ok (.slice A0 n0 c0) w := by
  obtain ⟨i0, hi0, hz0, hz1, hz2⟩ := info_parts int64_info
  rcases hown.2 with ⟨hv, hn⟩ | ⟨g, cap, cur, hv, _, _, hnc, _⟩
  · rw [hv]
    simp [Builtin.append_, run_underlying Try.underlying22, sizeOf, typeInfo, hi0, Builtin.lenOf, Builtin.firstCells]
  · injection hv with h1 h2 h3
    subst h1 h3
    simp [Builtin.append_, run_underlying Try.underlying22, sizeOf, typeInfo, hi0, Builtin.lenOf, Builtin.firstCells, hnc, storeCells]

theorem run_append_rd (w : World) (base : Nat) (ty : TypeId) {A0 : Option Addr} {n0 c0 : Nat} {xs : List Int} (hown : Own w base A0 n0 c0 xs)
    {B : Nat} {A : Option Addr} {m c : Nat} {ys : List Int} (hr : Rd w B A m c ys) (h63 : n0 + m ≤ 4194304) (hbase : base ≤ w.heap.size) :
    ∃ A' c' w', (Builtin.append_ #[22, 22] ty #[.slice A0 n0 c0, .slice A m c]).run Try.prog w = .ok (.slice A' (n0 + m) c') w' ∧ Own w' base A' (n0 + m) c' (xs ++ ys) ∧ w.grownBy w' (Value.slice A0 n0 c0).ownBlock ∧
      ((Value.slice A' (n0 + m) c').ownBlock = (Value.slice A0 n0 c0).ownBlock ∨ (Value.slice A' (n0 + m) c').ownBlock = some w.heap.size) := by
  obtain ⟨i0, hi0, hz0, hz1, hz2⟩ := info_parts int64_info
  cases A with
  | none =>
    have hm : m = 0 := by
      rcases Nat.eq_zero_or_pos m with h0 | h0
      · exact h0
      · obtain ⟨b, o, h, _⟩ := hr.at_ h0
        cases h
    subst hm
    have hn : ys = [] := List.eq_nil_of_length_eq_zero hr.len
    subst hn
    exact ⟨A0, c0, w, run_append_nil w base ty hown c, by simpa using hown, World.grownBy.refl w _, .inl rfl⟩
  | some ad =>
    have hcells : ∀ j u, (iv ys)[j]? = some u → w.cell? (ad.add j) = some u := by
      intro j u hu
      have hj : j < m := by
        have := (List.getElem?_eq_some_iff.1 hu).1
        rw [iv_length, hr.len] at this
        exact this
      obtain ⟨b, o, h, _, hc⟩ := hr.at_ (by omega)
      injection h with h
      subst h
      rw [Addr.add_lit, hc j hj]
      rw [iv_get ys j (by rw [hr.len]; exact hj)] at hu
      exact hu
    obtain ⟨v', w', hrun, h2, h3, _, h5⟩ := run_append_own_at (P := Try.prog) w base 22 ty 2 i0 (.int .i64 0) 1 8 Try.underlying22 hi0 hz0 hz1 hz2 rfl (by omega) _ n0 (iv xs) hown ad m c (iv ys)
      (by rw [iv_length, hr.len, Nat.mul_one]) hcells (ints_oneCell .i64 ys) (by simp [maxLen]; omega) (by omega) hbase
    rw [iv_append] at h2
    obtain ⟨A', c', rfl, ho⟩ := own_form h2
    exact ⟨A', c', w', hrun, ho, h3, h5⟩

/-- 'append(out, s...)', out the call's own, at a plain region. -/
theorem wpList_append_rd {w : World} {ops : Array Oper} {rest : List Oper} {o : Oper} {a : Act} {Q : Exit → Act → World → Prop} (hgd : o.guard = none) (s x : Operand)
    (ho : o.op = .call { callee := .builtin .append, args := #[s, x], argTypes := #[22, 22] })
    (base : Nat) (A0 : Option Addr) (n0 c0 : Nat) (xs : List Int) (hs : a.eval s = .slice A0 n0 c0) (hown : Own w base A0 n0 c0 xs)
    (B : Nat) (A : Option Addr) (m c : Nat) (ys : List Int) (hx : a.eval x = .slice A m c) (hr : Rd w B A m c ys) (h63 : n0 + m ≤ 4194304) (hbase : base ≤ w.heap.size)
    (h : ∀ A' c' w', Own w' base A' (n0 + m) c' (xs ++ ys) → w.grownBy w' (Value.slice A0 n0 c0).ownBlock → wpList Try.prog ops Q rest (a.put o.dst (.slice A' (n0 + m) c')) w') : wpList Try.prog ops Q (o :: rest) a w := by
  obtain ⟨A', c', w', hrun, h2, h3, _⟩ := run_append_rd w base o.type hown hr h63 hbase
  refine wpList_plain hgd fun K hK => ?_
  unfold Oper.wp execOp
  simp only [ho, resolve, invoke, builtin, Sem.run_bind, Sem.run_pure, Result.andThen_ok, List.map_toArray, List.map_cons, List.map_nil, hs, hx, hrun]
  exact hK _ _ (h A' c' w' h2 h3)

/-- An empty row that was just laid. -/
theorem own_empty (w : World) : Own (w.alloc (.cells #[] 2)) w.heap.size (some ⟨w.heap.size, 0, none⟩) 0 0 [] :=
  World.ownsRow_lit w #[] 0 (Nat.le_refl _) (by simp [maxLen]) rfl
theorem own_empty_at (w : World) {k : Nat} (hk : k = w.heap.size) : Own (w.alloc (.cells #[] 2)) k (some ⟨k, 0, none⟩) 0 0 [] := by
  subst hk
  exact own_empty w
/-- A row of written out elements that was just laid. -/
theorem own_lit (w : World) (xs : List Int) (n : Nat) (hn : xs.length = n) (hm : n ≤ maxLen) : Own (w.alloc (.cells (iv xs).toArray 2)) w.heap.size (some ⟨w.heap.size, 0, none⟩) n n xs := by
  have := World.ownsRow_lit (base := w.heap.size) (e := 2) (size := 1) w (iv xs).toArray n (Nat.le_refl _) hm (by simp [iv, hn])
  simpa [Own] using this
theorem bgrown {w0 w w' : World} {base : Nat} {A : Option Addr} {n c : Nat} {xs : List Int} (hB : Below w0.heap.size w0 w) (h : Own w base A n c xs) (hb : w0.heap.size ≤ base) (g : w.grownBy w' (Value.slice A n c).ownBlock) : Below w0.heap.size w0 w' :=
  hB.grown g hB.size fun k hk => Nat.le_trans hb (World.ownsRow.lt h k hk).1

set_option maxHeartbeats 400000 in
theorem clone_any (A : Option Addr) (n c : Nat) (xs : List Int) (w : World) (h : Rd w w.heap.size A n c xs) (hn : n ≤ 1048576) :
    Calls Try.prog 74 #[.slice A n c] w fun e w' => ∃ A' c', e = .returned (.slice A' n c') ∧ Own w' w.heap.size A' n c' xs ∧ Below w.heap.size w w' := by
  have hq := fun W => Lib.run_eql_slice_nil (P := Try.prog) W 22 2 A n c 0 0 Try.underlying22
  cases A with
  | none =>
    have hm : n = 0 := by
      rcases Nat.eq_zero_or_pos n with h0 | h0
      · exact h0
      · obtain ⟨b, o, h, _⟩ := h.at_ h0
        cases h
    subst hm
    have hx : xs = [] := List.eq_nil_of_length_eq_zero h.len
    subst hx
    clear h
    go_enter Try.func74, Try.ntmps74
    go_wp2_with fail
    go_ret
    exact ⟨none, 0, rfl, World.ownsRow_nil _ _ _ _, Below.refl _ _⟩
  | some ad =>
    go_enter Try.func74, Try.ntmps74
    go_wp2_with (at_builtin; go_must (refine wpList_append_rd rfl _ _ rfl w.heap.size _ _ _ _ rfl (own_empty w) _ _ _ _ _ rfl (h.in_ (al1 w _)) (by omega) (by simp) ?_); intro A' c' w1 ho hg)
    have HB := Lib.hid (bgrown (al1 w _) (own_empty w) (Nat.le_refl _) hg)
    have HO := Lib.hid ho
    clear ho hg h
    go_wp2_with fail
    go_ret
    have h1 := HO.out
    rw [Nat.zero_add, List.nil_append] at h1
    exact ⟨A', c', by simp, h1, HB.out⟩
end Go.Proofs.Ytlfjnpioamcbhaa
