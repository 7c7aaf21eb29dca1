/- Words for memory: a slice of integers that reads as a list, and one that the call itself made. No condition: plain lemmas over any world. -/
import Derived.Test.YtfbekiphlaaieaaRows
import Derived.WalkKit
import Derived.WalkSpells
import Derived.WalkLawsBesides
import Derived.OwnWalk
import Derived.Lib.Hide
import Derived.Deep.LoopGhost
import Derived.Deep.AppendLies
import Derived.Deep.Draws
namespace Go.Proofs.Ytfbekiphlaaieaa
open Go.RowKit

/-- The cells of a list of integers. -/
def iv (xs : List Int) : List Value := xs.map (Value.int .i64)
theorem iv_length (xs : List Int) : (iv xs).length = xs.length := by simp [iv]
theorem iv_get (xs : List Int) (j : Nat) (h : j < xs.length) : (iv xs)[j]? = some (.int .i64 (xs.getD j 0)) := by
  simp [iv, h, List.getD]
theorem iv_set (xs : List Int) (j : Nat) (x : Int) : (iv xs).set j (.int .i64 x) = iv (xs.set j x) := by
  simp [iv, List.map_set]
theorem iv_append (xs ys : List Int) : iv xs ++ iv ys = iv (xs ++ ys) := by simp [iv]
theorem iv_one (x : Int) : [Value.int .i64 x] = iv [x] := rfl
theorem iv_inj {xs ys : List Int} (h : iv xs = iv ys) : xs = ys := by
  induction xs generalizing ys with
  | nil => cases ys <;> simp_all [iv]
  | cons x xs ih =>
    cases ys with
    | nil => simp [iv] at h
    | cons y ys =>
      simp only [iv, List.map_cons, List.cons.injEq, Value.int.injEq, true_and] at h
      rw [h.1, ih (by simpa [iv] using h.2)]

/-- The slice '.slice A n c' reads as xs; where it has elements it lies below block B. -/
structure Rd (w : World) (B : Nat) (A : Option Addr) (n c : Nat) (xs : List Int) : Prop where
  len : xs.length = n
  cap : n ≤ c
  most : c ≤ maxLen
  at_ : 0 < n → ∃ b o, A = some ⟨b, o, none⟩ ∧ b < B ∧ ∀ j, j < n → w.cell? ⟨b, o + j, none⟩ = some (.int .i64 (xs.getD j 0))

section
variable {w w' : World} {B B' : Nat} {A : Option Addr} {n c : Nat} {xs : List Int}
theorem Rd.keep (h : Rd w B A n c xs) (hk : ∀ p : Addr, p.block < B → w'.cell? p = w.cell? p) : Rd w' B A n c xs :=
  ⟨h.len, h.cap, h.most, fun hn => by
    obtain ⟨b, o, e, hb, hc⟩ := h.at_ hn
    exact ⟨b, o, e, hb, fun j hj => (hk _ hb).trans (hc j hj)⟩⟩
theorem Rd.more (h : Rd w B A n c xs) (hB : B ≤ B') : Rd w B' A n c xs :=
  ⟨h.len, h.cap, h.most, fun hn => by
    obtain ⟨b, o, e, hb, hc⟩ := h.at_ hn
    exact ⟨b, o, e, by omega, hc⟩⟩
theorem Rd.below (h : Rd w B A n c xs) (hb : Below B w w') : Rd w' B A n c xs := h.keep fun _ hp => hb.cell hp
theorem Rd.alloc (h : Rd w B A n c xs) (hB : B ≤ w.heap.size) (o : Obj) : Rd (w.alloc o) B A n c xs := h.below ((Below.refl _ _).alloc hB o)
theorem Rd.drew (h : Rd w B A n c xs) : Rd w.drew B A n c xs := h.keep fun _ _ => rfl
theorem Rd.drewN (h : Rd w B A n c xs) (k : Nat) : Rd (w.drewN k) B A n c xs := h.keep fun _ _ => rfl
theorem Rd.none_ (w : World) (B : Nat) : Rd w B none 0 0 [] := ⟨rfl, Nat.le_refl _, by simp [maxLen], fun h => absurd h (by omega)⟩
theorem Rd.nothing (w : World) (B : Nat) (A : Option Addr) (c : Nat) (hc : c ≤ maxLen) : Rd w B A 0 c [] := ⟨rfl, Nat.zero_le _, hc, fun h => absurd h (by omega)⟩
/-- The first k of them. -/
theorem Rd.cut (h : Rd w B A n c xs) {k c' : Nat} (hk : k ≤ n) (hc : k ≤ c') (hm : c' ≤ maxLen) : Rd w B A k c' (xs.take k) :=
  ⟨by rw [List.length_take, h.len]; omega, hc, hm, fun hn => by
    obtain ⟨b, o, e, hb, hcell⟩ := h.at_ (by omega)
    refine ⟨b, o, e, hb, fun j hj => ?_⟩
    rw [hcell j (by omega)]
    simp [List.getD, hj]⟩
/-- Another block is written, the lists' own is not. -/
theorem Rd.grown (h : Rd w B A n c xs) {row : Option Nat} (hg : w.grownBy w' row) (hB : B ≤ w.heap.size) (hr : ∀ g, row = some g → B ≤ g) : Rd w' B A n c xs :=
  h.keep fun p hp => World.cell?_of_block (hg.block p.block (by omega) (fun e => by have := hr _ e.symm; omega))

/-- The call's own row: it lies from block 'base' on. -/
def Own (w : World) (base : Nat) (A : Option Addr) (n c : Nat) (xs : List Int) : Prop := w.ownsRow base 2 1 (.slice A n c) n (iv xs)
theorem Own.len {base : Nat} (h : Own w base A n c xs) : xs.length = n := by have := h.1; rw [iv_length] at this; omega
theorem Own.at_ {base : Nat} (h : Own w base A n c xs) (hn : 0 < n) : ∃ g, A = some ⟨g, 0, none⟩ ∧ base ≤ g ∧ g < w.heap.size := by
  obtain ⟨g, cap, hv, hb, hlt⟩ := World.ownsRow.form h hn
  injection hv with h1
  exact ⟨g, h1, hb, hlt⟩
theorem Own.cap {base : Nat} (h : Own w base A n c xs) : n ≤ c ∧ c ≤ maxLen := by
  rcases h.2 with ⟨hv, h0⟩ | ⟨g, cap, cur, hv, _, _, h1, h2, _⟩
  · injection hv with _ _ h3
    subst h0 h3
    simp
  · injection hv with _ _ h3
    subst h3
    exact ⟨h1, h2⟩
theorem Own.rd {base : Nat} (h : Own w base A n c xs) : Rd w w.heap.size A n c xs := by
  refine ⟨h.len, h.cap.1, h.cap.2, fun hn => ?_⟩
  obtain ⟨g, rfl, _, hlt⟩ := h.at_ hn
  refine ⟨g, 0, rfl, hlt, fun j hj => ?_⟩
  rw [Nat.zero_add, World.ownsRow.cellAt (n := n) h j (by omega)]
  exact iv_get xs j (by have := h.len; omega)
theorem Own.below {base : Nat} (h : Own w base A n c xs) (hb : Below w.heap.size w w') : Own w' base A n c xs :=
  World.ownsRow.kept (row := none) h ⟨hb.os, hb.tape, hb.output, hb.size, fun k hk _ => hb.block k hk⟩ (by cases hv : (Value.slice A n c).ownBlock <;> simp)
theorem Own.base {b b' : Nat} (h : Own w b A n c xs) (hb : b' ≤ b) : Own w b' A n c xs := by
  refine ⟨h.1, ?_⟩
  rcases h.2 with h2 | ⟨g, cap, cur, hv, hg, r⟩
  · exact .inl h2
  · exact .inr ⟨g, cap, cur, hv, by omega, r⟩
theorem Own.drew {base : Nat} (h : Own w base A n c xs) : Own w.drew base A n c xs := h
theorem Own.drewN {base : Nat} (h : Own w base A n c xs) (k : Nat) : Own (w.drewN k) base A n c xs := h
theorem Own.alloc {base : Nat} (h : Own w base A n c xs) (o : Obj) : Own (w.alloc o) base A n c xs := World.ownsRow.alloc h o
end

section
variable {w w' : World} {B : Nat} {A : Option Addr} {n c : Nat} {xs : List Int}
/-- What read in w reads in every later world. -/
theorem Rd.in_ (h : Rd w w.heap.size A n c xs) (hb : Below w.heap.size w w') : Rd w' w'.heap.size A n c xs := (h.below hb).more hb.size
theorem Own.set_ {base : Nat} (h : Own w base A n c xs) {a : Addr} (ha : a.block < base) (u : Value) : Own (w.setCell a u) base A n c xs := ownsRow_setCell_below h ha u
theorem al1 (w : World) (o : Obj) : Below w.heap.size w (w.alloc o) := (Below.refl _ _).alloc (Nat.le_refl _) o
theorem al2 (w : World) (o o' : Obj) : Below w.heap.size w ((w.alloc o).alloc o') := (al1 w o).alloc (by simp) o'
theorem al3 (w : World) (o o' o'' : Obj) : Below w.heap.size w (((w.alloc o).alloc o').alloc o'') := (al2 w o o').alloc (by simp; omega) o''
theorem al4 (w : World) (o o' o'' o3 : Obj) : Below w.heap.size w ((((w.alloc o).alloc o').alloc o'').alloc o3) := (al3 w o o' o'').alloc (by simp; omega) o3
/-- One step more, all of it above what the call began with. -/
theorem bthen {a b c : World} (h : Below a.heap.size a b) (k : Below b.heap.size b c) : Below a.heap.size a c := h.trans (k.mono h.size)
theorem cell_kept {w w' : World} {b o : Nat} {v : Value} (hb : Below w.heap.size w w') (h : w.cell? ⟨b, o, none⟩ = some v) : w'.cell? ⟨b, o, none⟩ = some v := cell_later hb h
theorem frozen_kept {w w' : World} {b o : Nat} (hb : Below w.heap.size w w') (hlt : b < w.heap.size) (h : w.frozen? ⟨b, o, none⟩ = false) : w'.frozen? ⟨b, o, none⟩ = false := (hb.frozen (p := ⟨b, o, none⟩) hlt).trans h
end

/-- A slice whose elements, where it has any, lie at the head of a block of the call's own, from block 'base' on; they may be written. -/
structure Mine (w : World) (base : Nat) (A : Option Addr) (n c : Nat) (xs : List Int) : Prop where
  len : xs.length = n
  cap : n ≤ c
  most : c ≤ maxLen
  row : 0 < n → ∃ g cur, A = some ⟨g, 0, none⟩ ∧ base ≤ g ∧ w.heap[g]? = some (.cells cur 2 (0, 0)) ∧ n ≤ cur.size ∧ cur.toList.take n = iv xs
/-- The block of a slice's elements; none where it has none. -/
def own1 (A : Option Addr) (n : Nat) : Option Nat := if n = 0 then none else A.map (·.block)
theorem own1_some {A : Option Addr} {n k : Nat} (h : own1 A n = some k) : 0 < n ∧ ∃ a, A = some a ∧ a.block = k := by
  unfold own1 at h
  split at h
  · cases h
  · refine ⟨by omega, ?_⟩
    cases A with
    | none => cases h
    | some a => exact ⟨a, rfl, by simpa using h⟩
section
variable {w w' : World} {base base' g : Nat} {A : Option Addr} {n c : Nat} {xs : List Int}
theorem Own.mine (h : Own w base A n c xs) : Mine w base A n c xs := by
  refine ⟨h.len, h.cap.1, h.cap.2, fun hn => ?_⟩
  rcases h.2 with ⟨_, h0⟩ | ⟨g, cap, cur, hv, hb, hg, hnc, _, hs, ht⟩
  · omega
  · injection hv with h1 h2 h3
    exact ⟨g, cur, h1, hb, hg, by omega, by rw [Nat.mul_one] at ht; exact ht⟩
theorem Mine.lt (h : Mine w base A n c xs) : ∀ k, own1 A n = some k → base ≤ k ∧ k < w.heap.size := by
  intro k hk
  obtain ⟨hn, a, rfl, rfl⟩ := own1_some hk
  obtain ⟨g, cur, e, hb, hg, _⟩ := h.row hn
  injection e with e
  subst e
  exact ⟨hb, (Array.getElem?_eq_some_iff.1 hg).1⟩
theorem Mine.cell (h : Mine w base (some ⟨g, 0, none⟩) n c xs) {j : Nat} (hj : j < n) : w.cell? ⟨g, j, none⟩ = some (.int .i64 (xs.getD j 0)) := by
  obtain ⟨g', cur, e, hb, hg, hs, ht⟩ := h.row (by omega)
  obtain rfl : g = g' := by simpa using e
  rw [cell_of_row w g j cur _ (0, 0) hg]
  have h1 := iv_get xs j (by rw [h.len]; exact hj)
  rw [← ht, List.getElem?_take, if_pos hj] at h1
  simpa using h1
theorem Mine.frozen (h : Mine w base (some ⟨g, 0, none⟩) n c xs) (hn : 0 < n) (j : Nat) : w.frozen? ⟨g, j, none⟩ = false := by
  obtain ⟨g', cur, e, hb, hg, hs, ht⟩ := h.row hn
  obtain rfl : g = g' := by simpa using e
  exact frozen_of_row w g j cur _ hg
theorem Mine.stored (h : Mine w base (some ⟨g, 0, none⟩) n c xs) (hn : 0 < n) (j : Nat) (x : Int) :
    Mine (w.setCell ⟨g, j, none⟩ (.int .i64 x)) base (some ⟨g, 0, none⟩) n c (xs.set j x) ∧ w.grownBy (w.setCell ⟨g, j, none⟩ (.int .i64 x)) (some g) := by
  obtain ⟨g', cur, e, hb, hg, hs, ht⟩ := h.row hn
  obtain rfl : g = g' := by simpa using e
  refine ⟨⟨by simpa using h.len, h.cap, h.most, fun _ => ⟨g, cur.setIfInBounds j (.int .i64 x), rfl, hb, heap_setCell_same w g j cur _ _ hg, by simpa using hs, ?_⟩⟩,
    ⟨rfl, rfl, rfl, by simp, fun k _ hk => heap_setCell_other w ⟨g, j, none⟩ k _ (fun e => hk (by simp [e]))⟩⟩
  rw [Array.toList_setIfInBounds, ← iv_set, ← ht, List.take_set]
theorem Mine.at_ (h : Mine w base A n c xs) (hn : 0 < n) : ∃ g, A = some ⟨g, 0, none⟩ ∧ base ≤ g ∧ g < w.heap.size := by
  obtain ⟨g, cur, e, hb, hg, _⟩ := h.row hn
  exact ⟨g, e, hb, (Array.getElem?_eq_some_iff.1 hg).1⟩
theorem Mine.rd (h : Mine w base A n c xs) : Rd w w.heap.size A n c xs := by
  refine ⟨h.len, h.cap, h.most, fun hn => ?_⟩
  obtain ⟨g, rfl, _, hlt⟩ := h.at_ hn
  exact ⟨g, 0, rfl, hlt, fun j hj => by rw [Nat.zero_add]; exact h.cell hj⟩
theorem Mine.kept {row : Option Nat} (h : Mine w base A n c xs) (hg : w.grownBy w' row) (hne : ∀ k, own1 A n = some k → row ≠ some k) : Mine w' base A n c xs :=
  ⟨h.len, h.cap, h.most, fun hn => by
    obtain ⟨g, cur, rfl, hb, hh, r⟩ := h.row hn
    have e1 : own1 (some ⟨g, 0, none⟩) n = some g := by unfold own1; rw [if_neg (by omega)]; rfl
    exact ⟨g, cur, rfl, hb, (hg.block g (Array.getElem?_eq_some_iff.1 hh).1 (fun e => hne g e1 e.symm)).trans hh, r⟩⟩
theorem Mine.below (h : Mine w base A n c xs) (hb : Below w.heap.size w w') : Mine w' base A n c xs :=
  h.kept (row := none) ⟨hb.os, hb.tape, hb.output, hb.size, fun k hk _ => hb.block k hk⟩ (fun _ _ e => by cases e)
theorem Mine.low (h : Mine w base A n c xs) (hb : base' ≤ base) : Mine w base' A n c xs :=
  ⟨h.len, h.cap, h.most, fun hn => by
    obtain ⟨g, cur, e, hbb, r⟩ := h.row hn
    exact ⟨g, cur, e, by omega, r⟩⟩
theorem Mine.drew (h : Mine w base A n c xs) : Mine w.drew base A n c xs := ⟨h.len, h.cap, h.most, h.row⟩
theorem Mine.drewN (h : Mine w base A n c xs) (k : Nat) : Mine (w.drewN k) base A n c xs := ⟨h.len, h.cap, h.most, h.row⟩
theorem Mine.alloc (h : Mine w base A n c xs) (o : Obj) : Mine (w.alloc o) base A n c xs := h.below (al1 w o)
theorem Mine.set_ (h : Mine w base A n c xs) {a : Addr} (ha : a.block < base) (u : Value) : Mine (w.setCell a u) base A n c xs :=
  h.kept (row := some a.block) ⟨rfl, rfl, rfl, by simp, fun k _ hk => heap_setCell_other w a k u (fun e => hk (by simp [e]))⟩ (fun k hk e => by
    injection e with e
    have := (h.lt k hk).1
    omega)
theorem Mine.none_ (w : World) (base : Nat) : Mine w base none 0 0 [] := ⟨rfl, Nat.le_refl _, by simp [maxLen], fun h => absurd h (by omega)⟩
/-- The first k of them, with the same or a smaller capacity. -/
theorem Mine.cut (h : Mine w base A n c xs) {k c' : Nat} (hk : k ≤ n) (hc : k ≤ c') (hc' : c' ≤ c) : Mine w base A k c' (xs.take k) :=
  ⟨by rw [List.length_take, h.len]; omega, hc, Nat.le_trans hc' h.most, fun hn => by
    obtain ⟨g, cur, e, hb, hh, hs, ht⟩ := h.row (by omega)
    refine ⟨g, cur, e, hb, hh, by omega, ?_⟩
    have : iv (xs.take k) = (iv xs).take k := by simp [iv, List.map_take]
    rw [this, ← ht, List.take_take, Nat.min_eq_left hk]⟩
end

theorem int64_info : (Try.prog.info? 2).map (fun i => (i.zero, i.size, i.bytes)) = some (some (.int .i64 0), 1, 8) := by kernel_rfl

theorem bcell {W w1 : World} (hb : Below W.heap.size W w1) : (∀ b o, b < W.heap.size → w1.cell? ⟨b, o, none⟩ = W.cell? ⟨b, o, none⟩) ∧ (∀ b o, b < W.heap.size → w1.frozen? ⟨b, o, none⟩ = W.frozen? ⟨b, o, none⟩) ∧ W.heap.size ≤ w1.heap.size :=
  ⟨fun b o h => hb.cell (p := ⟨b, o, none⟩) h, fun b o h => hb.frozen (p := ⟨b, o, none⟩) h, hb.size⟩
/-- A block that was laid with its elements written out. -/
theorem rd_lit (w : World) (xs : List Int) (T : TypeId) (n : Nat) (hn : xs.length = n) (hm : n ≤ maxLen) : Rd (w.alloc (.cells (iv xs).toArray T)) (w.alloc (.cells (iv xs).toArray T)).heap.size (some ⟨w.heap.size, 0, none⟩) n n xs :=
  ⟨hn, Nat.le_refl _, hm, fun _ => ⟨w.heap.size, 0, rfl, by simp, fun j hj => by
    rw [Nat.zero_add]
    have h1 : (w.alloc (.cells (iv xs).toArray T)).cell? ⟨w.heap.size, j, none⟩ = (iv xs).toArray[j]? := by simp [go_sem]
    rw [h1]
    simpa using iv_get xs j (by omega)⟩⟩
theorem below_of_drewN {w w' : World} {q : Nat} (h : w' = w.drewN q) : Below w.heap.size w w' := by
  subst h
  exact ⟨rfl, rfl, rfl, Nat.le_refl _, fun _ _ => rfl⟩
theorem below_of_eq {w w' : World} (h : w = w') : Below w.heap.size w w' := by
  subst h
  exact Below.refl _ _
theorem drewN_below {B : Nat} {a w : World} (h : Below B a w) (n : Nat) : Below B a (w.drewN n) := ⟨h.os, h.tape, h.output, h.size, h.block⟩
theorem zeros_iv (n : Nat) : (madeCells (Value.int .i64 0).cells (n * 1)).toList = iv (List.replicate n 0) := by
  show (madeCells #[Value.int .i64 0] (n * 1)).toList = _
  rw [Nat.mul_one, toList_madeCells_one]
  simp [iv]
theorem ret_bool {a b : Bool} (h : a = b) : Ending.returned (.bool a) = .returned (.bool b) := by rw [h]
theorem ret_i64 {a b : Int} (h : a = b) : Ending.returned (.int .i64 a) = .returned (.int .i64 b) := by rw [h]
end Go.Proofs.Ytfbekiphlaaieaa
