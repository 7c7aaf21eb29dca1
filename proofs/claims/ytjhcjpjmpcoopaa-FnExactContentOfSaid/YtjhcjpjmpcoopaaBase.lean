/- Words for memory: a slice of integers that reads as a list, and one that the call itself made. No condition: plain lemmas over any world. -/
import Derived.Test.YtjhcjpjmpcoopaaRows
import Derived.WalkKit
import Derived.WalkSpells
import Derived.WalkLawsBesides
import Derived.OwnWalk
import Derived.Lib.Hide
import Derived.Deep.LoopGhost
import Derived.Deep.AppendLies
import Derived.Deep.Draws
namespace Go.Proofs.Ytjhcjpjmpcoopaa
open Go.RowKit

/-- The cells of a list of integers. -/
def iv (xs : List Int) : List Value := xs.map (Value.int .i64)
theorem iv_length (xs : List Int) : (iv xs).length = xs.length := by simp [iv]
theorem iv_get (xs : List Int) (j : Nat) (h : j < xs.length) : (iv xs)[j]? = some (.int .i64 (xs.getD j 0)) := by
  simp [iv, h, List.getD]
theorem iv_set (xs : List Int) (j : Nat) (x : Int) : (iv xs).set j (.int .i64 x) = iv (xs.set j x) := by
  simp [iv, List.map_set]
theorem iv_append (xs ys : List Int) : iv xs ++ iv ys = iv (xs ++ ys) := by simp [iv]
theorem iv_one (x : Int) : [Value.int .i64 x] = iv [x] := rfl
theorem iv_inj {xs ys : List Int} (h : iv xs = iv ys) : xs = ys := by
  induction xs generalizing ys with
  | nil => cases ys <;> simp_all [iv]
  | cons x xs ih =>
    cases ys with
    | nil => simp [iv] at h
    | cons y ys =>
      simp only [iv, List.map_cons, List.cons.injEq, Value.int.injEq, true_and] at h
      rw [h.1, ih (by simpa [iv] using h.2)]

/-- The slice '.slice A n c' reads as xs; where it has elements it lies below block B. -/
structure Rd (w : World) (B : Nat) (A : Option Addr) (n c : Nat) (xs : List Int) : Prop where
  len : xs.length = n
  cap : n ≤ c
  most : c ≤ maxLen
  at_ : 0 < n → ∃ b o, A = some ⟨b, o, none⟩ ∧ b < B ∧ ∀ j, j < n → w.cell? ⟨b, o + j, none⟩ = some (.int .i64 (xs.getD j 0))

section
variable {w w' : World} {B B' : Nat} {A : Option Addr} {n c : Nat} {xs : List Int}
theorem Rd.keep (h : Rd w B A n c xs) (hk : ∀ p : Addr, p.block < B → w'.cell? p = w.cell? p) : Rd w' B A n c xs :=
  ⟨h.len, h.cap, h.most, fun hn => by
    obtain ⟨b, o, e, hb, hc⟩ := h.at_ hn
    exact ⟨b, o, e, hb, fun j hj => (hk _ hb).trans (hc j hj)⟩⟩
theorem Rd.more (h : Rd w B A n c xs) (hB : B ≤ B') : Rd w B' A n c xs :=
  ⟨h.len, h.cap, h.most, fun hn => by
    obtain ⟨b, o, e, hb, hc⟩ := h.at_ hn
    exact ⟨b, o, e, by omega, hc⟩⟩
theorem Rd.below (h : Rd w B A n c xs) (hb : Below B w w') : Rd w' B A n c xs := h.keep fun _ hp => hb.cell hp
theorem Rd.alloc (h : Rd w B A n c xs) (hB : B ≤ w.heap.size) (o : Obj) : Rd (w.alloc o) B A n c xs := h.below ((Below.refl _ _).alloc hB o)
theorem Rd.drew (h : Rd w B A n c xs) : Rd w.drew B A n c xs := h.keep fun _ _ => rfl
theorem Rd.drewN (h : Rd w B A n c xs) (k : Nat) : Rd (w.drewN k) B A n c xs := h.keep fun _ _ => rfl
theorem Rd.none_ (w : World) (B : Nat) : Rd w B none 0 0 [] := ⟨rfl, Nat.le_refl _, by simp [maxLen], fun h => absurd h (by omega)⟩
theorem Rd.nothing (w : World) (B : Nat) (A : Option Addr) (c : Nat) (hc : c ≤ maxLen) : Rd w B A 0 c [] := ⟨rfl, Nat.zero_le _, hc, fun h => absurd h (by omega)⟩
/-- Another block is written, the lists' own is not. -/
theorem Rd.grown (h : Rd w B A n c xs) {row : Option Nat} (hg : w.grownBy w' row) (hB : B ≤ w.heap.size) (hr : ∀ g, row = some g → B ≤ g) : Rd w' B A n c xs :=
  h.keep fun p hp => World.cell?_of_block (hg.block p.block (by omega) (fun e => by have := hr _ e.symm; omega))

/-- The call's own row: it lies from block 'base' on. -/
def Own (w : World) (base : Nat) (A : Option Addr) (n c : Nat) (xs : List Int) : Prop := w.ownsRow base 2 1 (.slice A n c) n (iv xs)
theorem Own.len {base : Nat} (h : Own w base A n c xs) : xs.length = n := by have := h.1; rw [iv_length] at this; omega
theorem Own.at_ {base : Nat} (h : Own w base A n c xs) (hn : 0 < n) : ∃ g, A = some ⟨g, 0, none⟩ ∧ base ≤ g ∧ g < w.heap.size := by
  obtain ⟨g, cap, hv, hb, hlt⟩ := World.ownsRow.form h hn
  injection hv with h1
  exact ⟨g, h1, hb, hlt⟩
theorem Own.cap {base : Nat} (h : Own w base A n c xs) : n ≤ c ∧ c ≤ maxLen := by
  rcases h.2 with ⟨hv, h0⟩ | ⟨g, cap, cur, hv, _, _, h1, h2, _⟩
  · injection hv with _ _ h3
    subst h0 h3
    simp
  · injection hv with _ _ h3
    subst h3
    exact ⟨h1, h2⟩
theorem Own.rd {base : Nat} (h : Own w base A n c xs) : Rd w w.heap.size A n c xs := by
  refine ⟨h.len, h.cap.1, h.cap.2, fun hn => ?_⟩
  obtain ⟨g, rfl, _, hlt⟩ := h.at_ hn
  refine ⟨g, 0, rfl, hlt, fun j hj => ?_⟩
  rw [Nat.zero_add, World.ownsRow.cellAt (n := n) h j (by omega)]
  exact iv_get xs j (by have := h.len; omega)
theorem Own.below {base : Nat} (h : Own w base A n c xs) (hb : Below w.heap.size w w') : Own w' base A n c xs :=
  World.ownsRow.kept (row := none) h ⟨hb.os, hb.tape, hb.output, hb.size, fun k hk _ => hb.block k hk⟩ (by cases hv : (Value.slice A n c).ownBlock <;> simp)
theorem Own.base {b b' : Nat} (h : Own w b A n c xs) (hb : b' ≤ b) : Own w b' A n c xs := by
  refine ⟨h.1, ?_⟩
  rcases h.2 with h2 | ⟨g, cap, cur, hv, hg, r⟩
  · exact .inl h2
  · exact .inr ⟨g, cap, cur, hv, by omega, r⟩
theorem Own.drew {base : Nat} (h : Own w base A n c xs) : Own w.drew base A n c xs := h
theorem Own.drewN {base : Nat} (h : Own w base A n c xs) (k : Nat) : Own (w.drewN k) base A n c xs := h
theorem Own.alloc {base : Nat} (h : Own w base A n c xs) (o : Obj) : Own (w.alloc o) base A n c xs := World.ownsRow.alloc h o
end

section
variable {w w' : World} {B : Nat} {A : Option Addr} {n c : Nat} {xs : List Int}
/-- What read in w reads in every later world. -/
theorem Rd.in_ (h : Rd w w.heap.size A n c xs) (hb : Below w.heap.size w w') : Rd w' w'.heap.size A n c xs := (h.below hb).more hb.size
theorem Own.set_ {base : Nat} (h : Own w base A n c xs) {a : Addr} (ha : a.block < base) (u : Value) : Own (w.setCell a u) base A n c xs := ownsRow_setCell_below h ha u
theorem al1 (w : World) (o : Obj) : Below w.heap.size w (w.alloc o) := (Below.refl _ _).alloc (Nat.le_refl _) o
theorem al2 (w : World) (o o' : Obj) : Below w.heap.size w ((w.alloc o).alloc o') := (al1 w o).alloc (by simp) o'
theorem al3 (w : World) (o o' o'' : Obj) : Below w.heap.size w (((w.alloc o).alloc o').alloc o'') := (al2 w o o').alloc (by simp; omega) o''
theorem al4 (w : World) (o o' o'' o3 : Obj) : Below w.heap.size w ((((w.alloc o).alloc o').alloc o'').alloc o3) := (al3 w o o' o'').alloc (by simp; omega) o3
/-- One step more, all of it above what the call began with. -/
theorem bthen {a b c : World} (h : Below a.heap.size a b) (k : Below b.heap.size b c) : Below a.heap.size a c := h.trans (k.mono h.size)
theorem cell_kept {w w' : World} {b o : Nat} {v : Value} (hb : Below w.heap.size w w') (h : w.cell? ⟨b, o, none⟩ = some v) : w'.cell? ⟨b, o, none⟩ = some v := cell_later hb h
theorem frozen_kept {w w' : World} {b o : Nat} (hb : Below w.heap.size w w') (hlt : b < w.heap.size) (h : w.frozen? ⟨b, o, none⟩ = false) : w'.frozen? ⟨b, o, none⟩ = false := (hb.frozen (p := ⟨b, o, none⟩) hlt).trans h
end

theorem int64_info : (Try.prog.info? 2).map (fun i => (i.zero, i.size, i.bytes)) = some (some (.int .i64 0), 1, 8) := by kernel_rfl

theorem bcell {W w1 : World} (hb : Below W.heap.size W w1) : (∀ b o, b < W.heap.size → w1.cell? ⟨b, o, none⟩ = W.cell? ⟨b, o, none⟩) ∧ (∀ b o, b < W.heap.size → w1.frozen? ⟨b, o, none⟩ = W.frozen? ⟨b, o, none⟩) ∧ W.heap.size ≤ w1.heap.size :=
  ⟨fun b o h => hb.cell (p := ⟨b, o, none⟩) h, fun b o h => hb.frozen (p := ⟨b, o, none⟩) h, hb.size⟩
theorem drewN_below {B : Nat} {a w : World} (h : Below B a w) (n : Nat) : Below B a (w.drewN n) := ⟨h.os, h.tape, h.output, h.size, h.block⟩
theorem zeros_iv (n : Nat) : (madeCells (Value.int .i64 0).cells (n * 1)).toList = iv (List.replicate n 0) := by
  show (madeCells #[Value.int .i64 0] (n * 1)).toList = _
  rw [Nat.mul_one, toList_madeCells_one]
  simp [iv]
theorem ret_bool {a b : Bool} (h : a = b) : Ending.returned (.bool a) = .returned (.bool b) := by rw [h]
theorem ret_i64 {a b : Int} (h : a = b) : Ending.returned (.int .i64 a) = .returned (.int .i64 b) := by rw [h]
end Go.Proofs.Ytjhcjpjmpcoopaa
