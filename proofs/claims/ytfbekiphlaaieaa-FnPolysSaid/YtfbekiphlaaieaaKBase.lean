/- Words for memory, for slices of complex numbers in single precision: a slice that reads as a list of pairs of words, and one that the call itself made. No condition: plain lemmas over any world. -/
import Derived.Test.YtfbekiphlaaieaaBase
import Derived.Test.YtfbekiphlaaieaaPlain
import Derived.Maps.AppendAt
import Derived.Lib.SliceRun
import Derived.RegionTactic
import Derived.Deep.RegionLaw
namespace Go.Proofs.Ytfbekiphlaaieaa
open Go.RowKit

theorem grown_trans {a b c : World} {row : Option Nat} (h : a.grownBy b row) (k : b.grownBy c row) : a.grownBy c row :=
  ⟨k.os.trans h.os, k.tape.trans h.tape, k.output.trans h.output, Nat.le_trans h.size k.size, fun i hi hne => (k.block i (Nat.lt_of_lt_of_le hi h.size) hne).trans (h.block i hi hne)⟩

theorem grown_drew {a b : World} {row : Option Nat} (h : a.grownBy b row) : a.grownBy b.drew row := ⟨h.os, h.tape, h.output, h.size, h.block⟩

/-- The elements of two slices lie in different blocks. -/
def Apart (A : Option Addr) (n : Nat) (A' : Option Addr) (n' : Nat) : Prop := ∀ g, own1 A n = some g → own1 A' n' ≠ some g
theorem Apart.symm {A A' : Option Addr} {n n' : Nat} (h : Apart A n A' n') : Apart A' n' A n := fun g h1 h2 => h g h2 h1
theorem apart_of {w w' : World} {b : Nat} {A A' : Option Addr} {n c n' c' : Nat} {xs ys : List Int} (h : Mine w b A n c xs) (h' : Mine w' w.heap.size A' n' c' ys) : Apart A n A' n' := fun g h1 h2 => by
  have e1 := (h.lt g h1).2
  have e2 := (h'.lt g h2).1
  omega
theorem lb_of {w0 w w' : World} {A : Option Addr} {n c : Nat} {xs : List Int} (hB : Below w0.heap.size w0 w) (h : Mine w' w.heap.size A n c xs) : ∀ g, own1 A n = some g → w0.heap.size ≤ g := fun g hg =>
  Nat.le_trans hB.size (h.lt g hg).1
theorem own_mark {w w' : World} {b : Nat} {A A' : Option Addr} {n n' c : Nat} {xs : List Int} (h : Mine w b A n c xs) (ap : Apart A' n' A n) (g : w.grownBy w' (own1 A' n')) : Mine w' b A n c xs :=
  h.kept g fun k hk e => ap k e hk
theorem below_mark {w0 w w' : World} {A : Option Addr} {n : Nat} (hB : Below w0.heap.size w0 w) (lb : ∀ g, own1 A n = some g → w0.heap.size ≤ g) (g : w.grownBy w' (own1 A n)) : Below w0.heap.size w0 w' := hB.grown g hB.size lb

/-- Block g is just the cells cs of element type t. -/
def Blk (w : World) (g : Nat) (t : TypeId) (cs : Array Value) : Prop := w.heap[g]? = some (.cells cs t (0, 0))
section
variable {w w' : World} {g : Nat} {t : TypeId} {cs : Array Value}
theorem Blk.lt (h : Blk w g t cs) : g < w.heap.size := by
  rcases Nat.lt_or_ge g w.heap.size with hlt | hge
  · exact hlt
  · unfold Blk at h; rw [Array.getElem?_eq_none hge] at h; cases h
theorem Blk.new (w : World) (t : TypeId) (cs : Array Value) : Blk (w.alloc (.cells cs t)) w.heap.size t cs := heap_alloc_new w _
theorem Blk.new_at (w : World) (t : TypeId) (cs : Array Value) {k : Nat} (hk : k = w.heap.size) : Blk (w.alloc (.cells cs t)) k t cs := by
  subst hk
  exact heap_alloc_new w _
theorem Blk.alloc (h : Blk w g t cs) (o : Obj) : Blk (w.alloc o) g t cs := (Below.heap_alloc w o g h.lt).trans h
theorem Blk.drew (h : Blk w g t cs) : Blk w.drew g t cs := h
theorem Blk.kept (h : Blk w g t cs) (hb : Below w.heap.size w w') : Blk w' g t cs := (hb.block g h.lt).trans h
theorem Blk.cell0 {v : Value} (h : Blk w g t #[v]) : w.cell? ⟨g, 0, none⟩ = some v := by
  rw [cell_of_row w g 0 _ t (0, 0) h]
  rfl
theorem Blk.frozen0 (h : Blk w g t cs) : w.frozen? ⟨g, 0, none⟩ = false := by
  unfold Blk at h
  simp [World.frozen?, h]
theorem Blk.apart {b : Nat} {A : Option Addr} {n c : Nat} {xs : List Int} (h : Blk w g t cs) (ho : Mine w b A n c xs) (hne : t ≠ 2) : some g ≠ own1 A n := by
  intro he
  obtain ⟨hn, a, rfl, hab⟩ := own1_some he.symm
  obtain ⟨g', cur, e, _, hh, _⟩ := ho.row hn
  injection e with e
  subst e
  simp only at hab
  subst hab
  unfold Blk at h
  rw [h] at hh
  injection hh with hh
  injection hh with _ ht
  exact hne ht
theorem Blk.grown {row : Option Nat} (h : Blk w g t cs) (hb : w.grownBy w' row) (hg : some g ≠ row) : Blk w' g t cs := (hb.block g h.lt hg).trans h
end
/-- A store into a cell of another block. -/
theorem mine_set {w : World} {b g : Nat} {A : Option Addr} {n c : Nat} {xs : List Int} (h : Mine w b A n c xs) (hne : some g ≠ own1 A n) (u : Value) : Mine (w.setCell ⟨g, 0, none⟩ u) b A n c xs :=
  h.kept (row := some g) ⟨rfl, rfl, rfl, by simp, fun k _ hk => heap_setCell_other _ ⟨g, 0, none⟩ k _ (fun e => hk (by simp [e]))⟩ (fun k hk e => hne (e.trans hk.symm))
/-- The value of a pair of words. -/
def cx (p : Nat × Nat) : Value := .complex .f32 p.1 p.2
/-- The cells of a list of pairs. -/
def civ (xs : List (Nat × Nat)) : List Value := xs.map cx
theorem civ_length (xs : List (Nat × Nat)) : (civ xs).length = xs.length := by simp [civ]
theorem civ_get (xs : List (Nat × Nat)) (j : Nat) (h : j < xs.length) : (civ xs)[j]? = some (cx (xs.getD j (0, 0))) := by
  simp [civ, h, List.getD]
theorem civ_set (xs : List (Nat × Nat)) (j : Nat) (x : Nat × Nat) : (civ xs).set j (cx x) = civ (xs.set j x) := by
  simp [civ, List.map_set]
theorem civ_append (xs ys : List (Nat × Nat)) : civ xs ++ civ ys = civ (xs ++ ys) := by simp [civ]
theorem civ_one (x : Nat × Nat) : [cx x] = civ [x] := rfl

/-- The slice '.slice A n c' reads as xs; where it has elements it lies below block B. -/
structure CRd (w : World) (B : Nat) (A : Option Addr) (n c : Nat) (xs : List (Nat × Nat)) : Prop where
  len : xs.length = n
  cap : n ≤ c
  most : c ≤ maxLen
  at_ : 0 < n → ∃ b o, A = some ⟨b, o, none⟩ ∧ b < B ∧ ∀ j, j < n → w.cell? ⟨b, o + j, none⟩ = some (cx (xs.getD j (0, 0)))

section
variable {w w' : World} {B B' : Nat} {A : Option Addr} {n c : Nat} {xs : List (Nat × Nat)}
theorem CRd.keep (h : CRd w B A n c xs) (hk : ∀ p : Addr, p.block < B → w'.cell? p = w.cell? p) : CRd w' B A n c xs :=
  ⟨h.len, h.cap, h.most, fun hn => by
    obtain ⟨b, o, e, hb, hc⟩ := h.at_ hn
    exact ⟨b, o, e, hb, fun j hj => (hk _ hb).trans (hc j hj)⟩⟩
theorem CRd.more (h : CRd w B A n c xs) (hB : B ≤ B') : CRd w B' A n c xs :=
  ⟨h.len, h.cap, h.most, fun hn => by
    obtain ⟨b, o, e, hb, hc⟩ := h.at_ hn
    exact ⟨b, o, e, by omega, hc⟩⟩
theorem CRd.below (h : CRd w B A n c xs) (hb : Below B w w') : CRd w' B A n c xs := h.keep fun _ hp => hb.cell hp
theorem CRd.alloc (h : CRd w B A n c xs) (hB : B ≤ w.heap.size) (o : Obj) : CRd (w.alloc o) B A n c xs := h.below ((Below.refl _ _).alloc hB o)
theorem CRd.drew (h : CRd w B A n c xs) : CRd w.drew B A n c xs := h.keep fun _ _ => rfl
theorem CRd.drewN (h : CRd w B A n c xs) (k : Nat) : CRd (w.drewN k) B A n c xs := h.keep fun _ _ => rfl
theorem CRd.none_ (w : World) (B : Nat) : CRd w B none 0 0 [] := ⟨rfl, Nat.le_refl _, by simp [maxLen], fun h => absurd h (by omega)⟩
theorem CRd.nothing (w : World) (B : Nat) (A : Option Addr) (c : Nat) (hc : c ≤ maxLen) : CRd w B A 0 c [] := ⟨rfl, Nat.zero_le _, hc, fun h => absurd h (by omega)⟩
/-- The first k of them. -/
theorem CRd.cut (h : CRd w B A n c xs) {k c' : Nat} (hk : k ≤ n) (hc : k ≤ c') (hm : c' ≤ maxLen) : CRd w B A k c' (xs.take k) :=
  ⟨by rw [List.length_take, h.len]; omega, hc, hm, fun hn => by
    obtain ⟨b, o, e, hb, hcell⟩ := h.at_ (by omega)
    refine ⟨b, o, e, hb, fun j hj => ?_⟩
    rw [hcell j (by omega)]
    simp [List.getD, hj]⟩
/-- Another block is written, the lists' own is not. -/
theorem CRd.grown (h : CRd w B A n c xs) {row : Option Nat} (hg : w.grownBy w' row) (hB : B ≤ w.heap.size) (hr : ∀ g, row = some g → B ≤ g) : CRd w' B A n c xs :=
  h.keep fun p hp => World.cell?_of_block (hg.block p.block (by omega) (fun e => by have := hr _ e.symm; omega))

/-- The call's own row: it lies from block 'base' on. -/
def COwn (w : World) (base : Nat) (A : Option Addr) (n c : Nat) (xs : List (Nat × Nat)) : Prop := w.ownsRow base 34 1 (.slice A n c) n (civ xs)
theorem COwn.len {base : Nat} (h : COwn w base A n c xs) : xs.length = n := by have := h.1; rw [civ_length] at this; omega
theorem COwn.at_ {base : Nat} (h : COwn w base A n c xs) (hn : 0 < n) : ∃ g, A = some ⟨g, 0, none⟩ ∧ base ≤ g ∧ g < w.heap.size := by
  obtain ⟨g, cap, hv, hb, hlt⟩ := World.ownsRow.form h hn
  injection hv with h1
  exact ⟨g, h1, hb, hlt⟩
theorem COwn.cap {base : Nat} (h : COwn w base A n c xs) : n ≤ c ∧ c ≤ maxLen := by
  rcases h.2 with ⟨hv, h0⟩ | ⟨g, cap, cur, hv, _, _, h1, h2, _⟩
  · injection hv with _ _ h3
    subst h0 h3
    simp
  · injection hv with _ _ h3
    subst h3
    exact ⟨h1, h2⟩
theorem COwn.rd {base : Nat} (h : COwn w base A n c xs) : CRd w w.heap.size A n c xs := by
  refine ⟨h.len, h.cap.1, h.cap.2, fun hn => ?_⟩
  obtain ⟨g, rfl, _, hlt⟩ := h.at_ hn
  refine ⟨g, 0, rfl, hlt, fun j hj => ?_⟩
  rw [Nat.zero_add, World.ownsRow.cellAt (n := n) h j (by omega)]
  exact civ_get xs j (by have := h.len; omega)
theorem COwn.below {base : Nat} (h : COwn w base A n c xs) (hb : Below w.heap.size w w') : COwn w' base A n c xs :=
  World.ownsRow.kept (row := none) h ⟨hb.os, hb.tape, hb.output, hb.size, fun k hk _ => hb.block k hk⟩ (by cases hv : (Value.slice A n c).ownBlock <;> simp)
theorem COwn.base {b b' : Nat} (h : COwn w b A n c xs) (hb : b' ≤ b) : COwn w b' A n c xs := by
  refine ⟨h.1, ?_⟩
  rcases h.2 with h2 | ⟨g, cap, cur, hv, hg, r⟩
  · exact .inl h2
  · exact .inr ⟨g, cap, cur, hv, by omega, r⟩
theorem COwn.drew {base : Nat} (h : COwn w base A n c xs) : COwn w.drew base A n c xs := h
theorem COwn.drewN {base : Nat} (h : COwn w base A n c xs) (k : Nat) : COwn (w.drewN k) base A n c xs := h
theorem COwn.alloc {base : Nat} (h : COwn w base A n c xs) (o : Obj) : COwn (w.alloc o) base A n c xs := World.ownsRow.alloc h o
end

section
variable {w w' : World} {B : Nat} {A : Option Addr} {n c : Nat} {xs : List (Nat × Nat)}
/-- What read in w reads in every later world. -/
theorem CRd.in_ (h : CRd w w.heap.size A n c xs) (hb : Below w.heap.size w w') : CRd w' w'.heap.size A n c xs := (h.below hb).more hb.size
theorem COwn.set_ {base : Nat} (h : COwn w base A n c xs) {a : Addr} (ha : a.block < base) (u : Value) : COwn (w.setCell a u) base A n c xs := ownsRow_setCell_below h ha u
end

/-- A slice whose elements, where it has any, lie at the head of a block of the call's own, from block 'base' on; they may be written. -/
structure CMine (w : World) (base : Nat) (A : Option Addr) (n c : Nat) (xs : List (Nat × Nat)) : Prop where
  len : xs.length = n
  cap : n ≤ c
  most : c ≤ maxLen
  row : 0 < n → ∃ g cur, A = some ⟨g, 0, none⟩ ∧ base ≤ g ∧ w.heap[g]? = some (.cells cur 34 (0, 0)) ∧ n ≤ cur.size ∧ cur.toList.take n = civ xs

section
variable {w w' : World} {base base' g : Nat} {A : Option Addr} {n c : Nat} {xs : List (Nat × Nat)}
theorem COwn.mine (h : COwn w base A n c xs) : CMine w base A n c xs := by
  refine ⟨h.len, h.cap.1, h.cap.2, fun hn => ?_⟩
  rcases h.2 with ⟨_, h0⟩ | ⟨g, cap, cur, hv, hb, hg, hnc, _, hs, ht⟩
  · omega
  · injection hv with h1 h2 h3
    exact ⟨g, cur, h1, hb, hg, by omega, by rw [Nat.mul_one] at ht; exact ht⟩
theorem CMine.lt (h : CMine w base A n c xs) : ∀ k, own1 A n = some k → base ≤ k ∧ k < w.heap.size := by
  intro k hk
  obtain ⟨hn, a, rfl, rfl⟩ := own1_some hk
  obtain ⟨g, cur, e, hb, hg, _⟩ := h.row hn
  injection e with e
  subst e
  exact ⟨hb, (Array.getElem?_eq_some_iff.1 hg).1⟩
theorem CMine.cell (h : CMine w base (some ⟨g, 0, none⟩) n c xs) {j : Nat} (hj : j < n) : w.cell? ⟨g, j, none⟩ = some (cx (xs.getD j (0, 0))) := by
  obtain ⟨g', cur, e, hb, hg, hs, ht⟩ := h.row (by omega)
  obtain rfl : g = g' := by simpa using e
  rw [cell_of_row w g j cur _ (0, 0) hg]
  have h1 := civ_get xs j (by rw [h.len]; exact hj)
  rw [← ht, List.getElem?_take, if_pos hj] at h1
  simpa using h1
theorem CMine.frozen (h : CMine w base (some ⟨g, 0, none⟩) n c xs) (hn : 0 < n) (j : Nat) : w.frozen? ⟨g, j, none⟩ = false := by
  obtain ⟨g', cur, e, hb, hg, hs, ht⟩ := h.row hn
  obtain rfl : g = g' := by simpa using e
  exact frozen_of_row w g j cur _ hg
theorem CMine.stored (h : CMine w base (some ⟨g, 0, none⟩) n c xs) (hn : 0 < n) (j : Nat) (x : Nat × Nat) :
    CMine (w.setCell ⟨g, j, none⟩ (cx x)) base (some ⟨g, 0, none⟩) n c (xs.set j x) ∧ w.grownBy (w.setCell ⟨g, j, none⟩ (cx x)) (some g) := by
  obtain ⟨g', cur, e, hb, hg, hs, ht⟩ := h.row hn
  obtain rfl : g = g' := by simpa using e
  refine ⟨⟨by simpa using h.len, h.cap, h.most, fun _ => ⟨g, cur.setIfInBounds j (cx x), rfl, hb, heap_setCell_same w g j cur _ _ hg, by simpa using hs, ?_⟩⟩,
    ⟨rfl, rfl, rfl, by simp, fun k _ hk => heap_setCell_other w ⟨g, j, none⟩ k _ (fun e => hk (by simp [e]))⟩⟩
  rw [Array.toList_setIfInBounds, ← civ_set, ← ht, List.take_set]
theorem CMine.at_ (h : CMine w base A n c xs) (hn : 0 < n) : ∃ g, A = some ⟨g, 0, none⟩ ∧ base ≤ g ∧ g < w.heap.size := by
  obtain ⟨g, cur, e, hb, hg, _⟩ := h.row hn
  exact ⟨g, e, hb, (Array.getElem?_eq_some_iff.1 hg).1⟩
theorem CMine.rd (h : CMine w base A n c xs) : CRd w w.heap.size A n c xs := by
  refine ⟨h.len, h.cap, h.most, fun hn => ?_⟩
  obtain ⟨g, rfl, _, hlt⟩ := h.at_ hn
  exact ⟨g, 0, rfl, hlt, fun j hj => by rw [Nat.zero_add]; exact h.cell hj⟩
theorem CMine.kept {row : Option Nat} (h : CMine w base A n c xs) (hg : w.grownBy w' row) (hne : ∀ k, own1 A n = some k → row ≠ some k) : CMine w' base A n c xs :=
  ⟨h.len, h.cap, h.most, fun hn => by
    obtain ⟨g, cur, rfl, hb, hh, r⟩ := h.row hn
    have e1 : own1 (some ⟨g, 0, none⟩) n = some g := by unfold own1; rw [if_neg (by omega)]; rfl
    exact ⟨g, cur, rfl, hb, (hg.block g (Array.getElem?_eq_some_iff.1 hh).1 (fun e => hne g e1 e.symm)).trans hh, r⟩⟩
theorem CMine.below (h : CMine w base A n c xs) (hb : Below w.heap.size w w') : CMine w' base A n c xs :=
  h.kept (row := none) ⟨hb.os, hb.tape, hb.output, hb.size, fun k hk _ => hb.block k hk⟩ (fun _ _ e => by cases e)
theorem CMine.low (h : CMine w base A n c xs) (hb : base' ≤ base) : CMine w base' A n c xs :=
  ⟨h.len, h.cap, h.most, fun hn => by
    obtain ⟨g, cur, e, hbb, r⟩ := h.row hn
    exact ⟨g, cur, e, by omega, r⟩⟩
theorem CMine.drew (h : CMine w base A n c xs) : CMine w.drew base A n c xs := ⟨h.len, h.cap, h.most, h.row⟩
theorem CMine.drewN (h : CMine w base A n c xs) (k : Nat) : CMine (w.drewN k) base A n c xs := ⟨h.len, h.cap, h.most, h.row⟩
theorem CMine.alloc (h : CMine w base A n c xs) (o : Obj) : CMine (w.alloc o) base A n c xs := h.below (al1 w o)
theorem CMine.set_ (h : CMine w base A n c xs) {a : Addr} (ha : a.block < base) (u : Value) : CMine (w.setCell a u) base A n c xs :=
  h.kept (row := some a.block) ⟨rfl, rfl, rfl, by simp, fun k _ hk => heap_setCell_other w a k u (fun e => hk (by simp [e]))⟩ (fun k hk e => by
    injection e with e
    have := (h.lt k hk).1
    omega)
theorem CMine.none_ (w : World) (base : Nat) : CMine w base none 0 0 [] := ⟨rfl, Nat.le_refl _, by simp [maxLen], fun h => absurd h (by omega)⟩
/-- The first k of them, with the same or a smaller capacity. -/
theorem CMine.cut (h : CMine w base A n c xs) {k c' : Nat} (hk : k ≤ n) (hc : k ≤ c') (hc' : c' ≤ c) : CMine w base A k c' (xs.take k) :=
  ⟨by rw [List.length_take, h.len]; omega, hc, Nat.le_trans hc' h.most, fun hn => by
    obtain ⟨g, cur, e, hb, hh, hs, ht⟩ := h.row (by omega)
    refine ⟨g, cur, e, hb, hh, by omega, ?_⟩
    have : civ (xs.take k) = (civ xs).take k := by simp [civ, List.map_take]
    rw [this, ← ht, List.take_take, Nat.min_eq_left hk]⟩
end


theorem c64_info : (Try.prog.info? 34).map (fun i => (i.zero, i.size, i.bytes)) = some (some (.complex .f32 0 0), 1, 8) := by kernel_rfl

/-- A block that was laid with its elements written out. -/
theorem crd_lit (w : World) (xs : List (Nat × Nat)) (T : TypeId) (n : Nat) (hn : xs.length = n) (hm : n ≤ maxLen) : CRd (w.alloc (.cells (civ xs).toArray T)) (w.alloc (.cells (civ xs).toArray T)).heap.size (some ⟨w.heap.size, 0, none⟩) n n xs :=
  ⟨hn, Nat.le_refl _, hm, fun _ => ⟨w.heap.size, 0, rfl, by simp, fun j hj => by
    rw [Nat.zero_add]
    have h1 : (w.alloc (.cells (civ xs).toArray T)).cell? ⟨w.heap.size, j, none⟩ = (civ xs).toArray[j]? := by simp [go_sem]
    rw [h1]
    simpa using civ_get xs j (by omega)⟩⟩

theorem cx_oneCell (xs : List (Nat × Nat)) : ∀ u ∈ civ xs, u.oneCell' = true := by
  intro v hv
  obtain ⟨x, _, rfl⟩ := List.mem_map.1 hv
  rfl
theorem cown_form {w : World} {base : Nat} {v : Value} {n : Nat} {xs : List (Nat × Nat)} (h : w.ownsRow base 34 1 v n (civ xs)) : ∃ A c, v = .slice A n c ∧ COwn w base A n c xs := by
  have h0 := h
  rcases h.2 with ⟨rfl, rfl⟩ | ⟨g, cap, cur, rfl, _⟩
  · exact ⟨none, 0, rfl, h0⟩
  · exact ⟨_, _, rfl, h0⟩
set_option maxRecDepth 10000 in
theorem crun_append_nil (w : World) (base : Nat) (ty : TypeId) {A0 : Option Addr} {n0 c0 : Nat} {xs : List (Nat × Nat)} (hown : COwn w base A0 n0 c0 xs) (c : Nat) :
    (Builtin.append_ #[25, 25] ty #[.slice A0 n0 c0, .slice none 0 c]).run Try.prog w = .ok (.slice A0 n0 c0) w := by
  obtain ⟨i0, hi0, hz0, hz1, hz2⟩ := info_parts c64_info
  rcases hown.2 with ⟨hv, hn⟩ | ⟨g, cap, cur, hv, _, _, hnc, _⟩
  · rw [hv]
    simp [Builtin.append_, run_underlying Try.underlying25, sizeOf, typeInfo, hi0, Builtin.lenOf, Builtin.firstCells]
  · injection hv with h1 h2 h3
    subst h1 h3
    simp [Builtin.append_, run_underlying Try.underlying25, sizeOf, typeInfo, hi0, Builtin.lenOf, Builtin.firstCells, hnc, storeCells]

set_option maxRecDepth 10000 in
theorem crun_append_rd (w : World) (base : Nat) (ty : TypeId) {A0 : Option Addr} {n0 c0 : Nat} {xs : List (Nat × Nat)} (hown : COwn w base A0 n0 c0 xs)
    {B : Nat} {A : Option Addr} {m c : Nat} {ys : List (Nat × Nat)} (hr : CRd w B A m c ys) (h63 : n0 + m ≤ 4194304) (hbase : base ≤ w.heap.size) :
    ∃ A' c' w', (Builtin.append_ #[25, 25] ty #[.slice A0 n0 c0, .slice A m c]).run Try.prog w = .ok (.slice A' (n0 + m) c') w' ∧ COwn w' base A' (n0 + m) c' (xs ++ ys) ∧ w.grownBy w' (Value.slice A0 n0 c0).ownBlock ∧
      ((Value.slice A' (n0 + m) c').ownBlock = (Value.slice A0 n0 c0).ownBlock ∨ (Value.slice A' (n0 + m) c').ownBlock = some w.heap.size) := by
  obtain ⟨i0, hi0, hz0, hz1, hz2⟩ := info_parts c64_info
  cases A with
  | none =>
    have hm : m = 0 := by
      rcases Nat.eq_zero_or_pos m with h0 | h0
      · exact h0
      · obtain ⟨b, o, h, _⟩ := hr.at_ h0
        cases h
    subst hm
    have hn : ys = [] := List.eq_nil_of_length_eq_zero hr.len
    subst hn
    exact ⟨A0, c0, w, crun_append_nil w base ty hown c, by simpa using hown, World.grownBy.refl w _, .inl rfl⟩
  | some ad =>
    have hcells : ∀ j u, (civ ys)[j]? = some u → w.cell? (ad.add j) = some u := by
      intro j u hu
      have hj : j < m := by
        have := (List.getElem?_eq_some_iff.1 hu).1
        rw [civ_length, hr.len] at this
        exact this
      obtain ⟨b, o, h, _, hc⟩ := hr.at_ (by omega)
      injection h with h
      subst h
      rw [Addr.add_lit, hc j hj]
      rw [civ_get ys j (by rw [hr.len]; exact hj)] at hu
      exact hu
    obtain ⟨v', w', hrun, h2, h3, _, h5⟩ := run_append_own_at (P := Try.prog) w base 25 ty 34 i0 (.complex .f32 0 0) 1 8 Try.underlying25 hi0 hz0 hz1 hz2 rfl (by omega) _ n0 (civ xs) hown ad m c (civ ys)
      (by rw [civ_length, hr.len, Nat.mul_one]) hcells (cx_oneCell ys) (by simp [maxLen]; omega) (by omega) hbase
    rw [civ_append] at h2
    obtain ⟨A', c', rfl, ho⟩ := cown_form h2
    exact ⟨A', c', w', hrun, ho, h3, h5⟩

/-- 'append(out, s...)', out the call's own, at a plain region. -/
theorem wpList_append_crd {w : World} {ops : Array Oper} {rest : List Oper} {o : Oper} {a : Act} {Q : Exit → Act → World → Prop} (hgd : o.guard = none) (s x : Operand)
    (ho : o.op = .call { callee := .builtin .append, args := #[s, x], argTypes := #[25, 25] })
    (base : Nat) (A0 : Option Addr) (n0 c0 : Nat) (xs : List (Nat × Nat)) (hs : a.eval s = .slice A0 n0 c0) (hown : COwn w base A0 n0 c0 xs)
    (B : Nat) (A : Option Addr) (m c : Nat) (ys : List (Nat × Nat)) (hx : a.eval x = .slice A m c) (hr : CRd w B A m c ys) (h63 : n0 + m ≤ 4194304) (hbase : base ≤ w.heap.size)
    (h : ∀ A' c' w', COwn w' base A' (n0 + m) c' (xs ++ ys) → w.grownBy w' (Value.slice A0 n0 c0).ownBlock → wpList Try.prog ops Q rest (a.put o.dst (.slice A' (n0 + m) c')) w') : wpList Try.prog ops Q (o :: rest) a w := by
  obtain ⟨A', c', w', hrun, h2, h3, _⟩ := crun_append_rd w base o.type hown hr h63 hbase
  refine wpList_plain hgd fun K hK => ?_
  unfold Oper.wp execOp
  simp only [ho, resolve, invoke, builtin, Sem.run_bind, Sem.run_pure, Result.andThen_ok, List.map_toArray, List.map_cons, List.map_nil, hs, hx, hrun]
  exact hK _ _ (h A' c' w' h2 h3)

/-- An empty row that was just laid. -/
theorem cown_empty (w : World) : COwn (w.alloc (.cells #[] 34)) w.heap.size (some ⟨w.heap.size, 0, none⟩) 0 0 [] :=
  World.ownsRow_lit w #[] 0 (Nat.le_refl _) (by simp [maxLen]) rfl
theorem cown_empty_at (w : World) {k : Nat} (hk : k = w.heap.size) : COwn (w.alloc (.cells #[] 34)) k (some ⟨k, 0, none⟩) 0 0 [] := by
  subst hk
  exact cown_empty w
/-- A row of written out elements that was just laid. -/
theorem cown_lit (w : World) (xs : List (Nat × Nat)) (n : Nat) (hn : xs.length = n) (hm : n ≤ maxLen) : COwn (w.alloc (.cells (civ xs).toArray 34)) w.heap.size (some ⟨w.heap.size, 0, none⟩) n n xs := by
  have := World.ownsRow_lit (base := w.heap.size) (e := 34) (size := 1) w (civ xs).toArray n (Nat.le_refl _) hm (by simp [civ, hn])
  simpa [COwn] using this
theorem cbgrown {w0 w w' : World} {base : Nat} {A : Option Addr} {n c : Nat} {xs : List (Nat × Nat)} (hB : Below w0.heap.size w0 w) (h : COwn w base A n c xs) (hb : w0.heap.size ≤ base) (g : w.grownBy w' (Value.slice A n c).ownBlock) : Below w0.heap.size w0 w' :=
  hB.grown g hB.size fun k hk => Nat.le_trans hb (World.ownsRow.lt h k hk).1


theorem step_append_crd {w : World} {ops : Array Oper} {o : Oper} {a : Act} {K : Act → World → Prop} {Q : Exit → Act → World → Prop} {E : Prop} (hgd : o.guard = none) (s x : Operand)
    (ho : o.op = .call { callee := .builtin .append, args := #[s, x], argTypes := #[25, 25] })
    (base : Nat) (A0 : Option Addr) (n0 c0 : Nat) (xs : List (Nat × Nat)) (hs : a.eval s = .slice A0 n0 c0) (hown : COwn w base A0 n0 c0 xs)
    (B : Nat) (A : Option Addr) (m c : Nat) (ys : List (Nat × Nat)) (hx : a.eval x = .slice A m c) (hr : CRd w B A m c ys) (h63 : n0 + m ≤ 4194304) (hbase : base ≤ w.heap.size)
    (h : ∀ A' c' w', COwn w' base A' (n0 + m) c' (xs ++ ys) → w.grownBy w' (Value.slice A0 n0 c0).ownBlock → K (a.put o.dst (.slice A' (n0 + m) c')) w') :
    if Region.wanted o (yielded ops a.tmps) = true then Oper.wp Try.prog o a w K Q else E := by
  obtain ⟨A', c', w', hrun, h2, h3, _⟩ := crun_append_rd w base o.type hown hr h63 hbase
  have hw : Region.wanted o (yielded ops a.tmps) = true := by simp [Region.wanted, hgd]
  rw [if_pos hw]
  unfold Oper.wp execOp
  simp only [ho, resolve, invoke, builtin, Sem.run_bind, Sem.run_pure, Result.andThen_ok, List.map_toArray, List.map_cons, List.map_nil, hs, hx, hrun]
  exact h A' c' w' h2 h3

theorem capart_of {w w' : World} {b : Nat} {A A' : Option Addr} {n c n' c' : Nat} {xs ys : List (Nat × Nat)} (h : CMine w b A n c xs) (h' : CMine w' w.heap.size A' n' c' ys) : Apart A n A' n' := fun g h1 h2 => by
  have e1 := (h.lt g h1).2
  have e2 := (h'.lt g h2).1
  omega
theorem clb_of {w0 w w' : World} {A : Option Addr} {n c : Nat} {xs : List (Nat × Nat)} (hB : Below w0.heap.size w0 w) (h : CMine w' w.heap.size A n c xs) : ∀ g, own1 A n = some g → w0.heap.size ≤ g := fun g hg =>
  Nat.le_trans hB.size (h.lt g hg).1
theorem cown_mark {w w' : World} {b : Nat} {A A' : Option Addr} {n n' c : Nat} {xs : List (Nat × Nat)} (h : CMine w b A n c xs) (ap : Apart A' n' A n) (g : w.grownBy w' (own1 A' n')) : CMine w' b A n c xs :=
  h.kept g fun k hk e => ap k e hk

section
variable {w w' : World} {g : Nat} {t : TypeId} {cs : Array Value}
theorem Blk.capart {b : Nat} {A : Option Addr} {n c : Nat} {xs : List (Nat × Nat)} (h : Blk w g t cs) (ho : CMine w b A n c xs) (hne : t ≠ 34) : some g ≠ own1 A n := by
  intro he
  obtain ⟨hn, a, rfl, hab⟩ := own1_some he.symm
  obtain ⟨g', cur, e, _, hh, _⟩ := ho.row hn
  injection e with e
  subst e
  simp only at hab
  subst hab
  unfold Blk at h
  rw [h] at hh
  injection hh with hh
  injection hh with _ ht
  exact hne ht
end

/-- A store into a cell of another block. -/
theorem cmine_set {w : World} {b g : Nat} {A : Option Addr} {n c : Nat} {xs : List (Nat × Nat)} (h : CMine w b A n c xs) (hne : some g ≠ own1 A n) (u : Value) : CMine (w.setCell ⟨g, 0, none⟩ u) b A n c xs :=
  h.kept (row := some g) ⟨rfl, rfl, rfl, by simp, fun k _ hk => heap_setCell_other _ ⟨g, 0, none⟩ k _ (fun e => hk (by simp [e]))⟩ (fun k hk e => hne (e.trans hk.symm))

end Go.Proofs.Ytfbekiphlaaieaa
