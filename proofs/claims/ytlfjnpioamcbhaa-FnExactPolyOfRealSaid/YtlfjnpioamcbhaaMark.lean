/- Contracts of the law's helpers that lay marks into a slice of the call's own and read them again. Condition: at most 1048576 terms. -/
import Derived.Test.YtlfjnpioamcbhaaBase
import Derived.Test.YtlfjnpioamcbhaaPlain
namespace Go.Proofs.Ytlfjnpioamcbhaa
open Go.RowKit

theorem grown_trans {a b c : World} {row : Option Nat} (h : a.grownBy b row) (k : b.grownBy c row) : a.grownBy c row :=
  ⟨k.os.trans h.os, k.tape.trans h.tape, k.output.trans h.output, Nat.le_trans h.size k.size, fun i hi hne => (k.block i (Nat.lt_of_lt_of_le hi h.size) hne).trans (h.block i hi hne)⟩

theorem grown_drew {a b : World} {row : Option Nat} (h : a.grownBy b row) : a.grownBy b.drew row := ⟨h.os, h.tape, h.output, h.size, h.block⟩

set_option maxHeartbeats 1000000 in
theorem markInts (A : Option Addr) (n c : Nat) (xs : List Int) (k0 : Int) (base : Nat) (w : World) (h : Mine w base A n c xs) (h0 : 0 ≤ k0) (h1 : k0 ≤ 1000000000) (hn : n ≤ 1048576) :
    Calls Try.prog 24 #[.slice A n c, .int .i64 k0] w fun e w' => e = .returned (.int .i64 (k0 + n)) ∧ Mine w' base A n c (marks k0 n) ∧ w.grownBy w' (own1 A n) := by
  have hlen := Lib.hid h.len
  have hh := marked_zero xs k0
  have h00 : Mine w base A n c (marked xs k0 0) := by rw [hh]; exact h
  clear hh
  go_enter Try.func24, Try.ntmps24
  go_wp2
  go_loopg [1, 5] n (fun g s1 s5 wr => ∃ i : Nat, i ≤ n ∧ n - i ≤ g ∧ s5 = .int .i64 i ∧ s1 = .int .i64 (k0 + i) ∧ Mine wr base A n c (marked xs k0 i) ∧ w.grownBy wr (own1 A n))
  case atStart => exact ⟨0, Nat.zero_le _, by omega, rfl, by go_num, h00, World.grownBy.refl _ _⟩
  case round =>
    clear h00
    obtain ⟨i, hi, hg, rfl, rfl, ho, hb⟩ := hrel
    by_cases hlt : i < n
    · have hltz : (i : Int) < (n : Int) := by omega
      obtain ⟨gb, rfl, hbase, hsz⟩ := h.at_ (by omega)
      have hst := Mine.stored ho (by omega) i (k0 + i)
      have hat := Mine.cell ho hlt
      have hfr := Mine.frozen ho (by omega) i
      rw [marked_set _ _ _ (by rw [hlen.out]; exact hlt)] at hst
      have e1 : own1 (some (⟨gb, 0, none⟩ : Addr)) n = some gb := by unfold own1; rw [if_neg (by omega)]; rfl
      have HS := Lib.hid hst.1
      have HB := Lib.hid (grown_trans hb (by rw [e1]; exact hst.2))
      clear hst hb ho h e1
      generalize (marked xs k0 i).getD i 0 = z at hat
      go_wp2
      go_roundg (n - (i + 1))
      case measure => omega
      case rel => exact ⟨i + 1, by omega, by omega, by go_num, by go_num, HS.out, HB.out⟩
    · have hltz : ¬ (i : Int) < (n : Int) := by omega
      have hkn : i = n := by omega
      subst hkn
      have e : marked xs k0 i = marks k0 i := by
        have e1 := marked_all xs k0
        rwa [hlen.out] at e1
      rw [e] at ho
      clear e
      go_wp2
      go_ret
      exact ⟨rfl, ho, hb⟩

set_option maxHeartbeats 1000000 in
theorem heldInts (A : Option Addr) (n c : Nat) (k0 : Int) (w : World) (h : Rd w w.heap.size A n c (marks k0 n)) (h0 : 0 ≤ k0) (h1 : k0 ≤ 1000000000) (hn : n ≤ 1048576) :
    Calls Try.prog 25 #[.slice A n c, .int .i64 k0] w fun e w' => e = .returned (.int .i64 (k0 + n)) ∧ w = w' := by
  go_enter Try.func25, Try.ntmps25
  go_wp2
  go_loopg [1, 5] n (fun g s1 s5 wr => ∃ i : Nat, i ≤ n ∧ n - i ≤ g ∧ s5 = .int .i64 i ∧ s1 = .int .i64 (k0 + i) ∧ wr = w)
  case atStart => exact ⟨0, Nat.zero_le _, by omega, rfl, by go_num, rfl⟩
  case round =>
    obtain ⟨i, hi, hg, rfl, rfl, rfl⟩ := hrel
    by_cases hlt : i < n
    · have hltz : (i : Int) < (n : Int) := by omega
      obtain ⟨b, o, rfl, hbl, hc⟩ := h.at_ (by omega)
      have hx := hc i hlt
      rw [marks_getD _ _ _ hlt] at hx
      clear hc h
      go_wp2
      go_roundg (n - (i + 1))
      case measure => omega
      case rel => exact ⟨i + 1, by omega, by omega, by go_num, by go_num, rfl⟩
    · have hltz : ¬ (i : Int) < (n : Int) := by omega
      have hkn : i = n := by omega
      subst hkn
      go_wp2
      go_ret
      exact ⟨rfl, rfl⟩

/-- The elements of two slices lie in different blocks. -/
def Apart (A : Option Addr) (n : Nat) (A' : Option Addr) (n' : Nat) : Prop := ∀ g, own1 A n = some g → own1 A' n' ≠ some g
theorem Apart.symm {A A' : Option Addr} {n n' : Nat} (h : Apart A n A' n') : Apart A' n' A n := fun g h1 h2 => h g h2 h1
theorem apart_of {w w' : World} {b : Nat} {A A' : Option Addr} {n c n' c' : Nat} {xs ys : List Int} (h : Mine w b A n c xs) (h' : Mine w' w.heap.size A' n' c' ys) : Apart A n A' n' := fun g h1 h2 => by
  have e1 := (h.lt g h1).2
  have e2 := (h'.lt g h2).1
  omega
theorem lb_of {w0 w w' : World} {A : Option Addr} {n c : Nat} {xs : List Int} (hB : Below w0.heap.size w0 w) (h : Mine w' w.heap.size A n c xs) : ∀ g, own1 A n = some g → w0.heap.size ≤ g := fun g hg =>
  Nat.le_trans hB.size (h.lt g hg).1
theorem own_mark {w w' : World} {b : Nat} {A A' : Option Addr} {n n' c : Nat} {xs : List Int} (h : Mine w b A n c xs) (ap : Apart A' n' A n) (g : w.grownBy w' (own1 A' n')) : Mine w' b A n c xs :=
  h.kept g fun k hk e => ap k e hk
theorem below_mark {w0 w w' : World} {A : Option Addr} {n : Nat} (hB : Below w0.heap.size w0 w) (lb : ∀ g, own1 A n = some g → w0.heap.size ≤ g) (g : w.grownBy w' (own1 A n)) : Below w0.heap.size w0 w' := hB.grown g hB.size lb

/-- Block g is just the cells cs of element type t. -/
def Blk (w : World) (g : Nat) (t : TypeId) (cs : Array Value) : Prop := w.heap[g]? = some (.cells cs t (0, 0))
section
variable {w w' : World} {g : Nat} {t : TypeId} {cs : Array Value}
theorem Blk.lt (h : Blk w g t cs) : g < w.heap.size := by
  rcases Nat.lt_or_ge g w.heap.size with hlt | hge
  · exact hlt
  · unfold Blk at h; rw [Array.getElem?_eq_none hge] at h; cases h
theorem Blk.new (w : World) (t : TypeId) (cs : Array Value) : Blk (w.alloc (.cells cs t)) w.heap.size t cs := heap_alloc_new w _
theorem Blk.new_at (w : World) (t : TypeId) (cs : Array Value) {k : Nat} (hk : k = w.heap.size) : Blk (w.alloc (.cells cs t)) k t cs := by
  subst hk
  exact heap_alloc_new w _
theorem Blk.alloc (h : Blk w g t cs) (o : Obj) : Blk (w.alloc o) g t cs := (Below.heap_alloc w o g h.lt).trans h
theorem Blk.drew (h : Blk w g t cs) : Blk w.drew g t cs := h
theorem Blk.kept (h : Blk w g t cs) (hb : Below w.heap.size w w') : Blk w' g t cs := (hb.block g h.lt).trans h
theorem Blk.cell0 {v : Value} (h : Blk w g t #[v]) : w.cell? ⟨g, 0, none⟩ = some v := by
  rw [cell_of_row w g 0 _ t (0, 0) h]
  rfl
theorem Blk.frozen0 (h : Blk w g t cs) : w.frozen? ⟨g, 0, none⟩ = false := by
  unfold Blk at h
  simp [World.frozen?, h]
theorem Blk.apart {b : Nat} {A : Option Addr} {n c : Nat} {xs : List Int} (h : Blk w g t cs) (ho : Mine w b A n c xs) (hne : t ≠ 2) : some g ≠ own1 A n := by
  intro he
  obtain ⟨hn, a, rfl, hab⟩ := own1_some he.symm
  obtain ⟨g', cur, e, _, hh, _⟩ := ho.row hn
  injection e with e
  subst e
  simp only at hab
  subst hab
  unfold Blk at h
  rw [h] at hh
  injection hh with hh
  injection hh with _ ht
  exact hne ht
theorem Blk.grown {row : Option Nat} (h : Blk w g t cs) (hb : w.grownBy w' row) (hg : some g ≠ row) : Blk w' g t cs := (hb.block g h.lt hg).trans h
end
/-- A store into a cell of another block. -/
theorem mine_set {w : World} {b g : Nat} {A : Option Addr} {n c : Nat} {xs : List Int} (h : Mine w b A n c xs) (hne : some g ≠ own1 A n) (u : Value) : Mine (w.setCell ⟨g, 0, none⟩ u) b A n c xs :=
  h.kept (row := some g) ⟨rfl, rfl, rfl, by simp, fun k _ hk => heap_setCell_other _ ⟨g, 0, none⟩ k _ (fun e => hk (by simp [e]))⟩ (fun k hk e => hne (e.trans hk.symm))
end Go.Proofs.Ytlfjnpioamcbhaa
