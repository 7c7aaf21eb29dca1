/- Contracts of the law's helpers on a polynomial of complex numbers: the comparison, marks laid and read again. Condition: as for their slices. -/
import Derived.Test.YtlfjnpioamcbhaaCMem
namespace Go.Proofs.Ytlfjnpioamcbhaa
open Go.RowKit


theorem eqPoly_any (A : Option Addr) (n c : Nat) (A' : Option Addr) (m c' : Nat) (xs : List Int) (w : World) (h : CRd w w.heap.size A n c (xs.map pt)) (h' : CRd w w.heap.size A' m c' (xs.map pt)) (hx : ∀ j, j < xs.length → -1000 ≤ xs.getD j 0 ∧ xs.getD j 0 ≤ 1000) :
    Calls Try.prog 12 #[.agg #[.slice A n c], .agg #[.slice A' m c']] w fun e w' => e = .returned (.bool true) ∧ Below w.heap.size w w' := by
  have hs := Lib.hid (fun W H H' => eqC A n c A' m c' xs W H H' hx)
  clear hx
  go_enter Try.func12, Try.ntmps12
  go_wp2_with (go_at_call 37; refine (hs.out _ (h.in_ (al2 w _ _)) (h'.in_ (al2 w _ _))).mono ?_; rintro e w' ⟨rfl, q, rfl⟩)
  go_ret
  exact ⟨rfl, drewN_below (al2 w _ _) q⟩

theorem apart_cm {w w' : World} {b : Nat} {A A' : Option Addr} {n c n' c' : Nat} {xs : List (Nat × Nat)} {ys : List Int} (h : CMine w b A n c xs) (h' : Mine w' w.heap.size A' n' c' ys) : Apart A n A' n' := fun g h1 h2 => by
  have e1 := (h.lt g h1).2
  have e2 := (h'.lt g h2).1
  omega
theorem apart_mc {w w' : World} {b : Nat} {A A' : Option Addr} {n c n' c' : Nat} {xs : List Int} {ys : List (Nat × Nat)} (h : Mine w b A n c xs) (h' : CMine w' w.heap.size A' n' c' ys) : Apart A n A' n' := fun g h1 h2 => by
  have e1 := (h.lt g h1).2
  have e2 := (h'.lt g h2).1
  omega
theorem grown_allocPoly {w w' : World} {row : Option Nat} (o : Obj) (h : (w.alloc o).grownBy w' row) : w.grownBy w' row :=
  grown_trans (World.grownBy_alloc w o row) h

theorem markPoly_any (A : Option Addr) (n c : Nat) (xs : List (Nat × Nat)) (k0 : Int) (base : Nat) (w : World) (h : CMine w base A n c xs) (h0 : 0 ≤ k0) (h1 : k0 + n ≤ 100) :
    Calls Try.prog 15 #[.agg #[.slice A n c], .int .i64 k0] w fun e w' => e = .returned (.int .i64 (k0 + n)) ∧ CMine w' base A n c (cmarks k0 n) ∧ w.grownBy w' (own1 A n) := by
  go_enter Try.func15, Try.ntmps15
  go_wp2_with fail
  refine (markC A n c xs k0 base _ (h.alloc _) h0 h1).mono ?_
  rintro e w1 ⟨rfl, u1, g1⟩
  have HG := Lib.hid (grown_allocPoly _ g1)
  have HU := Lib.hid u1
  clear g1 u1
  go_wp2_with fail
  go_ret
  exact ⟨rfl, HU.out, HG.out⟩

theorem heldPoly_any (A : Option Addr) (n c : Nat) (k0 : Int) (w : World) (h : CRd w w.heap.size A n c (cmarks k0 n)) (h0 : 0 ≤ k0) (h1 : k0 + n ≤ 100) :
    Calls Try.prog 16 #[.agg #[.slice A n c], .int .i64 k0] w fun e w' => e = .returned (.int .i64 (k0 + n)) ∧ Below w.heap.size w w' := by
  go_enter Try.func16, Try.ntmps16
  go_wp2_with fail
  refine (heldC A n c k0 _ (h.in_ (al1 w _)) h0 h1).mono ?_
  rintro e w1 ⟨rfl, rfl⟩
  go_wp2_with fail
  go_ret
  exact ⟨rfl, al1 w _⟩
end Go.Proofs.Ytlfjnpioamcbhaa
