/- How an argument is read: a slice of bytes, by its cells. No condition. -/
import Derived.Test.YtfbekiphlaaieaaRf
import Derived.ProofKit
import Derived.OpenShut
import Derived.ShutString
import Derived.ChangeOld
import Derived.Below
import Derived.Lib.SmallJoins
import Derived.Deep.Slices
namespace Go.Proofs.Ytfbekiphlaaieaa
open Go.ChangeShapes Go.WideShapes Go.ChangeAt Go.RowKit Go.Joins Go.Deep

theorem own : ownKnob Try.prog.godebug = none := by kernel_rfl
theorem laidOut : laidOutB Try.prog = true := by kernel_rfl

section
variable {H : Type} {enc : TypeId × Value → H} {P : Program} {w : World} {base : Nat} {spare : Nat → Bool} {held : Bool}
theorem srd_of_bytes {t e : TypeId} {fuel : Nat} {v0 : Value} {x : DataW H × List MemPlace} (ht : P.underlying t = some (.slice e)) (he : P.underlying e = some (.int .u8)) (hc : P.cellsOf e = 1)
    (h : DataW.trod enc P w base spare held fuel t [v0] = some x) : ∃ (A : Option Addr) (n c : Nat) (vs : Nat → Value), v0 = .slice A n c ∧ SRd w w.heap.size A n c vs ∧ Bytes n vs := by
  rcases open_ints ht he hc h with ⟨hcs, _⟩ | ⟨a, l, c, zs, hcs, _, hl, hm, hz, _, hcell, hwz⟩
  · simp only [List.cons.injEq, and_true] at hcs
    exact ⟨none, 0, 0, fun _ => .int .u8 0, hcs, ⟨Nat.le_refl _, by simp [maxLen], fun h => absurd h (by omega)⟩, fun j hj => absurd hj (Nat.not_lt_zero _)⟩
  · simp only [List.cons.injEq, and_true] at hcs
    have hzl : l ≤ zs.length := by rw [hz]; split <;> omega
    refine ⟨some a, l, c, fun j => .int .u8 (zs.getD j 0), hcs, ⟨hl, hm, fun hn => ?_⟩, fun j hj => ?_⟩
    · have c0 := hcell 0 (by omega)
      have hlt := World.block_lt_of_cell? _ _ c0
      have hsp : a.spot = none := by simpa [Addr.add] using World.cell?_spot c0
      obtain ⟨b, o, s⟩ := a
      simp only at hsp
      subst hsp
      refine ⟨b, o, rfl, by simpa [Addr.add] using hlt, fun j hj => ?_⟩
      have := hcell j (by omega)
      rw [Addr.add_lit] at this
      rw [this]
    · refine ⟨zs.getD j 0, rfl, ?_⟩
      have hj' : j < zs.length := by omega
      have hmem : zs.getD j 0 ∈ zs := by
        have e : zs.getD j 0 = zs[j] := by simp [List.getD, hj']
        rw [e]
        exact List.getElem_mem hj'
      have hw := hwz _ hmem
      exact bounds_u8 hw
end
end Go.Proofs.Ytfbekiphlaaieaa
