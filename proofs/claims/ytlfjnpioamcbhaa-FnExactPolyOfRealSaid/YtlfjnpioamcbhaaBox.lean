/- A store into a block of one cell. No condition. -/
import Derived.Test.YtlfjnpioamcbhaaMark
namespace Go.Proofs.Ytlfjnpioamcbhaa
open Go.RowKit
theorem Blk.set0 {w : World} {g : Nat} {t : TypeId} {v : Value} (h : Blk w g t #[v]) (u : Value) : Blk (w.setCell ⟨g, 0, none⟩ u) g t #[u] :=
  heap_setCell_same w g 0 _ _ _ h
theorem Blk.set_other {w : World} {g k : Nat} {t : TypeId} {cs : Array Value} (h : Blk w g t cs) (hk : g ≠ k) (u : Value) : Blk (w.setCell ⟨k, 0, none⟩ u) g t cs :=
  (heap_setCell_other w ⟨k, 0, none⟩ g u hk).trans h
theorem kal {k W : World} (h : Below k.heap.size k W) (o : Obj) : Below k.heap.size k (W.alloc o) := h.alloc h.size o
theorem kdrew {k W : World} (h : Below k.heap.size k W) : Below k.heap.size k W.drew := h.drew
theorem kset {k W : World} {g : Nat} {v : Value} (h : Below k.heap.size k W) (hg : k.heap.size ≤ g) : Below k.heap.size k (W.setCell ⟨g, 0, none⟩ v) := h.setCell (p := ⟨g, 0, none⟩) hg v
end Go.Proofs.Ytlfjnpioamcbhaa
