/- Contracts of WholeFrom, the program's and the reference's: 'wholeFromF'. Condition: at most 1048576 terms. -/
import Derived.Test.YtjhcjpjmpcoopaaTrim
namespace Go.Proofs.Ytjhcjpjmpcoopaa
open Go.RowKit

def wholeFromF (xs : List Int) : List Int × Bool := if xs.length = 0 then ([], false) else giveF xs
theorem wholeFrom_len (xs : List Int) : (wholeFromF xs).1.length ≤ 1048576 := by
  unfold wholeFromF
  split
  · simp
  · have := checkF_len (trimL xs)
    unfold giveF
    omega

set_option maxHeartbeats 1000000 in
theorem wholeFrom_own (A : Option Addr) (n c : Nat) (xs : List Int) (w : World) (h : Rd w w.heap.size A n c xs) (hn : n ≤ 1048576) :
    Calls Try.prog 29 #[.slice A n c] w fun e w' => ∃ A' n' c', e = .returned (.tuple #[.agg #[.slice A' n' c'], .bool (wholeFromF xs).2]) ∧ Mine w' w.heap.size A' n' c' (wholeFromF xs).1 ∧ Below w.heap.size w w' := by
  have hlen := Lib.hid h.len
  by_cases hp : n = 0
  · have he : wholeFromF xs = ([], false) := by
      unfold wholeFromF
      rw [hlen.out, hp]
      rfl
    rw [he]
    clear he
    subst hp
    go_enter Try.func29, Try.ntmps29
    go_wp2_with fail
    exact bodyPost_ret (v := .tuple #[.agg #[.slice none 0 0], .bool false]) (by simp [results, Try.results29, go_sem]) rfl ⟨none, 0, 0, rfl, Mine.none_ _ _, al1 w _⟩
  · have he : wholeFromF xs = checkF (trimL xs) := by
      unfold wholeFromF
      rw [hlen.out, if_neg hp]
      rfl
    rw [he]
    clear he
    have hz : ((n : Int) == 0) = false := by simp; omega
    have hz1 : ¬ (n : Int) < 1 := by omega
    go_enter Try.func29, Try.ntmps29
    go_wp2_with fail
    refine (clone_any A n c xs _ (h.in_ (al1 w _)) hn).mono ?_
    rintro e w1 ⟨A1, c1, rfl, u1o, b1⟩
    have B1 := bthen (al1 w _) b1
    have br1 : Blk w1 w.heap.size 27 #[.slice none 0 0] := Blk.kept (Blk.new w _ _) b1
    have u1 := Mine.low (Own.mine u1o) (base' := w.heap.size) (by simp)
    clear b1 u1o h
    go_wp2_with fail
    refine (whole_own A1 n c1 xs w.heap.size _ u1 hn (by omega)).mono ?_
    rintro e w2 ⟨k, rfl, u2, b2⟩
    have B2 := bthen B1 b2
    have br2 := Blk.kept br1 b2
    clear b2 u1 br1 B1
    go_wp2_with fail
    refine (checked_own A1 k k (trimL xs) w.heap.size _ u2).mono ?_
    rintro e w3 ⟨A3, n3, c3, rfl, u3, b3⟩
    have br3 := Blk.kept br2 b3
    have AR := Lib.hid (Blk.apart br3 u3 (by decide))
    have U3 := Lib.hid u3
    have B3 := Lib.hid (bthen B2 b3)
    have cr := br3.cell0
    have fr := br3.frozen0
    clear b3 u2 u3 br2 br3 B2
    go_wp2_with fail
    refine bodyPost_ret (v := .tuple #[.agg #[.slice A3 n3 c3], .bool (checkF (trimL xs)).2]) (by simp [results, Try.results29, go_sem, cr]) rfl ⟨A3, n3, c3, rfl, ?_, ?_⟩
    · exact mine_set U3.out AR.out _
    · exact B3.out.setCell (by simp) _

set_option maxHeartbeats 1000000 in
theorem wholeFrom_ref (A : Option Addr) (n c : Nat) (xs : List Int) (w : World) (h : Rd w w.heap.size A n c xs) (hn : n ≤ 1048576) :
    Calls Try.prog 27 #[.slice A n c] w fun e w' => ∃ A' n' c', e = .returned (.tuple #[.agg #[.slice A' n' c'], .bool (wholeFromF xs).2]) ∧ Mine w' w.heap.size A' n' c' (wholeFromF xs).1 ∧ Below w.heap.size w w' := by
  have hlen := Lib.hid h.len
  by_cases hp : n = 0
  · have he : wholeFromF xs = ([], false) := by
      unfold wholeFromF
      rw [hlen.out, hp]
      rfl
    rw [he]
    clear he
    subst hp
    go_enter Try.func27, Try.ntmps27
    go_wp2_with fail
    exact bodyPost_ret (v := .tuple #[.agg #[.slice none 0 0], .bool false]) (by simp [results, Try.results27, go_sem]) rfl ⟨none, 0, 0, rfl, Mine.none_ _ _, al1 w _⟩
  · have he : wholeFromF xs = checkF (trimL xs) := by
      unfold wholeFromF
      rw [hlen.out, if_neg hp]
      rfl
    rw [he]
    clear he
    have hz : ((n : Int) == 0) = false := by simp; omega
    have hz1 : ¬ (n : Int) < 1 := by omega
    go_enter Try.func27, Try.ntmps27
    go_wp2_with fail
    refine (give_ref A n c xs _ (h.in_ (al1 w _)) hn (by omega)).mono ?_
    rintro e w3 ⟨A3, n3, c3, rfl, u3o, b3⟩
    have br3 : Blk w3 w.heap.size 27 #[.slice none 0 0] := Blk.kept (Blk.new w _ _) b3
    have u3 := Mine.low u3o (base' := w.heap.size) (by simp)
    have AR := Lib.hid (Blk.apart br3 u3 (by decide))
    have U3 := Lib.hid u3
    have B3 := Lib.hid (bthen (al1 w _) b3)
    have cr := br3.cell0
    have fr := br3.frozen0
    clear b3 u3o u3 br3 h
    go_wp2_with fail
    unfold giveF at U3
    refine bodyPost_ret (v := .tuple #[.agg #[.slice A3 n3 c3], .bool (checkF (trimL xs)).2]) (by simp [results, Try.results27, go_sem, cr, giveF]) rfl ⟨A3, n3, c3, rfl, ?_, ?_⟩
    · exact mine_set U3.out AR.out _
    · exact B3.out.setCell (by simp) _
end Go.Proofs.Ytjhcjpjmpcoopaa
