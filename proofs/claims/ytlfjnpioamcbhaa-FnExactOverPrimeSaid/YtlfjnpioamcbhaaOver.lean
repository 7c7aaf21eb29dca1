/- Contracts of OverPrime, the program's and the reference's: 'overF'. Condition: at most 1048576 terms. -/
import Derived.Test.YtlfjnpioamcbhaaMods
import Derived.Test.YtlfjnpioamcbhaaPrime
namespace Go.Proofs.Ytlfjnpioamcbhaa
open Go.RowKit

theorem prime_bd {p : Int} (h : p ∈ primes) : 2 ≤ p ∧ p ≤ 13 := by
  simp [primes] at h; omega
def overF (xs : List Int) (p : Int) : List Int × Bool := if okW xs && primeB p then (trimL (modL xs p), true) else ([], false)
theorem overF_no {xs : List Int} {p : Int} (h : okW xs = false) : overF xs p = ([], false) := by unfold overF; rw [h]; rfl
theorem overF_no' {xs : List Int} {p : Int} (h : primeB p = false) : overF xs p = ([], false) := by unfold overF; rw [h, Bool.and_false]; rfl
theorem overF_yes {xs : List Int} {p : Int} (h : okW xs = true) (h' : primeB p = true) : overF xs p = (trimL (modL xs p), true) := by unfold overF; rw [h, h']; rfl
theorem over_give {xs : List Int} {p : Int} (h : okW xs = true) (h' : primeB p = true) : giveF (trimL (modL xs p)) = (trimL (modL xs p), true) := by
  have hl := okW_len h
  have hp := prime_bd (p := p) (by simpa [primeB] using h')
  unfold giveF checkF
  rw [trimL_idem, okW_trim (by rw [modL_len]; omega) (by rw [modL_len]; omega) (fun j hj => by
    rw [modL_len] at hj
    rw [modL_get _ _ _ hj]
    have := mod_bd (xs.getD j 0) hp
    omega)]
  rfl
theorem overF_len (xs : List Int) (p : Int) : (overF xs p).1.length ≤ 1048576 := by
  unfold overF
  cases h : okW xs
  · simp
  · cases primeB p
    · simp
    · have hl := okW_len h
      have := trimL_len (modL xs p)
      have h2 := tlen_le (modL xs p) (modL xs p).length
      rw [modL_len] at h2 this
      simp only [Bool.and_true, if_true]
      omega

set_option maxHeartbeats 1000000 in
theorem over_ref (A : Option Addr) (n c : Nat) (xs : List Int) (p : Int) (w : World) (h : Rd w w.heap.size A n c xs) (_bd : -9223372036854775808 ≤ p ∧ p ≤ 9223372036854775807) (_hn : n ≤ 1048576) :
    Calls Try.prog 26 #[.agg #[.slice A n c], .int .i64 p] w fun e w' => ∃ A' n' c', e = .returned (.tuple #[.agg #[.slice A' n' c'], .bool (overF xs p).2]) ∧ Mine w' w.heap.size A' n' c' (overF xs p).1 ∧ Below w.heap.size w w' := by
  have hcon := fun b W H hb => isWhole_ref A n c xs b W H hb
  have hlen := Lib.hid h.len
  cases hok : okW xs
  · rw [overF_no hok]
    rw [hok] at hcon
    have HC := Lib.hid hcon
    clear hcon
    go_enter Try.func26, Try.ntmps26
    go_wp2_with fail
    refine (HC.out _ _ (h.in_ (al2 w _ _)) (by simp [go_sem])).mono ?_
    rintro e w1 ⟨rfl, rfl⟩
    go_wp2_with fail
    refine bodyPost_ret (v := .tuple #[.agg #[.slice none 0 0], .bool false]) (by simp [results, Try.results26, go_sem]) rfl ⟨none, 0, 0, rfl, Mine.none_ _ _, ?_⟩
    exact (al1 w _).alloc (by simp) _
  rw [hok] at hcon
  have HC := Lib.hid hcon
  clear hcon
  cases hp : primeB p
  · rw [overF_no' hp]
    go_enter Try.func26, Try.ntmps26
    go_wp2_with fail
    refine (HC.out _ _ (h.in_ (al2 w _ _)) (by simp [go_sem])).mono ?_
    rintro e w1 ⟨rfl, rfl⟩
    go_wp2_with fail
    refine (isPrime_ref p _).mono ?_
    rintro e w1 ⟨rfl, rfl⟩
    go_wp2_with fail
    refine bodyPost_ret (v := .tuple #[.agg #[.slice none 0 0], .bool false]) (by simp [results, Try.results26, go_sem]) rfl ⟨none, 0, 0, rfl, Mine.none_ _ _, ?_⟩
    exact (al1 w _).alloc (by simp) _
  have hpb := prime_bd (p := p) (by simpa [primeB] using hp)
  have hln := okW_len hok
  rw [hlen.out] at hln
  have hbd : ∀ j, -1000000000 ≤ xs.getD j 0 ∧ xs.getD j 0 ≤ 1000000000 := fun j => by have := okW_bd hok j; omega
  have HBD := Lib.hid hbd
  have HG := Lib.hid (over_give hok hp)
  rw [overF_yes hok hp]
  clear hbd hok
  go_enter Try.func26, Try.ntmps26
  go_wp2_with fail
  refine (HC.out _ _ (h.in_ (al2 w _ _)) (by simp [go_sem])).mono ?_
  rintro e w1 ⟨rfl, rfl⟩
  go_wp2_with fail
  refine (isPrime_ref p _).mono ?_
  rintro e w1 ⟨rfl, rfl⟩
  go_wp2_with fail
  refine (mods_ref A n c xs p _ (h.in_ (al2 w _ _)) HBD.out hpb (by omega) (by omega)).mono ?_
  rintro e w2 ⟨A2, n2, c2, rfl, u2, b2⟩
  have B2 := bthen (al2 w _ _) b2
  have br2 : Blk w2 (w.heap.size + 1) 42 #[.slice none 0 0] := Blk.kept (Blk.new_at (w.alloc _) _ _ (by simp)) b2
  have hl2 : 0 < n2 ∧ n2 ≤ 1048576 := by
    have e1 := u2.len
    have e2 := trimL_len (modL xs p)
    have e3 := tlen_le (modL xs p) (modL xs p).length
    have e4 := tlen_pos (modL xs p) (modL xs p).length (by rw [modL_len, hlen.out]; omega)
    rw [modL_len, hlen.out] at e3 e4
    rw [modL_len, hlen.out] at e2
    omega
  clear b2 h HC hp
  go_wp2_with fail
  refine (give_ref A2 n2 c2 (trimL (modL xs p)) _ u2.rd hl2.2 hl2.1).mono ?_
  rintro e w3 ⟨A3, n3, c3, rfl, u3o, b3⟩
  have br3 := Blk.kept br2 b3
  have u3 := Mine.low u3o (base' := w.heap.size) B2.size
  have AR := Lib.hid (Blk.apart br3 u3 (by decide))
  have U3 := Lib.hid u3
  have B3 := Lib.hid (bthen B2 b3)
  have cr := br3.cell0
  have fr := br3.frozen0
  clear b3 u3 u3o u2 br2 br3 B2
  rw [HG.out] at U3 ⊢
  go_wp2_with fail
  refine bodyPost_ret (v := .tuple #[.agg #[.slice A3 n3 c3], .bool true]) (by simp [results, Try.results26, go_sem, cr]) rfl ⟨A3, n3, c3, rfl, ?_, ?_⟩
  · exact mine_set U3.out AR.out _
  · exact B3.out.setCell (by simp) _

set_option maxHeartbeats 1000000 in
theorem overp_own (A : Option Addr) (n c : Nat) (xs : List Int) (p : Int) (w : World) (h : Rd w w.heap.size A n c xs) (_bd : -9223372036854775808 ≤ p ∧ p ≤ 9223372036854775807) (_hn : n ≤ 1048576) :
    Calls Try.prog 27 #[.agg #[.slice A n c], .int .i64 p] w fun e w' => ∃ A' n' c', e = .returned (.tuple #[.agg #[.slice A' n' c'], .bool (overF xs p).2]) ∧ Mine w' w.heap.size A' n' c' (overF xs p).1 ∧ Below w.heap.size w w' := by
  have hcon := fun W H => validWhole_own A n c xs W H
  have hlen := Lib.hid h.len
  cases hok : okW xs
  · rw [overF_no hok]
    rw [hok] at hcon
    have HC := Lib.hid hcon
    clear hcon
    go_enter Try.func27, Try.ntmps27
    go_wp2_with fail
    refine (HC.out _ (h.in_ (al2 w _ _))).mono ?_
    rintro e w1 ⟨rfl, b1⟩
    have B1 := bthen (al2 w _ _) b1
    have br1 : Blk w1 (w.heap.size + 1) 42 #[.slice none 0 0] := Blk.kept (Blk.new_at (w.alloc _) _ _ (by simp)) b1
    have cr := br1.cell0
    have fr := br1.frozen0
    clear b1 br1
    go_wp2_with fail
    refine bodyPost_ret (v := .tuple #[.agg #[.slice none 0 0], .bool false]) (by simp [results, Try.results27, go_sem, cr]) rfl ⟨none, 0, 0, rfl, Mine.none_ _ _, ?_⟩
    exact B1.setCell (by simp) _
  rw [hok] at hcon
  have HC := Lib.hid hcon
  clear hcon
  cases hp : primeB p
  · rw [overF_no' hp]
    go_enter Try.func27, Try.ntmps27
    go_wp2_with fail
    refine (HC.out _ (h.in_ (al2 w _ _))).mono ?_
    rintro e w1 ⟨rfl, b1⟩
    have B1 := bthen (al2 w _ _) b1
    have br1 : Blk w1 (w.heap.size + 1) 42 #[.slice none 0 0] := Blk.kept (Blk.new_at (w.alloc _) _ _ (by simp)) b1
    clear b1
    go_wp2_with fail
    refine (isPrime_own p _).mono ?_
    rintro e w2 ⟨rfl, b2⟩
    have B2 := bthen B1 b2
    have br2 := Blk.kept br1 b2
    have cr := br2.cell0
    have fr := br2.frozen0
    clear b2 br1 br2 B1
    go_wp2_with fail
    refine bodyPost_ret (v := .tuple #[.agg #[.slice none 0 0], .bool false]) (by simp [results, Try.results27, go_sem, cr]) rfl ⟨none, 0, 0, rfl, Mine.none_ _ _, ?_⟩
    exact B2.setCell (by simp) _
  have hpb := prime_bd (p := p) (by simpa [primeB] using hp)
  have hln := okW_len hok
  rw [hlen.out] at hln
  have hbd : ∀ j, -1000000000 ≤ xs.getD j 0 ∧ xs.getD j 0 ≤ 1000000000 := fun j => by have := okW_bd hok j; omega
  have HBD := Lib.hid hbd
  rw [overF_yes hok hp]
  clear hbd hok
  go_enter Try.func27, Try.ntmps27
  go_wp2_with fail
  refine (HC.out _ (h.in_ (al2 w _ _))).mono ?_
  rintro e w1 ⟨rfl, b1⟩
  have B1 := bthen (al2 w _ _) b1
  have bp1 : Blk w1 w.heap.size 42 #[.slice A n c] := Blk.kept (Blk.alloc (Blk.new w _ _) _) b1
  have br1 : Blk w1 (w.heap.size + 1) 42 #[.slice none 0 0] := Blk.kept (Blk.new_at (w.alloc _) _ _ (by simp)) b1
  clear b1
  go_wp2_with fail
  refine (isPrime_own p _).mono ?_
  rintro e w2 ⟨rfl, b2⟩
  have B2 := bthen B1 b2
  have bp2 := Blk.kept bp1 b2
  have br2 := Blk.kept br1 b2
  have cp2 := bp2.cell0
  clear b2 br1 bp1 B1
  go_wp2_with fail
  refine (over_own A n c xs p _ (h.in_ B2) HBD.out hpb (by omega) (by omega)).mono ?_
  rintro e w3 ⟨A3, n3, c3, rfl, u3o, b3⟩
  have br3 := Blk.kept br2 b3
  have u3 := Mine.low u3o (base' := w.heap.size) B2.size
  have AR := Lib.hid (Blk.apart br3 u3 (by decide))
  have U3 := Lib.hid u3
  have B3 := Lib.hid (bthen B2 b3)
  have cr := br3.cell0
  have fr := br3.frozen0
  clear b3 u3 u3o br2 br3 B2 bp2 cp2 h
  go_wp2_with fail
  refine bodyPost_ret (v := .tuple #[.agg #[.slice A3 n3 c3], .bool true]) (by simp [results, Try.results27, go_sem, cr]) rfl ⟨A3, n3, c3, rfl, ?_, ?_⟩
  · exact mine_set U3.out AR.out _
  · exact B3.out.setCell (by simp) _
end Go.Proofs.Ytlfjnpioamcbhaa
