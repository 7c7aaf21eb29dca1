/- Contracts of the remainders by a prime of an integer and of a list, the program's and the reference's. Condition: a prime from 2 to 13, 1 to 1048576 terms. -/
import Derived.Test.YtlfjnpioamcbhaaTrim
namespace Go.Proofs.Ytlfjnpioamcbhaa
open Go.RowKit

theorem mod_eq (n p : Int) (_hp : p ≠ 0) : (n.tmod p + p) % p = n % p := by
  rw [Int.add_emod_right]
  have h := Int.tmod_add_mul_tdiv n p
  have h2 : n % p = (n.tmod p + p * n.tdiv p) % p := by rw [h]
  rw [h2, Int.add_mul_emod_self_left]
def modL (xs : List Int) (p : Int) : List Int := xs.map fun t => t % p
theorem modL_len (xs : List Int) (p : Int) : (modL xs p).length = xs.length := by simp [modL]
theorem modL_succ (xs : List Int) (p : Int) (k : Nat) (h : k < xs.length) : modL (xs.take (k + 1)) p = modL (xs.take k) p ++ [xs.getD k 0 % p] := by
  unfold modL
  rw [take_succ_getD xs k h, List.map_append]
  rfl
theorem modL_get (xs : List Int) (p : Int) (j : Nat) (h : j < xs.length) : (modL xs p).getD j 0 = xs.getD j 0 % p := by
  rw [getD_eq (by rw [modL_len]; exact h), getD_eq h]
  simp [modL]
/-- A list over a prime, trimmed, of 1 to 17 terms, is valid. -/
theorem okW_trim {xs : List Int} (h1 : 1 ≤ xs.length) (h2 : xs.length ≤ 17) (hb : ∀ j, j < xs.length → -1000000 ≤ xs.getD j 0 ∧ xs.getD j 0 ≤ 1000000) : okW (trimL xs) = true := by
  have hl := trimL_len xs
  have h3 := tlen_le xs xs.length
  have h4 := tlen_pos xs xs.length h1
  rw [okW_true]
  refine ⟨⟨by omega, by omega, ?_⟩, allIn_iff.2 fun j hj => ?_⟩
  · rcases tlen_last xs xs.length with h | h
    · left; omega
    · right
      unfold lastOf
      rw [hl]
      unfold trimL
      rw [getD_take _ _ _ (by omega)]
      exact h
  · rw [hl] at hj
    unfold trimL
    rw [getD_take _ _ _ hj]
    exact inB_true.2 (hb j (by omega))
theorem mod_bd (n : Int) {p : Int} (hp : 2 ≤ p ∧ p ≤ 13) : 0 ≤ n % p ∧ n % p < p := ⟨Int.emod_nonneg _ (by omega), Int.emod_lt_of_pos _ (by omega)⟩

theorem mod_own (n p : Int) (w : World) (_hn : -1000000000 ≤ n ∧ n ≤ 1000000000) (hp : 2 ≤ p ∧ p ≤ 13) :
    Calls Try.prog 45 #[.int .i64 n, .int .i64 p] w fun e w' => e = .returned (.int .i64 (n % p)) ∧ w = w' := by
  have HE := Lib.hid (mod_eq n p (by omega))
  have hpn : ¬ p = 0 := by omega
  have hpz : (p == 0) = false := by simpa using hpn
  have hab : (n.tmod p).natAbs = n.natAbs % p.natAbs := Int.natAbs_tmod n p
  have hlt : n.natAbs % p.natAbs < p.natAbs := Nat.mod_lt _ (by omega)
  have h1 : -13 < n.tmod p := by omega
  have h2 : n.tmod p < 13 := by omega
  have h3 : 0 ≤ n.tmod p + p := by omega
  have h4 : 0 ≤ (n.tmod p + p) % p := Int.emod_nonneg _ hpn
  have h5 : (n.tmod p + p) % p < p := Int.emod_lt_of_pos _ (by omega)
  clear hab hlt
  go_enter Try.func45, Try.ntmps45
  go_wp2_with fail
  go_ret
  exact ⟨ret_i64 HE.out, rfl⟩

theorem mod_ref (n p : Int) (w : World) (_hn : -1000000000 ≤ n ∧ n ≤ 1000000000) (hp : 2 ≤ p ∧ p ≤ 13) :
    Calls Try.prog 68 #[.int .i64 n, .int .i64 p] w fun e w' => e = .returned (.int .i64 (n % p)) ∧ w = w' := by
  have HE := Lib.hid (mod_eq n p (by omega))
  have hpn : ¬ p = 0 := by omega
  have hpz : (p == 0) = false := by simpa using hpn
  have hab : (n.tmod p).natAbs = n.natAbs % p.natAbs := Int.natAbs_tmod n p
  have hlt : n.natAbs % p.natAbs < p.natAbs := Nat.mod_lt _ (by omega)
  have h1 : -13 < n.tmod p := by omega
  have h2 : n.tmod p < 13 := by omega
  have h3 : 0 ≤ n.tmod p + p := by omega
  have h4 : 0 ≤ (n.tmod p + p) % p := Int.emod_nonneg _ hpn
  have h5 : (n.tmod p + p) % p < p := Int.emod_lt_of_pos _ (by omega)
  clear hab hlt
  go_enter Try.func68, Try.ntmps68
  go_wp2_with fail
  go_ret
  exact ⟨ret_i64 HE.out, rfl⟩

set_option maxHeartbeats 2000000 in
theorem mods_ref (A : Option Addr) (n c : Nat) (xs : List Int) (p : Int) (w : World) (h : Rd w w.heap.size A n c xs) (hbd : ∀ j, -1000000000 ≤ xs.getD j 0 ∧ xs.getD j 0 ≤ 1000000000) (hp : 2 ≤ p ∧ p ≤ 13) (hn : n ≤ 1048576) (hpos : 0 < n) :
    Calls Try.prog 49 #[.slice A n c, .int .i64 p] w fun e w' => ∃ A' n' c', e = .returned (.slice A' n' c') ∧ Mine w' w.heap.size A' n' c' (trimL (modL xs p)) ∧ Below w.heap.size w w' := by
  have hlen := Lib.hid h.len
  have HBD := Lib.hid hbd
  clear hbd
  go_enter Try.func49, Try.ntmps49
  go_wp2_with fail
  have _tok := True.intro
  go_loopg [5, 10] n (fun g s5 si wr => ∃ (k : Nat) (Ao : Option Addr) (co : Nat), k ≤ n ∧ n - k ≤ g ∧ si = .int .i64 k ∧ s5 = .slice Ao k co ∧ Own wr w.heap.size Ao k co (modL (xs.take k) p) ∧ Below w.heap.size w wr )
  case atStart => exact ⟨0, _, _, by omega, by omega, rfl, rfl, own_empty w, al1 w _⟩
  case round =>
    obtain ⟨k, Ao, co, hk, hg, rfl, rfl, ho, hb ⟩ := hrel
    by_cases hlt : k < n
    · have hltz : (k : Int) < (n : Int) := by omega
      obtain ⟨b, o, rfl, hbl, hc⟩ := h.at_ (by omega)
      have hx := (hb.cell (p := ⟨b, o + k, none⟩) hbl).trans (hc k (by omega))
      have hyb := HBD.out k
      have HS := Lib.hid (modL_succ xs p k (by rw [hlen.out]; exact hlt))
      have hH := Lib.hid h
      clear hc h
      generalize xs.getD k 0 = y at hx hyb HS
      have hbs := hb.size
      have _tok := True.intro
      go_wp2_with fail
      refine (mod_ref y p _ hyb hp).mono ?_
      rintro e w1 ⟨rfl, rfl⟩
      go_wp2_with (at_builtin; go_must (refine wpList_append_rd rfl _ _ rfl w.heap.size _ _ _ _ rfl (ho.alloc _) _ _ _ _ _ rfl (rd_lit wr [y % p] 2 1 rfl (by simp [maxLen])) (by omega) (by simp; omega) ?_); intro A2 c2 w2 ho2 hg2; have HB := Lib.hid (bgrown (hb.alloc hb.size _) (ho.alloc _) (by omega) hg2);  have HO := Lib.hid ho2; clear ho2 hg2 ho hb )
      go_roundg (n - (k + 1))
      case measure => omega
      case rel =>
        have h1 := HO.out
        exact ⟨k + 1, A2, c2, by omega, by omega, by go_num, rfl, by rw [HS.out]; exact h1, HB.out ⟩
    · have hltz : ¬ (k : Int) < (n : Int) := by omega
      have hkn : k = n := by omega
      subst hkn
      have he : xs.take k = xs := by rw [← hlen.out, List.take_length]
      rw [he] at ho
      have u := Lib.hid (Own.mine ho)
      have hbs := hb.size
      clear he
      have HB := Lib.hid hb
      clear ho hb
      go_wp2_with fail
      refine (trim_ref Ao k co (modL xs p) _ u.out.rd hn hpos).mono ?_
      rintro e w2 ⟨A2, n2, c2, rfl, u2, b2⟩
      have HB2 := Lib.hid (bthen HB.out b2)
      have U2 := Lib.hid (Mine.low u2 (base' := w.heap.size) hbs)
      clear u2 b2
      go_wp2_with fail
      go_ret
      exact ⟨A2, n2, c2, rfl, U2.out, HB2.out⟩

set_option maxHeartbeats 2000000 in
theorem over_own (A : Option Addr) (n c : Nat) (xs : List Int) (p : Int) (w : World) (h : Rd w w.heap.size A n c xs) (hbd : ∀ j, -1000000000 ≤ xs.getD j 0 ∧ xs.getD j 0 ≤ 1000000000) (hp : 2 ≤ p ∧ p ≤ 13) (hn : n ≤ 1048576) (hpos : 0 < n) :
    Calls Try.prog 52 #[.slice A n c, .int .i64 p] w fun e w' => ∃ A' n' c', e = .returned (.agg #[.slice A' n' c']) ∧ Mine w' w.heap.size A' n' c' (trimL (modL xs p)) ∧ Below w.heap.size w w' := by
  have hlen := Lib.hid h.len
  have HBD := Lib.hid hbd
  clear hbd
  go_enter Try.func52, Try.ntmps52
  go_wp2_with fail
  have br0 : Blk ((w.alloc (.cells #[.slice none 0 0] 42)).alloc (.cells #[] 2)) w.heap.size 42 #[.slice none 0 0] := Blk.alloc (Blk.new w _ _) _
  go_loopg [5, 11] n (fun g s5 si wr => ∃ (k : Nat) (Ao : Option Addr) (co : Nat), k ≤ n ∧ n - k ≤ g ∧ si = .int .i64 k ∧ s5 = .slice Ao k co ∧ Own wr (w.heap.size + 1) Ao k co (modL (xs.take k) p) ∧ Below w.heap.size w wr ∧ Blk wr w.heap.size 42 #[.slice none 0 0])
  case atStart => exact ⟨0, _, _, by omega, by omega, rfl, rfl, own_empty_at (w.alloc _) (by simp), al2 w _ _, br0⟩
  case round =>
    obtain ⟨k, Ao, co, hk, hg, rfl, rfl, ho, hb , hbr⟩ := hrel
    by_cases hlt : k < n
    · have hltz : (k : Int) < (n : Int) := by omega
      obtain ⟨b, o, rfl, hbl, hc⟩ := h.at_ (by omega)
      have hx := (hb.cell (p := ⟨b, o + k, none⟩) hbl).trans (hc k (by omega))
      have hyb := HBD.out k
      have HS := Lib.hid (modL_succ xs p k (by rw [hlen.out]; exact hlt))
      have hH := Lib.hid h
      clear hc h
      generalize xs.getD k 0 = y at hx hyb HS
      have hbs := hb.size
      have hlt2 := hbr.lt
      have hol := World.ownsRow.lt ho
      go_wp2_with fail
      refine (mod_own y p _ hyb hp).mono ?_
      rintro e w1 ⟨rfl, rfl⟩
      go_wp2_with (at_builtin; go_must (refine wpList_append_rd rfl _ _ rfl (w.heap.size + 1) _ _ _ _ rfl (ho.alloc _) _ _ _ _ _ rfl (rd_lit wr [y % p] 2 1 rfl (by simp [maxLen])) (by omega) (by simp; omega) ?_); intro A2 c2 w2 ho2 hg2; have HB := Lib.hid (bgrown (hb.alloc hb.size _) (ho.alloc _) (by omega) hg2); have HR := Lib.hid (Blk.grown (Blk.alloc hbr _) hg2 (fun e => by have := (hol _ e.symm).1; omega)); have HO := Lib.hid ho2; clear ho2 hg2 ho hb hbr)
      go_roundg (n - (k + 1))
      case measure => omega
      case rel =>
        have h1 := HO.out
        exact ⟨k + 1, A2, c2, by omega, by omega, by go_num, rfl, by rw [HS.out]; exact h1, HB.out , HR.out⟩
    · have hltz : ¬ (k : Int) < (n : Int) := by omega
      have hkn : k = n := by omega
      subst hkn
      have he : xs.take k = xs := by rw [← hlen.out, List.take_length]
      rw [he] at ho
      have u := Lib.hid (Own.mine ho)
      have hbs := hb.size
      clear he
      have hR := hbr
      have hB := hb
      clear ho hb hbr
      go_wp2_with fail
      refine (whole_own Ao k co (modL xs p) _ _ u.out hn hpos).mono ?_
      rintro e w2 ⟨k2, rfl, u2, b2⟩
      have br2 := Blk.kept hR b2
      have cr := br2.cell0
      have fr := br2.frozen0
      have u3 := Mine.low u2 (base' := w.heap.size) (by omega)
      have AR := Lib.hid (Blk.apart br2 u3 (by decide))
      have U3 := Lib.hid u3
      have HB2 := Lib.hid (bthen hB b2)
      clear u2 u3 b2 br2 hR hB
      go_wp2_with fail
      refine bodyPost_ret (v := .agg #[.slice Ao k2 k2]) (by simp [results, Try.results52, go_sem, cr]) rfl ⟨_, k2, k2, rfl, ?_, ?_⟩
      · exact mine_set U3.out AR.out _
      · exact HB2.out.setCell (by simp) _
end Go.Proofs.Ytlfjnpioamcbhaa
