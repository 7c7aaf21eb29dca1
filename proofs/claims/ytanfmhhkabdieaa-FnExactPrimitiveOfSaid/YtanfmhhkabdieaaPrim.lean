/- Contracts of PrimitiveOf, the program's and the reference's: 'primF'. Condition: at most 1048576 terms. -/
import Derived.Test.YtanfmhhkabdieaaContent
import Derived.Test.YtanfmhhkabdieaaTrim
import Derived.Test.YtanfmhhkabdieaaDeg
namespace Go.Proofs.Ytanfmhhkabdieaa
open Go.RowKit

/-- The divisor of the primitive terms: the content with the sign of the last term. -/
def primC (xs : List Int) : Int := if lastOf xs < 0 then -contentF xs else contentF xs
def primU (xs : List Int) (k : Nat) : List Int := (xs.take k).map fun t => t.tdiv (primC xs)
def primL (xs : List Int) : List Int := if contentF xs = 0 then [0] else xs.map fun t => t.tdiv (primC xs)
def primF (xs : List Int) : List Int × Bool := if okW xs then (primL xs, true) else ([], false)
theorem primU_len (xs : List Int) (k : Nat) (h : k ≤ xs.length) : (primU xs k).length = k := by
  simp [primU]; omega
theorem primU_succ (xs : List Int) (k : Nat) (h : k < xs.length) : primU xs (k + 1) = primU xs k ++ [(xs.getD k 0).tdiv (primC xs)] := by
  unfold primU
  rw [take_succ_getD xs k h, List.map_append]
  rfl
theorem primU_all (xs : List Int) : primU xs xs.length = xs.map fun t => t.tdiv (primC xs) := by simp [primU]
theorem contUpto_dvd (xs : List Int) (k j : Nat) (hk : k ≤ xs.length) (hj : j < k) : contUpto xs k ∣ xs.getD j 0 := by
  induction k with
  | zero => omega
  | succ k ih =>
    rw [contUpto_succ xs k (by omega)]
    by_cases e : j = k
    · subst e
      exact Int.gcd_dvd_right _ _
    · exact Int.dvd_trans (Int.gcd_dvd_left _ _) (ih (by omega) (by omega))
theorem content_dvd (xs : List Int) (j : Nat) (hj : j < xs.length) : contentF xs ∣ xs.getD j 0 := by
  rw [← contUpto_all]
  exact contUpto_dvd xs xs.length j (Nat.le_refl _) hj
theorem content_bd {xs : List Int} (h : okW xs = true) : 0 ≤ contentF xs ∧ contentF xs ≤ 1000000 := by
  rw [← contUpto_all]
  exact contUpto_bd xs (okW_bd h) xs.length (Nat.le_refl _)
theorem primC_bd {xs : List Int} (h : okW xs = true) (h0 : contentF xs ≠ 0) : primC xs ≠ 0 ∧ -1000000 ≤ primC xs ∧ primC xs ≤ 1000000 := by
  have := content_bd h
  unfold primC
  split <;> omega
theorem tdiv_bd (t c : Int) (_hc : c ≠ 0) (B : Nat) (h : -(B : Int) ≤ t ∧ t ≤ B) : -(B : Int) ≤ t.tdiv c ∧ t.tdiv c ≤ B := by
  have h1 : (t.tdiv c).natAbs ≤ t.natAbs := by
    rw [Int.natAbs_tdiv]
    exact Nat.div_le_self _ _
  omega
theorem primC_dvd (xs : List Int) (j : Nat) (hj : j < xs.length) : primC xs ∣ xs.getD j 0 := by
  unfold primC
  split
  · exact Int.neg_dvd.2 (content_dvd xs j hj)
  · exact content_dvd xs j hj
theorem tdiv_ne (t c : Int) (h : c ∣ t) (ht : t ≠ 0) : t.tdiv c ≠ 0 := by
  intro e
  have := Int.mul_tdiv_cancel' h
  rw [e, Int.mul_zero] at this
  exact ht this.symm
theorem primL_ok {xs : List Int} (h : okW xs = true) : okW (primL xs) = true ∧ trimL (primL xs) = primL xs ∧ 0 < (primL xs).length ∧ (primL xs).length ≤ 17 := by
  have hl := okW_len h
  unfold primL
  by_cases h0 : contentF xs = 0
  · rw [if_pos h0]
    exact ⟨by decide, rfl, by simp, by simp⟩
  · rw [if_neg h0]
    have hc := primC_bd h h0
    have hlen : (xs.map fun t => t.tdiv (primC xs)).length = xs.length := by simp
    have hget : ∀ j, j < xs.length → (xs.map fun t => t.tdiv (primC xs)).getD j 0 = (xs.getD j 0).tdiv (primC xs) := by
      intro j hj
      rw [getD_eq (by rw [hlen]; exact hj), getD_eq hj]
      simp
    have hlast : xs.length = 1 ∨ (xs.map fun t => t.tdiv (primC xs)).getD (xs.length - 1) 0 ≠ 0 := by
      rcases (okW_true.1 h).1.2.2 with h1 | h1
      · exact .inl h1
      · right
        rw [hget _ (by omega)]
        exact tdiv_ne _ _ (primC_dvd xs _ (by omega)) h1
    refine ⟨?_, ?_, by omega, by omega⟩
    · rw [okW_true]
      refine ⟨⟨by omega, by omega, ?_⟩, allIn_iff.2 fun j hj => ?_⟩
      · unfold lastOf
        rw [hlen]
        exact hlast
      · rw [hlen] at hj
        rw [hget j hj]
        exact inB_true.2 (tdiv_bd _ _ hc.1 1000000 (okW_bd h j))
    · have key : tlen (xs.map fun t => t.tdiv (primC xs)) xs.length = xs.length := by
        by_cases h1 : xs.length = 1
        · rw [h1]; rfl
        · apply tlen_stop _ _ (by omega)
          rcases hlast with e | e
          · omega
          · exact e
      unfold trimL
      rw [hlen, key, ← hlen, List.take_length]
theorem prim_len (xs : List Int) : (primF xs).1.length ≤ 1048576 := by
  unfold primF
  cases h : okW xs
  · simp
  · have := (primL_ok h).2.2
    simp only [if_true]
    omega
theorem prim_give {xs : List Int} (h : okW xs = true) : giveF (primL xs) = (primL xs, true) := by
  unfold giveF checkF
  rw [(primL_ok h).2.1, (primL_ok h).1]
  rfl
theorem prim_len2 {xs : List Int} (h : okW xs = true) : 0 < (primL xs).length ∧ (primL xs).length ≤ 1048576 := by
  have := (primL_ok h).2.2
  omega

theorem drewN_alloc_below (w : World) (q : Nat) (o : Obj) : Below w.heap.size w ((w.drewN q).alloc o) := (drewN_below (Below.refl _ w) q).alloc (Nat.le_refl _) o

set_option maxHeartbeats 2000000 in
theorem primL_ref (A : Option Addr) (n c : Nat) (xs : List Int) (w : World) (h : Rd w w.heap.size A n c xs) (hok : okW xs = true) :
    Calls Try.prog 45 #[.slice A n c] w fun e w' => ∃ A' n' c', e = .returned (.slice A' n' c') ∧ Mine w' w.heap.size A' n' c' (primL xs) ∧ Below w.heap.size w w' := by
  have hlen := Lib.hid h.len
  have hln := okW_len hok
  rw [hlen.out] at hln
  have HBD := Lib.hid (okW_bd hok)
  have hcb := content_bd hok
  have hcon := fun W H => content_ref A n c xs W H (okW_bd hok)
  have HPC := Lib.hid (fun h0 => primC_bd hok h0)
  clear hok
  generalize hce : contentF xs = cc at hcon hcb
  have HCE := Lib.hid hce
  have HC := Lib.hid hcon
  clear hce hcon
  by_cases h0 : cc = 0
  · have he : Hid (primL xs = [0]) := by
      show primL xs = [0]
      unfold primL
      rw [if_pos (by rw [HCE.out]; exact h0)]
    subst h0
    go_enter Try.func45, Try.ntmps45
    go_wp2_with fail
    refine (HC.out _ h).mono ?_
    rintro e w1 ⟨rfl, q, rfl⟩
    go_wp2_with fail
    go_ret
    refine ⟨_, 1, 1, rfl, ?_, drewN_alloc_below w q _⟩
    rw [he.out]
    exact (Own.mine (own_lit (w.drewN q) [0] 1 rfl (by simp [maxLen]))).low (Nat.le_refl _)
  · have hz : (cc == 0) = false := by simpa using h0
    have he : Hid (primL xs = primU xs n) := by
      show primL xs = primU xs n
      unfold primL
      rw [if_neg (by rw [HCE.out]; exact h0), ← hlen.out, primU_all]
    have hpc := HPC.out (by rw [HCE.out]; exact h0)
    obtain ⟨b, o, rfl, hbl, hc⟩ := h.at_ (by omega)
    have hl := last_cellW h (by omega)
    have hd : Hid (primC xs = if lastOf xs < 0 then -cc else cc) := by
      show primC xs = _
      unfold primC
      rw [HCE.out]
    generalize lastOf xs = z at hl hd
    generalize hpv : primC xs = pc at hpc hd
    have HP := Lib.hid hpv
    clear hc h0 hpv
    obtain ⟨hpn, hpb1, hpb2⟩ := hpc
    have hpz : (pc == 0) = false := by simpa using hpn
    have HH := Lib.hid h
    by_cases hneg : z < 0
    all_goals
      have hd2 : pc = _ := hd.out
      first | rw [if_pos hneg] at hd2 | rw [if_neg hneg] at hd2
      have HD := Lib.hid hd2
      clear hd hd2
      go_enter Try.func45, Try.ntmps45
      go_wp2_with fail
      refine (HC.out _ h).mono ?_
      rintro e w1 ⟨rfl, q, rfl⟩
      clear h
      go_wp2_with fail
      try rw [← HD.out]
      go_loopg [4, 23] n (fun g s4 s23 wr => ∃ (k : Nat) (Ao : Option Addr) (co : Nat), k ≤ n ∧ n - k ≤ g ∧ s23 = .int .i64 k ∧ s4 = .slice Ao k co ∧ Own wr w.heap.size Ao k co (primU xs k) ∧ Below w.heap.size w wr)
      case atStart => exact ⟨0, _, _, by omega, by omega, rfl, rfl, own_empty (w.drewN q), drewN_alloc_below w q _⟩
      case round =>
        obtain ⟨k, Ao, co, hk, hg, rfl, rfl, ho, hb⟩ := hrel
        by_cases hlt : k < n
        · have hltz : (k : Int) < (n : Int) := by omega
          obtain ⟨b2, o2, hbo, hbl2, hc2⟩ := HH.out.at_ (by omega)
          obtain ⟨rfl, rfl⟩ : b = b2 ∧ o = o2 := by simpa using hbo
          have hx := (hb.cell (p := ⟨b, o + k, none⟩) hbl).trans (hc2 k (by omega))
          have hyb := HBD.out k
          have hS := primU_succ xs k (by rw [hlen.out]; exact hlt)
          rw [HP.out] at hS
          have HS := Lib.hid hS
          clear hc2 hbo hS
          generalize xs.getD k 0 = y at hx hyb HS
          have hqb := tdiv_bd y pc hpn 1000000 (by omega)
          have hq1 : -1000000 ≤ y.tdiv pc := by omega
          have hq2 : y.tdiv pc ≤ 1000000 := by omega
          clear hqb
          have hbs := hb.size
          go_wp2_with (at_builtin; go_must (refine wpList_append_rd rfl _ _ rfl w.heap.size _ _ _ _ rfl (ho.alloc _) _ _ _ _ _ rfl (rd_lit wr [y.tdiv pc] 2 1 rfl (by simp [maxLen])) (by omega) (by simp; omega) ?_); intro A2 c2 w2 ho2 hg2; have HB := Lib.hid (bgrown (hb.alloc hb.size _) (ho.alloc _) (Nat.le_refl _) hg2); have HO := Lib.hid ho2; clear ho2 hg2 ho hb)
          go_roundg (n - (k + 1))
          case measure => omega
          case rel =>
            have h1 := HO.out
            exact ⟨k + 1, A2, c2, by omega, by omega, by go_num, rfl, by rw [HS.out]; exact h1, HB.out⟩
        · have hltz : ¬ (k : Int) < (n : Int) := by omega
          have hkn : k = n := by omega
          subst hkn
          have u := Lib.hid (Own.mine ho)
          have HB := Lib.hid hb
          clear ho hb
          go_wp2_with fail
          go_ret
          exact ⟨Ao, k, co, rfl, by rw [he.out]; exact u.out, HB.out⟩

set_option maxHeartbeats 1000000 in
theorem prim_ref (A : Option Addr) (n c : Nat) (xs : List Int) (w : World) (h : Rd w w.heap.size A n c xs) (_hn : n ≤ 1048576) :
    Calls Try.prog 22 #[.agg #[.slice A n c]] w fun e w' => ∃ A' n' c', e = .returned (.tuple #[.agg #[.slice A' n' c'], .bool (primF xs).2]) ∧ Mine w' w.heap.size A' n' c' (primF xs).1 ∧ Below w.heap.size w w' := by
  have hcon := fun b W H hb => isWhole_ref A n c xs b W H hb
  cases hok : okW xs
  · have he : primF xs = ([], false) := by
      unfold primF
      rw [hok]
      rfl
    rw [he]
    rw [hok] at hcon
    have HC := Lib.hid hcon
    clear hcon he
    go_enter Try.func22, Try.ntmps22
    go_wp2_with fail
    refine (HC.out _ _ (h.in_ (al2 w _ _)) (by simp [go_sem])).mono ?_
    rintro e w1 ⟨rfl, rfl⟩
    go_wp2_with fail
    refine bodyPost_ret (v := .tuple #[.agg #[.slice none 0 0], .bool false]) (by simp [results, Try.results22, go_sem]) rfl ⟨none, 0, 0, rfl, Mine.none_ _ _, ?_⟩
    exact (al1 w _).alloc (by simp) _
  · have he : primF xs = giveF (primL xs) := by
      unfold primF
      rw [hok]
      exact (prim_give hok).symm
    rw [hok] at hcon
    rw [he]
    have HC := Lib.hid hcon
    have HOK := Lib.hid hok
    clear hcon he hok
    go_enter Try.func22, Try.ntmps22
    go_wp2_with fail
    refine (HC.out _ _ (h.in_ (al2 w _ _)) (by simp [go_sem])).mono ?_
    rintro e w1 ⟨rfl, rfl⟩
    go_wp2_with fail
    refine (primL_ref A n c xs _ (h.in_ (al2 w _ _)) HOK.out).mono ?_
    rintro e w2 ⟨A2, n2, c2, rfl, u2, b2⟩
    have B2 := bthen (al2 w _ _) b2
    have br2 : Blk w2 (w.heap.size + 1) 26 #[.slice none 0 0] := Blk.kept (Blk.new_at (w.alloc _) _ _ (by simp)) b2
    have hl2 : 0 < n2 ∧ n2 ≤ 1048576 := by
      rw [← u2.len]
      exact prim_len2 HOK.out
    clear b2 h HC
    go_wp2_with fail
    refine (give_ref A2 n2 c2 (primL xs) _ u2.rd hl2.2 hl2.1).mono ?_
    rintro e w3 ⟨A3, n3, c3, rfl, u3o, b3⟩
    have br3 := Blk.kept br2 b3
    have u3 := Mine.low u3o (base' := w.heap.size) B2.size
    have AR := Lib.hid (Blk.apart br3 u3 (by decide))
    have U3 := Lib.hid u3
    have B3 := Lib.hid (bthen B2 b3)
    have cr := br3.cell0
    have fr := br3.frozen0
    clear b3 u3 u3o u2 br2 br3 B2
    go_wp2_with fail
    refine bodyPost_ret (v := .tuple #[.agg #[.slice A3 n3 c3], .bool (giveF (primL xs)).2]) (by simp [results, Try.results22, go_sem, cr]) rfl ⟨A3, n3, c3, rfl, ?_, ?_⟩
    · exact mine_set U3.out AR.out _
    · exact B3.out.setCell (by simp) _

set_option maxHeartbeats 2000000 in
theorem prim_own_core (A : Option Addr) (n c : Nat) (xs : List Int) (w : World) (h : Rd w w.heap.size A n c xs) (hok : okW xs = true) :
    Calls Try.prog 46 #[.agg #[.slice A n c]] w fun e w' => ∃ A' n' c', e = .returned (.agg #[.slice A' n' c']) ∧ Mine w' w.heap.size A' n' c' (primL xs) ∧ Below w.heap.size w w' := by
  have hlen := Lib.hid h.len
  have hln := okW_len hok
  rw [hlen.out] at hln
  have HBD := Lib.hid (okW_bd hok)
  have hcb := content_bd hok
  have hcon := fun W H => content_own A n c xs W H (okW_bd hok)
  have HPC := Lib.hid (fun h0 => primC_bd hok h0)
  clear hok
  generalize hce : contentF xs = cc at hcon hcb
  have HCE := Lib.hid hce
  have HC := Lib.hid hcon
  clear hce hcon
  by_cases h0 : cc = 0
  · have he : Hid (primL xs = [0]) := by
      show primL xs = [0]
      unfold primL
      rw [if_pos (by rw [HCE.out]; exact h0)]
    subst h0
    go_enter Try.func46, Try.ntmps46
    go_wp2_with fail
    refine (HC.out _ (h.in_ (al2 w _ _))).mono ?_
    rintro e w1 ⟨rfl, q, hw1⟩
    have B1 := bthen (al2 w _ _) (below_of_drewN hw1)
    have br1 : Blk w1 (w.heap.size + 1) 26 #[.slice none 0 0] := Blk.kept (Blk.new_at (w.alloc _) _ _ (by simp)) (below_of_drewN hw1)
    have u1 := Own.mine (own_lit w1 [0] 1 rfl (by simp [maxLen]))
    have br2 := Blk.alloc br1 (.cells (iv [0]).toArray 2)
    have cr : (w1.alloc (.cells #[.int .i64 0] 2)).cell? ⟨w.heap.size + 1, 0, none⟩ = some (.slice none 0 0) := br2.cell0
    have fr : (w1.alloc (.cells #[.int .i64 0] 2)).frozen? ⟨w.heap.size + 1, 0, none⟩ = false := br2.frozen0
    have AR := Lib.hid (Blk.apart br2 u1 (by decide))
    have U1 := Lib.hid (Mine.low u1 (base' := w.heap.size) B1.size)
    have B2 := Lib.hid (B1.alloc B1.size (.cells (iv [0]).toArray 2))
    have hlt1 := br1.lt
    have c1 := br1.cell0
    clear hw1 B1 br1 br2 u1 h
    go_wp2_with fail
    refine bodyPost_ret (v := .agg #[.slice (some ⟨w1.heap.size, 0, none⟩) 1 1]) (by simp [results, Try.results46, go_sem, c1, hlt1]) rfl ⟨_, 1, 1, rfl, ?_, ?_⟩
    · rw [he.out, ← World.setCell_alloc_past _ _ _ _ hlt1]; exact mine_set U1.out AR.out _
    · rw [← World.setCell_alloc_past _ _ _ _ hlt1]; exact B2.out.setCell (by simp) _
  · have hz : (cc == 0) = false := by simpa using h0
    have he : Hid (primL xs = primU xs n) := by
      show primL xs = primU xs n
      unfold primL
      rw [if_neg (by rw [HCE.out]; exact h0), ← hlen.out, primU_all]
    have hpc := HPC.out (by rw [HCE.out]; exact h0)
    have hd : Hid (primC xs = if lastOf xs < 0 then -cc else cc) := by
      show primC xs = _
      unfold primC
      rw [HCE.out]
    have hlc := fun W H => last_any A n c xs W H (by omega)
    generalize lastOf xs = z at hd hlc
    have HL := Lib.hid hlc
    generalize hpv : primC xs = pc at hpc hd
    have HP := Lib.hid hpv
    clear h0 hpv hlc
    obtain ⟨hpn, hpb1, hpb2⟩ := hpc
    have hpz : (pc == 0) = false := by simpa using hpn
    have HH := Lib.hid h
    by_cases hneg : z < 0
    all_goals
      have hd2 : pc = _ := hd.out
      first | rw [if_pos hneg] at hd2 | rw [if_neg hneg] at hd2
      have HD := Lib.hid hd2
      clear hd hd2
      go_enter Try.func46, Try.ntmps46
      go_wp2_with fail
      refine (HC.out _ (h.in_ (al2 w _ _))).mono ?_
      rintro e w1 ⟨rfl, q, hw1⟩
      have B1 := bthen (al2 w _ _) (below_of_drewN hw1)
      have bp1 : Blk w1 w.heap.size 26 #[.slice A n c] := Blk.kept (Blk.alloc (Blk.new w _ _) _) (below_of_drewN hw1)
      have br1 : Blk w1 (w.heap.size + 1) 26 #[.slice none 0 0] := Blk.kept (Blk.new_at (w.alloc _) _ _ (by simp)) (below_of_drewN hw1)
      have cp1 := bp1.cell0
      clear hw1
      go_wp2_with fail
      refine (HL.out _ (h.in_ B1)).mono ?_
      rintro e w2 ⟨rfl, b2⟩
      have B2 := bthen B1 b2
      have bp2 := Blk.kept bp1 b2
      have br2 := Blk.kept br1 b2
      have cp2 := bp2.cell0
      have hlt2 := br2.lt
      have hlt3 := bp2.lt
      have B3 := Lib.hid (B2.alloc B2.size (.cells #[] 2))
      have br3 := Lib.hid (Blk.alloc br2 (.cells #[] 2))
      have hbs2 := B2.size
      clear h b2 bp1 br1 cp1 B1 B2 bp2 br2
      go_wp2_with fail
      try rw [← HD.out]
      go_loopg [4, 23] n (fun g s4 s23 wr => ∃ (k : Nat) (Ao : Option Addr) (co : Nat), k ≤ n ∧ n - k ≤ g ∧ s23 = .int .i64 k ∧ s4 = .slice Ao k co ∧ Own wr w2.heap.size Ao k co (primU xs k) ∧ Below w.heap.size w wr ∧ Blk wr (w.heap.size + 1) 26 #[.slice none 0 0] ∧ w2.heap.size ≤ wr.heap.size)
      case atStart => exact ⟨0, _, _, by omega, by omega, rfl, rfl, own_empty w2, B3.out, br3.out, by simp⟩
      case round =>
        obtain ⟨k, Ao, co, hk, hg, rfl, rfl, ho, hb, hbr, hsz⟩ := hrel
        by_cases hlt : k < n
        · have hltz : (k : Int) < (n : Int) := by omega
          obtain ⟨b, o, rfl, hbl2, hc2⟩ := HH.out.at_ (by omega)
          have hx := (hb.cell (p := ⟨b, o + k, none⟩) hbl2).trans (hc2 k (by omega))
          have hyb := HBD.out k
          have hS := primU_succ xs k (by rw [hlen.out]; exact hlt)
          rw [HP.out] at hS
          have HS := Lib.hid hS
          clear hc2 hS
          generalize xs.getD k 0 = y at hx hyb HS
          have hqb := tdiv_bd y pc hpn 1000000 (by omega)
          have hq1 : -1000000 ≤ y.tdiv pc := by omega
          have hq2 : y.tdiv pc ≤ 1000000 := by omega
          clear hqb
          have hbs := hb.size
          have hol := World.ownsRow.lt ho
          go_wp2_with (at_builtin; go_must (refine wpList_append_rd rfl _ _ rfl w2.heap.size _ _ _ _ rfl (ho.alloc _) _ _ _ _ _ rfl (rd_lit wr [y.tdiv pc] 2 1 rfl (by simp [maxLen])) (by omega) (by simp; omega) ?_); intro A2 c2 w2' ho2 hg2; have HB := Lib.hid (bgrown (hb.alloc hb.size _) (ho.alloc _) hbs2 hg2); have HR := Lib.hid (Blk.grown (Blk.alloc hbr _) hg2 (fun e => by have := (hol _ e.symm).1; omega)); have HO := Lib.hid ho2; have hgs := hg2.size; simp at hgs; clear ho2 hg2 ho hb hbr)
          go_roundg (n - (k + 1))
          case measure => omega
          case rel =>
            have h1 := HO.out
            exact ⟨k + 1, A2, c2, by omega, by omega, by go_num, rfl, by rw [HS.out]; exact h1, HB.out, HR.out, by omega⟩
        · have hltz : ¬ (k : Int) < (n : Int) := by omega
          have hkn : k = n := by omega
          subst hkn
          have u := Mine.low (Own.mine ho) (base' := w.heap.size) hbs2
          have AR := Lib.hid (Blk.apart hbr u (by decide))
          have U := Lib.hid u
          have HB := Lib.hid hb
          have cr := hbr.cell0
          have fr := hbr.frozen0
          clear ho hb u hbr
          go_wp2_with fail
          refine bodyPost_ret (v := .agg #[.slice Ao k co]) (by simp [results, Try.results46, go_sem, cr]) rfl ⟨Ao, k, co, rfl, ?_, ?_⟩
          · rw [he.out]; exact mine_set U.out AR.out _
          · exact HB.out.setCell (by simp) _

set_option maxHeartbeats 1000000 in
theorem prim_own (A : Option Addr) (n c : Nat) (xs : List Int) (w : World) (h : Rd w w.heap.size A n c xs) (_hn : n ≤ 1048576) :
    Calls Try.prog 23 #[.agg #[.slice A n c]] w fun e w' => ∃ A' n' c', e = .returned (.tuple #[.agg #[.slice A' n' c'], .bool (primF xs).2]) ∧ Mine w' w.heap.size A' n' c' (primF xs).1 ∧ Below w.heap.size w w' := by
  have hcon := fun W H => validWhole_own A n c xs W H
  cases hok : okW xs
  · have he : primF xs = ([], false) := by
      unfold primF
      rw [hok]
      rfl
    rw [he]
    rw [hok] at hcon
    have HC := Lib.hid hcon
    clear hcon he
    go_enter Try.func23, Try.ntmps23
    go_wp2_with fail
    refine (HC.out _ (h.in_ (al2 w _ _))).mono ?_
    rintro e w1 ⟨rfl, b1⟩
    have B1 := bthen (al2 w _ _) b1
    have br1 : Blk w1 (w.heap.size + 1) 26 #[.slice none 0 0] := Blk.kept (Blk.new_at (w.alloc _) _ _ (by simp)) b1
    have cr := br1.cell0
    have fr := br1.frozen0
    clear b1 br1
    go_wp2_with fail
    refine bodyPost_ret (v := .tuple #[.agg #[.slice none 0 0], .bool false]) (by simp [results, Try.results23, go_sem, cr]) rfl ⟨none, 0, 0, rfl, Mine.none_ _ _, ?_⟩
    exact B1.setCell (by simp) _
  · have he : primF xs = ((primL xs), true) := by
      unfold primF
      rw [hok]
      rfl
    rw [hok] at hcon
    rw [he]
    have HC := Lib.hid hcon
    have HOK := Lib.hid hok
    clear hcon he hok
    go_enter Try.func23, Try.ntmps23
    go_wp2_with fail
    refine (HC.out _ (h.in_ (al2 w _ _))).mono ?_
    rintro e w1 ⟨rfl, b1⟩
    have B1 := bthen (al2 w _ _) b1
    have bp1 : Blk w1 w.heap.size 26 #[.slice A n c] := Blk.kept (Blk.alloc (Blk.new w _ _) _) b1
    have br1 : Blk w1 (w.heap.size + 1) 26 #[.slice none 0 0] := Blk.kept (Blk.new_at (w.alloc _) _ _ (by simp)) b1
    have cp1 := bp1.cell0
    clear b1 HC
    go_wp2_with fail
    refine (prim_own_core A n c xs _ (h.in_ B1) HOK.out).mono ?_
    rintro e w2 ⟨A2, n2, c2, rfl, u2, b2⟩
    have B2 := bthen B1 b2
    have br2 := Blk.kept br1 b2
    clear b2 h bp1 br1 cp1
    have u3 := Mine.low u2 (base' := w.heap.size) B1.size
    have AR := Lib.hid (Blk.apart br2 u3 (by decide))
    have U3 := Lib.hid u3
    have B3 := Lib.hid B2
    have cr := br2.cell0
    have fr := br2.frozen0
    clear u3 u2 br2 B2 B1
    go_wp2_with fail
    refine bodyPost_ret (v := .tuple #[.agg #[.slice A2 n2 c2], .bool true]) (by simp [results, Try.results23, go_sem, cr]) rfl ⟨A2, n2, c2, rfl, ?_, ?_⟩
    · exact mine_set U3.out AR.out _
    · exact B3.out.setCell (by simp) _
end Go.Proofs.Ytanfmhhkabdieaa
