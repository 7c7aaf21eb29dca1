/- Contracts of MirrorReal, the program's and the reference's: 'mirrorF'. Condition: at most 1048576 terms. -/
import Derived.Test.YtjhcjpjmpcoopaaValidReal
import Derived.Test.YtjhcjpjmpcoopaaAppend
import Derived.Test.YtjhcjpjmpcoopaaMark
import Derived.Deep.RegionHeld3
import Derived.IntWalk
namespace Go.Proofs.Ytjhcjpjmpcoopaa
open Go.RowKit

def flipAt (k : Nat) (x : Int) : Int := if k % 2 = 1 then -x else x
def mirL (xs : List Int) : List Int := xs.mapIdx flipAt
def mirUpto (xs : List Int) (i : Nat) : List Int := xs.mapIdx fun k x => if k < i then flipAt k x else x
def mirrorF (xs : List Int) : List Int × Bool := if okR xs then (mirL xs, true) else ([], false)
theorem mirUpto_len (xs : List Int) (i : Nat) : (mirUpto xs i).length = xs.length := by simp [mirUpto]
theorem mirUpto_get (xs : List Int) (i j : Nat) (h : j < xs.length) : (mirUpto xs i).getD j 0 = if j < i then flipAt j (xs.getD j 0) else xs.getD j 0 := by
  rw [getD_eq (by rw [mirUpto_len]; exact h), getD_eq h]
  simp [mirUpto]
theorem mirUpto_zero (xs : List Int) : mirUpto xs 0 = xs := by
  apply ext_getD (mirUpto_len _ _)
  intro j hj
  rw [mirUpto_len] at hj
  rw [mirUpto_get _ _ _ hj, if_neg (by omega)]
theorem mirUpto_all (xs : List Int) (i : Nat) (h : xs.length ≤ i) : mirUpto xs i = mirL xs := by
  apply ext_getD (by rw [mirUpto_len]; simp [mirL])
  intro j hj
  rw [mirUpto_len] at hj
  rw [mirUpto_get _ _ _ hj, if_pos (by omega), getD_eq hj, getD_eq (xs := mirL xs) (by simpa [mirL] using hj)]
  simp [mirL]
theorem mirUpto_even (xs : List Int) (i : Nat) (h : i % 2 = 0) : mirUpto xs (i + 1) = mirUpto xs i := by
  apply ext_getD (by rw [mirUpto_len, mirUpto_len])
  intro j hj
  rw [mirUpto_len] at hj
  rw [mirUpto_get _ _ _ hj, mirUpto_get _ _ _ hj]
  by_cases h1 : j < i
  · rw [if_pos (by omega), if_pos h1]
  · by_cases h2 : j = i
    · rw [if_pos (by omega), if_neg h1]
      unfold flipAt
      rw [if_neg (by omega)]
    · rw [if_neg (by omega), if_neg h1]
theorem mirUpto_odd (xs : List Int) (i : Nat) (h : i % 2 = 1) : (mirUpto xs i).set i (-(xs.getD i 0)) = mirUpto xs (i + 1) := by
  apply ext_getD (by rw [List.length_set, mirUpto_len, mirUpto_len])
  intro j hj
  rw [List.length_set, mirUpto_len] at hj
  rw [getD_set _ _ _ _ (by rw [mirUpto_len]; exact hj), mirUpto_get _ _ _ hj, mirUpto_get _ _ _ hj]
  by_cases h2 : i = j
  · subst h2
    rw [if_pos rfl, if_pos (by omega)]
    unfold flipAt
    rw [if_pos h]
  · rw [if_neg h2]
    by_cases h1 : j < i
    · rw [if_pos h1, if_pos (by omega)]
    · rw [if_neg h1, if_neg (by omega)]
theorem mirror_len (xs : List Int) : (mirrorF xs).1.length ≤ 1048576 := by
  unfold mirrorF
  cases h : okR xs
  · simp
  · have := okR_len h
    simp [mirL]; omega

set_option maxHeartbeats 400000 in
theorem realOwn_ref (A : Option Addr) (n c : Nat) (xs : List Int) (b : Nat) (w : World) (h : Rd w w.heap.size A n c xs) (hb : w.cell? ⟨b, 0, none⟩ = some (.slice A n c)) (hn : n ≤ 1048576) :
    Calls Try.prog 49 #[.pointer (some ⟨b, 0, none⟩)] w fun e w' => ∃ A' c', e = .returned (.agg #[.slice A' n c']) ∧ Mine w' w.heap.size A' n c' xs ∧ Below w.heap.size w w' := by
  have hlt : b < w.heap.size := World.block_lt_of_cell? _ _ hb
  have kb : ∀ o o', ((w.alloc o).alloc o').cell? ⟨b, 0, none⟩ = some (.slice A n c) := fun o o' => cell_kept (al2 w o o') hb
  go_enter Try.func49, Try.ntmps49
  go_wp2_with (at_builtin; go_must (refine wpList_append_rd rfl _ _ rfl (w.heap.size + 1) _ _ _ _ rfl (own_empty_at (w.alloc _) (by simp)) _ _ _ _ _ rfl (h.in_ (al2 w _ _)) (by omega) (by simp) ?_); intro A' c' w1 ho hg; have HB := Lib.hid (bgrown (al2 w _ _) (own_empty_at (w.alloc _) (by simp)) (by simp) hg); have k1 : Blk w1 w.heap.size 37 #[.slice none 0 0] := Blk.grown (Blk.alloc (Blk.new w _ _) _) hg (by simp [Value.ownBlock]); have c1 := k1.cell0; have f1 := k1.frozen0; have HO := Lib.hid ho; clear ho hg h kb k1)
  have h1 := HO.out
  rw [Nat.zero_add, List.nil_append] at h1
  refine bodyPost_ret (v := .agg #[.slice A' (0 + n) c']) (by simp [results, Try.results49, go_sem, c1]) rfl ⟨A', c', by simp, ?_, ?_⟩
  · exact (Mine.set_ (Own.mine h1) (by simp) _).low (by simp)
  · exact (HB.out).setCell (by simp) _

set_option maxHeartbeats 2000000 in
theorem mirror_ref (A : Option Addr) (n c : Nat) (xs : List Int) (w : World) (h : Rd w w.heap.size A n c xs) (hn : n ≤ 1048576) :
    Calls Try.prog 23 #[.agg #[.slice A n c]] w fun e w' => ∃ A' n' c', e = .returned (.tuple #[.agg #[.slice A' n' c'], .bool (mirrorF xs).2]) ∧ Mine w' w.heap.size A' n' c' (mirrorF xs).1 ∧ Below w.heap.size w w' := by
  have hcon := fun b W H hb => isReal_ref A n c xs b W H hb
  have hlen := Lib.hid h.len
  unfold mirrorF
  cases hok : okR xs
  · rw [hok] at hcon
    have HC := Lib.hid hcon
    clear hcon
    go_enter Try.func23, Try.ntmps23
    go_wp2_with fail
    refine (HC.out _ _ (h.in_ (al2 w _ _)) (by simp [go_sem])).mono ?_
    rintro e w1 ⟨rfl, rfl⟩
    go_wp2_with fail
    refine bodyPost_ret (v := .tuple #[.agg #[.slice none 0 0], .bool false]) (by simp [results, Try.results23, go_sem]) rfl ⟨none, 0, 0, rfl, Mine.none_ _ _, ?_⟩
    exact (al1 w _).alloc (by simp) _
  rw [hok] at hcon
  have HC := Lib.hid hcon
  clear hcon
  have hln := okR_len hok
  rw [hlen.out] at hln
  have HBD := Lib.hid (okR_bd hok)
  clear hok
  go_enter Try.func23, Try.ntmps23
  go_wp2_with fail
  refine (HC.out _ _ (h.in_ (al2 w _ _)) (by simp [go_sem])).mono ?_
  rintro e w1 ⟨rfl, rfl⟩
  go_wp2_with fail
  refine (realOwn_ref A n c xs w.heap.size _ (h.in_ (al2 w _ _)) (by simp [go_sem]) hn).mono ?_
  rintro e w1 ⟨A', c1, rfl, u1, b1⟩
  obtain ⟨g, rfl, hg1, hg2⟩ := u1.at_ (by omega)
  have B1 := bthen (al2 w _ _) b1
  have bp1 : Blk w1 w.heap.size 37 #[.slice A n c] := Blk.kept (Blk.alloc (Blk.new w _ _) _) b1
  have br1 : Blk w1 (w.heap.size + 1) 37 #[.slice none 0 0] := Blk.kept (Blk.new_at (w.alloc _) _ _ (by simp)) b1
  clear b1 HC
  have hgw : w.heap.size ≤ g := by simp at hg1; omega
  go_wp2_with fail
  have B2 := Lib.hid (B1.alloc B1.size (.cells #[.slice (some ⟨g, 0, none⟩) n c1] 37))
  have bp2 : Blk (w1.alloc (.cells #[.slice (some ⟨g, 0, none⟩) n c1] 37)) w.heap.size 37 #[.slice A n c] := Blk.alloc bp1 _
  have br2 : Blk (w1.alloc (.cells #[.slice (some ⟨g, 0, none⟩) n c1] 37)) (w.heap.size + 1) 37 #[.slice none 0 0] := Blk.alloc br1 _
  have bo2 : Blk (w1.alloc (.cells #[.slice (some ⟨g, 0, none⟩) n c1] 37)) w1.heap.size 37 #[.slice (some ⟨g, 0, none⟩) n c1] := Blk.new _ _ _
  have u2 := Mine.alloc u1 (.cells #[.slice (some ⟨g, 0, none⟩) n c1] 37)
  have HU := Lib.hid (Mine.low u2 (base' := w.heap.size) (by simp; omega))
  have ap2 := Blk.apart bp2 u2 (by decide)
  have ar2 := Blk.apart br2 u2 (by decide)
  have ao2 := Blk.apart bo2 u2 (by decide)
  have e1 : own1 (some (⟨g, 0, none⟩ : Addr)) n = some g := by unfold own1; rw [if_neg (by omega)]; rfl
  rw [e1] at ap2 ar2 ao2
  have AP := Lib.hid ap2
  have AR := Lib.hid ar2
  have AO := Lib.hid ao2
  have BP := Lib.hid bp2
  have BR := Lib.hid br2
  have BO := Lib.hid bo2
  clear bp1 br1 B1 u1 u2 ap2 ar2 ao2 bp2 br2 bo2 e1 hg1
  have hH := Lib.hid h
  clear h
  generalize hW0 : w1.alloc (.cells #[.slice (some ⟨g, 0, none⟩) n c1] 37) = W0 at B2 HU BP BR BO ⊢
  have HW := Lib.hid hW0
  clear hW0
  go_loopg [5] (n + 2) (fun gg s5 wr => ∃ k : Nat, k ≤ n + 1 ∧ k % 2 = 1 ∧ n + 2 - k ≤ gg ∧ s5 = .int .i64 k ∧ Mine wr w.heap.size (some ⟨g, 0, none⟩) n c1 (mirUpto xs k) ∧ W0.grownBy wr (some g))
  case atStart => exact ⟨1, by omega, rfl, by omega, rfl, by rw [mirUpto_even _ 0 rfl, mirUpto_zero]; exact HU.out, World.grownBy.refl _ _⟩
  case round =>
    obtain ⟨k, hk, hk2, hgk, rfl, ho, hgr⟩ := hrel
    have cp := (Blk.grown BP.out hgr AP.out).cell0
    have br3 := Blk.grown BR.out hgr AR.out
    have cr := br3.cell0
    have fr := br3.frozen0
    have co := (Blk.grown BO.out hgr AO.out).cell0
    have HB := Lib.hid (B2.out.grown hgr B2.out.size (fun k e => by injection e with e; omega))
    have HK2 := Lib.hid hk2
    clear br3 hk2
    by_cases hlt : k < n
    · have hltz : (k : Int) < (n : Int) := by omega
      obtain ⟨b, o, rfl, hbl, hc⟩ := hH.out.at_ (by omega)
      have hx := (HB.out.cell (p := ⟨b, o + k, none⟩) hbl).trans (hc k hlt)
      have hyb := HBD.out k
      have hst := Mine.stored ho (by omega) k (-(xs.getD k 0))
      have hat := Mine.cell ho hlt
      have hfr := Mine.frozen ho (by omega) k
      rw [mirUpto_odd _ _ HK2.out, ← mirUpto_even xs (k + 1) (by have := HK2.out; omega)] at hst
      have HS := Lib.hid hst.1
      have HG := Lib.hid (grown_trans hgr hst.2)
      clear hst hgr hc ho
      generalize xs.getD k 0 = y at hx hyb HS HG
      generalize (mirUpto xs k).getD k 0 = z at hat
      have n1 : ∀ u, (wr.setCell ⟨g, k, none⟩ u).cell? ⟨w1.heap.size, 0, none⟩ = some (.slice (some ⟨g, 0, none⟩) n c1) := fun u =>
        (World.cell?_setCell_other _ _ _ _ (fun e => AO.out (by injection e with e; rw [← e]))).trans co
      have n2 : ∀ u, (wr.setCell ⟨g, k, none⟩ u).cell? ⟨w.heap.size, 0, none⟩ = some (.slice (some ⟨b, o, none⟩) n c) := fun u =>
        (World.cell?_setCell_other _ _ _ _ (fun e => AP.out (by injection e with e; rw [← e]))).trans cp
      have n3 : ∀ u, (wr.setCell ⟨g, k, none⟩ u).cell? ⟨b, o + k, none⟩ = some (.int .i64 y) := fun u =>
        (World.cell?_setCell_other _ _ _ _ (fun e => by injection e with e; omega)).trans hx
      have hw : IntKind.i64.wrap (-y) = -y := IntWalk.i64_in _ (by omega)
      go_wp2_with fail
      go_region_held3 (fun wx => wx.cell? ⟨w1.heap.size, 0, none⟩ = some (.slice (some ⟨g, 0, none⟩) n c1) ∧ wx.cell? ⟨w.heap.size, 0, none⟩ = some (.slice (some ⟨b, o, none⟩) n c) ∧ wx.cell? ⟨b, o + k, none⟩ = some (.int .i64 y)) (go_keep) (fail)
      clear n1 n2 n3 hw
      go_wp2_with fail
      go_roundg (n + 2 - (k + 2))
      case measure => omega
      case rel => exact ⟨k + 2, by omega, by have := HK2.out; omega, by omega, by go_num, Mine.drew HS.out, grown_drew HG.out⟩
    · have hltz : ¬ (k : Int) < (n : Int) := by omega
      rw [mirUpto_all _ _ (by rw [hlen.out]; omega)] at ho
      have HO := Lib.hid ho
      clear ho hgr
      go_wp2_with fail
      refine bodyPost_ret (v := .tuple #[.agg #[.slice (some ⟨g, 0, none⟩) n c1], .bool true]) (by simp [results, Try.results23, go_sem, cr]) rfl ⟨_, _, _, rfl, ?_, ?_⟩
      · exact Mine.kept (row := some (w.heap.size + 1)) HO.out ⟨rfl, rfl, rfl, by simp, fun k _ hk => heap_setCell_other _ ⟨w.heap.size + 1, 0, none⟩ k _ (fun e => hk (by simp [e]))⟩ (fun k hk e => by
          have e1 : own1 (some (⟨g, 0, none⟩ : Addr)) n = some g := by unfold own1; rw [if_neg (by omega)]; rfl
          rw [e1] at hk
          exact AR.out (e.trans hk.symm))
      · exact HB.out.setCell (by simp) _

set_option maxHeartbeats 2000000 in
theorem mirror_own (A : Option Addr) (n c : Nat) (xs : List Int) (w : World) (h : Rd w w.heap.size A n c xs) (hn : n ≤ 1048576) :
    Calls Try.prog 24 #[.agg #[.slice A n c]] w fun e w' => ∃ A' n' c', e = .returned (.tuple #[.agg #[.slice A' n' c'], .bool (mirrorF xs).2]) ∧ Mine w' w.heap.size A' n' c' (mirrorF xs).1 ∧ Below w.heap.size w w' := by
  have hcon := fun W H => validReal_own A n c xs W H
  have hlen := Lib.hid h.len
  unfold mirrorF
  cases hok : okR xs
  · rw [hok] at hcon
    have HC := Lib.hid hcon
    clear hcon
    go_enter Try.func24, Try.ntmps24
    go_wp2_with fail
    refine (HC.out _ (h.in_ (al2 w _ _))).mono ?_
    rintro e w1 ⟨rfl, b1⟩
    have B1 := bthen (al2 w _ _) b1
    have br1 : Blk w1 (w.heap.size + 1) 37 #[.slice none 0 0] := Blk.kept (Blk.new_at (w.alloc _) _ _ (by simp)) b1
    have cr := br1.cell0
    have fr := br1.frozen0
    clear b1 br1
    go_wp2_with fail
    refine bodyPost_ret (v := .tuple #[.agg #[.slice none 0 0], .bool false]) (by simp [results, Try.results24, go_sem, cr]) rfl ⟨none, 0, 0, rfl, Mine.none_ _ _, ?_⟩
    exact B1.setCell (by simp) _
  rw [hok] at hcon
  have HC := Lib.hid hcon
  clear hcon
  have hln := okR_len hok
  rw [hlen.out] at hln
  have HBD := Lib.hid (okR_bd hok)
  clear hok
  go_enter Try.func24, Try.ntmps24
  go_wp2_with fail
  refine (HC.out _ (h.in_ (al2 w _ _))).mono ?_
  rintro e w1 ⟨rfl, b1⟩
  have B1 := bthen (al2 w _ _) b1
  have bp1 : Blk w1 w.heap.size 37 #[.slice A n c] := Blk.kept (Blk.alloc (Blk.new w _ _) _) b1
  have br1 : Blk w1 (w.heap.size + 1) 37 #[.slice none 0 0] := Blk.kept (Blk.new_at (w.alloc _) _ _ (by simp)) b1
  have kp1 := bp1.cell0
  clear b1 HC
  go_wp2_with fail
  refine (clone_any A n c xs _ (h.in_ B1) hn).mono ?_
  rintro e w2 ⟨A', c2, rfl, u2o, b2⟩
  have u2 := Own.mine u2o
  obtain ⟨g, rfl, hg1, hg2⟩ := u2.at_ (by omega)
  have B2 := Lib.hid (bthen B1 b2)
  have br2 := Blk.kept br1 b2
  have hgw : w.heap.size ≤ g := Nat.le_trans B1.size hg1
  have ar2 := Blk.apart br2 u2 (by decide)
  have e1 : own1 (some (⟨g, 0, none⟩ : Addr)) n = some g := by unfold own1; rw [if_neg (by omega)]; rfl
  rw [e1] at ar2
  have AR := Lib.hid ar2
  have BR := Lib.hid br2
  have HU := Lib.hid (Mine.low u2 (base' := w.heap.size) B1.size)
  clear bp1 br1 kp1 B1 u2 u2o ar2 br2 e1 hg1 b2 h
  go_wp2_with fail
  go_loopg [15] n (fun gg s15 wr => ∃ k : Nat, k ≤ n ∧ n - k ≤ gg ∧ s15 = .int .i64 k ∧ Mine wr w.heap.size (some ⟨g, 0, none⟩) n c2 (mirUpto xs k) ∧ w2.grownBy wr (some g))
  case atStart => exact ⟨0, by omega, by omega, rfl, by rw [mirUpto_zero]; exact HU.out, World.grownBy.refl _ _⟩
  case round =>
    obtain ⟨k, hk, hgk, rfl, ho, hgr⟩ := hrel
    have br3 := Blk.grown BR.out hgr AR.out
    have cr := br3.cell0
    have fr := br3.frozen0
    have HB := Lib.hid (B2.out.grown hgr B2.out.size (fun k e => by injection e with e; omega))
    clear br3
    by_cases hlt : k < n
    · have hltz : (k : Int) < (n : Int) := by omega
      by_cases hodd : k % 2 = 1
      · have hmb : ((k : Int) % 2 == 1) = true := by simp; omega
        have hyb := HBD.out k
        have hst := Mine.stored ho (by omega) k (-(xs.getD k 0))
        have hat := Mine.cell ho hlt
        have hfr := Mine.frozen ho (by omega) k
        rw [mirUpto_odd _ _ hodd] at hst
        rw [mirUpto_get _ _ _ (by rw [hlen.out]; exact hlt), if_neg (by omega)] at hat
        have HS := Lib.hid hst.1
        have HG := Lib.hid (grown_trans hgr hst.2)
        clear hst hgr ho hodd
        generalize xs.getD k 0 = y at hat hyb HS HG
        go_wp2_with fail
        go_roundg (n - (k + 1))
        case measure => omega
        case rel => exact ⟨k + 1, by omega, by omega, by go_num, HS.out, HG.out⟩
      · have hmb : ((k : Int) % 2 == 1) = false := by simp; omega
        rw [← mirUpto_even xs k (by omega)] at ho
        have HO := Lib.hid ho
        have HG := Lib.hid hgr
        clear ho hgr hodd
        go_wp2_with fail
        go_roundg (n - (k + 1))
        case measure => omega
        case rel => exact ⟨k + 1, by omega, by omega, by go_num, HO.out, HG.out⟩
    · have hltz : ¬ (k : Int) < (n : Int) := by omega
      rw [mirUpto_all _ _ (by rw [hlen.out]; omega)] at ho
      have HO := Lib.hid ho
      clear ho hgr
      go_wp2_with fail
      refine bodyPost_ret (v := .tuple #[.agg #[.slice (some ⟨g, 0, none⟩) n c2], .bool true]) (by simp [results, Try.results24, go_sem, cr]) rfl ⟨_, _, _, rfl, ?_, ?_⟩
      · exact Mine.kept (row := some (w.heap.size + 1)) HO.out ⟨rfl, rfl, rfl, by simp, fun k _ hk => heap_setCell_other _ ⟨w.heap.size + 1, 0, none⟩ k _ (fun e => hk (by simp [e]))⟩ (fun k hk e => by
          have e1 : own1 (some (⟨g, 0, none⟩ : Addr)) n = some g := by unfold own1; rw [if_neg (by omega)]; rfl
          rw [e1] at hk
          exact AR.out (e.trans hk.symm))
      · exact HB.out.setCell (by simp) _
end Go.Proofs.Ytjhcjpjmpcoopaa
