/- Contracts of PolyOfReal, the program's and the reference's: 'polyF'. No condition. -/
import Derived.Test.YtlfjnpioamcbhaaValidReal
import Derived.Test.YtlfjnpioamcbhaaCMem
import Derived.Test.YtlfjnpioamcbhaaBox
import Derived.Deep.RegionLaw
namespace Go.Proofs.Ytlfjnpioamcbhaa
open Go.RowKit

def polyF (xs : List Int) : List Int × Bool := if okR xs then (xs, true) else ([], false)
theorem poly_len (xs : List Int) : (polyF xs).1.length ≤ 9 := by
  unfold polyF
  cases h : okR xs
  · simp
  · have := okR_len h
    simp; omega
theorem poly_bd (xs : List Int) (j : Nat) (_ : j < (polyF xs).1.length) : -1000 ≤ (polyF xs).1.getD j 0 ∧ (polyF xs).1.getD j 0 ≤ 1000 := by
  unfold polyF
  cases h : okR xs
  · simp
  · simpa using okR_bd h j
theorem pts_succ (xs : List Int) (k : Nat) (h : k < xs.length) : (xs.take (k + 1)).map pt = (xs.take k).map pt ++ [pt (xs.getD k 0)] := by
  rw [take_succ_getD xs k h, List.map_append]
  rfl
theorem f32_of (x : Int) : ∀ w, (convert 2 58 (.int .i64 x)).run Try.prog w = .ok (.float .f32 (floatOfInt .f32 x)) w := fun w =>
  run_convert_int_float w 2 58 .i64 .f32 x (by rw [Try.underlying2]; rfl) Try.underlying58

set_option maxHeartbeats 2000000 in
theorem polyOf_own (A : Option Addr) (n c : Nat) (xs : List Int) (w : World) (h : Rd w w.heap.size A n c xs) :
    Calls Try.prog 11 #[.agg #[.slice A n c]] w fun e w' => ∃ A' n' c', e = .returned (.tuple #[.agg #[.slice A' n' c'], .bool (polyF xs).2]) ∧ CMine w' w.heap.size A' n' c' ((polyF xs).1.map pt) ∧ Below w.heap.size w w' := by
  have hcon := fun W H => validReal_own A n c xs W H
  have hlen := Lib.hid h.len
  unfold polyF
  cases hok : okR xs
  · rw [hok] at hcon
    have HC := Lib.hid hcon
    clear hcon
    go_enter Try.func11, Try.ntmps11
    go_wp2_with fail
    refine (HC.out _ (h.in_ (al2 w _ _))).mono ?_
    rintro e w1 ⟨rfl, b1⟩
    have B1 := bthen (al2 w _ _) b1
    have br1 : Blk w1 (w.heap.size + 1) 28 #[.slice none 0 0] := Blk.kept (Blk.new_at (w.alloc _) _ _ (by simp)) b1
    have cr := br1.cell0
    have fr := br1.frozen0
    clear b1 br1
    go_wp2_with fail
    refine bodyPost_ret (v := .tuple #[.agg #[.slice none 0 0], .bool false]) (by simp [results, Try.results11, go_sem, cr]) rfl ⟨none, 0, 0, rfl, CMine.none_ _ _, ?_⟩
    exact B1.setCell (by simp) _
  rw [hok] at hcon
  have HC := Lib.hid hcon
  clear hcon
  have hln := okR_len hok
  rw [hlen.out] at hln
  clear hok
  go_enter Try.func11, Try.ntmps11
  go_wp2_with fail
  refine (HC.out _ (h.in_ (al2 w _ _))).mono ?_
  rintro e w1 ⟨rfl, b1⟩
  have B1 := bthen (al2 w _ _) b1
  have bp1 : Blk w1 w.heap.size 31 #[.slice A n c] := Blk.kept (Blk.alloc (Blk.new w _ _) _) b1
  have br1 : Blk w1 (w.heap.size + 1) 28 #[.slice none 0 0] := Blk.kept (Blk.new_at (w.alloc _) _ _ (by simp)) b1
  have kp1 := bp1.cell0
  have hz1 : w.heap.size + 2 ≤ w1.heap.size := by have := b1.size; simp at this; omega
  have kp2 : ∀ t, (w1.alloc (.cells #[] t)).cell? ⟨w.heap.size, 0, none⟩ = some (.slice A n c) := fun t => cell_kept (al1 w1 _) kp1
  clear b1 HC bp1
  go_wp2_with fail
  go_loopg [4, 15] n (fun g s4 s15 wr => ∃ (k : Nat) (Ao : Option Addr) (co : Nat), k ≤ n ∧ n - k ≤ g ∧ s15 = .int .i64 k ∧ s4 = .slice Ao k co ∧ COwn wr w1.heap.size Ao k co ((xs.take k).map pt) ∧ Below w.heap.size w wr ∧ Blk wr (w.heap.size + 1) 28 #[.slice none 0 0] ∧ w1.heap.size ≤ wr.heap.size)
  case atStart => exact ⟨0, _, _, by omega, by omega, rfl, rfl, cown_empty w1, B1.alloc B1.size _, Blk.alloc br1 _, by simp⟩
  case round =>
    clear br1 B1 kp1 kp2
    obtain ⟨k, Ao, co, hk, hg, rfl, rfl, ho, hb, hbr, hzz⟩ := hrel
    by_cases hlt : k < n
    · have hltz : (k : Int) < (n : Int) := by omega
      obtain ⟨b, o, rfl, hbl, hc⟩ := h.at_ (by omega)
      have hx := (hb.cell (p := ⟨b, o + k, none⟩) hbl).trans (hc k hlt)
      have HS := Lib.hid (pts_succ xs k (by rw [hlen.out]; exact hlt))
      have hH := Lib.hid h
      clear hc h
      have hf := f32_of (xs.getD k 0)
      generalize xs.getD k 0 = y at hx hf HS
      go_wp2_with (first
        | simp only [hf]
        | (at_builtin; go_must (refine wpList_append_crd rfl _ _ rfl w1.heap.size Ao k co ((xs.take k).map pt) rfl (ho.alloc _) _ _ _ _ _ rfl (crd_lit wr [pt y] 57 1 rfl (by simp [maxLen])) (by omega) (by simp; omega) ?_); intro A2 c2 w2 ho2 hg2; have HB := Lib.hid (cbgrown (hb.alloc hb.size _) (ho.alloc _) (by omega) hg2); have HZ := Lib.hid (Nat.le_trans (by simp; omega) hg2.size : w1.heap.size ≤ w2.heap.size); have HR := Lib.hid (Blk.grown (Blk.alloc hbr _) hg2 (fun e => by have := (World.ownsRow.lt ho _ e.symm).1; omega)); have HO := Lib.hid ho2; clear ho2 hg2 ho hb hbr))
      go_roundg (n - (k + 1))
      case measure => omega
      case rel =>
        exact ⟨k + 1, A2, c2, by omega, by omega, by go_num, rfl, by rw [HS.out]; exact HO.out, HB.out, HR.out, HZ.out⟩
    · have hltz : ¬ (k : Int) < (n : Int) := by omega
      have hkn : k = n := by omega
      subst hkn
      have e : xs.take k = xs := List.take_of_length_le (by rw [hlen.out]; exact Nat.le_refl _)
      rw [e] at ho
      have hM := COwn.mine ho
      have cr := hbr.cell0
      have fr := hbr.frozen0
      have ar := Lib.hid (Blk.capart hbr hM (by decide))
      have U := Lib.hid (CMine.low hM (base' := w.heap.size) (by omega))
      have HB := Lib.hid hb
      clear e ho hM hb hbr
      go_wp2_with fail
      refine bodyPost_ret (v := .tuple #[.agg #[.slice Ao k co], .bool true]) (by simp [results, Try.results11, go_sem, cr]) rfl ⟨_, _, _, rfl, ?_, ?_⟩
      · exact cmine_set U.out ar.out _
      · exact HB.out.setCell (by simp) _

set_option maxHeartbeats 2000000 in
theorem polyOf_ref (A : Option Addr) (n c : Nat) (xs : List Int) (w : World) (h : Rd w w.heap.size A n c xs) :
    Calls Try.prog 9 #[.agg #[.slice A n c]] w fun e w' => ∃ A' n' c', e = .returned (.tuple #[.agg #[.slice A' n' c'], .bool (polyF xs).2]) ∧ CMine w' w.heap.size A' n' c' ((polyF xs).1.map pt) ∧ Below w.heap.size w w' := by
  have hcon := fun b W H hb => isReal_ref A n c xs b W H hb
  have hlen := Lib.hid h.len
  unfold polyF
  cases hok : okR xs
  · rw [hok] at hcon
    have HC := Lib.hid hcon
    clear hcon
    go_enter Try.func9, Try.ntmps9
    go_wp2_with fail
    refine (HC.out _ _ (h.in_ (al2 w _ _)) (by simp [go_sem])).mono ?_
    rintro e w1 ⟨rfl, rfl⟩
    go_wp2_with fail
    refine bodyPost_ret (v := .tuple #[.agg #[.slice none 0 0], .bool false]) (by simp [results, Try.results9, go_sem]) rfl ⟨none, 0, 0, rfl, CMine.none_ _ _, ?_⟩
    exact al2 w _ _
  rw [hok] at hcon
  have HC := Lib.hid hcon
  clear hcon
  have hln := okR_len hok
  rw [hlen.out] at hln
  clear hok
  go_enter Try.func9, Try.ntmps9
  go_wp2_with fail
  refine (HC.out _ _ (h.in_ (al2 w _ _)) (by simp [go_sem])).mono ?_
  rintro e w1 ⟨rfl, rfl⟩
  go_wp2_with fail
  have hB0 : Below w.heap.size w (((w.alloc (.cells #[.slice A n c] 31)).alloc (.cells #[.slice none 0 0] 28)).alloc (.cells #[.slice none 0 0] 28)) := al3 w _ _ _
  go_loopg [5] n (fun g s5 wr => ∃ (k : Nat) (Ao : Option Addr) (co : Nat), k ≤ n ∧ n - k ≤ g ∧ s5 = .int .i64 k ∧ COwn wr (w.heap.size + 3) Ao k co ((xs.take k).map pt) ∧ Below w.heap.size w wr ∧ Blk wr w.heap.size 31 #[.slice A n c] ∧ Blk wr (w.heap.size + 1) 28 #[.slice none 0 0] ∧ Blk wr (w.heap.size + 1 + 1) 28 #[.slice Ao k co] ∧ w.heap.size + 3 ≤ wr.heap.size)
  case atStart => exact ⟨0, none, 0, by omega, by omega, rfl, World.ownsRow_nil _ _ _ _, hB0, Blk.alloc (Blk.alloc (Blk.new w _ _) _) _, Blk.alloc (Blk.new_at (w.alloc _) _ _ (by simp)) _, Blk.new_at ((w.alloc _).alloc _) _ _ (by simp), by simp⟩
  case round =>
    clear hB0
    obtain ⟨k, Ao, co, hk, hg, rfl, ho, hb, bp, br, bo, hzz⟩ := hrel
    have cp := bp.cell0
    have cr := br.cell0
    have fr := br.frozen0
    have cb := bo.cell0
    by_cases hlt : k < n
    · have hltz : (k : Int) < (n : Int) := by omega
      obtain ⟨b, o, rfl, hbl, hc⟩ := h.at_ (by omega)
      have hx := (hb.cell (p := ⟨b, o + k, none⟩) hbl).trans (hc k hlt)
      have HS := Lib.hid (pts_succ xs k (by rw [hlen.out]; exact hlt))
      have hH := Lib.hid h
      clear hc h
      have hf := f32_of (xs.getD k 0)
      generalize xs.getD k 0 = y at hx hf HS
      have cbA : ∀ t, (wr.alloc t).cell? ⟨w.heap.size + 1 + 1, 0, none⟩ = some (.slice Ao k co) := fun t => (Blk.alloc bo _).cell0
      have HO := Lib.hid ho
      have HB := Lib.hid hb
      have HP := Lib.hid bp
      have HR := Lib.hid br
      have HT := Lib.hid bo
      clear ho hb bp br bo
      go_wp2_with fail
      go_region_law (refine step_append_crd rfl (.tmp 18) (.tmp 26) rfl (w.heap.size + 3) Ao k co ((xs.take k).map pt) rfl (COwn.drew (COwn.alloc HO.out _)) _ _ 1 1 [pt y] rfl (CRd.drew (crd_lit wr [pt y] 57 1 rfl (by simp [maxLen]))) (by omega) (by simp; omega) ?_; intro A2 c2 w9 ho9 hg9; have B9 := Lib.hid (cbgrown (Below.drew (Below.alloc HB.out (Below.size HB.out) _)) (COwn.drew (COwn.alloc HO.out _)) (by omega) hg9); have Z9 := Lib.hid (Nat.le_trans (by simp; omega) hg9.size : w.heap.size + 3 ≤ w9.heap.size); have hne : ∀ g, g < w.heap.size + 3 → some g ≠ (Value.slice Ao k co).ownBlock := (fun g hg e => by have := (World.ownsRow.lt HO.out _ e.symm).1; omega); have R9 := Lib.hid (Blk.grown (Blk.drew (Blk.alloc HR.out _)) hg9 (hne _ (by omega))); have P9 := Lib.hid (Blk.grown (Blk.drew (Blk.alloc HP.out _)) hg9 (hne _ (by omega))); have T9 := Lib.hid (Blk.grown (Blk.drew (Blk.alloc HT.out _)) hg9 (hne _ (by omega))); have ct9 := Blk.cell0 T9.out; have ft9 := Blk.frozen0 T9.out; have O9 := Lib.hid ho9; clear ho9 hg9 hne)
      all_goals
        go_wp2_with fail
        go_roundg (n - (k + 1))
        case measure => omega
        case rel =>
          refine ⟨k + 1, A2, c2, by omega, by omega, by go_num, ?_, ?_, ?_, ?_, ?_, ?_⟩
          · rw [HS.out]; exact COwn.set_ O9.out (by simp) _
          · exact B9.out.setCell (by simp; omega) _
          · exact Blk.set_other P9.out (by omega) _
          · exact Blk.set_other R9.out (by omega) _
          · exact Blk.set0 T9.out _
          · have := Z9.out; simpa using this
    · have hltz : ¬ (k : Int) < (n : Int) := by omega
      have hkn : k = n := by omega
      subst hkn
      have e : xs.take k = xs := List.take_of_length_le (by rw [hlen.out]; exact Nat.le_refl _)
      rw [e] at ho
      have hM := COwn.mine ho
      have ar := Lib.hid (Blk.capart br hM (by decide))
      have U := Lib.hid (CMine.low hM (base' := w.heap.size) (by omega))
      have HB := Lib.hid hb
      clear e ho hM hb bp br bo
      go_wp2_with fail
      refine bodyPost_ret (v := .tuple #[.agg #[.slice Ao k co], .bool true]) (by simp [results, Try.results9, go_sem, cr]) rfl ⟨_, _, _, rfl, ?_, ?_⟩
      · exact cmine_set U.out ar.out _
      · exact HB.out.setCell (by simp) _
end Go.Proofs.Ytlfjnpioamcbhaa
