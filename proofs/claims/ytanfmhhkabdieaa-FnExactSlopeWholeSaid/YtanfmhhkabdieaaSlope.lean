/- Contracts of SlopeWhole, the program's and the reference's: 'slopeF'. Condition: at most 1048576 terms. -/
import Derived.Test.YtanfmhhkabdieaaTrim
namespace Go.Proofs.Ytanfmhhkabdieaa
open Go.RowKit

set_option maxHeartbeats 1000000 in
theorem slopeL_ref (A : Option Addr) (n c : Nat) (xs : List Int) (w : World) (h : Rd w w.heap.size A n c xs) (hok : okW xs = true) :
    Calls Try.prog 41 #[.slice A n c] w fun e w' => ∃ A' n' c', e = .returned (.slice A' n' c') ∧ Mine w' w.heap.size A' n' c' (trimL (slopeP xs)) ∧ Below w.heap.size w w' := by
  have hlen := Lib.hid h.len
  have hln := okW_len hok
  rw [hlen.out] at hln
  have HBD := Lib.hid (okW_bd hok)
  clear hok
  go_enter Try.func41, Try.ntmps41
  go_wp2_with fail
  go_loopg [3, 4] n (fun g s3 s4 wr => ∃ (m : Nat) (Ao : Option Addr) (co : Nat), m + 1 ≤ n ∧ n - m ≤ g ∧ s4 = .int .i64 ((m : Int) + 1) ∧ s3 = .slice Ao m co ∧ Own wr w.heap.size Ao m co (slopeU xs m) ∧ Below w.heap.size w wr)
  case atStart => exact ⟨0, _, _, by omega, by omega, by go_num, rfl, own_empty w, al1 w _⟩
  case round =>
    obtain ⟨m, Ao, co, hm, hg, rfl, rfl, ho, hb⟩ := hrel
    by_cases hlt : m + 1 < n
    · have hltz : (m : Int) + 1 < (n : Int) := by omega
      obtain ⟨b, o, rfl, hbl, hc⟩ := h.at_ (by omega)
      have hx := (hb.cell (p := ⟨b, o + (m + 1), none⟩) hbl).trans (hc (m + 1) (by omega))
      have hyb := HBD.out (m + 1)
      have HS : Hid (slopeU xs (m + 1) = slopeU xs m ++ [((m + 1 : Nat) : Int) * xs.getD (m + 1) 0]) := rfl
      have hH := Lib.hid h
      clear hc h
      generalize xs.getD (m + 1) 0 = y at hx hyb HS
      have hpr := mul_bd 17 1000000 (a := (m : Int) + 1) (b := y) (by omega) (by omega) (by omega) (by omega)
      have hp1 : -17000000 ≤ ((m : Int) + 1) * y := by omega
      have hp2 : ((m : Int) + 1) * y ≤ 17000000 := by omega
      clear hpr
      have hbs := hb.size
      go_wp2_with (at_builtin; go_must (refine wpList_append_rd rfl _ _ rfl w.heap.size _ _ _ _ rfl (ho.alloc _) _ _ _ _ _ rfl (rd_lit wr [((m : Int) + 1) * y] 2 1 rfl (by simp [maxLen])) (by omega) (by simp; omega) ?_); intro A2 c2 w2 ho2 hg2; have HB := Lib.hid (bgrown (hb.alloc hb.size _) (ho.alloc _) (Nat.le_refl _) hg2); have HO := Lib.hid ho2; clear ho2 hg2 ho hb)
      go_roundg (n - (m + 1))
      case measure => omega
      case rel =>
        have h1 := HO.out
        exact ⟨m + 1, A2, c2, by omega, by omega, by go_num, rfl, by rw [HS.out]; exact h1, HB.out⟩
    · have hltz : ¬ (m : Int) + 1 < (n : Int) := by omega
      have hmn : m + 1 = n := by omega
      have u := Lib.hid (Own.mine ho)
      have HB := Lib.hid hb
      clear ho hb
      by_cases h0 : m = 0
      · have he : Hid (trimL (slopeP xs) = [0]) := by
          show trimL (slopeP xs) = [0]
          unfold slopeP
          rw [hlen.out, if_pos (by omega)]
          rfl
        subst h0
        go_wp2_with fail
        refine (trim_ref0 Ao co _).mono ?_
        rintro e w2 ⟨A2, n2, c2, rfl, u2, b2⟩
        have HB2 := Lib.hid (bthen HB.out b2)
        have U2 := Lib.hid (Mine.low u2 (base' := w.heap.size) HB.out.size)
        clear u2 b2
        go_wp2_with fail
        go_ret
        exact ⟨A2, n2, c2, rfl, by rw [he.out]; exact U2.out, HB2.out⟩
      · have he : Hid (slopeP xs = slopeU xs m) := by
          show slopeP xs = slopeU xs m
          unfold slopeP
          rw [hlen.out, if_neg (by omega)]
          congr 1
          omega
        have hmpos : 0 < m := by omega
        clear h0
        go_wp2_with fail
        refine (trim_ref Ao m co (slopeU xs m) _ u.out.rd (by omega) hmpos).mono ?_
        rintro e w2 ⟨A2, n2, c2, rfl, u2, b2⟩
        have HB2 := Lib.hid (bthen HB.out b2)
        have U2 := Lib.hid (Mine.low u2 (base' := w.heap.size) HB.out.size)
        clear u2 b2
        go_wp2_with fail
        go_ret
        exact ⟨A2, n2, c2, rfl, by rw [he.out]; exact U2.out, HB2.out⟩

/- more -/
theorem slopeL_len {xs : List Int} (h : okW xs = true) : 0 < (trimL (slopeP xs)).length ∧ (trimL (slopeP xs)).length ≤ 1048576 := by
  have hl := okW_len h
  have h1 : 1 ≤ (slopeP xs).length ∧ (slopeP xs).length ≤ 17 := by
    unfold slopeP
    split
    · simp
    · rw [slopeU_len]; omega
  rw [trimL_len]
  have h2 := tlen_le (slopeP xs) (slopeP xs).length
  have h3 := tlen_pos (slopeP xs) (slopeP xs).length h1.1
  omega

set_option maxHeartbeats 1000000 in
theorem slope_ref (A : Option Addr) (n c : Nat) (xs : List Int) (w : World) (h : Rd w w.heap.size A n c xs) (_hn : n ≤ 1048576) :
    Calls Try.prog 18 #[.agg #[.slice A n c]] w fun e w' => ∃ A' n' c', e = .returned (.tuple #[.agg #[.slice A' n' c'], .bool (slopeF xs).2]) ∧ Mine w' w.heap.size A' n' c' (slopeF xs).1 ∧ Below w.heap.size w w' := by
  have hcon := fun b W H hb => isWhole_ref A n c xs b W H hb
  cases hok : okW xs
  · have he : slopeF xs = ([], false) := by
      unfold slopeF
      rw [hok]
      rfl
    rw [he]
    rw [hok] at hcon
    have HC := Lib.hid hcon
    clear hcon he
    go_enter Try.func18, Try.ntmps18
    go_wp2_with fail
    refine (HC.out _ _ (h.in_ (al2 w _ _)) (by simp [go_sem])).mono ?_
    rintro e w1 ⟨rfl, rfl⟩
    go_wp2_with fail
    refine bodyPost_ret (v := .tuple #[.agg #[.slice none 0 0], .bool false]) (by simp [results, Try.results18, go_sem]) rfl ⟨none, 0, 0, rfl, Mine.none_ _ _, ?_⟩
    exact (al1 w _).alloc (by simp) _
  · have he : slopeF xs = giveF (trimL (slopeP xs)) := by
      unfold slopeF
      rw [hok]
      unfold giveF
      rw [trimL_idem]
      rfl
    rw [hok] at hcon
    rw [he]
    have HC := Lib.hid hcon
    have HOK := Lib.hid hok
    clear hcon he hok
    go_enter Try.func18, Try.ntmps18
    go_wp2_with fail
    refine (HC.out _ _ (h.in_ (al2 w _ _)) (by simp [go_sem])).mono ?_
    rintro e w1 ⟨rfl, rfl⟩
    go_wp2_with fail
    refine (slopeL_ref A n c xs _ (h.in_ (al2 w _ _)) HOK.out).mono ?_
    rintro e w2 ⟨A2, n2, c2, rfl, u2, b2⟩
    have B2 := bthen (al2 w _ _) b2
    have br2 : Blk w2 (w.heap.size + 1) 26 #[.slice none 0 0] := Blk.kept (Blk.new_at (w.alloc _) _ _ (by simp)) b2
    have hl2 : 0 < n2 ∧ n2 ≤ 1048576 := by
      rw [← u2.len]
      exact slopeL_len HOK.out
    clear b2 h HC
    go_wp2_with fail
    refine (give_ref A2 n2 c2 (trimL (slopeP xs)) _ u2.rd hl2.2 hl2.1).mono ?_
    rintro e w3 ⟨A3, n3, c3, rfl, u3o, b3⟩
    have br3 := Blk.kept br2 b3
    have u3 := Mine.low u3o (base' := w.heap.size) B2.size
    have AR := Lib.hid (Blk.apart br3 u3 (by decide))
    have U3 := Lib.hid u3
    have B3 := Lib.hid (bthen B2 b3)
    have cr := br3.cell0
    have fr := br3.frozen0
    clear b3 u3 u3o u2 br2 br3 B2
    go_wp2_with fail
    refine bodyPost_ret (v := .tuple #[.agg #[.slice A3 n3 c3], .bool (giveF (trimL (slopeP xs))).2]) (by simp [results, Try.results18, go_sem, cr]) rfl ⟨A3, n3, c3, rfl, ?_, ?_⟩
    · exact mine_set U3.out AR.out _
    · exact B3.out.setCell (by simp) _

set_option maxHeartbeats 1000000 in
theorem wslope_own (A : Option Addr) (n c : Nat) (xs : List Int) (w : World) (h : Rd w w.heap.size A n c xs) (hok : okW xs = true) :
    Calls Try.prog 42 #[.agg #[.slice A n c]] w fun e w' => ∃ A' n' c', e = .returned (.agg #[.slice A' n' c']) ∧ Mine w' w.heap.size A' n' c' (trimL (slopeP xs)) ∧ Below w.heap.size w w' := by
  have hlen := Lib.hid h.len
  have hln := okW_len hok
  rw [hlen.out] at hln
  have HBD := Lib.hid (okW_bd hok)
  clear hok
  go_enter Try.func42, Try.ntmps42
  go_wp2_with fail
  have br0 : Blk (((w.alloc (.cells #[.slice A n c] 26)).alloc (.cells #[.slice none 0 0] 26)).alloc (.cells #[] 2)) (w.heap.size + 1) 26 #[.slice none 0 0] := Blk.alloc (Blk.new_at (w.alloc _) _ _ (by simp)) _
  go_loopg [3, 10] n (fun g s3 s10 wr => ∃ (k : Nat) (Ao : Option Addr) (co : Nat), k ≤ n ∧ n - k ≤ g ∧ s10 = .int .i64 k ∧ s3 = .slice Ao (k - 1) co ∧ Own wr (w.heap.size + 2) Ao (k - 1) co (slopeU xs (k - 1)) ∧ Below w.heap.size w wr ∧ Blk wr (w.heap.size + 1) 26 #[.slice none 0 0])
  case atStart => exact ⟨0, _, _, by omega, by omega, rfl, rfl, own_empty_at ((w.alloc _).alloc _) (by simp), al3 w _ _ _, br0⟩
  case round =>
    clear br0
    obtain ⟨k, Ao, co, hk, hg, rfl, rfl, ho, hb, hbr⟩ := hrel
    by_cases hlt : k < n
    · have hltz : (k : Int) < (n : Int) := by omega
      obtain ⟨b, o, rfl, hbl, hc⟩ := h.at_ (by omega)
      have hx := (hb.cell (p := ⟨b, o + k, none⟩) hbl).trans (hc k (by omega))
      have hyb := HBD.out k
      by_cases h0 : k = 0
      · subst h0
        have hz : ¬ (0 : Int) < ((0 : Nat) : Int) := by omega
        have HO := Lib.hid ho
        have HB := Lib.hid hb
        have HR := Lib.hid hbr
        have hH := Lib.hid h
        clear ho hb hbr hc h
        generalize xs.getD 0 0 = y at hx hyb
        rw [Nat.add_zero] at hx
        go_wp2_with fail
        go_roundg (n - 1)
        case measure => omega
        case rel => exact ⟨1, _, _, by omega, by omega, by go_num, rfl, HO.out, HB.out, HR.out⟩
      · obtain ⟨m, rfl⟩ : ∃ m, k = m + 1 := ⟨k - 1, by omega⟩
        have HS : Hid (slopeU xs (m + 1) = slopeU xs m ++ [((m + 1 : Nat) : Int) * xs.getD (m + 1) 0]) := rfl
        have hH := Lib.hid h
        clear hc h h0
        generalize xs.getD (m + 1) 0 = y at hx hyb HS
        have hpr := mul_bd 17 1000000 (a := (m : Int) + 1) (b := y) (by omega) (by omega) (by omega) (by omega)
        have hp1 : -17000000 ≤ ((m : Int) + 1) * y := by omega
        have hp2 : ((m : Int) + 1) * y ≤ 17000000 := by omega
        have hpos : (0 : Int) < (m : Int) + 1 := by omega
        clear hpr
        have hbs := hb.size
        have hlt2 := hbr.lt
        have ho' : Own wr (w.heap.size + 2) Ao m co (slopeU xs m) := ho
        clear ho
        go_wp2_with (at_builtin; go_must (refine wpList_append_rd rfl _ _ rfl (w.heap.size + 2) Ao m co (slopeU xs m) rfl (ho'.alloc _) _ _ _ _ _ rfl (rd_lit wr [((m : Int) + 1) * y] 2 1 rfl (by simp [maxLen])) (by omega) (by simp; omega) ?_); intro A2 c2 w2 ho2 hg2; have HB := Lib.hid (bgrown (hb.alloc hb.size _) (ho'.alloc _) (by omega) hg2); have HR := Lib.hid (Blk.grown (Blk.alloc hbr _) hg2 (fun e => by have := (World.ownsRow.lt ho' _ e.symm).1; omega)); have HO := Lib.hid ho2; clear ho2 hg2 ho' hb hbr)
        go_roundg (n - (m + 1 + 1))
        case measure => omega
        case rel =>
          have h1 := HO.out
          exact ⟨m + 1 + 1, A2, c2, by omega, by omega, by go_num, rfl, by show Own _ _ _ (m + 1) _ (slopeU xs (m + 1)); rw [HS.out]; exact h1, HB.out, HR.out⟩
    · have hltz : ¬ (k : Int) < (n : Int) := by omega
      have hkn : k = n := by omega
      subst hkn
      have u := Lib.hid (Own.mine ho)
      have hR := hbr
      have hB := hb
      have hbs := hb.size
      clear ho hb hbr
      by_cases h0 : k = 1
      · have he : Hid (trimL (slopeP xs) = trimL [0]) := by
          show trimL (slopeP xs) = trimL [0]
          unfold slopeP
          rw [hlen.out, if_pos (by omega)]
        subst h0
        have hz : (((1 - 1 : Nat) : Int) == 0) = true := rfl
        go_wp2_with fail
        have ul := Own.mine (own_lit wr [0] 1 rfl (by simp [maxLen]))
        refine (whole_own _ 1 1 [0] wr.heap.size _ ul (by omega) (by omega)).mono ?_
        rintro e w2 ⟨k2, rfl, u2, b2⟩
        have br2 := Blk.kept (Blk.alloc hR _) b2
        have cr := br2.cell0
        have fr := br2.frozen0
        have hlt2 := hR.lt
        have u3 := Mine.low u2 (base' := w.heap.size) (by omega)
        have AR := Lib.hid (Blk.apart br2 u3 (by decide))
        have U3 := Lib.hid u3
        have HB2 := Lib.hid (bthen (hB.alloc hB.size _) b2)
        clear ul u2 u3 b2 br2 hR hB
        go_wp2_with fail
        refine bodyPost_ret (v := .agg #[.slice (some ⟨wr.heap.size, 0, none⟩) k2 k2]) (by simp [results, Try.results42, go_sem, cr]) rfl ⟨_, k2, k2, rfl, ?_, ?_⟩
        · rw [he.out]; exact mine_set U3.out AR.out _
        · exact HB2.out.setCell (by simp) _
      · have he : Hid (slopeP xs = slopeU xs (k - 1)) := by
          show slopeP xs = slopeU xs (k - 1)
          unfold slopeP
          rw [hlen.out, if_neg (by omega)]
        have hz : (((k - 1 : Nat) : Int) == 0) = false := by simp; omega
        have hpos : 0 < k - 1 := by omega
        have hle : k - 1 ≤ 1048576 := by omega
        clear h0
        generalize k - 1 = m at u he hz hpos hle
        go_wp2_with fail
        refine (whole_own Ao m co (slopeU xs m) _ _ u.out hle hpos).mono ?_
        rintro e w2 ⟨k2, rfl, u2, b2⟩
        have br2 := Blk.kept hR b2
        have cr := br2.cell0
        have fr := br2.frozen0
        have u3 := Mine.low u2 (base' := w.heap.size) (by omega)
        have AR := Lib.hid (Blk.apart br2 u3 (by decide))
        have U3 := Lib.hid u3
        have HB2 := Lib.hid (bthen hB b2)
        clear u2 u3 b2 br2 hR hB
        go_wp2_with fail
        refine bodyPost_ret (v := .agg #[.slice Ao k2 k2]) (by simp [results, Try.results42, go_sem, cr]) rfl ⟨_, k2, k2, rfl, ?_, ?_⟩
        · rw [he.out]; exact mine_set U3.out AR.out _
        · exact HB2.out.setCell (by simp) _

set_option maxHeartbeats 1000000 in
theorem slope_own (A : Option Addr) (n c : Nat) (xs : List Int) (w : World) (h : Rd w w.heap.size A n c xs) (_hn : n ≤ 1048576) :
    Calls Try.prog 19 #[.agg #[.slice A n c]] w fun e w' => ∃ A' n' c', e = .returned (.tuple #[.agg #[.slice A' n' c'], .bool (slopeF xs).2]) ∧ Mine w' w.heap.size A' n' c' (slopeF xs).1 ∧ Below w.heap.size w w' := by
  have hcon := fun W H => validWhole_own A n c xs W H
  cases hok : okW xs
  · have he : slopeF xs = ([], false) := by
      unfold slopeF
      rw [hok]
      rfl
    rw [he]
    rw [hok] at hcon
    have HC := Lib.hid hcon
    clear hcon he
    go_enter Try.func19, Try.ntmps19
    go_wp2_with fail
    refine (HC.out _ (h.in_ (al2 w _ _))).mono ?_
    rintro e w1 ⟨rfl, b1⟩
    have B1 := bthen (al2 w _ _) b1
    have br1 : Blk w1 (w.heap.size + 1) 26 #[.slice none 0 0] := Blk.kept (Blk.new_at (w.alloc _) _ _ (by simp)) b1
    have cr := br1.cell0
    have fr := br1.frozen0
    clear b1 br1
    go_wp2_with fail
    refine bodyPost_ret (v := .tuple #[.agg #[.slice none 0 0], .bool false]) (by simp [results, Try.results19, go_sem, cr]) rfl ⟨none, 0, 0, rfl, Mine.none_ _ _, ?_⟩
    exact B1.setCell (by simp) _
  · have he : slopeF xs = (checkF (trimL (slopeP xs))) := by
      unfold slopeF
      rw [hok]
      rfl
    rw [hok] at hcon
    rw [he]
    have HC := Lib.hid hcon
    have HOK := Lib.hid hok
    clear hcon he hok
    go_enter Try.func19, Try.ntmps19
    go_wp2_with fail
    refine (HC.out _ (h.in_ (al2 w _ _))).mono ?_
    rintro e w1 ⟨rfl, b1⟩
    have B1 := bthen (al2 w _ _) b1
    have bp1 : Blk w1 w.heap.size 26 #[.slice A n c] := Blk.kept (Blk.alloc (Blk.new w _ _) _) b1
    have br1 : Blk w1 (w.heap.size + 1) 26 #[.slice none 0 0] := Blk.kept (Blk.new_at (w.alloc _) _ _ (by simp)) b1
    have cp1 := bp1.cell0
    clear b1 HC
    go_wp2_with fail
    refine (wslope_own A n c xs _ (h.in_ B1) HOK.out).mono ?_
    rintro e w2 ⟨A2, n2, c2, rfl, u2, b2⟩
    have B2 := bthen B1 b2
    have br2 := Blk.kept br1 b2
    clear b2 h bp1 br1 cp1
    go_wp2_with fail
    refine (checked_own A2 n2 c2 (trimL (slopeP xs)) _ _ u2).mono ?_
    rintro e w3 ⟨A3, n3, c3, rfl, u3o, b3⟩
    have br3 := Blk.kept br2 b3
    have u3 := Mine.low u3o (base' := w.heap.size) B1.size
    have AR := Lib.hid (Blk.apart br3 u3 (by decide))
    have U3 := Lib.hid u3
    have B3 := Lib.hid (bthen B2 b3)
    have cr := br3.cell0
    have fr := br3.frozen0
    clear b3 u3 u3o u2 br2 br3 B2 B1
    go_wp2_with fail
    refine bodyPost_ret (v := .tuple #[.agg #[.slice A3 n3 c3], .bool (checkF (trimL (slopeP xs))).2]) (by simp [results, Try.results19, go_sem, cr]) rfl ⟨A3, n3, c3, rfl, ?_, ?_⟩
    · exact mine_set U3.out AR.out _
    · exact B3.out.setCell (by simp) _
end Go.Proofs.Ytanfmhhkabdieaa
