/- Contracts of DivPolys. Condition: nothing is left open by the words; the polynomials are valid. -/
import Derived.Test.YtfbekiphlaaieaaNb
import Derived.Test.YtfbekiphlaaieaaMf
import Derived.Deep.RegionHeld3
import Derived.Deep.CutBlock
import Derived.Deep.DeepCutAuto
namespace Go.Proofs.Ytfbekiphlaaieaa
open Go.RowKit

/-- i steps of a subtraction from the place k on. -/
def dvI (R ys : List (Nat × Nat)) (q : Nat × Nat) (k : Nat) : Nat → List (Nat × Nat)
  | 0 => R
  | i + 1 => (dvI R ys q k i).set (k + i) (minusF ((dvI R ys q k i).getD (k + i) (0, 0)) (mulF q (ys.getD i (0, 0))))
/-- The rest behind c steps; qs: the quotient's terms from above, N of them. -/
def dvR (xs ys : List (Nat × Nat)) (qs : Nat → Nat × Nat) (N : Nat) : Nat → List (Nat × Nat)
  | 0 => xs
  | c + 1 => dvI (dvR xs ys qs N c) ys (qs c) (N - 1 - c) ys.length
def dvQ (qs : Nat → Nat × Nat) (N c : Nat) : List (Nat × Nat) := zipW N fun j => if N - c ≤ j then qs (N - 1 - j) else (0, 0)
theorem dvI_len (R ys : List (Nat × Nat)) (q : Nat × Nat) (k i : Nat) : (dvI R ys q k i).length = R.length := by
  induction i with
  | zero => rfl
  | succ i ih => rw [dvI, List.length_set, ih]
theorem dvR_len (xs ys : List (Nat × Nat)) (qs : Nat → Nat × Nat) (N c : Nat) : (dvR xs ys qs N c).length = xs.length := by
  induction c with
  | zero => rfl
  | succ c ih => rw [dvR, dvI_len, ih]
theorem dvQ_zero (qs : Nat → Nat × Nat) (N : Nat) : dvQ qs N 0 = List.replicate N (0, 0) := by
  refine List.ext_getElem (by simp [dvQ, zipW]) fun j h1 h2 => ?_
  have hj : j < N := by simpa using h2
  simp only [dvQ, zipW, List.getElem_map, List.getElem_range, List.getElem_replicate]
  rw [if_neg (by omega)]
theorem dvQ_set (qs : Nat → Nat × Nat) (N c : Nat) (h : c < N) : (dvQ qs N c).set (N - 1 - c) (qs c) = dvQ qs N (c + 1) := by
  refine List.ext_getElem (by simp [dvQ, zipW]) fun j h1 h2 => ?_
  simp only [List.getElem_set, dvQ, zipW, List.getElem_map, List.getElem_range]
  by_cases e : N - 1 - c = j
  · subst e
    rw [if_pos rfl, if_pos (by omega)]
    congr 1
    omega
  · rw [if_neg e]
    by_cases e1 : N - c ≤ j
    · rw [if_pos e1, if_pos (by omega)]
    · rw [if_neg e1, if_neg (by omega)]
theorem dvQ_get (qs : Nat → Nat × Nat) (N c : Nat) (h : c < N) : (dvQ qs N (c + 1)).getD (N - 1 - c) (0, 0) = qs c := by
  unfold dvQ
  rw [zipW_get _ _ _ (by omega), if_pos (by omega)]
  congr 1
  omega
/-- Nothing is left open in it. -/
def DivW (xs ys : List (Nat × Nat)) (qs : Nat → Nat × Nat) (N : Nat) : Prop := ∀ c, c < N →
  QuotW ((dvR xs ys qs N c).getD (N - 1 - c + (ys.length - 1)) (0, 0)) (ys.getD (ys.length - 1) (0, 0)) (qs c) ∧ NumC (qs c) ∧
  ∀ i, i < ys.length → MulW (qs c) (ys.getD i (0, 0)) (mulF (qs c) (ys.getD i (0, 0))) ∧
    MinusW ((dvI (dvR xs ys qs N c) ys (qs c) (N - 1 - c) i).getD (N - 1 - c + i) (0, 0)) (mulF (qs c) (ys.getD i (0, 0))) (minusF ((dvI (dvR xs ys qs N c) ys (qs c) (N - 1 - c) i).getD (N - 1 - c + i) (0, 0)) (mulF (qs c) (ys.getD i (0, 0))))
/-- The rest that DivPolys gives back. -/
def dvE (xs ys : List (Nat × Nat)) (qs : Nat → Nat × Nat) (N : Nat) : List (Nat × Nat) := if ys.length = 1 then [(0, 0)] else (dvR xs ys qs N N).take (ys.length - 1)
theorem CMine.stored2 {w : World} {base g1 g2 n m c c2 : Nat} {xs ys : List (Nat × Nat)} (h1 : CMine w base (some ⟨g1, 0, none⟩) n c xs) (h2 : CMine w base (some ⟨g2, 0, none⟩) m c2 ys) (hn : 0 < n) (hne : g1 ≠ g2) (j : Nat) (x : Nat × Nat) :
    CMine (w.setCell ⟨g1, j, none⟩ (cx x)) base (some ⟨g1, 0, none⟩) n c (xs.set j x) ∧ CMine (w.setCell ⟨g1, j, none⟩ (cx x)) base (some ⟨g2, 0, none⟩) m c2 ys ∧ w.grownBy (w.setCell ⟨g1, j, none⟩ (cx x)) (some g1) := by
  obtain ⟨a1, a2⟩ := CMine.stored h1 hn j x
  refine ⟨a1, h2.kept a2 (fun k hk e => ?_), a2⟩
  obtain ⟨_, a, e1, e2⟩ := own1_some hk
  injection e1 with e1
  injection e with e
  subst e1
  exact hne (e.trans e2.symm)

set_option maxHeartbeats 8000000 in
set_option maxRecDepth 10000 in
theorem divPolys_any (A : Option Addr) (n c : Nat) (xs : List (Nat × Nat)) (A1 : Option Addr) (m c1 : Nat) (ys : List (Nat × Nat)) (qs : Nat → Nat × Nat) (N : Nat) (w : World) (h : CRd w w.heap.size A n c xs) (h1 : CRd w w.heap.size A1 m c1 ys) (hv : Valid xs) (hv1 : Valid ys) (hz : m = 1 → isZ (ys.getD 0 (0, 0)) = false) (hN : n + 1 = N + m) (hN1 : 1 ≤ N)
    (hW : DivW xs ys qs N) (hv2 : Valid (trimC (dvQ qs N N))) (hv3 : Valid (trimC (dvE xs ys qs N))) :
    Calls Try.prog 28 #[.agg #[.slice A n c], .agg #[.slice A1 m c1]] w fun e w' => ∃ A' n' c' A2 n2 c2, e = .returned (.tuple #[.agg #[.slice A' n' c'], .agg #[.slice A2 n2 c2], .bool true]) ∧ CRd w' w'.heap.size A' n' c' (trimC (dvQ qs N N)) ∧ CRd w' w'.heap.size A2 n2 c2 (trimC (dvE xs ys qs N)) ∧ Below w.heap.size w w' := by
  have hn : 1 ≤ n := by have := hv.one; rwa [h.len] at this
  have hn17 : n ≤ 17 := by have := hv.most; rwa [h.len] at this
  have hm : 1 ≤ m := by have := hv1.one; rwa [h1.len] at this
  have hm17 : m ≤ 17 := by have := hv1.most; rwa [h1.len] at this
  obtain ⟨d, hd⟩ : ∃ d, m - 1 = d := ⟨_, rfl⟩
  have hdi : (m : Int) - 1 = (d : Int) := by omega
  have hnd : ¬ (n : Int) ≤ (d : Int) := by omega
  have hNi : (n : Int) - (d : Int) = (N : Int) := by omega
  have hNi2 : (n : Int) - 1 - (d : Int) = (N : Int) - 1 := by omega
  have hdm : (d : Int) < (m : Int) := by omega
  have hd0 : (0 : Int) ≤ (d : Int) := by omega
  have hmk := run_make_row' (P := Try.prog) 25 34 (.complex .f32 0 0) 8 Try.underlying25 c64_info rfl .i64 .i64 N (by omega) (by omega)
  have hl1 := h1.len
  have HW : Hid (∀ cc, cc < N → QuotW ((dvR xs ys qs N cc).getD (N - 1 - cc + d) (0, 0)) (ys.getD d (0, 0)) (qs cc) ∧ NumC (qs cc) ∧ ∀ i, i < m → MulW (qs cc) (ys.getD i (0, 0)) (mulF (qs cc) (ys.getD i (0, 0))) ∧
    MinusW ((dvI (dvR xs ys qs N cc) ys (qs cc) (N - 1 - cc) i).getD (N - 1 - cc + i) (0, 0)) (mulF (qs cc) (ys.getD i (0, 0))) (minusF ((dvI (dvR xs ys qs N cc) ys (qs cc) (N - 1 - cc) i).getD (N - 1 - cc + i) (0, 0)) (mulF (qs cc) (ys.getD i (0, 0))))) := by
    unfold DivW at hW
    rw [hl1, hd] at hW
    exact hW
  have HR := Lib.hid h
  have HS := Lib.hid h1
  have HV := Lib.hid hv
  have HV1 := Lib.hid hv1
  have HV2 := Lib.hid hv2
  have HV3 := Lib.hid hv3
  have HZ := Lib.hid (fun W H => isZero_no A1 m c1 ys W H hz)
  have HD := Lib.hid hd
  have HL1 := Lib.hid hl1
  have HNN := Lib.hid hN
  obtain ⟨b1', o1, rfl, hb1, hc1⟩ := h1.at_ (by omega)
  have HC1 := Lib.hid hc1
  clear h h1 hv hv1 hv2 hv3 hz hW hd hl1 hc1 hN
  go_enter Try.func28, Try.ntmps28
  go_wp2_with fail
  refine (valid_any A n c xs _ (HR.out.in_' (al4 w _ _ _ _)) HV.out).mono ?_
  rintro e w1 ⟨rfl, b1⟩
  have KA1 := Lib.hid (Blk.kept (Blk.alloc (Blk.alloc (Blk.alloc (Blk.new w 28 #[.slice A n c]) _) _) _) b1)
  have KB1 : Hid (Blk w1 (w.heap.size + 1) 28 #[.slice (some ⟨b1', o1, none⟩) m c1]) := Blk.kept (Blk.alloc (Blk.alloc (Blk.new_at (w.alloc _) _ _ (by simp)) _) _) b1
  have KR1 : Hid (Blk w1 (w.heap.size + 1 + 1) 28 #[.slice none 0 0]) := Blk.kept (Blk.alloc (Blk.new_at ((w.alloc _).alloc _) _ _ (by simp)) _) b1
  have KS1 : Hid (Blk w1 (w.heap.size + 1 + 1 + 1) 28 #[.slice none 0 0]) := Blk.kept (Blk.new_at (((w.alloc _).alloc _).alloc _) _ _ (by simp)) b1
  have cb1 := KB1.out.cell0
  have B1 := Lib.hid (bthen (al4 w _ _ _ _) b1)
  clear b1
  go_wp2_with fail
  refine (valid_any _ m c1 ys _ (HS.out.in_' B1.out) HV1.out).mono ?_
  rintro e w2 ⟨rfl, b2⟩
  have KB2 := Lib.hid (Blk.kept KB1.out b2)
  have cb2 := KB2.out.cell0
  have B2 := Lib.hid (bthen B1.out b2)
  have BX2 := Lib.hid b2
  clear b2 cb1
  go_wp2_with fail
  refine (HZ.out _ (HS.out.in_' B2.out)).mono ?_
  rintro e w3 ⟨rfl, b3⟩
  have BX3 := Lib.hid (bthen BX2.out b3)
  have KA3 := Lib.hid (Blk.kept KA1.out BX3.out)
  have KB3 := Lib.hid (Blk.kept KB1.out BX3.out)
  have KR3 := Lib.hid (Blk.kept KR1.out BX3.out)
  have KS3 := Lib.hid (Blk.kept KS1.out BX3.out)
  have B3 := Lib.hid (bthen B2.out b3)
  have ca3 := KA3.out.cell0
  have cb3 := KB3.out.cell0
  clear b3 cb2 KA1 KB1 KR1 KS1 KB2 BX2 BX3 B1 B2 HZ
  go_wp2_with fail
  refine (cloneC_any A n c xs _ (HR.out.in_' B3.out) hn (by omega)).mono ?_
  rintro e w4 ⟨A4, c4, rfl, o4, b4⟩
  have m4 := COwn.mine o4
  obtain ⟨gr, rfl, hgr1, hgr2⟩ := m4.at_ (by omega)
  have M4 := Lib.hid m4
  have B4 := Lib.hid b4
  clear o4 m4 b4 ca3 cb3
  go_wp2_with fail
  have MQ0 := cmine_made w4 N (by unfold maxLen; omega)
  have e0 := dvQ_zero qs N
  rw [← e0] at MQ0
  have BN := al1 w4 (.cells (madeCells #[.complex .f32 0 0] N) 34)
  have MR0 : CMine (w4.alloc (.cells (madeCells #[.complex .f32 0 0] N) 34)) w3.heap.size (some ⟨gr, 0, none⟩) n c4 (dvR xs ys qs N 0) := M4.out.alloc _
  have hgq : w3.heap.size ≤ w4.heap.size := B4.out.size
  have MQ1 := MQ0.low hgq
  have B5 := Lib.hid (bthen B4.out BN)
  have hne : gr ≠ w4.heap.size := by omega
  have MR := Lib.hid MR0
  have MQ := Lib.hid MQ1
  clear e0 MQ0 BN MR0 MQ1 hmk M4
  generalize w4.alloc (.cells (madeCells #[.complex .f32 0 0] N) 34) = w5 at MR MQ B5 ⊢
  generalize w4.heap.size = gq at MQ hne hgq ⊢
  have hnd2 : decide (n ≤ d) = false := by simp; omega
  rw [hnd2]
  clear hnd2
  have HNE := Lib.hid hne
  have MGR := Lib.hid hgr1
  clear hne hgr1 hgr2
  go_loopg [10] N (fun g s10 wr => ∃ cc : Nat, cc ≤ N ∧ N - cc ≤ g ∧ s10 = .int .i64 ((N : Int) - 1 - cc) ∧ CMine wr w3.heap.size (some ⟨gr, 0, none⟩) n c4 (dvR xs ys qs N cc) ∧ CMine wr w3.heap.size (some ⟨gq, 0, none⟩) N N (dvQ qs N cc) ∧ Below w3.heap.size w3 wr)
  case atStart => exact ⟨0, by omega, by omega, by go_num, MR.out, MQ.out, B5.out⟩
  case round =>
    clear MR MQ B5
    obtain ⟨cc, hcc, hg, rfl, hmr, hmq, hB⟩ := hrel
    by_cases hlt : cc < N
    · obtain ⟨k, hk⟩ : ∃ k : Nat, N - 1 - cc = k := ⟨_, rfl⟩
      have hki : (N : Int) - 1 - (cc : Int) = (k : Int) := by omega
      rw [hki]
      have hk0 : (0 : Int) ≤ (k : Int) := by omega
      have hkN : (k : Int) < (N : Int) := by omega
      obtain ⟨kd, hkd⟩ : ∃ kd : Nat, k + d = kd := ⟨_, rfl⟩
      have hkdi : (k : Int) + (d : Int) = (kd : Int) := by omega
      have hkd0 : (0 : Int) ≤ (kd : Int) := by omega
      have hkdn : (kd : Int) < (n : Int) := by have := HNN.out; have := HD.out; omega
      have hw1 : IntKind.i64.wrap (kd : Int) = (kd : Int) := IntWalk.i64_in _ (by omega)
      have hWc := HW.out cc hlt
      rw [hk, hkd] at hWc
      have hck := CMine.cell hmr (show kd < n by omega)
      have hfk := CMine.frozen hmq (by omega) k
      have hcq := CMine.cell hmq (show k < N by omega)
      have hy := ((bthen B3.out hB).cell (p := ⟨b1', o1 + d, none⟩) hb1).trans (HC1.out d (by omega))
      have KBr := Lib.hid (Blk.kept KB3.out hB)
      have hcB := KBr.out.cell0
      obtain ⟨st1, st2, st3⟩ := CMine.stored2 hmq hmr (by omega) (fun e => HNE.out e.symm) k (qs cc)
      have hset := dvQ_set qs N cc hlt
      rw [hk] at hset
      rw [hset] at st1
      have hgqb : w3.heap.size ≤ gq := hgq
      have B6 := hB.grown st3 hB.size (fun k e => by injection e with e; omega)
      have HWi := Lib.hid hWc.2.2
      have HQG := dvQ_get qs N cc hlt
      rw [hk] at HQG
      have HQK := Lib.hid HQG
      have HKK := Lib.hid hk
      have hnext : dvR xs ys qs N (cc + 1) = dvI (dvR xs ys qs N cc) ys (qs cc) k m := by rw [dvR, HL1.out, hk]
      have HNX := Lib.hid hnext
      generalize dvR xs ys qs N cc = R0 at *
      have hQ1 := hWc.1
      generalize hq : qs cc = q at *
      have HMR := Lib.hid st2
      have HMQ := Lib.hid st1
      have HB6 := Lib.hid B6
      generalize R0.getD kd (0, 0) = xa at hck hQ1
      generalize ys.getD d (0, 0) = xb at hy hQ1
      have HQT := Lib.hid (fun W => quot_any xa xb q W hQ1)
      unfold cx at hck hy hcq HMR HMQ HB6
      have hst1 := fun (W : World) (ad : Addr) (mo : Mode) => run_store Try.prog W ad (.complex .f32 q.1 q.2) mo rfl
      have HKD := Lib.hid hkd
      clear st1 st2 st3 hmr hmq hB B6 hWc hQ1 hset hnext HQG hk hkd hq
      go_wp2_with fail
      go_cut [] from 60 to 75 (fun wx => wx = (wr.setCell ⟨gq, k, none⟩ (.complex .f32 q.1 q.2)).drew)
      case first =>
        go_region_with (first
          | (go_at_call 70; refine (HQT.out _).mono ?_; rintro e w' ⟨rfl, rfl⟩))
        all_goals
          go_wp2_with fail
          go_meet
          exact rfl
      have hcw := hcut
      have HMR' := Lib.hid (CMine.drew HMR.out)
      have HMQ' := Lib.hid (CMine.drew HMQ.out)
      have HBW := Lib.hid (Below.drew HB6.out)
      rw [← hcw] at HMR' HMQ' HBW
      clear hcut hcw HMR HMQ HB6 hck hfk hcq hy hcB HQT hst1 hw1
      obtain ⟨w6, rfl⟩ : ∃ w6 : World, w6 = wc := ⟨_, rfl⟩
      have KB6 := Lib.hid (Blk.kept KB3.out HBW.out)
      have cb6 := KB6.out.cell0
      go_wp2_with fail
      clear cb6
      go_loopg [78] m (fun gi s78 wi => ∃ i : Nat, i ≤ m ∧ m - i ≤ gi ∧ s78 = .int .i64 i ∧ CMine wi w3.heap.size (some ⟨gr, 0, none⟩) n c4 (dvI R0 ys q k i) ∧ CMine wi w3.heap.size (some ⟨gq, 0, none⟩) N N (dvQ qs N (cc + 1)) ∧ Below w3.heap.size w3 wi)
      case atStart => exact ⟨0, by omega, by omega, rfl, HMR'.out, HMQ'.out, HBW.out⟩
      case round =>
        clear HMR' HMQ' HBW KB6
        obtain ⟨i, hi, hgi, rfl, hmr, hmq, hB⟩ := hrel
        by_cases hlt2 : i < m
        · have hlt2z : (i : Int) < (m : Int) := by omega
          have hi0 : (0 : Int) ≤ (i : Int) := by omega
          obtain ⟨ki, hkk⟩ : ∃ ki : Nat, k + i = ki := ⟨_, rfl⟩
          have hkki : (k : Int) + (i : Int) = (ki : Int) := by omega
          have hki0 : (0 : Int) ≤ (ki : Int) := by omega
          have hkin : (ki : Int) < (n : Int) := by have := HNN.out; have := HD.out; omega
          have hw1 : IntKind.i64.wrap (ki : Int) = (ki : Int) := IntWalk.i64_in _ (by omega)
          have hWi := HWi.out i hlt2
          rw [hkk] at hWi
          have hck := CMine.cell hmr (show ki < n by omega)
          have hfk := CMine.frozen hmr (by omega) ki
          have hcq := CMine.cell hmq (show k < N by omega)
          rw [HQK.out] at hcq
          have hy := ((bthen B3.out hB).cell (p := ⟨b1', o1 + i, none⟩) hb1).trans (HC1.out i hlt2)
          obtain ⟨st1, st2, st3⟩ := CMine.stored2 hmr hmq (by omega) HNE.out ki (minusF ((dvI R0 ys q k i).getD ki (0, 0)) (mulF q (ys.getD i (0, 0))))
          have hset : (dvI R0 ys q k i).set ki (minusF ((dvI R0 ys q k i).getD ki (0, 0)) (mulF q (ys.getD i (0, 0)))) = dvI R0 ys q k (i + 1) := by rw [dvI, hkk]
          rw [hset] at st1
          have B7 := hB.grown st3 hB.size (fun k e => by injection e with e; have := MGR.out; omega)
          clear hset
          have HM1 := Lib.hid st1
          have HM2 := Lib.hid st2
          have HB7 := Lib.hid B7
          generalize minusF ((dvI R0 ys q k i).getD ki (0, 0)) (mulF q (ys.getD i (0, 0))) = v at hWi HM1 HM2 HB7
          generalize (dvI R0 ys q k i).getD ki (0, 0) = t0 at hWi hck
          generalize mulF q (ys.getD i (0, 0)) = u at hWi
          generalize ys.getD i (0, 0) = xb at hWi hy
          have HMU := Lib.hid (fun W => mul_any q xb u W hWi.1)
          have HMI := Lib.hid (fun W => minus_any t0 u v W hWi.2)
          unfold cx at hck hcq hy HM1 HM2 HB7
          have hst1 := fun (W : World) (ad : Addr) (mo : Mode) => run_store Try.prog W ad (.complex .f32 v.1 v.2) mo rfl
          clear st1 st2 st3 hmr hmq hB B7 hWi hkk
          go_wp2_with fail
          go_region_with (first
            | (go_at_call 50; refine (HMU.out _).mono ?_; rintro e w' ⟨rfl, rfl⟩)
            | (go_at_call 48; refine (HMI.out _).mono ?_; rintro e w' ⟨rfl, rfl⟩))
          all_goals
            go_wp2_with fail
            go_roundg (m - (i + 1))
            case measure => omega
            case rel => exact ⟨i + 1, by omega, by omega, by go_num, CMine.drew HM1.out, CMine.drew HM2.out, Below.drew HB7.out⟩
        · have hlt2z : ¬ (i : Int) < (m : Int) := by omega
          obtain rfl : i = m := by omega
          rw [← HNX.out] at hmr
          have HM1 := Lib.hid hmr
          have HM2 := Lib.hid hmq
          have HB7 := Lib.hid hB
          clear hmr hmq hB
          go_wp2_with fail
          go_roundg (N - (cc + 1))
          case measure => omega
          case rel => exact ⟨cc + 1, by omega, by omega, by go_num, HM1.out, HM2.out, HB7.out⟩
    · obtain rfl : N = cc := by omega
      by_cases h0 : d = 0
      · skip
        have HM1 := Lib.hid (CMine.rd hmr)
        have HM2 := Lib.hid (CMine.rd hmq)
        have HB7 := Lib.hid hB
        have KR7 := Lib.hid (Blk.kept KR3.out hB)
        have KS7 := Lib.hid (Blk.kept KS3.out hB)
        have hS3 := KS3.out.lt
        clear hmr hmq hB KR3 KS3 KA3 KB3 HW HC1
        have hneg : ¬ (0 : Int) ≤ (N : Int) - 1 - (N : Int) := by omega
        generalize (N : Int) - 1 - (N : Int) = zz at hneg ⊢
        have hdz : (d : Int) = 0 := by omega
        have hE : dvE xs ys qs N = [(0, 0)] := by unfold dvE; rw [if_pos (by rw [HL1.out]; have := HD.out; omega)]
        have HE := Lib.hid hE
        have HV4 : Hid (Valid (trimC [((0 : Nat), (0 : Nat))])) := by
          show Valid _
          rw [← hE]; exact HV3.out
        have HD0 := Lib.hid h0
        clear hE h0
        go_wp2_with fail
        have BL := Lib.hid (al1 wr (.cells #[.complex .f32 0 0] 34))
        have RL : Hid (CRd (wr.alloc (.cells #[.complex .f32 0 0] 34)) (wr.alloc (.cells #[.complex .f32 0 0] 34)).heap.size (some ⟨wr.heap.size, 0, none⟩) 1 1 [(0, 0)]) := crd_lit wr [(0, 0)] 34 1 rfl (by simp [maxLen])
        have RQ := Lib.hid (HM2.out.in_' BL.out)
        have BW := Lib.hid (bthen HB7.out BL.out)
        have KR8 := Lib.hid (Blk.kept KR7.out BL.out)
        have KS8 := Lib.hid (Blk.kept KS7.out BL.out)
        clear BL HM1 HM2 HB7 KR7 KS7
        generalize wr.alloc (.cells #[.complex .f32 0 0] 34) = w8 at RL RQ BW KR8 KS8 ⊢
        generalize wr.heap.size = gl at RL ⊢
        refine (polyOf_any (some ⟨gq, 0, none⟩) N N (dvQ qs N N) _ RQ.out hN1 HV2.out).mono ?_
        rintro e w9 ⟨rfl, r9, b9⟩
        have h13 := (bthen BW.out b9).size
        have R9 := Lib.hid (r9.in_' (al1 w9 (.cells #[.slice (some ⟨gq, 0, none⟩) (trimN (dvQ qs N N) N) (trimN (dvQ qs N N) N)] 28)))
        have b10 := bthen b9 (al1 w9 (.cells #[.slice (some ⟨gq, 0, none⟩) (trimN (dvQ qs N N) N) (trimN (dvQ qs N N) N)] 28))
        have RL9 := Lib.hid (RL.out.in_' b10)
        have BW9 := Lib.hid (bthen BW.out b10)
        have KR9 := Lib.hid (Blk.kept KR8.out b10)
        have KS9 := Lib.hid (Blk.kept KS8.out b10)
        have KQ9 := Lib.hid (Blk.new w9 28 #[.slice (some ⟨gq, 0, none⟩) (trimN (dvQ qs N N) N) (trimN (dvQ qs N N) N)])
        clear r9 b9 b10 RQ RL BW KR8 KS8
        generalize trimN (dvQ qs N N) N = tq at R9 KQ9 RL9 BW9 KR9 KS9 ⊢
        go_wp2_with fail
        refine (polyOf_any (some ⟨gl, 0, none⟩) 1 1 [(0, 0)] _ RL9.out (by omega) HV4.out).mono ?_
        rintro e w11 ⟨rfl, r11, b11⟩
        have h15 := (bthen BW9.out b11).size
        have b12 := bthen b11 (al1 w11 (.cells #[.slice (some ⟨gl, 0, none⟩) (trimN [(0, 0)] 1) (trimN [(0, 0)] 1)] 28))
        have R11 := Lib.hid (r11.in_' (al1 w11 (.cells #[.slice (some ⟨gl, 0, none⟩) (trimN [(0, 0)] 1) (trimN [(0, 0)] 1)] 28)))
        have RQ11 := Lib.hid (R9.out.in_' b12)
        have BW11 := Lib.hid (bthen BW9.out b12)
        have KR11 := Lib.hid (Blk.kept KR9.out b12)
        have KS11 := Lib.hid (Blk.kept KS9.out b12)
        have KQ11 := Lib.hid (Blk.kept KQ9.out b12)
        have KP11 := Lib.hid (Blk.new w11 28 #[.slice (some ⟨gl, 0, none⟩) (trimN [(0, 0)] 1) (trimN [(0, 0)] 1)])
        clear r11 b11 b12 RL9 BW9 KR9 KS9 KQ9 R9
        generalize trimN [(0, 0)] 1 = te at R11 RQ11 BW11 KR11 KS11 KQ11 KP11 ⊢
        generalize w9.heap.size = g13 at KQ11 h13 ⊢
        have c13 := KQ11.out.cell0
        have c4' := KR11.out.cell0
        go_wp2_with fail
        have c15 := KP11.out.cell0
        have f4 := KR11.out.frozen0
        have f5 := KS11.out.frozen0
        have c5' := KS11.out.cell0
        generalize w11.heap.size = g15 at KP11 c15 h15 ⊢
        generalize w11.alloc (.cells #[.slice (some ⟨gl, 0, none⟩) te te] 28) = w12 at R11 RQ11 BW11 KR11 KS11 KQ11 KP11 c13 c15 c4' c5' f4 f5 ⊢
        have d1 : ¬ g13 = w.heap.size + 1 + 1 := by omega
        have d2 : ¬ w.heap.size + 1 + 1 = g13 := by omega
        have d3 : ¬ g13 = w.heap.size + 1 + 1 + 1 := by omega
        have d4 : ¬ w.heap.size + 1 + 1 + 1 = g13 := by omega
        have d5 : ¬ g15 = w.heap.size + 1 + 1 := by omega
        have d6 : ¬ w.heap.size + 1 + 1 = g15 := by omega
        have d7 : ¬ g15 = w.heap.size + 1 + 1 + 1 := by omega
        have d8 : ¬ w.heap.size + 1 + 1 + 1 = g15 := by omega
        go_region
        all_goals
          go_wp2_with fail
          have KSx : Blk (w12.setCell ⟨w.heap.size + 1 + 1, 0, none⟩ (.slice (some ⟨gq, 0, none⟩) tq tq)) (w.heap.size + 1 + 1 + 1) 28 #[.slice none 0 0] := (heap_setCell_other w12 ⟨w.heap.size + 1 + 1, 0, none⟩ (w.heap.size + 1 + 1 + 1) _ (by show w.heap.size + 1 + 1 + 1 ≠ w.heap.size + 1 + 1; omega)).trans KS11.out
          have c5x := KSx.cell0
          refine bodyPost_ret (v := .tuple #[.agg #[.slice (some ⟨gq, 0, none⟩) tq tq], .agg #[.slice (some ⟨gl, 0, none⟩) te te], .bool true]) (by simp [results, Try.results28, go_sem, c4', c5']) rfl ⟨_, _, _, _, _, _, rfl, ?_, ?_, ?_⟩
          · have h9 := RQ11.out.set_other c4' (by intro p e; unfold cx at e; cases e) (.slice (some ⟨gq, 0, none⟩) tq tq)
            have h10 := h9.set_other c5x (by intro p e; unfold cx at e; cases e) (.slice (some ⟨gl, 0, none⟩) te te)
            simpa using h10.drew
          · have h9 := R11.out.set_other c4' (by intro p e; unfold cx at e; cases e) (.slice (some ⟨gq, 0, none⟩) tq tq)
            have h10 := h9.set_other c5x (by intro p e; unfold cx at e; cases e) (.slice (some ⟨gl, 0, none⟩) te te)
            rw [HE.out]
            simpa using h10.drew
          · exact Below.drew (Below.setCell (Below.setCell (bthen B3.out BW11.out) (by show w.heap.size ≤ w.heap.size + 1 + 1; omega) _) (by show w.heap.size ≤ w.heap.size + 1 + 1 + 1; omega) _)
      · skip
        have HM1 := Lib.hid (CMine.rd hmr)
        have HM2 := Lib.hid (CMine.rd hmq)
        have HB7 := Lib.hid hB
        have KR7 := Lib.hid (Blk.kept KR3.out hB)
        have KS7 := Lib.hid (Blk.kept KS3.out hB)
        have hS3 := KS3.out.lt
        clear hmr hmq hB KR3 KS3 KA3 KB3 HW HC1
        have hneg : ¬ (0 : Int) ≤ (N : Int) - 1 - (N : Int) := by omega
        generalize (N : Int) - 1 - (N : Int) = zz at hneg ⊢
        have hdz : (d : Int) ≠ 0 := by omega
        have hdz2 : ((d : Int) == 0) = false := by simp; omega
        have hdc : (d : Int) ≤ (c4 : Int) := by have := HM1.out.cap; omega
        have hE : dvE xs ys qs N = (dvR xs ys qs N N).take d := by unfold dvE; rw [if_neg (by rw [HL1.out]; have := HD.out; omega), HL1.out, HD.out]
        have HE := Lib.hid hE
        have HV4 : Hid (Valid (trimC ((dvR xs ys qs N N).take d))) := by
          show Valid _
          rw [← hE]; exact HV3.out
        have RL := Lib.hid (HM1.out.cut (k := d) (by omega) (c' := c4) (by omega) HM1.out.most)
        have RQ := HM2
        have BW := HB7
        have KR8 := KR7
        have KS8 := KS7
        have hdp : 1 ≤ d := by omega
        clear hE HM1 HM2 HB7 KR7 KS7 h0
        generalize (dvR xs ys qs N N).take d = E at HE HV4 RL
        obtain ⟨w8, rfl⟩ : ∃ w8 : World, w8 = wr := ⟨_, rfl⟩
        go_wp2_with fail
        refine (polyOf_any (some ⟨gq, 0, none⟩) N N (dvQ qs N N) _ RQ.out hN1 HV2.out).mono ?_
        rintro e w9 ⟨rfl, r9, b9⟩
        have h13 := (bthen BW.out b9).size
        have R9 := Lib.hid (r9.in_' (al1 w9 (.cells #[.slice (some ⟨gq, 0, none⟩) (trimN (dvQ qs N N) N) (trimN (dvQ qs N N) N)] 28)))
        have b10 := bthen b9 (al1 w9 (.cells #[.slice (some ⟨gq, 0, none⟩) (trimN (dvQ qs N N) N) (trimN (dvQ qs N N) N)] 28))
        have RL9 := Lib.hid (RL.out.in_' b10)
        have BW9 := Lib.hid (bthen BW.out b10)
        have KR9 := Lib.hid (Blk.kept KR8.out b10)
        have KS9 := Lib.hid (Blk.kept KS8.out b10)
        have KQ9 := Lib.hid (Blk.new w9 28 #[.slice (some ⟨gq, 0, none⟩) (trimN (dvQ qs N N) N) (trimN (dvQ qs N N) N)])
        clear r9 b9 b10 RQ RL BW KR8 KS8
        generalize trimN (dvQ qs N N) N = tq at R9 KQ9 RL9 BW9 KR9 KS9 ⊢
        go_wp2_with fail
        refine (polyOf_any (some ⟨gr, 0, none⟩) d c4 E _ RL9.out hdp HV4.out).mono ?_
        rintro e w11 ⟨rfl, r11, b11⟩
        have h15 := (bthen BW9.out b11).size
        have b12 := bthen b11 (al1 w11 (.cells #[.slice (some ⟨gr, 0, none⟩) (trimN E d) (trimN E d)] 28))
        have R11 := Lib.hid (r11.in_' (al1 w11 (.cells #[.slice (some ⟨gr, 0, none⟩) (trimN E d) (trimN E d)] 28)))
        have RQ11 := Lib.hid (R9.out.in_' b12)
        have BW11 := Lib.hid (bthen BW9.out b12)
        have KR11 := Lib.hid (Blk.kept KR9.out b12)
        have KS11 := Lib.hid (Blk.kept KS9.out b12)
        have KQ11 := Lib.hid (Blk.kept KQ9.out b12)
        have KP11 := Lib.hid (Blk.new w11 28 #[.slice (some ⟨gr, 0, none⟩) (trimN E d) (trimN E d)])
        clear r11 b11 b12 RL9 BW9 KR9 KS9 KQ9 R9
        generalize trimN E d = te at R11 RQ11 BW11 KR11 KS11 KQ11 KP11 ⊢
        generalize w9.heap.size = g13 at KQ11 h13 ⊢
        have c13 := KQ11.out.cell0
        have c4' := KR11.out.cell0
        go_wp2_with fail
        have c15 := KP11.out.cell0
        have f4 := KR11.out.frozen0
        have f5 := KS11.out.frozen0
        have c5' := KS11.out.cell0
        generalize w11.heap.size = g15 at KP11 c15 h15 ⊢
        generalize w11.alloc (.cells #[.slice (some ⟨gr, 0, none⟩) te te] 28) = w12 at R11 RQ11 BW11 KR11 KS11 KQ11 KP11 c13 c15 c4' c5' f4 f5 ⊢
        have d1 : ¬ g13 = w.heap.size + 1 + 1 := by omega
        have d2 : ¬ w.heap.size + 1 + 1 = g13 := by omega
        have d3 : ¬ g13 = w.heap.size + 1 + 1 + 1 := by omega
        have d4 : ¬ w.heap.size + 1 + 1 + 1 = g13 := by omega
        have d5 : ¬ g15 = w.heap.size + 1 + 1 := by omega
        have d6 : ¬ w.heap.size + 1 + 1 = g15 := by omega
        have d7 : ¬ g15 = w.heap.size + 1 + 1 + 1 := by omega
        have d8 : ¬ w.heap.size + 1 + 1 + 1 = g15 := by omega
        go_region
        all_goals
          go_wp2_with fail
          have KSx : Blk (w12.setCell ⟨w.heap.size + 1 + 1, 0, none⟩ (.slice (some ⟨gq, 0, none⟩) tq tq)) (w.heap.size + 1 + 1 + 1) 28 #[.slice none 0 0] := (heap_setCell_other w12 ⟨w.heap.size + 1 + 1, 0, none⟩ (w.heap.size + 1 + 1 + 1) _ (by show w.heap.size + 1 + 1 + 1 ≠ w.heap.size + 1 + 1; omega)).trans KS11.out
          have c5x := KSx.cell0
          refine bodyPost_ret (v := .tuple #[.agg #[.slice (some ⟨gq, 0, none⟩) tq tq], .agg #[.slice (some ⟨gr, 0, none⟩) te te], .bool true]) (by simp [results, Try.results28, go_sem, c4', c5']) rfl ⟨_, _, _, _, _, _, rfl, ?_, ?_, ?_⟩
          · have h9 := RQ11.out.set_other c4' (by intro p e; unfold cx at e; cases e) (.slice (some ⟨gq, 0, none⟩) tq tq)
            have h10 := h9.set_other c5x (by intro p e; unfold cx at e; cases e) (.slice (some ⟨gr, 0, none⟩) te te)
            simpa using h10.drew
          · have h9 := R11.out.set_other c4' (by intro p e; unfold cx at e; cases e) (.slice (some ⟨gq, 0, none⟩) tq tq)
            have h10 := h9.set_other c5x (by intro p e; unfold cx at e; cases e) (.slice (some ⟨gr, 0, none⟩) te te)
            rw [HE.out]
            simpa using h10.drew
          · exact Below.drew (Below.setCell (Below.setCell (bthen B3.out BW11.out) (by show w.heap.size ≤ w.heap.size + 1 + 1; omega) _) (by show w.heap.size ≤ w.heap.size + 1 + 1 + 1; omega) _)
end Go.Proofs.Ytfbekiphlaaieaa
