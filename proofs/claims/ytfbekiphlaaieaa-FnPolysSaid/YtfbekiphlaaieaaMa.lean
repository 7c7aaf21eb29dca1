/- Contracts of shifted, ShiftPoly and SlopesAt. Condition: nothing is left open by the words; the polynomials are valid. -/
import Derived.Test.YtfbekiphlaaieaaCz
import Derived.Test.YtfbekiphlaaieaaGa
import Derived.Deep.RegionWith
namespace Go.Proofs.Ytfbekiphlaaieaa
open Go.RowKit

/-- One step of 'shifted' at the place k. -/
def shStep (by' : Nat × Nat) (L : List (Nat × Nat)) (k : Nat) : List (Nat × Nat) := L.set k (plusF (L.getD k (0, 0)) (mulF by' (L.getD (k + 1) (0, 0))))
/-- c steps of a pass, from above. -/
def shDown (by' : Nat × Nat) (n : Nat) (L : List (Nat × Nat)) : Nat → List (Nat × Nat)
  | 0 => L
  | c + 1 => shStep by' (shDown by' n L c) (n - 2 - c)
/-- i passes. -/
def shPass (by' : Nat × Nat) (n : Nat) (xs : List (Nat × Nat)) : Nat → List (Nat × Nat)
  | 0 => xs
  | i + 1 => shDown by' n (shPass by' n xs i) (n - 1 - i)
/-- Nothing is left open in it. -/
def ShiftW (by' : Nat × Nat) (n : Nat) (xs : List (Nat × Nat)) : Prop :=
  ∀ i c, c + i + 1 < n → MulW by' ((shDown by' n (shPass by' n xs i) c).getD (n - 2 - c + 1) (0, 0)) (mulF by' ((shDown by' n (shPass by' n xs i) c).getD (n - 2 - c + 1) (0, 0))) ∧
    PlusW ((shDown by' n (shPass by' n xs i) c).getD (n - 2 - c) (0, 0)) (mulF by' ((shDown by' n (shPass by' n xs i) c).getD (n - 2 - c + 1) (0, 0))) (plusF ((shDown by' n (shPass by' n xs i) c).getD (n - 2 - c) (0, 0)) (mulF by' ((shDown by' n (shPass by' n xs i) c).getD (n - 2 - c + 1) (0, 0))))

set_option maxHeartbeats 4000000 in
set_option maxRecDepth 10000 in
theorem shifted_any (A : Option Addr) (n c : Nat) (xs : List (Nat × Nat)) (z : Nat × Nat) (w : World) (h : CRd w w.heap.size A n c xs) (hn : 1 ≤ n) (hn' : n ≤ 1000) (hS : ShiftW z n xs) :
    Calls Try.prog 71 #[.slice A n c, .complex .f32 z.1 z.2] w fun e w' => ∃ A' c', e = .returned (.slice A' n c') ∧ CMine w' w.heap.size A' n c' (shPass z n xs n) ∧ Below w.heap.size w w' := by
  have HR := Lib.hid h
  have HS := Lib.hid hS
  clear h hS
  go_enter Try.func71, Try.ntmps71
  go_wp2_with fail
  refine (cloneC_any A n c xs _ HR.out hn (by omega)).mono ?_
  rintro e w1 ⟨A2, c2, rfl, o1, b1⟩
  have m1 := COwn.mine o1
  have hlen := Lib.hid m1.len
  obtain ⟨g, rfl, hg1, hg2⟩ := m1.at_ (by omega)
  have M1 := Lib.hid m1
  have B1 := Lib.hid b1
  have e1 : own1 (some (⟨g, 0, none⟩ : Addr)) n = some g := by unfold own1; rw [if_neg (by omega)]; rfl
  clear o1 m1 b1
  go_wp2_with fail
  go_loopg [12] n (fun gg s12 wr => ∃ i : Nat, i ≤ n ∧ n - i ≤ gg ∧ s12 = .int .i64 i ∧ CMine wr w.heap.size (some ⟨g, 0, none⟩) n c2 (shPass z n xs i) ∧ w1.grownBy wr (some g))
  case atStart => exact ⟨0, by omega, by omega, rfl, M1.out, World.grownBy.refl _ _⟩
  case round =>
    obtain ⟨i, hi, hgi, rfl, hm, hgr⟩ := hrel
    obtain ⟨wo, rfl⟩ : ∃ wo : World, wo = wr := ⟨_, rfl⟩
    have MO := Lib.hid hm
    have GO := Lib.hid hgr
    clear hm hgr
    by_cases hlt : i < n
    · have hltz : (i : Int) < (n : Int) := by omega
      go_wp2_with fail
      go_loopg [7] (n + 1) (fun gk s7 wi => ∃ j : Nat, j + i + 1 ≤ n ∧ n - j ≤ gk ∧ s7 = .int .i64 ((n : Int) - 2 - j) ∧ CMine wi w.heap.size (some ⟨g, 0, none⟩) n c2 (shDown z n (shPass z n xs i) j) ∧ wo.grownBy wi (some g))
      case atStart => exact ⟨0, by omega, by omega, by go_num, MO.out, World.grownBy.refl _ _⟩
      case round =>
        obtain ⟨j, hj, hgj, rfl, hm, hgr⟩ := hrel
        by_cases hlt2 : j + i + 1 < n
        · obtain ⟨k, hk⟩ : ∃ k : Nat, k = n - 2 - j := ⟨_, rfl⟩
          have hki : (n : Int) - 2 - (j : Int) = (k : Int) := by omega
          rw [hki]
          have hge : (i : Int) ≤ (k : Int) := by omega
          have hk0 : (0 : Int) ≤ (k : Int) := by omega
          have hkn : (k : Int) < (n : Int) := by omega
          have hkn1 : (k : Int) + 1 < (n : Int) := by omega
          obtain ⟨k1, hk1⟩ : ∃ k1 : Nat, k1 = k + 1 := ⟨_, rfl⟩
          have hsum : (k : Int) + 1 = (k1 : Int) := by omega
          have hk11 : (k1 : Int) < (n : Int) := by omega
          have hk10 : (0 : Int) ≤ (k1 : Int) := by omega
          have hw1 : IntKind.i64.wrap (k1 : Int) = (k1 : Int) := IntWalk.i64_in _ (by omega)
          have hS1 := HS.out i j hlt2
          rw [← hk] at hS1
          have hst := CMine.stored hm (by omega) k (plusF ((shDown z n (shPass z n xs i) j).getD k (0, 0)) (mulF z ((shDown z n (shPass z n xs i) j).getD (k + 1) (0, 0))))
          have hck := CMine.cell hm (show k < n by omega)
          have hck1 := CMine.cell hm (show k1 < n by omega)
          rw [hk1] at hck1
          have hfk := CMine.frozen hm (by omega) k
          have hnx : Hid (shDown z n (shPass z n xs i) (j + 1) = (shDown z n (shPass z n xs i) j).set k (plusF ((shDown z n (shPass z n xs i) j).getD k (0, 0)) (mulF z ((shDown z n (shPass z n xs i) j).getD (k + 1) (0, 0))))) := by
            show shDown z n (shPass z n xs i) (j + 1) = _
            rw [hk]
            rfl
          have HG := Lib.hid (grown_trans hgr hst.2)
          have HM := Lib.hid hst.1
          have HK := Lib.hid hk
          have HL2 := Lib.hid hlt2
          generalize plusF ((shDown z n (shPass z n xs i) j).getD k (0, 0)) (mulF z ((shDown z n (shPass z n xs i) j).getD (k + 1) (0, 0))) = r at hS1 HG HM hnx
          generalize mulF z ((shDown z n (shPass z n xs i) j).getD (k + 1) (0, 0)) = m at hS1
          generalize hLL : shDown z n (shPass z n xs i) j = LL at hS1 HM hnx hck hck1
          generalize LL.getD k (0, 0) = a at hS1 hck
          generalize LL.getD (k + 1) (0, 0) = b at hS1 hck1
          have HMU := Lib.hid (fun W => mul_any z b m W hS1.1)
          have HPL := Lib.hid (fun W => plus_any a m r W hS1.2)
          unfold cx at hck hck1 HM HG
          have hst1 := fun (W : World) (ad : Addr) (mo : Mode) => run_store Try.prog W ad (.complex .f32 r.1 r.2) mo rfl
          rw [← hk1] at hck1
          clear hst hgr hm hS1 hk hki hlt2 hk1 hkn1
          go_wp2_with fail
          go_region_with (first
            | (go_at_call 50; refine (HMU.out _).mono ?_; rintro e w' ⟨rfl, rfl⟩)
            | (go_at_call 56; refine (HPL.out _).mono ?_; rintro e w' ⟨rfl, rfl⟩))
          all_goals
            go_wp2_with fail
            go_roundg (n - (j + 1))
            case measure => omega
            case rel =>
              have hL2 := HL2.out
              have hK := HK.out
              refine ⟨j + 1, by omega, by omega, ?_, by rw [hnx.out]; exact CMine.drew HM.out, grown_drew HG.out⟩
              congr 1
              omega
        · have hjn : j = n - 1 - i := by omega
          have hneg : ¬ (i : Int) ≤ (n : Int) - 2 - (j : Int) := by omega
          have HM : Hid (CMine wr w.heap.size (some ⟨g, 0, none⟩) n c2 (shPass z n xs (i + 1))) := by
            show CMine _ _ _ _ _ _
            rw [hjn] at hm
            exact hm
          have HG := Lib.hid (grown_trans GO.out hgr)
          clear hm hgr hjn
          generalize (n : Int) - 2 - (j : Int) = jj at hneg ⊢
          go_wp2_with fail
          go_roundg (n - (i + 1))
          case measure => omega
          case rel => exact ⟨i + 1, by omega, by omega, by go_num, HM.out, HG.out⟩
    · have hltz : ¬ (i : Int) < (n : Int) := by omega
      obtain rfl : i = n := by omega
      have HB := Lib.hid (B1.out.grown GO.out B1.out.size (fun k e => by injection e with e; omega))
      go_wp2_with fail
      go_ret
      exact ⟨_, _, rfl, MO.out, HB.out⟩
end Go.Proofs.Ytfbekiphlaaieaa
