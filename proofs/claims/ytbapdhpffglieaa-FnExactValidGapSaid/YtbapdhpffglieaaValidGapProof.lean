/- FnExactValidGap: whatever the arguments, the program's ValidGap returns what the reference's returns, and the law answers true; no condition. -/
import Derived.Test.YtbapdhpffglieaaValidGapWalk
import Derived.Test.YtbapdhpffglieaaOpen
namespace Go.Proofs.Ytbapdhpffglieaa
open Go.ChangeShapes Go.WideShapes Go.ChangeAt Go.RowKit Go.Joins Go.Deep
set_option linter.unusedVariables false
set_option maxHeartbeats 1000000 in
set_option maxRecDepth 100000 in
theorem liftedValidGap (os : Os) (started : os.Started) (H : Type) (enc : TypeId × Value → H) :
    ReturnsInHanded {} Try.checked os 3 .any (Rows.fnExactValidGapSpec.pre6 enc Try.prog Try.f3 Rows.fnExactValidGapRow.domain false) (Rows.fnExactValidGapSpec.post enc Try.prog Try.f3 false true false false) := by
  refine returnsInHanded_of_change (C := Try.checked) own started (by kernel_rfl) Try.func3
    (ChangeSpec.witness6 (enc := enc) (C := Try.checked) false ⟨#[], #[.agg #[.int .i64 0, .int .i64 0, .int .i64 0]], []⟩ 8 (by kernel_rfl) (by kernel_rfl) (by kernel_rfl) (by kernel_rfl)) ?_
  intro W base args ds gs before hval0 hW hcnd _
  have hval : ∀ (j : Nat) t v, Try.f3.params[j]? = some t → args[j]? = some v → Value.okWide Try.prog W .any base t v := hval0
  have hW' := hW
  obtain ⟨p, q, hA0, hV, rfl, hfz, hnd⟩ := hW
  have hA : DataW.TrodAll enc Try.prog W 0 (fun _ => true) true Try.f3.params.toList args.toList ds p := hA0
  rw [Try.params3] at hA hval
  obtain ⟨v0, vs0, d0, ds0, p0, q0, hargs, rfl, rfl, h0, r0⟩ := trodAll_cons hA
  obtain ⟨rfl, rfl, rfl⟩ := trodAll_nil r0
  obtain rfl : args = #[v0] := by cases args; simp_all
  obtain ⟨rfl, rfl⟩ := trodVars_none hV
  have k0 := h0
  have lt0 : ∀ x ∈ p0, x.block < W.heap.size := by obtain ⟨m, hm⟩ := k0; exact DataW.trod_lt m _ _ _ hm
  obtain ⟨g0, u0, z0, y0a, y0b, y0c, m0, rfl, rfl, rfl, ta0, tb0, tc0⟩ := open_agg3 Try.underlying23 (by kernel_rfl) (by kernel_rfl) (hval 0 23 v0 rfl rfl) h0
  obtain ⟨low0, ea0, rfl, wfa0⟩ := DataW.trod_int Try.underlying2 ta0
  simp at ea0
  subst ea0
  have bda0 := bounds_i64 wfa0
  obtain ⟨high0, eb0, rfl, wfb0⟩ := DataW.trod_int Try.underlying2 tb0
  simp at eb0
  subst eb0
  have bdb0 := bounds_i64 wfb0
  obtain ⟨shift0, ec0, rfl, wfc0⟩ := DataW.trod_int Try.underlying2 tc0
  simp at ec0
  subst ec0
  have bdc0 := bounds_i64 wfc0
  clear hA0 hval0
  refine (walkValidGap low0 high0 shift0 W bda0 bdb0 bdc0).mono fun e W' ⟨he, bel⟩ => ?_
  subst he
  exact ⟨_, rfl, _, _, _, [], _, [], hW', trodAll_mk1 (shut_bool Try.underlying4 _), (trodAll_cons_mk (Below.trod laidOut (by kernel_rfl) (of_decide_eq_true (by kernel_rfl)) k0 bel lt0) trodAll_mk0), rfl, bel.frame _, fun h => by cases h⟩

theorem holdsValidGap : Rows.FnExactValidGapSaid :=
  OpenClaim.holds_of_wide 3 Try.f3 rfl rfl rfl rfl rfl rfl rfl ⟨rfl, rfl, rfl, rfl, rfl⟩ rfl rfl rfl rfl rfl (by kernel_rfl) Try.func3 (by kernel_rfl)
    (of_decide_eq_true (by kernel_rfl)) (by unfold Func.isWrapper; first | (rw [if_pos (by decide +kernel)]; kernel_rfl) | (rw [if_neg (by decide +kernel)]; exact ⟨rfl, rfl⟩))
    (fun os started H enc _ => liftedValidGap os started H enc)
#print axioms holdsValidGap
end Go.Proofs.Ytbapdhpffglieaa
