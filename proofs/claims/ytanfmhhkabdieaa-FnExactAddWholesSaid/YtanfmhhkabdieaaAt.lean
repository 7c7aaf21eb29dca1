/- Contract of integerAt, and the law of an append of one term in a region that draws its order. No condition. -/
import Derived.Test.YtanfmhhkabdieaaAppend
import Derived.Deep.RegionHeld3
namespace Go.Proofs.Ytanfmhhkabdieaa
open Go.RowKit
set_option maxHeartbeats 400000 in
theorem integerAt_any (A : Option Addr) (n c : Nat) (xs : List Int) (k : Nat) (w : World) (h : Rd w w.heap.size A n c xs) (_hk : k ≤ 1000000) :
    Calls Try.prog 33 #[.slice A n c, .int .i64 k] w fun e w' => e = .returned (.int .i64 (xs.getD k 0)) ∧ w = w' := by
  have hmax : n ≤ 9223372036854775807 := by have h1 := h.cap; have h2 := h.most; unfold maxLen at h2; omega
  have h0 : ¬ (k : Int) < 0 := by omega
  by_cases hk : k < n
  · have hkz : ¬ (n : Int) ≤ (k : Int) := by omega
    obtain ⟨b, o, rfl, hbl, hc⟩ := h.at_ (by omega)
    have hx := hc k hk
    clear hc
    generalize xs.getD k 0 = y at hx
    go_enter Try.func33, Try.ntmps33
    go_wp2_with fail
    go_ret
    exact ⟨rfl, rfl⟩
  · have hkz : (n : Int) ≤ (k : Int) := by omega
    have e : xs.getD k 0 = 0 := by
      simp only [List.getD, List.getElem?_eq_none (show xs.length ≤ k by rw [h.len]; omega)]; rfl
    rw [e]
    clear e
    go_enter Try.func33, Try.ntmps33
    go_wp2_with fail
    go_ret
    exact ⟨rfl, rfl⟩
theorem step_append_rd {w : World} {ops : Array Oper} {o : Oper} {a : Act} {K : Act → World → Prop} {Q : Exit → Act → World → Prop} {E : Prop} (hgd : o.guard = none) (s x : Operand)
    (ho : o.op = .call { callee := .builtin .append, args := #[s, x], argTypes := #[22, 22] })
    (base : Nat) (A0 : Option Addr) (n0 c0 : Nat) (xs : List Int) (hs : a.eval s = .slice A0 n0 c0) (hown : Own w base A0 n0 c0 xs)
    (B : Nat) (A : Option Addr) (m c : Nat) (ys : List Int) (hx : a.eval x = .slice A m c) (hr : Rd w B A m c ys) (h63 : n0 + m ≤ 4194304) (hbase : base ≤ w.heap.size)
    (h : ∀ A' c' w', Own w' base A' (n0 + m) c' (xs ++ ys) → w.grownBy w' (Value.slice A0 n0 c0).ownBlock → K (a.put o.dst (.slice A' (n0 + m) c')) w') :
    if Region.wanted o (yielded ops a.tmps) = true then Oper.wp Try.prog o a w K Q else E := by
  obtain ⟨A', c', w', hrun, h2, h3, _⟩ := run_append_rd w base o.type hown hr h63 hbase
  have hw : Region.wanted o (yielded ops a.tmps) = true := by simp [Region.wanted, hgd]
  rw [if_pos hw]
  unfold Oper.wp execOp
  simp only [ho, resolve, invoke, builtin, Sem.run_bind, Sem.run_pure, Result.andThen_ok, List.map_toArray, List.map_cons, List.map_nil, hs, hx, hrun]
  exact h A' c' w' h2 h3
end Go.Proofs.Ytanfmhhkabdieaa
