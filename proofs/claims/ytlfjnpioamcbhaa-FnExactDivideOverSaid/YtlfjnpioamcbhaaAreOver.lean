/- Contracts of the test whether wholes are over a prime, the program's (closures in slices.ContainsFunc) and the reference's, and of the test of 0. No condition. -/
import Derived.Test.YtlfjnpioamcbhaaValidWhole
import Derived.Test.YtlfjnpioamcbhaaPrime
import Derived.Test.YtlfjnpioamcbhaaMark
namespace Go.Proofs.Ytlfjnpioamcbhaa
open Go.RowKit

/-- xs are the terms of a valid whole over the prime p (that p is a prime is asked beside). -/
def overB (xs : List Int) (p : Int) : Bool := okW xs && allIn 0 (p - 1) xs
theorem prime_range {p : Int} (h : primeB p = true) : 2 ≤ p ∧ p ≤ 13 := by
  simp [primeB, primes] at h; omega

theorem over11_tells (bp : Nat) (p : Int) (w : World) (hb : w.cell? ⟨bp, 0, none⟩ = some (.int .i64 p)) (hp : 2 ≤ p ∧ p ≤ 13) :
    Tells 65 #[.pointer (some ⟨bp, 0, none⟩)] (fun t => !inB t 0 (p - 1)) w := by
  intro x q
  show Calls Try.prog 65 #[.int .i64 x, .pointer (some ⟨bp, 0, none⟩)] _ _
  have hq : (w.drewN q).cell? ⟨bp, 0, none⟩ = some (.int .i64 p) := hb
  clear hb
  go_enter Try.func65, Try.ntmps65
  go_wp2_with (go_at_call 61; refine (in_own _ _ _ _).mono ?_; rintro e w' ⟨rfl, rfl⟩)
  go_ret
  exact ⟨rfl, 0, rfl⟩
theorem over11_enters : ∀ args w, (callFunc 65 args).run Try.prog w = .ok (.enter 65 args) w := enters_of Try.func65 (by kernel_rfl) rfl

set_option maxHeartbeats 1000000 in
theorem over1_any (A : Option Addr) (n c : Nat) (xs : List Int) (bp : Nat) (p : Int) (w : World) (h : Rd w w.heap.size A n c xs) (hb : w.cell? ⟨bp, 0, none⟩ = some (.int .i64 p)) (hp : 2 ≤ p ∧ p ≤ 13) :
    Calls Try.prog 64 #[.agg #[.slice A n c], .pointer (some ⟨bp, 0, none⟩)] w fun e w' => e = .returned (.bool (!overB xs p)) ∧ Below w.heap.size w w' := by
  have hcon := fun W H => validWhole_own A n c xs W H
  unfold overB
  cases hok : okW xs
  · rw [hok] at hcon
    have HC := Lib.hid hcon
    clear hcon
    go_enter Try.func64, Try.ntmps64
    go_wp2_with fail
    refine (HC.out _ (h.in_ (al1 w _))).mono ?_
    rintro e w1 ⟨rfl, b1⟩
    have B1 := bthen (al1 w _) b1
    clear b1
    go_wp2_with fail
    go_ret
    exact ⟨rfl, B1⟩
  · rw [hok] at hcon
    have HC := Lib.hid hcon
    clear hcon
    have hcf := fun W hW H => containsFunc_any 65 #[.pointer (some ⟨bp, 0, none⟩)] over11_enters (fun t => !inB t 0 (p - 1)) A n c xs W (over11_tells bp p W hW hp) H
    rw [any_not_allIn] at hcf
    generalize allIn 0 (p - 1) xs = r at hcf
    have HF := Lib.hid hcf
    clear hcf
    go_enter Try.func64, Try.ntmps64
    go_wp2_with fail
    refine (HC.out _ (h.in_ (al1 w _))).mono ?_
    rintro e w1 ⟨rfl, b1⟩
    have B1 := bthen (al1 w _) b1
    have k1 := cell_kept (b := w.heap.size) (o := 0) (v := .slice A n c) b1 (by simp)
    have hb1 := cell_kept B1 hb
    clear b1
    go_wp2_with fail
    refine (HF.out _ hb1 (h.in_ B1)).mono ?_
    rintro e w2 ⟨rfl, q, rfl⟩
    go_wp2_with fail
    go_ret
    exact ⟨rfl, drewN_below B1 q⟩

/-- A slice, as it is told. -/
structure Sl where
  A : Option Addr
  n : Nat
  c : Nat
  xs : List Int

set_option maxHeartbeats 2000000 in
theorem indexWholes (L : List Sl) (m : Nat) (hm : L.length = m) (hmb : m ≤ 1048576) (bl bp : Nat) (p : Int) (w : World) (hp : 2 ≤ p ∧ p ≤ 13) (hb : w.cell? ⟨bp, 0, none⟩ = some (.int .i64 p))
    (hc : ∀ j s, L[j]? = some s → w.cell? ⟨bl, j, none⟩ = some (.slice s.A s.n s.c) ∧ Rd w w.heap.size s.A s.n s.c s.xs) :
    Calls Try.prog 79 #[.slice (some ⟨bl, 0, none⟩) m m, .func (.func 64) #[] #[.pointer (some ⟨bp, 0, none⟩)]] w
      fun e w' => ∃ r : Int, e = .returned (.int .i64 r) ∧ decide (0 ≤ r) = (L.any fun s => !overB s.xs p) ∧ Below w.heap.size w w' := by
  generalize hr : (L.any fun s => !overB s.xs p) = r
  have HR := Lib.hid hr
  have HM := Lib.hid hm
  have HC := Lib.hid hc
  clear hr hm hc
  go_enter Try.func79, Try.ntmps79
  go_wp2
  go_loopg [8] m (fun gg s8 wr => ∃ kk : Nat, kk ≤ m ∧ m - kk ≤ gg ∧ s8 = .int .i64 kk ∧ Below w.heap.size w wr ∧ Aside (∀ j s, j < kk → L[j]? = some s → overB s.xs p = true))
  case atStart => exact ⟨0, Nat.zero_le _, by omega, rfl, Below.refl _ _, fun j _ hj => absurd hj (Nat.not_lt_zero _)⟩
  case round =>
    obtain ⟨kk, hkk, hg, rfl, hB, A0⟩ := hrel
    by_cases hlt : kk < m
    · have hltz : (kk : Int) < (m : Int) := by omega
      have hk : kk < L.length := by rw [HM.out]; exact hlt
      obtain ⟨s, hs⟩ : ∃ s, L[kk]? = some s := ⟨_, List.getElem?_eq_getElem hk⟩
      obtain ⟨h1, h2⟩ := HC.out kk s hs
      have hcell := cell_kept hB h1
      have hbp := cell_kept hB hb
      have HS := Lib.hid hs
      clear h1 hs hk hb
      obtain ⟨A, n, c, xs⟩ := s
      have hcall := over1_any A n c xs bp p wr (h2.in_ hB) hbp hp
      clear h2
      cases hq : overB xs p
      · rw [hq] at hcall
        have HB := Lib.hid hB
        have HCL := Lib.hid hcall
        clear hB hcall
        go_wp2_with fail
        refine (HCL.out).mono ?_
        rintro e w1 ⟨rfl, b1⟩
        have HB1 := Lib.hid (bthen HB.out b1)
        clear b1
        go_wp2_with fail
        go_ret
        refine ⟨_, rfl, ?_, HB1.out⟩
        rw [← HR.out, decide_eq_true (by omega)]
        symm
        rw [List.any_eq_true]
        exact ⟨_, List.mem_of_getElem? HS.out, by simp [hq]⟩
      · rw [hq] at hcall
        have HB := Lib.hid hB
        have HCL := Lib.hid hcall
        clear hB hcall
        go_wp2_with fail
        refine (HCL.out).mono ?_
        rintro e w1 ⟨rfl, b1⟩
        have HB1 := Lib.hid (bthen HB.out b1)
        clear b1
        go_wp2_with fail
        go_roundg (m - (kk + 1))
        case measure => omega
        case rel =>
          refine ⟨kk + 1, by omega, by omega, by go_num, HB1.out, (show Aside _ from fun j s hj hs => ?_)⟩
          by_cases e : j = kk
          · subst e
            have := HS.out
            rw [hs] at this
            injection this with this
            subst this
            exact hq
          · exact A0.out j s (by omega) hs
    · have hltz : ¬ (kk : Int) < (m : Int) := by omega
      have : kk = m := by omega
      subst this
      have HB := Lib.hid hB
      clear hB
      go_wp2
      go_ret
      refine ⟨-1, rfl, ?_, HB.out⟩
      rw [← HR.out, decide_eq_false (by omega)]
      symm
      rw [List.any_eq_false]
      intro s hs
      obtain ⟨j, hj, he⟩ := List.mem_iff_getElem.1 hs
      have := A0.out j s (by rw [HM.out] at hj; exact hj) (by rw [List.getElem?_eq_getElem hj, he])
      simp [this]

theorem containsWholes (L : List Sl) (m : Nat) (hm : L.length = m) (hmb : m ≤ 1048576) (bl bp : Nat) (p : Int) (w : World) (hp : 2 ≤ p ∧ p ≤ 13) (hb : w.cell? ⟨bp, 0, none⟩ = some (.int .i64 p))
    (hc : ∀ j s, L[j]? = some s → w.cell? ⟨bl, j, none⟩ = some (.slice s.A s.n s.c) ∧ Rd w w.heap.size s.A s.n s.c s.xs) :
    Calls Try.prog 63 #[.slice (some ⟨bl, 0, none⟩) m m, .func (.func 64) #[] #[.pointer (some ⟨bp, 0, none⟩)]] w
      fun e w' => e = .returned (.bool (L.any fun s => !overB s.xs p)) ∧ Below w.heap.size w w' := by
  have hcon := indexWholes L m hm hmb bl bp p w hp hb hc
  generalize hr : (L.any fun s => !overB s.xs p) = r at hcon ⊢
  have HC := Lib.hid hcon
  clear hr hcon hc hm hb
  go_enter Try.func63, Try.ntmps63
  go_wp2_with fail
  refine (HC.out).mono ?_
  rintro e w1 ⟨r', rfl, hr', b1⟩
  go_wp2_with fail
  go_ret
  exact ⟨rfl, b1⟩
end Go.Proofs.Ytlfjnpioamcbhaa
