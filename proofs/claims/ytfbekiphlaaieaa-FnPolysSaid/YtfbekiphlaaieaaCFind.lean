/- Contracts of slices.IndexFunc and slices.ContainsFunc at complex and at plain floats: where no element meets the predicate they say so. Condition: the predicate says no at each element, in whatever world. -/
import Derived.Test.YtfbekiphlaaieaaKBase
import Derived.Test.YtfbekiphlaaieaaPlain
import Derived.Lib.Walk
import Derived.Shelf.GgClosure.Gives
namespace Go.Proofs.Ytfbekiphlaaieaa
open Go.RowKit Go.Lib

/-- The slice's elements are the values vs 0, vs 1, .. -/
structure SRd (w : World) (B : Nat) (A : Option Addr) (n c : Nat) (vs : Nat → Value) : Prop where
  cap : n ≤ c
  most : c ≤ maxLen
  at_ : 0 < n → ∃ b o, A = some ⟨b, o, none⟩ ∧ b < B ∧ ∀ j, j < n → w.cell? ⟨b, o + j, none⟩ = some (vs j)
theorem CRd.srd {w : World} {B : Nat} {A : Option Addr} {n c : Nat} {xs : List (Nat × Nat)} (h : CRd w B A n c xs) : SRd w B A n c (fun j => cx (xs.getD j (0, 0))) := ⟨h.cap, h.most, h.at_⟩
theorem SRd.in_ {w w' : World} {A : Option Addr} {n c : Nat} {vs : Nat → Value} (h : SRd w w.heap.size A n c vs) (hb : Below w.heap.size w w') : SRd w' w'.heap.size A n c vs :=
  ⟨h.cap, h.most, fun hn => by
    obtain ⟨b, o, e, hlt, hc⟩ := h.at_ hn
    exact ⟨b, o, e, Nat.lt_of_lt_of_le hlt hb.size, fun j hj => (hb.cell hlt).trans (hc j hj)⟩⟩
/-- The predicate's function g says no at v. -/
def SaysNo (g : Nat) (v : Value) : Prop := ∀ W : World, Calls Try.prog g #[v] W fun e w' => e = .returned (.bool false) ∧ Below W.heap.size W w'

set_option maxHeartbeats 2000000 in
theorem indexC_none (g : Nat) (eg : ∀ args w, (callFunc g args).run Try.prog w = .ok (.enter g args) w) (A : Option Addr) (n c : Nat) (vs : Nat → Value) (w : World)
    (hp : ∀ j, j < n → SaysNo g (vs j)) (h : SRd w w.heap.size A n c vs) :
    Calls Try.prog 90 #[.slice A n c, .func (.func g) #[] #[]] w fun e w' => e = .returned (.int .i64 (-1)) ∧ Below w.heap.size w w' := by
  have hmax : n ≤ 9223372036854775807 := by have h1 := h.cap; have h2 := h.most; unfold maxLen at h2; omega
  have HP := Lib.hid hp
  clear hp
  go_enter Try.func90, Try.ntmps90
  go_wp2
  go_loopg [8] n (fun gg s8 wr => ∃ kk : Nat, kk ≤ n ∧ n - kk ≤ gg ∧ s8 = .int .i64 kk ∧ Below w.heap.size w wr)
  case atStart => exact ⟨0, Nat.zero_le _, by omega, rfl, Below.refl _ _⟩
  case round =>
    obtain ⟨kk, hkk, hg, rfl, hb⟩ := hrel
    by_cases hlt : kk < n
    · have hltz : (kk : Int) < (n : Int) := by omega
      obtain ⟨b, o, rfl, hbl, hc⟩ := h.at_ (by omega)
      have hcell := (hb.cell (p := ⟨b, o + kk, none⟩) hbl).trans (hc kk hlt)
      have HNo := Lib.hid (HP.out kk hlt)
      have HB := Lib.hid hb
      clear hc h hb
      generalize vs kk = y at hcell HNo
      go_wp2_with (go_at_fn g; refine (HNo.out _).mono ?_; rintro e w' ⟨rfl, b'⟩; have HB2 := Lib.hid (bthen HB.out b'); clear b')
      go_roundg (n - (kk + 1))
      case measure => omega
      case rel => exact ⟨kk + 1, by omega, by omega, by go_num, HB2.out⟩
    · have hltz : ¬ (kk : Int) < (n : Int) := by omega
      have : kk = n := by omega
      subst this
      go_wp2
      go_ret
      exact ⟨rfl, hb⟩

theorem containsC_none (g : Nat) (eg : ∀ args w, (callFunc g args).run Try.prog w = .ok (.enter g args) w) (A : Option Addr) (n c : Nat) (vs : Nat → Value) (w : World)
    (hp : ∀ j, j < n → SaysNo g (vs j)) (h : SRd w w.heap.size A n c vs) :
    Calls Try.prog 79 #[.slice A n c, .func (.func g) #[] #[]] w fun e w' => e = .returned (.bool false) ∧ Below w.heap.size w w' := by
  go_enter Try.func79, Try.ntmps79
  go_wp2_with fail
  refine (indexC_none g eg A n c vs w hp h).mono ?_
  rintro e w1 ⟨rfl, b1⟩
  go_wp2_with fail
  go_ret
  exact ⟨rfl, b1⟩

set_option maxHeartbeats 2000000 in
theorem indexF_none (g : Nat) (eg : ∀ args w, (callFunc g args).run Try.prog w = .ok (.enter g args) w) (A : Option Addr) (n c : Nat) (vs : Nat → Value) (w : World)
    (hp : ∀ j, j < n → SaysNo g (vs j)) (h : SRd w w.heap.size A n c vs) :
    Calls Try.prog 96 #[.slice A n c, .func (.func g) #[] #[]] w fun e w' => e = .returned (.int .i64 (-1)) ∧ Below w.heap.size w w' := by
  have hmax : n ≤ 9223372036854775807 := by have h1 := h.cap; have h2 := h.most; unfold maxLen at h2; omega
  have HP := Lib.hid hp
  clear hp
  go_enter Try.func96, Try.ntmps96
  go_wp2
  go_loopg [8] n (fun gg s8 wr => ∃ kk : Nat, kk ≤ n ∧ n - kk ≤ gg ∧ s8 = .int .i64 kk ∧ Below w.heap.size w wr)
  case atStart => exact ⟨0, Nat.zero_le _, by omega, rfl, Below.refl _ _⟩
  case round =>
    obtain ⟨kk, hkk, hg, rfl, hb⟩ := hrel
    by_cases hlt : kk < n
    · have hltz : (kk : Int) < (n : Int) := by omega
      obtain ⟨b, o, rfl, hbl, hc⟩ := h.at_ (by omega)
      have hcell := (hb.cell (p := ⟨b, o + kk, none⟩) hbl).trans (hc kk hlt)
      have HNo := Lib.hid (HP.out kk hlt)
      have HB := Lib.hid hb
      clear hc h hb
      generalize vs kk = y at hcell HNo
      go_wp2_with (go_at_fn g; refine (HNo.out _).mono ?_; rintro e w' ⟨rfl, b'⟩; have HB2 := Lib.hid (bthen HB.out b'); clear b')
      go_roundg (n - (kk + 1))
      case measure => omega
      case rel => exact ⟨kk + 1, by omega, by omega, by go_num, HB2.out⟩
    · have hltz : ¬ (kk : Int) < (n : Int) := by omega
      have : kk = n := by omega
      subst this
      go_wp2
      go_ret
      exact ⟨rfl, hb⟩

theorem containsF_none (g : Nat) (eg : ∀ args w, (callFunc g args).run Try.prog w = .ok (.enter g args) w) (A : Option Addr) (n c : Nat) (vs : Nat → Value) (w : World)
    (hp : ∀ j, j < n → SaysNo g (vs j)) (h : SRd w w.heap.size A n c vs) :
    Calls Try.prog 93 #[.slice A n c, .func (.func g) #[] #[]] w fun e w' => e = .returned (.bool false) ∧ Below w.heap.size w w' := by
  go_enter Try.func93, Try.ntmps93
  go_wp2_with fail
  refine (indexF_none g eg A n c vs w hp h).mono ?_
  rintro e w1 ⟨rfl, b1⟩
  go_wp2_with fail
  go_ret
  exact ⟨rfl, b1⟩
end Go.Proofs.Ytfbekiphlaaieaa
