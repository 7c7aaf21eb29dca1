/- Words of complex numbers: what the program's small functions compute from words, where nothing is left open. No condition: definitions. -/
import Derived.Test.YtfbekiphlaaieaaFlr
namespace Go.Proofs.Ytfbekiphlaaieaa

def cv64 (x : Nat) : Option Nat := floatToFloatBits .f32 x .f64
def cv32 (x : Nat) : Option Nat := floatToFloatBits .f64 x .f32
/-- 'times' -/
structure TimesW (x y : Nat × Nat) (p q : Nat) where
  a : Nat
  b : Nat
  c : Nat
  d : Nat
  ac : Nat
  bd : Nat
  ad : Nat
  bc : Nat
  ha : cv64 x.1 = some a
  hb : cv64 x.2 = some b
  hc : cv64 y.1 = some c
  hd : cv64 y.2 = some d
  hac : floatBits .mul .f64 a c = some ac
  hbd : floatBits .mul .f64 b d = some bd
  had : floatBits .mul .f64 a d = some ad
  hbc : floatBits .mul .f64 b c = some bc
  hp : floatBits .sub .f64 ac bd = some p
  hq : floatBits .add .f64 ad bc = some q
/-- 'MulComplex' -/
def MulW (x y r : Nat × Nat) : Prop := ∃ p q, Nonempty (TimesW x y p q) ∧ cv32 p = some r.1 ∧ cv32 q = some r.2
def PlusW (x y r : Nat × Nat) : Prop := floatBits .add .f32 x.1 y.1 = some r.1 ∧ floatBits .add .f32 x.2 y.2 = some r.2
def MinusW (x y r : Nat × Nat) : Prop := floatBits .sub .f32 x.1 y.1 = some r.1 ∧ floatBits .sub .f32 x.2 y.2 = some r.2
/-- 'power' -/
def PowerW (x : Nat × Nat) (r : Nat) : Prop := ∃ a b aa bb, cv64 x.1 = some a ∧ cv64 x.2 = some b ∧ floatBits .mul .f64 a a = some aa ∧ floatBits .mul .f64 b b = some bb ∧ floatBits .add .f64 aa bb = some r
/-- 'LongOf' -/
def LongW (x : Nat × Nat) (r : Nat) : Prop := ∃ p s, PowerW x p ∧ FloatKind.f64.format.sqrt p = some s ∧ cv32 s = some r
/-- A word that stands for a number. -/
def Num (k : FloatKind) (x : Nat) : Prop := ∃ q, V k x q
def NumC (x : Nat × Nat) : Prop := Num .f32 x.1 ∧ Num .f32 x.2
end Go.Proofs.Ytfbekiphlaaieaa
