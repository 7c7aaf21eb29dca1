/- What the law of the moves wants of the words that its code computes, gathered; boxes that stay; RootsWithin of one term. Condition: the polynomial is valid. -/
import Derived.Test.YtfbekiphlaaieaaMg
namespace Go.Proofs.Ytfbekiphlaaieaa
open Go.RowKit

theorem within_one (A : Option Addr) (c : Nat) (xs : List (Nat × Nat)) (w : World) (h : CRd w w.heap.size A 1 c xs) (hv : Valid xs) :
    Calls Try.prog 10 #[.agg #[.slice A 1 c]] w fun e w' => e = .returned (.tuple #[.float .f32 0, .bool false]) ∧ Below w.heap.size w w' := by
  have HV := Lib.hid hv
  have HR := Lib.hid h
  obtain ⟨b, o, rfl, hbl, hc⟩ := h.at_ (by omega)
  clear h hc hv
  go_enter Try.func10, Try.ntmps10
  go_wp2_with fail
  refine (valid_any _ 1 c xs _ (HR.out.in_' (al1 w _)) HV.out).mono ?_
  rintro e w1 ⟨rfl, b1⟩
  have kp := cell_kept (b := w.heap.size) (o := 0) (v := .slice (some ⟨b, o, none⟩) 1 c) b1 (by simp [go_sem])
  have B1 := Lib.hid (bthen (al1 w _) b1)
  clear b1
  go_wp2_with fail
  exact bodyPost_ret (v := .tuple #[.float .f32 0, .bool false]) (by simp [results, Try.results10, go_sem]) rfl ⟨rfl, B1.out⟩

theorem within_none (A : Option Addr) (n c : Nat) (xs : List (Nat × Nat)) (w : World) (hn : n = 1) (h : CRd w w.heap.size A n c xs) (hv : Valid xs) :
    Calls Try.prog 10 #[.agg #[.slice A n c]] w fun e w' => e = .returned (.tuple #[.float .f32 0, .bool false]) ∧ Below w.heap.size w w' := by
  subst hn
  exact within_one A c xs w h hv

/-- What 'PolyAt' tells. -/
def AtW (L : List (Nat × Nat)) (z v : Nat × Nat) : Prop := Valid L ∧ NumC z ∧ ∃ vs ms, Horner L z vs ms ∧ NumC (vs 0) ∧ vs 0 = v
theorem at_of {A : Option Addr} {n c : Nat} {xs : List (Nat × Nat)} {z v : Nat × Nat} (h : AtW xs z v) (w : World) (r : CRd w w.heap.size A n c xs) :
    Calls Try.prog 11 #[.agg #[.slice A n c], .complex .f32 z.1 z.2] w fun e w' => e = .returned (.tuple #[.complex .f32 v.1 v.2, .bool true]) ∧ Below w.heap.size w w' := by
  obtain ⟨h1, h2, vs, ms, h3, h4, rfl⟩ := h
  exact polyAt_any A n c xs z vs ms w r h1 h2 h3 h4
/-- What 'r8Size' tells. -/
def SzW (L : List (Nat × Nat)) (z : Nat × Nat) (s : Nat) : Prop := 1 ≤ L.length ∧ ∃ l1 ww pm ss lz x, SizeW L z l1 ww pm ss lz x ∧ ss 0 = s
theorem sz_of {A : Option Addr} {n c : Nat} {xs : List (Nat × Nat)} {z : Nat × Nat} {s : Nat} (h : SzW xs z s) (w : World) (r : CRd w w.heap.size A n c xs) :
    Calls Try.prog 13 #[.agg #[.slice A n c], .complex .f32 z.1 z.2] w fun e w' => e = .returned (.float .f64 s) ∧ Below w.heap.size w w' := by
  obtain ⟨h1, l1, ww, pm, ss, lz, x, h2, rfl⟩ := h
  exact size_any A n c xs z l1 ww pm ss lz x w r (by rw [← r.len]; exact h1) h2
/-- The law's comparison. -/
structure ChkW (f s on mil : Nat) : Prop where
  add : floatBits .add .f64 4607182418800017408 s = some on
  mul : floatBits .mul .f64 4562254508917369340 on = some mil
  ok : (FloatKind.f64.format.order f mil == some .gt) = false

/-- The lists that the moves make. -/
def mvSh (n : Nat) (xs : List (Nat × Nat)) (y : Nat × Nat) : List (Nat × Nat) := trimC (shPass y n xs n)
def mvSt (n : Nat) (xs : List (Nat × Nat)) (y : Nat × Nat) : List (Nat × Nat) := trimC (mapW n xs fun k x => mulF x (pwF y k))
def mvSc (n : Nat) (xs : List (Nat × Nat)) (y : Nat × Nat) : List (Nat × Nat) := trimC (mapW n xs fun _ x => mulF x y)
def mvEv (n : Nat) (xs : List (Nat × Nat)) : List (Nat × Nat) := trimC (parC 0 n xs)
def mvOd (n : Nat) (xs : List (Nat × Nat)) : List (Nat × Nat) := trimC (parC 1 n xs)
def mvJo (n : Nat) (xs : List (Nat × Nat)) : List (Nat × Nat) := trimC (mapW n xs fun _ x => conjF x)
def mvRi (n : Nat) (xs : List (Nat × Nat)) : List (Nat × Nat) := trimC (riseC n xs)
def mvSl (n : Nat) (xs : List (Nat × Nat)) : List (Nat × Nat) := trimC (slopeC (mvRi n xs))
def mvFi (xs : List (Nat × Nat)) : List (Nat × Nat) := trimC (slopeC xs)

/-- All that the law asks of the drawn polynomial xs and the points z and y. -/
structure MF (n : Nat) (xs : List (Nat × Nat)) (z y : Nat × Nat) where
  valid : Valid xs
  nz : NumC z
  ny : NumC y
  shW : ShiftW y n xs
  shV : Valid (mvSh n xs y)
  stW : ∀ k, k < n → MulW (xs.getD k (0, 0)) (pwF y k) (mulF (xs.getD k (0, 0)) (pwF y k)) ∧ MulW (pwF y k) y (pwF y (k + 1))
  stV : Valid (mvSt n xs y)
  scW : ∀ k, k < n → MulW (xs.getD k (0, 0)) y (mulF (xs.getD k (0, 0)) y)
  scV : Valid (mvSc n xs y)
  evV : Valid (mvEv n xs)
  odV : Valid (mvOd n xs)
  joV : Valid (mvJo n xs)
  riQ : ∀ k, k < n → floatBits .quo .f32 1065353216 (i32 (k + 1)) = some (quoF 1065353216 (i32 (k + 1))) ∧ ScaleW (xs.getD k (0, 0)) (quoF 1065353216 (i32 (k + 1))) (scF (xs.getD k (0, 0)) (quoF 1065353216 (i32 (k + 1))))
  riV : Valid (mvRi n xs)
  slW : ∀ k, 0 < k → k < (mvRi n xs).length → ScaleW ((mvRi n xs).getD k (0, 0)) (i32 k) (scF ((mvRi n xs).getD k (0, 0)) (i32 k))
  slV : Valid (mvSl n xs)
  v : Nat × Nat
  s : Nat × Nat
  d : Nat × Nat
  vW : AtW xs z v
  dW : MinusW z y d
  sW : AtW (mvSh n xs y) d s
  lz : Nat
  ly : Nat
  tw : Nat
  qw : Nat
  wide : Nat
  f1 : Nat
  o1 : Nat
  m1 : Nat
  lzW : Long1W z lz
  lyW : Long1W y ly
  twW : floatBits .mul .f32 1073741824 ly = some tw
  qwW : floatBits .add .f32 lz tw = some qw
  wideW : SzW xs (qw, 0) wide
  f1W : FarW s v f1
  c1 : ChkW f1 wide o1 m1
  t : Nat × Nat
  m : Nat × Nat
  mv : Nat × Nat
  c : Nat × Nat
  e : Nat × Nat
  o : Nat × Nat
  j : Nat × Nat
  vy : Nat × Nat
  eo : Nat × Nat
  tW : AtW (mvSt n xs y) z t
  mW : MulW z y m
  mvW : AtW xs m mv
  cW : AtW (mvSc n xs y) z c
  eW : AtW (mvEv n xs) z e
  oW : AtW (mvOd n xs) z o
  jW : AtW (mvJo n xs) (conjF z) j
  size : Nat
  sizeW : SzW xs z size
  f2 : Nat
  o2 : Nat
  m2 : Nat
  size2 : Nat
  f2W : FarW t mv f2
  size2W : SzW xs m size2
  c2 : ChkW f2 size2 o2 m2
  f3 : Nat
  o3 : Nat
  m3 : Nat
  ly64 : Nat
  sl : Nat
  vyW : MulW v y vy
  f3W : FarW c vy f3
  lyC : cv64 ly = some ly64
  slM : floatBits .mul .f64 size ly64 = some sl
  c3 : ChkW f3 sl o3 m3
  f4 : Nat
  o4 : Nat
  m4 : Nat
  eoW : PlusW e o eo
  f4W : FarW eo v f4
  c4 : ChkW f4 size o4 m4
  f5 : Nat
  f5W : FarW j (conjF v) f5
  c5 : ChkW f5 size o4 m4
  slL : (mvSl n xs).length = n
  fk : Nat → Nat
  lk : Nat → Nat
  wk : Nat → Nat
  ok : Nat → Nat
  mks : Nat → Nat
  fkW : ∀ k, k < n → FarW ((mvSl n xs).getD k (0, 0)) (xs.getD k (0, 0)) (fk k)
  lkW : ∀ k, k < n → Long1W (xs.getD k (0, 0)) (lk k)
  wkW : ∀ k, k < n → cv64 (lk k) = some (wk k)
  ck : ∀ k, k < n → ChkW (fk k) (wk k) (ok k) (mks k)
  liW : ShiftW z n xs
  liN : AllNum (shPass z n xs n)
  fiW : ∀ k, 0 < k → k < n → ScaleW (xs.getD k (0, 0)) (i32 k) (scF (xs.getD k (0, 0)) (i32 k))
  fiV : Valid (mvFi xs)
  dv : Nat × Nat
  dvW : AtW (mvFi xs) z dv
  f6 : Nat
  f6W : FarW ((shPass z n xs n).getD 0 (0, 0)) v f6
  c6 : ChkW f6 size o4 m4
  more : 1 < n → ∃ f7 e8 a8 s9 b9 m9, FarW ((shPass z n xs n).getD 1 (0, 0)) dv f7 ∧ floatBits .mul .f64 4620693217682128896 size = some e8 ∧ floatBits .add .f64 4607182418800017408 e8 = some a8 ∧ SzW (mvFi xs) z s9 ∧ floatBits .add .f64 a8 s9 = some b9 ∧ floatBits .mul .f64 4562254508917369340 b9 = some m9 ∧ (FloatKind.f64.format.order f7 m9 == some .gt) = false
  qf : Nat → Nat × Nat
  moZ : n = 1 → isZ (xs.getD 0 (0, 0)) = false
  moQ : ∀ k, k + 1 < n → QuotW (xs.getD k (0, 0)) (xs.getD (n - 1) (0, 0)) (qf k)
  moT : trimC (monC n qf) = monC n qf
  moV : Valid (monC n qf)
  wi : 1 < n → ∃ ls qs mo L r, WithinW xs ls qs mo L r ∧ (FloatKind.f32.format.order r 1065353216 = some .gt ∨ FloatKind.f32.format.order r 1065353216 = some .eq)
  trim : trimC xs = xs
  thL : ∀ k, k < n → ∃ l, LongW (xs.getD k (0, 0)) l ∧ (FloatKind.f32.format.order l 0 = some .gt ∨ (FloatKind.f32.format.order l 0 = some .eq ∧ xs.getD k (0, 0) = (0, 0)))
  same : ∀ j, j < xs.length → Wide (xs.getD j (0, 0))

/-- Polynomials in boxes. -/
structure Bx where
  b : Nat
  A : Option Addr
  n : Nat
  c : Nat
  xs : List (Nat × Nat)
structure Bag (w wk : World) (l : List Bx) : Prop where
  below : Below w.heap.size w wk
  rd : ∀ x, x ∈ l → CRd wk wk.heap.size x.A x.n x.c x.xs
  box : ∀ x, x ∈ l → Blk wk x.b 28 #[.slice x.A x.n x.c]
theorem Bag.step {w wk w' : World} {l : List Bx} (h : Bag w wk l) (hb : Below wk.heap.size wk w') : Bag w w' l :=
  ⟨bthen h.below hb, fun x hx => (h.rd x hx).in_' hb, fun x hx => (h.box x hx).kept hb⟩
theorem Bag.add {w wk w1 : World} {l : List Bx} {A : Option Addr} {n c : Nat} {xs : List (Nat × Nat)} (h : Bag w wk l) (hb : Below wk.heap.size wk w1) (r : CRd w1 w1.heap.size A n c xs) :
    Bag w (w1.alloc (.cells #[.slice A n c] 28)) (⟨w1.heap.size, A, n, c, xs⟩ :: l) := by
  have h1 := (h.step hb).step (al1 w1 (.cells #[.slice A n c] 28))
  refine ⟨h1.below, ?_, ?_⟩
  · intro x hx
    rcases List.mem_cons.1 hx with rfl | hx
    · exact r.in_' (al1 w1 _)
    · exact h1.rd x hx
  · intro x hx
    rcases List.mem_cons.1 hx with rfl | hx
    · exact Blk.new w1 _ _
    · exact h1.box x hx
theorem Bag.start {w w1 : World} {A : Option Addr} {n c : Nat} {xs : List (Nat × Nat)} (hb : Below w.heap.size w w1) (r : CRd w1 w1.heap.size A n c xs) :
    Bag w (w1.alloc (.cells #[.slice A n c] 28)) [⟨w1.heap.size, A, n, c, xs⟩] :=
  Bag.add (w := w) (wk := w) (l := []) ⟨Below.refl _ _, fun x hx => absurd hx (by simp), fun x hx => absurd hx (by simp)⟩ hb r
end Go.Proofs.Ytfbekiphlaaieaa
