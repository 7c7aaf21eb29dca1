/- FnRooted: the walk of the law: whatever the bytes it answers true and leaves all memory of before as it was. Condition: the facts about the words (RF), which the text beside it proves. -/
import Derived.Test.YtfbekiphlaaieaaRf
import Derived.Deep.RegionHeld3
namespace Go.Proofs.Ytfbekiphlaaieaa
open Go.RowKit

/-- What stays from the moment when the polynomial lies in its box. -/
structure Keep (w wk : World) (A0 : Option Addr) (n0 c0 : Nat) (v0 : Nat → Value) (A1 : Option Addr) (n1 c1 : Nat) (v1 : Nat → Value) (Az : Option Addr) (n cz : Nat) (zs : List (Nat × Nat)) (b7 : Nat) (Ap : Option Addr) (np cp : Nat) (p : List (Nat × Nat)) : Prop where
  below : Below w.heap.size w wk
  code : SRd wk wk.heap.size A0 n0 c0 v0
  more : SRd wk wk.heap.size A1 n1 c1 v1
  rz : CRd wk wk.heap.size Az n cz zs
  rp : CRd wk wk.heap.size Ap np cp p
  box : Blk wk b7 28 #[.slice Ap np cp]
theorem Keep.step {w wk w' : World} {A0 : Option Addr} {n0 c0 : Nat} {v0 : Nat → Value} {A1 : Option Addr} {n1 c1 : Nat} {v1 : Nat → Value} {Az : Option Addr} {n cz : Nat} {zs : List (Nat × Nat)} {b7 : Nat} {Ap : Option Addr} {np cp : Nat} {p : List (Nat × Nat)}
    (h : Keep w wk A0 n0 c0 v0 A1 n1 c1 v1 Az n cz zs b7 Ap np cp p) (hb : Below wk.heap.size wk w') : Keep w w' A0 n0 c0 v0 A1 n1 c1 v1 Az n cz zs b7 Ap np cp p :=
  ⟨bthen h.below hb, h.code.in_ hb, h.more.in_ hb, h.rz.in_' hb, h.rp.in_' hb, h.box.kept hb⟩

theorem points_choice (p zq : List (Nat × Nat)) (m : Nat) (h : ∀ k, k < m → ∃ vs ms, Horner p (zq.getD k (0, 0)) vs ms ∧ NumC (vs 0)) : ∃ vs ms : Nat → Nat → Nat × Nat, ∀ k, k < m → Horner p (zq.getD k (0, 0)) (vs k) (ms k) ∧ NumC (vs k 0) := by
  have h' : ∀ k, ∃ r : (Nat → Nat × Nat) × (Nat → Nat × Nat), k < m → Horner p (zq.getD k (0, 0)) r.1 r.2 ∧ NumC (r.1 0) := by
    intro k
    by_cases hk : k < m
    · obtain ⟨vs, ms, h1⟩ := h k hk
      exact ⟨(vs, ms), fun _ => h1⟩
    · exact ⟨(fun _ => (0, 0), fun _ => (0, 0)), fun h => absurd h hk⟩
  exact ⟨fun k => (Classical.choose (h' k)).1, fun k => (Classical.choose (h' k)).2, fun k hk => Classical.choose_spec (h' k) hk⟩
theorem vals_getD (vs : Nat → Nat → Nat × Nat) (m k : Nat) (h : k < m) : ((List.range m).map fun k => vs k 0).getD k (0, 0) = vs k 0 := by
  simp [List.getD, h]

set_option maxHeartbeats 8000000 in
set_option maxRecDepth 10000 in
theorem walkFnRooted (A0 : Option Addr) (n0 c0 : Nat) (v0 : Nat → Value) (A1 : Option Addr) (n1 c1 : Nat) (v1 : Nat → Value) (w : World) (h0 : SRd w w.heap.size A0 n0 c0 v0) (h1 : SRd w w.heap.size A1 n1 c1 v1) (hv0 : Bytes n0 v0) (hv1 : Bytes n1 v1)
    (facts : ∀ (n : Nat) (zs : List (Nat × Nat)), 1 ≤ n → n ≤ 5 → zs.length = n → (∀ j, j < n → Drawn (zs.getD j (0, 0))) → Nonempty (RF n zs)) :
    Calls Try.prog 3 #[.slice A0 n0 c0, .slice A1 n1 c1] w fun e w' => e = .returned (.bool true) ∧ Below w.heap.size w w' := by
  by_cases hlong : ¬ (n0 ≤ 48 ∧ n1 ≤ 48)
  · have HL := Lib.hid (fun W => long_yes A0 n0 c0 A1 n1 c1 W hlong)
    clear hlong facts h0 h1
    go_enter Try.func3, Try.ntmps3
    go_wp2_with (go_at_call 6; refine (HL.out _).mono ?_; rintro e w' ⟨rfl, rfl⟩)
    go_ret
    exact ⟨rfl, Below.refl _ _⟩
  have hl0 : n0 ≤ 48 := by omega
  have hl1 : n1 ≤ 48 := by omega
  have HL := Lib.hid (fun W => long_no A0 n0 c0 A1 n1 c1 W hl0 hl1)
  have HV0 := Lib.hid hv0
  have HV1 := Lib.hid hv1
  have HF := Lib.hid facts
  have H0 := Lib.hid h0
  have H1 := Lib.hid h1
  clear hlong facts h0 h1 hv0 hv1
  go_enter Try.func3, Try.ntmps3
  go_wp2_with (go_at_call 6; refine (HL.out _).mono ?_; rintro e w' ⟨rfl, rfl⟩)
  refine (at_any A1 n1 c1 v1 40 5 _ H1.out HV1.out (by omega) (by omega) (by omega)).mono ?_
  rintro e w1 ⟨x, rfl, hx0, hx1, rfl⟩
  obtain ⟨n, hn⟩ : ∃ n : Nat, (1 : Int) + x = (n : Int) := ⟨(1 + x).toNat, by omega⟩
  have hn1 : 1 ≤ n := by omega
  have hn5 : n ≤ 5 := by omega
  go_wp2_with fail
  clear hn hx0 hx1
  refine (many_any A0 n0 c0 v0 n _ H0.out hl0 HV0.out (by omega)).mono ?_
  rintro e w2 ⟨Az, cz, zs, rfl, rz, hd, b2⟩
  obtain ⟨F⟩ := HF.out n zs hn1 hn5 rz.len hd
  have HD := Lib.hid hd
  have RZ := Lib.hid rz
  have B2 := Lib.hid b2
  clear HF rz hd b2
  go_wp2_with fail
  refine (polyOfRoots_any Az n cz zs F.P F.mm _ RZ.out (by omega) (fun j hj => drawn_num (HD.out j (by rw [← RZ.out.len]; exact hj))) F.roots (by rw [F.trim]; exact F.valid)).mono ?_
  rintro e w3 ⟨Ap, np, cp, rfl, rp, b3⟩
  rw [F.trim] at rp
  have hnp : np = n + 1 := by rw [← rp.len, F.len]
  subst hnp
  have K3 : Hid (Keep w (w3.alloc (.cells #[.slice Ap (n + 1) cp] 28)) A0 n0 c0 v0 A1 n1 c1 v1 Az n cz zs w3.heap.size Ap (n + 1) cp (F.P n)) :=
    ⟨bthen (bthen B2.out b3) (al1 w3 _), H0.out.in_ (bthen (bthen B2.out b3) (al1 w3 _)), H1.out.in_ (bthen (bthen B2.out b3) (al1 w3 _)), RZ.out.in_' (bthen b3 (al1 w3 _)), rp.in_' (al1 w3 _), Blk.new w3 _ _⟩
  clear rp b3 B2 RZ H0 H1
  go_wp2_with fail
  refine (within_any Ap (n + 1) cp (F.P n) F.ls F.qs F.mo F.L F.r _ K3.out.rp F.valid (by omega) F.within_).mono ?_
  rintro e w4 ⟨rfl, b4⟩
  have K4 := Lib.hid (K3.out.step b4)
  have cb4 := K4.out.box.cell0
  clear b4 K3
  generalize w3.heap.size = b7 at K4 cb4 ⊢
  obtain ⟨bp, op, rfl, hbp, hcp⟩ := K4.out.rp.at_ (by omega)
  have hlp := hcp n (by omega)
  unfold cx at hlp
  have hd1 := F.lead1
  have hd2 := F.lead2
  clear hcp
  generalize (F.P n).getD n (0, 0) = y at hlp hd1 hd2
  have hi1 : (0 : Int) ≤ (n : Int) := by omega
  have hi2 : (n : Int) < (n : Int) + 1 := by omega
  go_wp2_with fail
  clear hlp hd1 hd2 hi1 hi2 cb4
  go_loopg [11, 12] n (fun g s11 s12 wr => ∃ i : Nat, i ≤ n ∧ n - i ≤ g ∧ s12 = .int .i64 i ∧ s11 = .float .f64 (F.le i) ∧ Keep w wr A0 n0 c0 v0 A1 n1 c1 v1 Az n cz zs b7 (some ⟨bp, op, none⟩) (n + 1) cp (F.P n))
  case atStart => exact ⟨0, by omega, by omega, rfl, by rw [F.le0], K4.out⟩
  case round =>
    clear K4 hbp
    obtain ⟨i, hi, hg, rfl, rfl, hK⟩ := hrel
    have K := Lib.hid hK
    have cb := hK.box.cell0
    clear hK
    by_cases hlt : i < n
    · have hltz : (i : Int) < (n : Int) := by omega
      have hlz0 : (0 : Int) ≤ (i : Int) := by omega
      obtain ⟨bz, oz, rfl, hbz, hcz⟩ := K.out.rz.at_ (by omega)
      have hx := hcz i hlt
      unfold cx at hx
      clear hcz
      have hB := F.bound i hlt
      have hS := F.size i hlt
      have HDz := Lib.hid (HD.out i hlt)
      generalize zs.getD i (0, 0) = z at hx hB hS HDz
      have HPA := Lib.hid (fun W H => polyAt_any (some ⟨bp, op, none⟩) (n + 1) cp (F.P n) z (F.vs i) (F.ms i) W H F.valid (drawn_num HDz.out) hB.horner (F.num0 i hlt))
      have HBA := Lib.hid (fun W H => bound_any (some ⟨bp, op, none⟩) (n + 1) cp (F.P n) z (F.vs i) (F.ms i) (F.lv i) (F.fm i) (F.es i) (F.lz i) (F.ba i) (F.bb i) (F.bd i) (F.rb i) W H F.valid (drawn_num HDz.out) hB)
      have HSZ := Lib.hid (fun W H => size_any (some ⟨bp, op, none⟩) (n + 1) cp (F.P n) z (F.l1 i) (F.ww i) (F.pm i) (F.ss i) (F.l1z i) (F.xz i) W H (by omega) hS)
      have HLZ := Lib.hid (fun W => long_any z (F.lz i) W hB.hz)
      have HFA := Lib.hid (fun W => far_any (F.vs i 0) (0, 0) (F.far i) W (F.hfar i hlt))
      have eon : ∀ w, (binOp .add 35 (.float .f64 4607182418800017408) (.float .f64 (F.ss i 0))).run Try.prog w = .ok (.float .f64 (F.on i)) w := runOp 35 (F.hon i hlt)
      have emil : ∀ w, (binOp .mul 35 (.float .f64 4562254508917369340) (.float .f64 (F.on i))).run Try.prog w = .ok (.float .f64 (F.mil i)) w := runOp 35 (F.hmil i hlt)
      have erb := run64 (F.hrb i hlt)
      have elz := run64 (F.hlz i hlt)
      have ewr := run64 F.cw
      have ewj : ∀ w, (binOp .add 35 (.float .f64 F.wr) (.float .f64 4562254508917369340)).run Try.prog w = .ok (.float .f64 F.wj) w := runOp 35 F.addw
      have emn := run_min #[35, 35] 35 (F.leN i (by omega)) (F.lzN i hlt)
      have t1 := F.neg i hlt
      have t2 := F.farok i hlt
      have t3 := F.rbok i hlt
      have t4 := F.lzok i hlt
      have hle := Lib.hid (F.leS i hlt)
      clear hB hS
      generalize F.vs i 0 = v at HPA HFA
      have K4 := K
      have K4le : wr.heap.size ≤ wr.heap.size := Nat.le_refl _
      have cb4 := cb
      have hx4 := hx
      clear K cb hx
      go_wp2_with fail
      go_region_held3 (fun wx => wx.cell? ⟨b7, 0, none⟩ = some (.slice (some ⟨bp, op, none⟩) (n + 1) cp) ∧ wx.cell? ⟨bz, oz + i, none⟩ = some (.complex .f32 z.1 z.2)) (first | exact ⟨cb4, hx4⟩ | go_keep)
        (first | (go_at_call 11; refine (HPA.out _ (K4.out.step (Below.drew (Below.refl _ _))).rp).mono ?_; rintro e w5 ⟨rfl, b5⟩; have K5 := Lib.hid ((K4.out.step (Below.drew (Below.refl _ _))).step b5); have cb5 := K5.out.box.cell0; have hx5 := (Below.cell (Below.trans (Below.drew (Below.refl _ _)) b5) (Nat.lt_of_lt_of_le hbz K4le)).trans hx4; have K5le := Nat.le_trans K4le (Below.trans (Below.drew (Below.refl _ _)) b5).size; clear b5))
      go_wp2_with fail
      go_region_held3 (fun wx => wx.cell? ⟨b7, 0, none⟩ = some (.slice (some ⟨bp, op, none⟩) (n + 1) cp) ∧ wx.cell? ⟨bz, oz + i, none⟩ = some (.complex .f32 z.1 z.2)) (first | exact ⟨cb5, hx5⟩ | go_keep)
        (first | (go_at_call 12; refine (HBA.out _ (K5.out.step (Below.drew (Below.refl _ _))).rp).mono ?_; rintro e w6 ⟨rfl, b6⟩; have K6 := Lib.hid ((K5.out.step (Below.drew (Below.refl _ _))).step b6); have cb6 := K6.out.box.cell0; have hx6 := (Below.cell (Below.trans (Below.drew (Below.refl _ _)) b6) (Nat.lt_of_lt_of_le hbz K5le)).trans hx5; have K6le := Nat.le_trans K5le (Below.trans (Below.drew (Below.refl _ _)) b6).size; clear b6))
      go_wp2_with fail
      go_region_held3 (fun wx => wx.cell? ⟨b7, 0, none⟩ = some (.slice (some ⟨bp, op, none⟩) (n + 1) cp) ∧ wx.cell? ⟨bz, oz + i, none⟩ = some (.complex .f32 z.1 z.2)) (first | exact ⟨cb6, hx6⟩ | go_keep)
        (first | (go_at_call 13; refine (HSZ.out _ (K6.out.step (Below.drew (Below.refl _ _))).rp).mono ?_; rintro e w7 ⟨rfl, b7⟩; have K7 := Lib.hid ((K6.out.step (Below.drew (Below.refl _ _))).step b7); have cb7 := K7.out.box.cell0; have hx7 := (Below.cell (Below.trans (Below.drew (Below.refl _ _)) b7) (Nat.lt_of_lt_of_le hbz K6le)).trans hx6; have K7le := Nat.le_trans K6le (Below.trans (Below.drew (Below.refl _ _)) b7).size; clear b7))
      clear HPA HBA HSZ cb4 hx4 cb5 hx5 cb6 hx6 K4 K5 K6
      go_wp2_with (first | (go_at_call 14; refine (HFA.out _).mono ?_; rintro e w' ⟨rfl, rfl⟩) | (go_at_call 15; refine (HLZ.out _).mono ?_; rintro e w' ⟨rfl, rfl⟩) | rw [eon] | rw [emil] | rw [erb] | rw [elz] | rw [ewr] | rw [ewj] | (at_builtin; rw [emn]))
      go_roundg (n - (i + 1))
      case measure => omega
      case rel => exact ⟨i + 1, by omega, by omega, by go_num, by rw [hle.out], K7.out⟩
    · have hltz : ¬ (i : Int) < (n : Int) := by omega
      obtain rfl : i = n := by omega
      obtain ⟨_, _, e0, hbp, hcp⟩ := K.out.rp.at_ (by omega)
      cases e0
      have hp0 := Lib.hid (fun W (hb : Below wr.heap.size wr W) => (hb.cell (p := ⟨bp, op + 0, none⟩) hbp).trans (hcp 0 (by omega)))
      clear hcp
      have hi0 : (0 : Int) < (i : Int) + 1 := by omega
      have HB := Lib.hid F.beyond
      have HS := Lib.hid F.same
      have HZW := Lib.hid (fun W H h => beyond_zero (some ⟨bp, op, none⟩) (i + 1) cp (F.P i) W H F.valid h)
      have HBW := Lib.hid (fun ls qs mo L r0 r W H h h2 hw hq hr => beyond_any (some ⟨bp, op, none⟩) (i + 1) cp (F.P i) ls qs mo L r0 r W H F.valid h F.back h2 hw hq hr)
      unfold cx at hp0
      simp only [Nat.add_zero] at hp0
      generalize hy : (F.P i).getD 0 (0, 0) = y at hp0 HB HS HZW HBW
      have HY := Lib.hid hy
      clear hy
      cases hz0 : isZ y
      · obtain ⟨ls, qs, mo, L, r0, r, rw64, sb, g1, g2, g3, g4, g5, g6, g7⟩ := HB.out hz0
        have e1 := run64 g5
        have e2 : ∀ w, (binOp .add 35 (.float .f64 (F.le i)) (.float .f64 4562254508917369340)).run Try.prog w = .ok (.float .f64 sb) w := runOp 35 g6
        have hz1 := hz0
        unfold isZ at hz1
        have HW := Lib.hid (fun W H => HBW.out ls qs mo L r0 r W H hz0 g1 g2 g3 g4)
        have HSM := Lib.hid (HS.out hz0)
        clear HB HS HZW HBW g1 g2 g3 g4 g5 g6 hz0
        go_wp2_with (first | (go_at_call 16; refine (HW.out _ K.out.rp).mono ?_; rintro e w8 ⟨rfl, b8⟩; have K8 := Lib.hid (K.out.step b8); have cb8 := K8.out.box.cell0; have hy8 := hp0.out w8 b8; clear b8) | rw [e1] | rw [e2])
        refine (at_any A1 n1 c1 v1 41 8 _ K8.out.more HV1.out (by omega) (by omega) (by omega)).mono ?_
        rintro e w8' ⟨x2, rfl, hx0, hx1, rfl⟩
        obtain ⟨m, hm⟩ : ∃ m : Nat, (1 : Int) + x2 = (m : Int) := ⟨(1 + x2).toNat, by omega⟩
        have hm8 : m ≤ 8 := by omega
        go_wp2_with fail
        clear hm hx0 hx1
        refine (many_any A1 n1 c1 v1 m _ K8.out.more hl1 HV1.out (by omega)).mono ?_
        rintro e w9 ⟨Aq, cq, zq, rfl, rq, hdq, b9⟩
        have K9 := Lib.hid (K8.out.step b9)
        have cb9 := K9.out.box.cell0
        have hlq := rq.len
        obtain ⟨vs, ms, hvm⟩ := points_choice (F.P i) zq m (fun k hk => F.points _ (hdq k hk))
        have HVM := Lib.hid hvm
        obtain ⟨os, hos⟩ : ∃ os, os = ((List.range m).map fun k => vs k 0) := ⟨_, rfl⟩
        have hol : os.length = m := by rw [hos]; simp
        have hog : ∀ k, k < m → vs k 0 = os.getD k (0, 0) := fun k hk => by rw [hos, vals_getD vs m k hk]
        have hon : AllNum os := fun k hk => by rw [← hog k (by omega)]; exact (hvm k (by omega)).2
        have hzq : AllNum zq := fun k hk => drawn_num (hdq k (by omega))
        have HPP := Lib.hid (fun W H H1 => points_any (some ⟨bp, op, none⟩) (i + 1) cp (F.P i) Aq m cq zq os vs ms W H H1 F.valid (by omega) hzq hol hon (fun k hk => (hvm k hk).1) hog)
        have HSP := Lib.hid (fun x W H H1 h1 h8 => shared_any (some ⟨bp, op, none⟩) (i + 1) cp (F.P i) Aq m cq zq os vs ms x W H H1 F.valid (by omega) hzq hol hon (fun k hk => (hvm k hk).1) hog h1 h8)
        have HOG := Lib.hid hog
        have RQ := Lib.hid rq
        have HDQ := Lib.hid hdq
        clear b9 hvm hos hol hog hon hzq rq hdq hlq K8 cb8 hy8
        go_wp2_with fail
        refine (HPP.out _ K9.out.rp RQ.out).mono ?_
        rintro e w10 ⟨Av, cv, rfl, rv, b10⟩
        have K10 := Lib.hid (K9.out.step b10)
        have cb10 := K10.out.box.cell0
        have RQ10 := Lib.hid (RQ.out.in_' b10)
        have RV := Lib.hid rv
        clear b10 rv HPP K9 cb9 RQ
        go_wp2_with fail
        go_region_held3 (fun wx => wx.cell? ⟨b7, 0, none⟩ = some (.slice (some ⟨bp, op, none⟩) (i + 1) cp)) (first | exact cb10 | go_keep)
          (first
            | (go_at_call 7; refine (at_any A1 n1 c1 v1 42 8 _ (K10.out.step (Below.drew (Below.refl _ _))).more HV1.out (by omega) (by omega) (by omega)).mono ?_; rintro e w10' ⟨x3, rfl, hx30, hx31, rfl⟩; have hwr : IntKind.i64.wrap (1 + x3) = 1 + x3 := IntWalk.i64_in _ (by omega))
            | (go_at_call 18; refine (HSP.out _ _ (K10.out.step (Below.drew (Below.refl _ _))).rp (RQ10.out.in_' (Below.drew (Below.refl _ _))) (by omega) (by omega)).mono ?_; rintro e w11 ⟨As, cs, rfl, rs, b11⟩; have B11 := Below.trans (Below.drew (Below.refl _ _)) b11; have K11 := Lib.hid (K10.out.step B11); have cb11 := K11.out.box.cell0; have RQ11 := Lib.hid (RQ10.out.in_' B11); have RV11 := Lib.hid (RV.out.in_' B11); have RS11 := Lib.hid rs; clear b11 B11 rs))
        clear HSP K10 cb10 RQ10 RV
        go_wp2_with fail
        refine (degree_any (some ⟨bp, op, none⟩) (i + 1) cp (F.P i) _ K11.out.rp F.valid (by omega)).mono ?_
        rintro e w12 ⟨rfl, b12⟩
        have K12 := Lib.hid (K11.out.step b12)
        have cb12 := K12.out.box.cell0
        have RQ12 := Lib.hid (RQ11.out.in_' b12)
        have RV12 := Lib.hid (RV11.out.in_' b12)
        have RS12 := Lib.hid (RS11.out.in_' b12)
        have hdeg : ((i + 1 : Nat) : Int) - 1 = (i : Int) := by omega
        clear b12 K11 cb11 RQ11 RV11 RS11
        rw [hdeg]
        go_wp2_with fail
        clear cb12
        go_loopg [27] m (fun g s27 wr => ∃ k : Nat, k ≤ m ∧ m - k ≤ g ∧ s27 = .int .i64 k ∧ Keep w wr A0 n0 c0 v0 A1 n1 c1 v1 Az i cz zs b7 (some ⟨bp, op, none⟩) (i + 1) cp (F.P i) ∧ CRd wr wr.heap.size Aq m cq zq ∧ CRd wr wr.heap.size Av m cv os ∧ CRd wr wr.heap.size As m cs os)
        case atStart => exact ⟨0, by omega, by omega, rfl, K12.out, RQ12.out, RV12.out, RS12.out⟩
        case round =>
          clear K12 RQ12 RV12 RS12
          obtain ⟨k, hk, hgk, rfl, hK, hq, hv, hs⟩ := hrel
          obtain ⟨wo, rfl⟩ : ∃ wo : World, wo = wr := ⟨_, rfl⟩
          have K13 := Lib.hid hK
          have cb13 := hK.box.cell0
          have RQ13 := Lib.hid hq
          have RV13 := Lib.hid hv
          have RS13 := Lib.hid hs
          clear hK hq hv hs
          by_cases hkm : k < m
          · have hkz : (k : Int) < (m : Int) := by omega
            have hk0 : (0 : Int) ≤ (k : Int) := by omega
            obtain ⟨bq, oq, rfl, hbq, hcq⟩ := RQ13.out.at_ (by omega)
            obtain ⟨bv, ov, rfl, hbv, hcv⟩ := RV13.out.at_ (by omega)
            obtain ⟨bs, os', rfl, hbs, hcs⟩ := RS13.out.at_ (by omega)
            have hxq := hcq k hkm
            have hxv := hcv k hkm
            have hxs := hcs k hkm
            rw [← HOG.out k hkm] at hxv hxs
            have hH := (HVM.out k hkm).1
            have hN := (HVM.out k hkm).2
            have HDk := Lib.hid (HDQ.out k hkm)
            unfold cx at hxq hxv hxs
            clear hcq hcv hcs
            generalize zq.getD k (0, 0) = z at hxq hH HDk
            have HPA := Lib.hid (fun W H => polyAt_any (some ⟨bp, op, none⟩) (i + 1) cp (F.P i) z (vs k) (ms k) W H F.valid (drawn_num HDk.out) hH hN)
            have t1 := (num_eq hN.1).2
            have t2 := (num_eq hN.2).2
            clear hH hN
            generalize vs k 0 = v at hxv hxs HPA t1 t2
            have HXV := Lib.hid hxv
            have HXS := Lib.hid hxs
            clear hxv hxs
            go_wp2_with fail
            go_region_held3 (fun wx => wx.cell? ⟨b7, 0, none⟩ = some (.slice (some ⟨bp, op, none⟩) (i + 1) cp) ∧ wx.cell? ⟨bq, oq + k, none⟩ = some (.complex .f32 z.1 z.2)) (first | exact ⟨cb13, hxq⟩ | go_keep)
              (first | (go_at_call 11; refine (HPA.out _ (K13.out.step (Below.drew (Below.refl _ _))).rp).mono ?_; rintro e w14 ⟨rfl, b14⟩; have B14 := Below.trans (Below.drew (Below.refl _ _)) b14; have K14 := Lib.hid (K13.out.step B14); have RQ14 := Lib.hid (RQ13.out.in_' B14); have RV14 := Lib.hid (RV13.out.in_' B14); have RS14 := Lib.hid (RS13.out.in_' B14); have hxv14 := (B14.cell hbv).trans HXV.out; have hxs14 := (B14.cell hbs).trans HXS.out; have cb14 := K14.out.box.cell0; have hxq14 := (B14.cell hbq).trans hxq; clear b14 B14))
            clear HPA cb13 hxq
            go_wp2_with fail
            go_roundg (m - (k + 1))
            case measure => omega
            case rel => exact ⟨k + 1, by omega, by omega, by go_num, K14.out, RQ14.out, RV14.out, RS14.out⟩
          · have hkz : ¬ (k : Int) < (m : Int) := by omega
            obtain rfl : k = m := by omega
            clear RQ13 RV13 RS13 HVM HOG HDQ
            go_wp2_with fail
            refine (backPoly_any (some ⟨bp, op, none⟩) (i + 1) cp (F.P i) _ K13.out.rp F.valid F.back).mono ?_
            rintro e w15 ⟨Ab, nb, cb', rfl, rb, b15⟩
            have K15 := Lib.hid (K13.out.step b15)
            have RB := Lib.hid rb
            clear b15 rb K13 cb13
            go_wp2_with fail
            refine (backPoly_any Ab nb cb' _ _ (RB.out.in_' (al1 w15 _)) F.back F.again).mono ?_
            rintro e w16 ⟨Ac, nc, cc, rfl, rc, b16⟩
            have K16 := Lib.hid (K15.out.step (bthen (al1 w15 _) b16))
            have RC := Lib.hid rc
            have cb16 := K16.out.box.cell0
            clear b16 rc K15 RB
            have HC16 := Lib.hid (Blk.new w16 28 #[.slice Ac nc cc])
            have cbA : ∀ o o', ((w16.alloc o).alloc o').cell? ⟨b7, 0, none⟩ = some (.slice (some ⟨bp, op, none⟩) (i + 1) cp) := fun o o' => cell_kept (al2 w16 o o') cb16
            have RC' : Hid (CRd w16 w16.heap.size Ac nc cc (F.P i)) := by
              show CRd _ _ _ _ _ _
              rw [← HSM.out]
              exact RC.out
            clear RC
            go_wp2_with (first
              | (at_builtin; refine wpList_append_crd rfl _ _ rfl (w16.heap.size + 1) _ _ _ [] rfl (cown_empty_at (w16.alloc (.cells #[.slice Ac nc cc] 28)) (by simp)) _ _ _ _ (F.P i) rfl (K16.out.rp.in_' (al2 w16 _ _)) (by omega) (by simp) ?_; intro A3 c3 w17 ho3 hg3; rw [Nat.zero_add, List.nil_append] at ho3; have B17 := Lib.hid (cbgrown (al1 (w16.alloc (.cells #[.slice Ac nc cc] 28)) (.cells #[] 34)) (cown_empty_at (w16.alloc (.cells #[.slice Ac nc cc] 28)) (by simp)) (by simp) hg3))
              | (at_builtin; refine wpList_append_crd rfl _ _ rfl (w16.heap.size + 1) A3 _ c3 _ rfl (ho3.alloc _) _ _ _ _ [(0, 0), (0, 0)] rfl (crd_lit w17 [(0, 0), (0, 0)] 34 2 rfl (by simp [maxLen])) (by omega) (by have := B17.out.size; simp at this ⊢; omega) ?_; intro A4 c4 w18 ho4 hg4; have B18 := Lib.hid (cbgrown (B17.out.alloc B17.out.size _) (ho3.alloc _) (by simp) hg4)))
            have hn4 : (i + 1 + 2) ≤ 256 := by omega
            refine (polyOfC_any A4 (i + 1 + 2) c4 (F.P i ++ [(0, 0), (0, 0)]) _ (COwn.rd ho4) (by omega) hn4 (by rw [F.made]; exact F.valid)).mono ?_
            rintro e w19 ⟨A5, n5, c5, rfl, r5, b19⟩
            rw [F.made] at r5
            have B19 := Lib.hid (bthen (bthen (al1 w16 _) B18.out) b19)
            have K19 := Lib.hid (K16.out.step B19.out)
            have cb19 := K19.out.box.cell0
            have H32 := Lib.hid (Blk.kept HC16.out (bthen B18.out b19))
            have R5 := Lib.hid r5
            have RC19 := Lib.hid (RC'.out.in_' B19.out)
            have HSP := Lib.hid (fun W H H1 => samePoly_any A5 n5 c5 (some ⟨bp, op, none⟩) (i + 1) cp (F.P i) W H H1 F.wide)
            have HSQ := Lib.hid (fun W H H1 => samePoly_any Ac nc cc (some ⟨bp, op, none⟩) (i + 1) cp (F.P i) W H H1 F.wide)
            have cb19a : ∀ o, (w19.alloc o).cell? ⟨b7, 0, none⟩ = some (.slice (some ⟨bp, op, none⟩) (i + 1) cp) := fun o => cell_kept (al1 w19 o) cb19
            have hy19 : ∀ o, (w19.alloc o).cell? ⟨bp, op, none⟩ = some (.complex .f32 y.1 y.2) := by
              intro o
              have h := first_cell (K19.out.step (al1 w19 o)).rp (by omega)
              rw [HY.out] at h
              exact h
            clear ho4 ho3 hg3 hg4 B18 B17 r5 b19 cbA cb16 HC16 RC' K16 cb19
            go_wp2_with (first
              | (go_at_call_of 22 (Value.agg #[Value.slice A5 n5 c5]); refine (HSP.out _ (R5.out.in_' (al1 w19 _)) (K19.out.step (al1 w19 _)).rp).mono ?_; rintro e w20 ⟨rfl, b20⟩; have B20 := Lib.hid (bthen (al1 w19 _) b20); have K20 := Lib.hid (K19.out.step B20.out); have cb20 := K20.out.box.cell0; have c32 := (Blk.kept H32.out B20.out).cell0; have RC20 := Lib.hid (RC19.out.in_' B20.out); have hy20 : w20.cell? ⟨bp, op, none⟩ = some (.complex .f32 y.1 y.2) := (by have h := first_cell K20.out.rp (by omega); rw [HY.out] at h; exact h); clear b20)
              | (go_at_call_of 22 (Value.agg #[Value.slice Ac nc cc]); refine (HSQ.out _ RC20.out K20.out.rp).mono ?_; rintro e w21 ⟨rfl, b21⟩; have K21 := Lib.hid (K20.out.step b21); clear b21))
            go_ret
            exact ⟨rfl, K21.out.below⟩
      · have hz1 := hz0
        unfold isZ at hz1
        have HW := Lib.hid (fun W H => HZW.out W H hz0)
        clear HB HS HZW HBW hz0
        go_wp2_with (go_at_call 16; refine (HW.out _ K.out.rp).mono ?_; rintro e w8 ⟨rfl, b8⟩; have K8 := Lib.hid (K.out.step b8); have cb8 := K8.out.box.cell0; have hy8 := hp0.out w8 b8; clear b8)
        refine (at_any A1 n1 c1 v1 41 8 _ K8.out.more HV1.out (by omega) (by omega) (by omega)).mono ?_
        rintro e w8' ⟨x2, rfl, hx0, hx1, rfl⟩
        obtain ⟨m, hm⟩ : ∃ m : Nat, (1 : Int) + x2 = (m : Int) := ⟨(1 + x2).toNat, by omega⟩
        have hm8 : m ≤ 8 := by omega
        go_wp2_with fail
        clear hm hx0 hx1
        refine (many_any A1 n1 c1 v1 m _ K8.out.more hl1 HV1.out (by omega)).mono ?_
        rintro e w9 ⟨Aq, cq, zq, rfl, rq, hdq, b9⟩
        have K9 := Lib.hid (K8.out.step b9)
        have cb9 := K9.out.box.cell0
        have hlq := rq.len
        obtain ⟨vs, ms, hvm⟩ := points_choice (F.P i) zq m (fun k hk => F.points _ (hdq k hk))
        have HVM := Lib.hid hvm
        obtain ⟨os, hos⟩ : ∃ os, os = ((List.range m).map fun k => vs k 0) := ⟨_, rfl⟩
        have hol : os.length = m := by rw [hos]; simp
        have hog : ∀ k, k < m → vs k 0 = os.getD k (0, 0) := fun k hk => by rw [hos, vals_getD vs m k hk]
        have hon : AllNum os := fun k hk => by rw [← hog k (by omega)]; exact (hvm k (by omega)).2
        have hzq : AllNum zq := fun k hk => drawn_num (hdq k (by omega))
        have HPP := Lib.hid (fun W H H1 => points_any (some ⟨bp, op, none⟩) (i + 1) cp (F.P i) Aq m cq zq os vs ms W H H1 F.valid (by omega) hzq hol hon (fun k hk => (hvm k hk).1) hog)
        have HSP := Lib.hid (fun x W H H1 h1 h8 => shared_any (some ⟨bp, op, none⟩) (i + 1) cp (F.P i) Aq m cq zq os vs ms x W H H1 F.valid (by omega) hzq hol hon (fun k hk => (hvm k hk).1) hog h1 h8)
        have HOG := Lib.hid hog
        have RQ := Lib.hid rq
        have HDQ := Lib.hid hdq
        clear b9 hvm hos hol hog hon hzq rq hdq hlq K8 cb8 hy8
        go_wp2_with fail
        refine (HPP.out _ K9.out.rp RQ.out).mono ?_
        rintro e w10 ⟨Av, cv, rfl, rv, b10⟩
        have K10 := Lib.hid (K9.out.step b10)
        have cb10 := K10.out.box.cell0
        have RQ10 := Lib.hid (RQ.out.in_' b10)
        have RV := Lib.hid rv
        clear b10 rv HPP K9 cb9 RQ
        go_wp2_with fail
        go_region_held3 (fun wx => wx.cell? ⟨b7, 0, none⟩ = some (.slice (some ⟨bp, op, none⟩) (i + 1) cp)) (first | exact cb10 | go_keep)
          (first
            | (go_at_call 7; refine (at_any A1 n1 c1 v1 42 8 _ (K10.out.step (Below.drew (Below.refl _ _))).more HV1.out (by omega) (by omega) (by omega)).mono ?_; rintro e w10' ⟨x3, rfl, hx30, hx31, rfl⟩; have hwr : IntKind.i64.wrap (1 + x3) = 1 + x3 := IntWalk.i64_in _ (by omega))
            | (go_at_call 18; refine (HSP.out _ _ (K10.out.step (Below.drew (Below.refl _ _))).rp (RQ10.out.in_' (Below.drew (Below.refl _ _))) (by omega) (by omega)).mono ?_; rintro e w11 ⟨As, cs, rfl, rs, b11⟩; have B11 := Below.trans (Below.drew (Below.refl _ _)) b11; have K11 := Lib.hid (K10.out.step B11); have cb11 := K11.out.box.cell0; have RQ11 := Lib.hid (RQ10.out.in_' B11); have RV11 := Lib.hid (RV.out.in_' B11); have RS11 := Lib.hid rs; clear b11 B11 rs))
        clear HSP K10 cb10 RQ10 RV
        go_wp2_with fail
        refine (degree_any (some ⟨bp, op, none⟩) (i + 1) cp (F.P i) _ K11.out.rp F.valid (by omega)).mono ?_
        rintro e w12 ⟨rfl, b12⟩
        have K12 := Lib.hid (K11.out.step b12)
        have cb12 := K12.out.box.cell0
        have RQ12 := Lib.hid (RQ11.out.in_' b12)
        have RV12 := Lib.hid (RV11.out.in_' b12)
        have RS12 := Lib.hid (RS11.out.in_' b12)
        have hdeg : ((i + 1 : Nat) : Int) - 1 = (i : Int) := by omega
        clear b12 K11 cb11 RQ11 RV11 RS11
        rw [hdeg]
        go_wp2_with fail
        clear cb12
        go_loopg [27] m (fun g s27 wr => ∃ k : Nat, k ≤ m ∧ m - k ≤ g ∧ s27 = .int .i64 k ∧ Keep w wr A0 n0 c0 v0 A1 n1 c1 v1 Az i cz zs b7 (some ⟨bp, op, none⟩) (i + 1) cp (F.P i) ∧ CRd wr wr.heap.size Aq m cq zq ∧ CRd wr wr.heap.size Av m cv os ∧ CRd wr wr.heap.size As m cs os)
        case atStart => exact ⟨0, by omega, by omega, rfl, K12.out, RQ12.out, RV12.out, RS12.out⟩
        case round =>
          clear K12 RQ12 RV12 RS12
          obtain ⟨k, hk, hgk, rfl, hK, hq, hv, hs⟩ := hrel
          obtain ⟨wo, rfl⟩ : ∃ wo : World, wo = wr := ⟨_, rfl⟩
          have K13 := Lib.hid hK
          have cb13 := hK.box.cell0
          have RQ13 := Lib.hid hq
          have RV13 := Lib.hid hv
          have RS13 := Lib.hid hs
          clear hK hq hv hs
          by_cases hkm : k < m
          · have hkz : (k : Int) < (m : Int) := by omega
            have hk0 : (0 : Int) ≤ (k : Int) := by omega
            obtain ⟨bq, oq, rfl, hbq, hcq⟩ := RQ13.out.at_ (by omega)
            obtain ⟨bv, ov, rfl, hbv, hcv⟩ := RV13.out.at_ (by omega)
            obtain ⟨bs, os', rfl, hbs, hcs⟩ := RS13.out.at_ (by omega)
            have hxq := hcq k hkm
            have hxv := hcv k hkm
            have hxs := hcs k hkm
            rw [← HOG.out k hkm] at hxv hxs
            have hH := (HVM.out k hkm).1
            have hN := (HVM.out k hkm).2
            have HDk := Lib.hid (HDQ.out k hkm)
            unfold cx at hxq hxv hxs
            clear hcq hcv hcs
            generalize zq.getD k (0, 0) = z at hxq hH HDk
            have HPA := Lib.hid (fun W H => polyAt_any (some ⟨bp, op, none⟩) (i + 1) cp (F.P i) z (vs k) (ms k) W H F.valid (drawn_num HDk.out) hH hN)
            have t1 := (num_eq hN.1).2
            have t2 := (num_eq hN.2).2
            clear hH hN
            generalize vs k 0 = v at hxv hxs HPA t1 t2
            have HXV := Lib.hid hxv
            have HXS := Lib.hid hxs
            clear hxv hxs
            go_wp2_with fail
            go_region_held3 (fun wx => wx.cell? ⟨b7, 0, none⟩ = some (.slice (some ⟨bp, op, none⟩) (i + 1) cp) ∧ wx.cell? ⟨bq, oq + k, none⟩ = some (.complex .f32 z.1 z.2)) (first | exact ⟨cb13, hxq⟩ | go_keep)
              (first | (go_at_call 11; refine (HPA.out _ (K13.out.step (Below.drew (Below.refl _ _))).rp).mono ?_; rintro e w14 ⟨rfl, b14⟩; have B14 := Below.trans (Below.drew (Below.refl _ _)) b14; have K14 := Lib.hid (K13.out.step B14); have RQ14 := Lib.hid (RQ13.out.in_' B14); have RV14 := Lib.hid (RV13.out.in_' B14); have RS14 := Lib.hid (RS13.out.in_' B14); have hxv14 := (B14.cell hbv).trans HXV.out; have hxs14 := (B14.cell hbs).trans HXS.out; have cb14 := K14.out.box.cell0; have hxq14 := (B14.cell hbq).trans hxq; clear b14 B14))
            clear HPA cb13 hxq
            go_wp2_with fail
            go_roundg (m - (k + 1))
            case measure => omega
            case rel => exact ⟨k + 1, by omega, by omega, by go_num, K14.out, RQ14.out, RV14.out, RS14.out⟩
          · have hkz : ¬ (k : Int) < (m : Int) := by omega
            obtain rfl : k = m := by omega
            clear RQ13 RV13 RS13 HVM HOG HDQ
            go_wp2_with fail
            refine (backPoly_any (some ⟨bp, op, none⟩) (i + 1) cp (F.P i) _ K13.out.rp F.valid F.back).mono ?_
            rintro e w15 ⟨Ab, nb, cb', rfl, rb, b15⟩
            have K15 := Lib.hid (K13.out.step b15)
            have RB := Lib.hid rb
            clear b15 rb K13 cb13
            go_wp2_with fail
            refine (backPoly_any Ab nb cb' _ _ (RB.out.in_' (al1 w15 _)) F.back F.again).mono ?_
            rintro e w16 ⟨Ac, nc, cc, rfl, rc, b16⟩
            have K16 := Lib.hid (K15.out.step (bthen (al1 w15 _) b16))
            have RC := Lib.hid rc
            have cb16 := K16.out.box.cell0
            clear b16 rc K15 RB
            have HC16 := Lib.hid (Blk.new w16 28 #[.slice Ac nc cc])
            have cbA : ∀ o o', ((w16.alloc o).alloc o').cell? ⟨b7, 0, none⟩ = some (.slice (some ⟨bp, op, none⟩) (i + 1) cp) := fun o o' => cell_kept (al2 w16 o o') cb16
            clear RC
            go_wp2_with (first
              | (at_builtin; refine wpList_append_crd rfl _ _ rfl (w16.heap.size + 1) _ _ _ [] rfl (cown_empty_at (w16.alloc (.cells #[.slice Ac nc cc] 28)) (by simp)) _ _ _ _ (F.P i) rfl (K16.out.rp.in_' (al2 w16 _ _)) (by omega) (by simp) ?_; intro A3 c3 w17 ho3 hg3; rw [Nat.zero_add, List.nil_append] at ho3; have B17 := Lib.hid (cbgrown (al1 (w16.alloc (.cells #[.slice Ac nc cc] 28)) (.cells #[] 34)) (cown_empty_at (w16.alloc (.cells #[.slice Ac nc cc] 28)) (by simp)) (by simp) hg3))
              | (at_builtin; refine wpList_append_crd rfl _ _ rfl (w16.heap.size + 1) A3 _ c3 _ rfl (ho3.alloc _) _ _ _ _ [(0, 0), (0, 0)] rfl (crd_lit w17 [(0, 0), (0, 0)] 34 2 rfl (by simp [maxLen])) (by omega) (by have := B17.out.size; simp at this ⊢; omega) ?_; intro A4 c4 w18 ho4 hg4; have B18 := Lib.hid (cbgrown (B17.out.alloc B17.out.size _) (ho3.alloc _) (by simp) hg4)))
            have hn4 : (i + 1 + 2) ≤ 256 := by omega
            refine (polyOfC_any A4 (i + 1 + 2) c4 (F.P i ++ [(0, 0), (0, 0)]) _ (COwn.rd ho4) (by omega) hn4 (by rw [F.made]; exact F.valid)).mono ?_
            rintro e w19 ⟨A5, n5, c5, rfl, r5, b19⟩
            rw [F.made] at r5
            have B19 := Lib.hid (bthen (bthen (al1 w16 _) B18.out) b19)
            have K19 := Lib.hid (K16.out.step B19.out)
            have cb19 := K19.out.box.cell0
            have H32 := Lib.hid (Blk.kept HC16.out (bthen B18.out b19))
            have R5 := Lib.hid r5
            have HSP := Lib.hid (fun W H H1 => samePoly_any A5 n5 c5 (some ⟨bp, op, none⟩) (i + 1) cp (F.P i) W H H1 F.wide)
            have cb19a : ∀ o, (w19.alloc o).cell? ⟨b7, 0, none⟩ = some (.slice (some ⟨bp, op, none⟩) (i + 1) cp) := fun o => cell_kept (al1 w19 o) cb19
            have hy19 : ∀ o, (w19.alloc o).cell? ⟨bp, op, none⟩ = some (.complex .f32 y.1 y.2) := by
              intro o
              have h := first_cell (K19.out.step (al1 w19 o)).rp (by omega)
              rw [HY.out] at h
              exact h
            clear ho4 ho3 hg3 hg4 B18 B17 r5 b19 cbA cb16 HC16 K16 cb19
            go_wp2_with (first
              | (go_at_call_of 22 (Value.agg #[Value.slice A5 n5 c5]); refine (HSP.out _ (R5.out.in_' (al1 w19 _)) (K19.out.step (al1 w19 _)).rp).mono ?_; rintro e w20 ⟨rfl, b20⟩; have B20 := Lib.hid (bthen (al1 w19 _) b20); have K20 := Lib.hid (K19.out.step B20.out); have cb20 := K20.out.box.cell0; have c32 := (Blk.kept H32.out B20.out).cell0; have hy20 : w20.cell? ⟨bp, op, none⟩ = some (.complex .f32 y.1 y.2) := (by have h := first_cell K20.out.rp (by omega); rw [HY.out] at h; exact h); clear b20))
            go_ret
            exact ⟨rfl, K20.out.below⟩
end Go.Proofs.Ytfbekiphlaaieaa
