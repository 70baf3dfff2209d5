/- Walks: sameness of numbers, and the reference's made, Norm, Sign, Of, Mul for whole numbers. -/
import Derived.Test.YtnjbpkopekgihaaC4
import Derived.Test.YtnjbpkopekgihaaE1
namespace Go.Proofs.Ytnjbpkopekgihaa
open Go.RowKit Go.Proofs.YtnjbpkopekgihaaW.PrintWords
set_option linter.unusedVariables false
set_option linter.unusedSimpArgs false
set_option maxHeartbeats 2000000 in
set_option maxRecDepth 100000 in
theorem samenat_any (va vb : Value) (xs : List Int) (w : World) (ha : Arg w va xs) (hb : Arg w vb xs) :
    Calls Try.prog 84 #[va, vb] w fun e w' => e = .returned (.bool true) ∧ Drawn0 w w' := by
  obtain ⟨⟨A, ca, rfl, hca, hra⟩, hla⟩ := ha
  obtain ⟨⟨B, cb, rfl, hcb, hrb⟩, hlb⟩ := hb
  have HRA := Aside0.mk hra
  have HRB := Aside0.mk hrb
  have hna := hra.2.1
  clear hra hrb hla hlb
  go_enter Try.func84, Try.ntmps84
  go_wp2
  go_loopw [5] (fun i wr => ∃ k : Nat, i = .int .i64 (k : Int) ∧ k ≤ xs.length ∧ Drawn0 w wr) (fun i _ => xs.length - (intOf i).toNat)
  case atStart => exact ⟨0, rfl, Nat.zero_le _, Drawn0.refl _⟩
  case round =>
    obtain ⟨k, rfl, hk, hw⟩ := hrel
    obtain ⟨nd, rfl⟩ := hw.out
    by_cases hlt : k < xs.length
    · obtain ⟨ad1, rfl, hcell1⟩ := reads_nat HRA.out k hlt
      obtain ⟨ad2, rfl, hcell2⟩ := reads_nat HRB.out k hlt
      have hb2 : (at_ xs k != at_ xs k) = false := bne_eq_false_iff_eq.2 rfl
      go_wp2
      go_quiet (fail)
      go_wp2
      go_roundw
      case rel => exact ⟨k + 1, by go_num, by omega, (by first | exact ⟨_, rfl⟩ | exact Drawn0.step hw _)⟩
      case measure => simp [intOf]; omega
    · obtain rfl : k = xs.length := by omega
      go_wp2
      go_ret
      exact ⟨rfl, ⟨_, rfl⟩⟩
theorem drawn_below {w w' : World} (h : Drawn0 w w') : Below w.heap.size w w' := Drawn0.below h
set_option maxHeartbeats 2000000 in
set_option maxRecDepth 100000 in
theorem sameint_any (x y : Value) (z : Int) (B1 B2 : Nat) (w : World) (hx : IRes B1 w x z) (hy : IRes B2 w y z) :
    Calls Try.prog 54 #[x, y] w fun e w' => e = .returned (.bool true) ∧ Below w.heap.size w w' := by
  obtain ⟨v1, rfl, hr1⟩ := hx.form
  obtain ⟨v2, rfl, hr2⟩ := hy.form
  generalize decide (z < 0) = b at *
  obtain ⟨W0, hW0, hb1, hb2, hB0, hsz0⟩ := boxes2 w b b v1 v2
  have HA1 := Aside0.mk (hr1.arg.below hB0)
  have HA2 := Aside0.mk (hr2.arg.below hB0)
  have HB0 := Aside0.mk hB0
  have HSZ := Aside0.mk hsz0
  have HW := Aside0.mk hW0
  clear hx hy hr1 hr2 hb1 hb2 hB0 hsz0 hW0
  have hbb : (b == b) = true := beq_self_eq_true b
  go_enter Try.func54, Try.ntmps54
  go_wp2_with fail
  rw [← HW.out]
  refine (samenat_any _ _ _ _ HA1.out HA2.out).mono ?_
  rintro e w' ⟨rfl, hd⟩
  have HD := Aside0.mk (drawn_below hd)
  clear hd
  go_wp2
  go_ret
  have h0 := HSZ.out
  exact ⟨rfl, below_then HB0.out (by omega) HD.out⟩
set_option maxHeartbeats 2000000 in
set_option maxRecDepth 100000 in
theorem same_any (x y : Value) (z : Int) (B1 B2 : Nat) (w : World) (hx : IRes B1 w x z) (hy : IRes B2 w y z) :
    Calls Try.prog 15 #[x, y] w fun e w' => e = .returned (.bool true) ∧ Below w.heap.size w w' := by
  obtain ⟨b1, A1, m1, c1, rfl⟩ := hx.shape
  obtain ⟨b2, A2, m2, c2, rfl⟩ := hy.shape
  obtain ⟨W0, hW0, hb1, hb2, hB0, hsz0⟩ := boxes2 w b1 b2 (.slice A1 m1 c1) (.slice A2 m2 c2)
  have HA1 := Aside0.mk (hx.below hB0)
  have HA2 := Aside0.mk (hy.below hB0)
  have HB0 := Aside0.mk hB0
  have HSZ := Aside0.mk hsz0
  have HW := Aside0.mk hW0
  clear hx hy hb1 hb2 hB0 hsz0 hW0
  go_enter Try.func15, Try.ntmps15
  go_wp2_with fail
  rw [← HW.out]
  refine (sameint_any _ _ _ _ _ _ HA1.out HA2.out).mono ?_
  rintro e w' ⟨rfl, hd⟩
  have HD := Aside0.mk hd
  clear hd
  go_wp2
  go_ret
  have h0 := HSZ.out
  exact ⟨rfl, below_then HB0.out (by omega) HD.out⟩
theorem zv_res {B : Nat} {w : World} {v : Value} {n : Nat} (neg b : Bool) (h : Res B w v n) (hb : b = (neg && decide (0 < n))) : IRes B w (.agg #[.bool b, v]) (zv neg n) := by
  refine ⟨v, ?_, by rw [zv_abs]; exact h⟩
  have : b = decide (zv neg n < 0) := by
    rw [hb]
    cases neg
    · simp [zv]
    · by_cases h0 : 0 < n
      · simp [zv, h0]
      · simp [zv, h0]
  rw [this]
set_option maxHeartbeats 2000000 in
set_option maxRecDepth 100000 in
theorem made_any (neg : Bool) (va : Value) (xs : List Int) (w : World) (ha : Arg w va xs) (hs : xs.length ≤ 70368744177664) :
    Calls Try.prog 53 #[.bool neg, va] w fun e w' => ∃ x, e = .returned x ∧ IRes w.heap.size w' x (zv neg (val xs)) ∧ Below w.heap.size w w' := by
  have HX0 := Aside0.mk (Box.new w false (.slice none 0 0))
  have HA0 := Aside0.mk (below_alloc (Below.refl w.heap.size w) (.cells #[.bool false, .slice none 0 0] 35))
  have HA := Aside0.mk (ha.below (below_alloc (Below.refl w.heap.size w) (.cells #[.bool false, .slice none 0 0] 35)))
  clear ha
  go_enter Try.func53, Try.ntmps53
  go_wp2_with fail
  refine (rnorm_any _ _ _ HA.out hs).mono ?_
  rintro e w1 ⟨u, rfl, hu, hb⟩
  have HU := Aside0.mk hu
  have HB := Aside0.mk (below_then HA0.out (by simp) hb)
  obtain ⟨c0, c1, f0, f1, _⟩ := HX0.out.below hb
  have hsz := hb.size
  obtain ⟨A, c, rfl, hn⟩ := own_cap hu.own
  clear hu hb
  by_cases hN : val xs = 0
  · have hl : decide (0 < (lim (val xs)).length) = false := decide_eq_false (by rw [hN, lim_zero]; simp)
    have HR := Aside0.mk (zv_res neg false HU.out (by rw [hN]; simp))
    clear hN
    cases neg
    all_goals
      go_wp2
      obtain ⟨g0, g1⟩ := two_stored (.bool false) (.slice A (lim (val xs)).length c) c0 c1
      refine bodyPost_ret (v := .agg #[.bool false, .slice A (lim (val xs)).length c]) (by simp [results, Try.results53, go_sem, g0, g1]) rfl ?_
      exact ⟨_, rfl, (ires_other (ires_other HR.out (by simp) _) (by simp) _).weaken (by simp), stored_below _ _ HB.out⟩
  · have hl : decide (0 < (lim (val xs)).length) = true := decide_eq_true (lim_len_pos hN)
    have HR := Aside0.mk (zv_res neg neg HU.out (by simp; omega))
    clear hN
    cases neg
    · go_wp2
      obtain ⟨g0, g1⟩ := two_stored (.bool false) (.slice A (lim (val xs)).length c) c0 c1
      refine bodyPost_ret (v := .agg #[.bool false, .slice A (lim (val xs)).length c]) (by simp [results, Try.results53, go_sem, g0, g1]) rfl ?_
      exact ⟨_, rfl, (ires_other (ires_other HR.out (by simp) _) (by simp) _).weaken (by simp), stored_below _ _ HB.out⟩
    · go_wp2
      obtain ⟨g0, g1⟩ := two_stored (.bool true) (.slice A (lim (val xs)).length c) c0 c1
      refine bodyPost_ret (v := .agg #[.bool true, .slice A (lim (val xs)).length c]) (by simp [results, Try.results53, go_sem, g0, g1]) rfl ?_
      exact ⟨_, rfl, (ires_other (ires_other HR.out (by simp) _) (by simp) _).weaken (by simp), stored_below _ _ HB.out⟩
set_option maxHeartbeats 2000000 in
set_option maxRecDepth 100000 in
theorem rnormint_any (x : Value) (z : Int) (L : Nat) (w : World) (hx : IArg w x z L) (hL : L ≤ 70368744177664) :
    Calls Try.prog 83 #[x] w fun e w' => ∃ r, e = .returned r ∧ IRes w.heap.size w' r z ∧ Below w.heap.size w w' := by
  obtain ⟨n1, v1, xs, rfl, ha1, hz1, hl1⟩ := hx.form
  obtain ⟨W0, hW0, hb1, hb2, hB0, hsz0⟩ := boxes2 w n1 false v1 (.slice none 0 0)
  have HA := Aside0.mk (ha1.below hB0)
  have HB0 := Aside0.mk hB0
  have HSZ := Aside0.mk hsz0
  have HW := Aside0.mk hW0
  have HBR := Aside0.mk hb2
  have HZ := Aside0.mk hz1
  clear hx ha1 hz1 hb1 hb2 hB0 hsz0 hW0
  go_enter Try.func83, Try.ntmps83
  go_wp2_with fail
  rw [← HW.out]
  refine (made_any _ _ _ _ HA.out (by omega)).mono ?_
  rintro e w1 ⟨y, rfl, hy, hb⟩
  rw [← HZ.out] at hy
  have HR := Aside0.mk hy
  have HB := Aside0.mk hb
  obtain ⟨c0, c1, f0, f1, _⟩ := HBR.out.below hb
  obtain ⟨b, A, m, c, rfl⟩ := hy.shape
  clear hy hb
  go_wp2
  obtain ⟨g0, g1⟩ := two_stored (.bool b) (.slice A m c) c0 c1
  refine bodyPost_ret (v := .agg #[.bool b, .slice A m c]) (by simp [results, Try.results83, go_sem, g0, g1]) rfl ?_
  have h0 := HSZ.out
  exact ⟨_, rfl, (ires_other (ires_other HR.out (by simp; omega) _) (by simp; omega) _).weaken (by omega), ((below_then HB0.out (by omega) HB.out).setCell (by simp) _).setCell (by simp) _⟩
set_option maxHeartbeats 2000000 in
set_option maxRecDepth 100000 in
theorem rsign_any (x : Value) (z : Int) (L : Nat) (w : World) (hx : IArg w x z L) (hL : L ≤ 70368744177664) :
    Calls Try.prog 51 #[x] w fun e w' => e = .returned (.int .i64 (sgn z)) ∧ Below w.heap.size w w' := by
  obtain ⟨n1, v1, xs, rfl, ha1, hz1, hl1⟩ := hx.form
  have hB0 := below_alloc (Below.refl w.heap.size w) (.cells #[.bool n1, v1] 35)
  have HX := Aside0.mk (hx.below hB0)
  have HB0 := Aside0.mk hB0
  clear hx ha1 hz1 hB0
  go_enter Try.func51, Try.ntmps51
  go_wp2_with fail
  refine (rnormint_any _ _ _ _ HX.out hL).mono ?_
  rintro e w1 ⟨y, rfl, hy, hb⟩
  have HB := Aside0.mk (below_then HB0.out (by simp) hb)
  have hsz := hb.size
  obtain ⟨v, rfl, hr⟩ := hy.form
  obtain ⟨A, c, rfl, hn⟩ := own_cap hr.own
  clear hr hb hy
  rcases sgn_cases' z with ⟨e, f⟩ | ⟨e, f⟩ | ⟨e, f⟩
  · have h1 : decide (z < 0) = true := decide_eq_true f
    have HE := Aside0.mk e
    rw [h1]
    clear e f h1
    go_wp2
    go_ret
    exact ⟨by rw [HE.out]; rfl, HB.out.alloc (by have := HB.out.size; omega) _⟩
  · have h1 : decide (z < 0) = false := decide_eq_false (by omega)
    have hl : decide (0 < (lim z.natAbs).length) = false := decide_eq_false (by rw [show z.natAbs = 0 by omega, lim_zero]; simp)
    have HE := Aside0.mk e
    rw [h1]
    clear e f h1
    go_wp2
    go_ret
    exact ⟨by rw [HE.out]; rfl, HB.out.alloc (by have := HB.out.size; omega) _⟩
  · have h1 : decide (z < 0) = false := decide_eq_false (by omega)
    have hl : decide (0 < (lim z.natAbs).length) = true := decide_eq_true (lim_len_pos (by omega))
    have HE := Aside0.mk e
    rw [h1]
    clear e f h1
    go_wp2
    go_ret
    exact ⟨by rw [HE.out]; rfl, HB.out.alloc (by have := HB.out.size; omega) _⟩
set_option maxHeartbeats 2000000 in
set_option maxRecDepth 100000 in
theorem rnatOf_any (n : Nat) (hn : n < 4294967296) (w : World) :
    Calls Try.prog 85 #[.int .u64 (n : Int)] w fun e w' => ∃ u, e = .returned u ∧ Res w.heap.size w' u n ∧ Below w.heap.size w w' := by
  have hd : (n : Int) / 4294967296 = 0 := by omega
  have hm : (n : Int) % 4294967296 = n := by omega
  have hlit := own_lit w w.heap.size 58 .u32 [(n : Int), 0] (Nat.le_refl _) (by simp)
  have HA := Aside0.mk (own_arg hlit (by intro x hx; simp at hx; rcases hx with rfl | rfl <;> omega))
  have HV := Aside0.mk (show val [(n : Int), 0] = n by simp [val])
  clear hlit
  go_enter Try.func85, Try.ntmps85
  go_wp2_with fail
  refine (rnorm_any _ _ _ HA.out (by simp)).mono ?_
  rintro e w1 ⟨u, rfl, hu, hb⟩
  rw [HV.out] at hu
  have HU := Aside0.mk hu
  have HB := Aside0.mk (below_then (below_alloc (Below.refl w.heap.size w) (.cells #[.int .u32 (n : Int), .int .u32 0] 58)) (by simp) hb)
  clear hu hb
  go_wp2
  go_ret
  exact ⟨u, rfl, HU.out.weaken (by simp), HB.out⟩
set_option maxHeartbeats 2000000 in
set_option maxRecDepth 100000 in
theorem rof_any (n : Nat) (hn : n < 4294967296) (w : World) :
    Calls Try.prog 55 #[.int .i64 (n : Int)] w fun e w' => ∃ x, e = .returned x ∧ IRes w.heap.size w' x n ∧ Below w.heap.size w w' := by
  have hc : decide ((n : Int) < 0) = false := decide_eq_false (by omega)
  have HX0 := Aside0.mk (Box.new w false (.slice none 0 0))
  have HA0 := Aside0.mk (below_alloc (Below.refl w.heap.size w) (.cells #[.bool false, .slice none 0 0] 35))
  go_enter Try.func55, Try.ntmps55
  go_wp2_with fail
  refine (rnatOf_any n hn _).mono ?_
  rintro e w1 ⟨u, rfl, hu, hb⟩
  have HU := Aside0.mk hu
  have HB := Aside0.mk hb
  have HX1 := Aside0.mk (HX0.out.below hb)
  have hsz := hb.size
  clear hu hb
  go_wp2_with fail
  refine (made_any _ _ _ _ HU.out.arg ?_).mono ?_
  · have := lim_len_le (n := n) (k := 1) (by omega); omega
  rintro e w2 ⟨x, rfl, hx, hb⟩
  rw [val_lim, show zv false n = (n : Int) from rfl] at hx
  have HX2 := Aside0.mk (HX1.out.below hb)
  have HB2 := Aside0.mk (below_then (below_then HA0.out (by simp) HB.out) (by simp at hsz; omega) hb)
  have hsz2 := hb.size
  have HR := Aside0.mk hx
  obtain ⟨b, A, m, c, rfl⟩ := hx.shape
  obtain ⟨c0, c1, f0, f1, _⟩ := HX2.out
  clear hx hb
  go_wp2
  obtain ⟨g0, g1⟩ := two_stored (.bool b) (.slice A m c) c0 c1
  refine bodyPost_ret (v := .agg #[.bool b, .slice A m c]) (by simp [results, Try.results55, go_sem, g0, g1]) rfl ?_
  exact ⟨_, rfl, (ires_other (ires_other HR.out (by simp at hsz; simp; omega) _) (by simp at hsz; simp; omega) _).weaken (by simp at hsz; omega), stored_below _ _ HB2.out⟩
theorem zv_mul (n1 n2 : Bool) (a b : Nat) : zv (n1 != n2) (a * b) = zv n1 a * zv n2 b := by
  cases n1 <;> cases n2 <;> simp [zv, Int.neg_mul, Int.mul_neg]
set_option maxHeartbeats 8000000 in
set_option maxRecDepth 100000 in
theorem rmulint_any (x y : Value) (z1 z2 : Int) (L1 L2 : Nat) (w : World) (hx : IArg w x z1 L1) (hy : IArg w y z2 L2) (hL : L1 + L2 ≤ 70368744177664) :
    Calls Try.prog 56 #[x, y] w fun e w' => ∃ r, e = .returned r ∧ IRes w.heap.size w' r (z1 * z2) ∧ Below w.heap.size w w' := by
  obtain ⟨n1, v1, xs, rfl, ha1, hz1, hl1⟩ := hx.form
  obtain ⟨n2, v2, ys, rfl, ha2, hz2, hl2⟩ := hy.form
  obtain ⟨W0, hW0, hb1, hb2, hb3, hB0, hsz0⟩ := boxes3 w n1 n2 v1 v2
  have HA1 := Aside0.mk (ha1.below hB0)
  have HA2 := Aside0.mk (ha2.below hB0)
  have HV := Aside0.mk (show zv (!(n1 == n2)) (val xs * val ys) = z1 * z2 by rw [hz1, hz2]; exact zv_mul n1 n2 _ _)
  have HBR := Aside0.mk hb3
  have HB0 := Aside0.mk hB0
  have HSZ := Aside0.mk hsz0
  have HW := Aside0.mk hW0
  have hsz1 : w.heap.size + 2 ≤ W0.heap.size := by omega
  obtain ⟨k0, k1, _, _, _⟩ := hb1
  obtain ⟨k2, k3, _, _, _⟩ := hb2
  have hS : ∀ w', Below (w.heap.size + 2) W0 w' → w'.cell? ⟨w.heap.size, 0, none⟩ = some (.bool n1) ∧ w'.cell? ⟨w.heap.size, 1, none⟩ = some v1 ∧ w'.cell? ⟨w.heap.size + 1, 0, none⟩ = some (.bool n2) ∧ w'.cell? ⟨w.heap.size + 1, 1, none⟩ = some v2 :=
    fun w' hb => ⟨(hb.cell (p := ⟨w.heap.size, 0, none⟩) (by simp)).trans k0, (hb.cell (p := ⟨w.heap.size, 1, none⟩) (by simp)).trans k1, (hb.cell (p := ⟨w.heap.size + 1, 0, none⟩) (by simp)).trans k2, (hb.cell (p := ⟨w.heap.size + 1, 1, none⟩) (by simp)).trans k3⟩
  have HS := Aside0.mk hS
  have hmlen : (lim (val xs * val ys)).length ≤ 70368744177664 := by
    refine Nat.le_trans (lim_len_le (k := xs.length + ys.length) ?_) (by omega)
    rw [Nat.pow_add]
    exact Nat.mul_lt_mul'' (val_lt ha1.lims) (val_lt ha2.lims)
  clear hx hy ha1 ha2 hz1 hz2 hb3 hB0 hsz0 hW0 hS
  go_enter Try.func56, Try.ntmps56
  go_wp2_with fail
  rw [← HW.out]
  go_region_held3 (fun w' => w'.cell? ⟨w.heap.size, 0, none⟩ = some (.bool n1) ∧ w'.cell? ⟨w.heap.size, 1, none⟩ = some v1 ∧ w'.cell? ⟨w.heap.size + 1, 0, none⟩ = some (.bool n2) ∧ w'.cell? ⟨w.heap.size + 1, 1, none⟩ = some v2)
    (first
      | exact HS.out _ (below_drew (Below.refl _ _))
      | exact HS.out _ (HB2.out.mono hsz1)
      | exact HS.out _ (HB1.out.mono hsz1)
      | exact HS.out _ ((((HB2.out.mono hsz1).setCell (by simp) _).setCell (by simp) _)))
    (first
      | (go_at_call 53; refine (made_any _ _ (lim (val xs * val ys)) _ HM1.out.arg hmlen).mono ?_; rintro e w2 ⟨y, rfl, hy, hb2⟩; rw [val_lim, HV.out] at hy; have HB2 := Aside0.mk (below_then HB1.out HB1.out.size hb2); have HR := Aside0.mk hy; obtain ⟨b, A, m, c, rfl⟩ := hy.shape; obtain ⟨c0, c1, f0, f1, _⟩ := HBR.out.below HB2.out; clear hy hb2)
      | (go_at_call 36; refine (rmul_any _ _ _ _ _ (HA1.out.below (below_drew (Below.refl _ _))) (HA2.out.below (below_drew (Below.refl _ _))) (by omega)).mono ?_; rintro e w1 ⟨n, rfl, hn, hb1⟩; have HM1 := Aside0.mk hn; have HB1 := Aside0.mk (below_then (below_drew (Below.refl W0.heap.size W0)) (Nat.le_refl _) hb1); clear hb1 hn))
  go_wp2
  obtain ⟨g0, g1⟩ := two_stored (.bool b) (.slice A m c) c0 c1
  refine bodyPost_ret (v := .agg #[.bool b, .slice A m c]) (by simp [results, Try.results56, go_sem, g0, g1]) rfl ?_
  have h0 := HSZ.out
  have h1 := HB1.out.size
  have h2 := HB2.out.size
  exact ⟨_, rfl, (ires_other (ires_other HR.out (by simp; omega) _) (by simp; omega) _).weaken (by omega), ((below_then HB0.out (by omega) HB2.out).setCell (by simp; omega) _).setCell (by simp; omega) _⟩
end Go.Proofs.Ytnjbpkopekgihaa
