/- Walks: whole.Root, awake. -/
import Derived.Test.YtnjbpkopekgihaaC4
import Derived.Test.YtnjbpkopekgihaaB14
namespace Go.Proofs.Ytnjbpkopekgihaa
open Go.RowKit Go.Proofs.YtnjbpkopekgihaaW.PrintWords
set_option linter.unusedVariables false
set_option linter.unusedSimpArgs false
set_option maxHeartbeats 8000000 in
set_option maxRecDepth 100000 in
theorem wroot_neg (x : Value) (z : Int) (L : Nat) (w : World) (hx : IArg w x z L) (hz : z < 0) :
    Calls Try.prog 13 #[x] w fun e w' => e = .returned (.tuple #[.agg #[.bool false, .slice none 0 0], .int .i64 10]) ∧ Below w.heap.size w w' := by
  obtain ⟨n1, v1, xs, rfl, ha1, hz1, hl1⟩ := hx.form
  obtain ⟨W0, hW0, hb1, hb2, hB0, hsz0⟩ := boxes2 w n1 false v1 (.slice none 0 0)
  have HX := Aside0.mk (hx.below hB0)
  have HB0 := Aside0.mk hB0
  have HSZ := Aside0.mk hsz0
  have HW := Aside0.mk hW0
  have HBR := Aside0.mk hb2
  have HS := Aside0.mk (show sgn z = -1 by simp [sgn, hz])
  clear hx ha1 hz1 hl1 hb1 hb2 hB0 hsz0 hW0 hz
  go_enter Try.func13, Try.ntmps13
  go_wp2_with fail
  rw [← HW.out]
  refine (sign_any _ _ _ _ HX.out).mono ?_
  rintro e w1 ⟨rfl, hb1⟩
  rw [HS.out]
  obtain ⟨c0, c1, f0, f1, _⟩ := HBR.out.below hb1
  have HB1 := Aside0.mk hb1
  clear hb1
  go_wp2
  obtain ⟨g0, g1⟩ := two_stored (.bool false) (.slice none 0 0) c0 c1
  refine bodyPost_ret (v := .tuple #[.agg #[.bool false, .slice none 0 0], .int .i64 10]) (by simp [results, Try.results13, go_sem, g0, g1]) rfl ?_
  have h0 := HSZ.out
  exact ⟨rfl, ((below_then HB0.out (by omega) HB1.out).setCell (by simp) _).setCell (by simp) _⟩
set_option maxHeartbeats 8000000 in
set_option maxRecDepth 100000 in
theorem wroot_any (x : Value) (z : Int) (L : Nat) (w : World) (hx : IArg w x z L) (hz : 0 ≤ z) (hL : L + 2 ≤ 70368744177664) :
    Calls Try.prog 13 #[x] w fun e w' => ∃ y r, e = .returned (.tuple #[y, .int .i64 0]) ∧ IRes w.heap.size w' y (r : Nat) ∧ IsRoot r z.natAbs ∧ Below w.heap.size w w' := by
  obtain ⟨n1, v1, xs, rfl, ha1, hz1, hl1⟩ := hx.form
  obtain ⟨W0, hW0, hb1, hb2, hB0, hsz0⟩ := boxes2 w n1 false v1 (.slice none 0 0)
  have HX := Aside0.mk (hx.below hB0)
  have HA := Aside0.mk (ha1.below hB0)
  have HB0 := Aside0.mk hB0
  have HSZ := Aside0.mk hsz0
  have HW := Aside0.mk hW0
  have HBX := Aside0.mk hb1
  have HBR := Aside0.mk hb2
  have HN := Aside0.mk (show val xs = z.natAbs by rw [hz1, zv_abs])
  have hb : decide (sgn z < 0) = false := decide_eq_false (by rcases sgn_cases' z with ⟨e, f⟩ | ⟨e, f⟩ | ⟨e, f⟩ <;> omega)
  clear hx ha1 hz1 hb1 hb2 hB0 hsz0 hW0 hz
  go_enter Try.func13, Try.ntmps13
  go_wp2_with fail
  rw [← HW.out]
  refine (sign_any _ _ _ _ HX.out).mono ?_
  rintro e w1 ⟨rfl, hb1⟩
  obtain ⟨k0, k1, _, _, _⟩ := HBX.out.below hb1
  have HA1 := Aside0.mk (HA.out.below hb1)
  have HBR1 := Aside0.mk (HBR.out.below hb1)
  have HB1 := Aside0.mk hb1
  clear hb1
  go_wp2_with fail
  refine (root_any _ _ _ HA1.out (by omega)).mono ?_
  rintro e w2 ⟨u, r, rfl, hu, hir, hb2⟩
  rw [HN.out] at hir
  have HU := Aside0.mk hu
  have HIR := Aside0.mk hir
  have HB2 := Aside0.mk hb2
  have HBR2 := Aside0.mk (HBR1.out.below hb2)
  have hlr : (lim r).length ≤ 70368744177664 := by
    have l1 := lim_len_mono (root_le hir)
    rw [← HN.out] at l1
    have l2 := lim_val_len HA1.out.lims
    omega
  clear hu hir hb2
  go_wp2_with fail
  refine (signed_any _ _ none 0 [] _ HU.out.arg (reads_nil _) (by simp) hlr).mono ?_
  rintro e w3 ⟨y, rfl, hy, hb3⟩
  rw [val_lim, show sgnd (prodL []) r = (r : Int) from rfl] at hy
  have HR := Aside0.mk hy
  have HB3 := Aside0.mk hb3
  obtain ⟨c0, c1, f0, f1, _⟩ := HBR2.out.below hb3
  obtain ⟨b, A, m, c, rfl⟩ := hy.shape
  clear hy hb3
  go_wp2
  obtain ⟨g0, g1⟩ := two_stored (.bool b) (.slice A m c) c0 c1
  refine bodyPost_ret (v := .tuple #[.agg #[.bool b, .slice A m c], .int .i64 0]) (by simp [results, Try.results13, go_sem, g0, g1]) rfl ?_
  have h0 := HSZ.out
  have h1 := HB1.out.size
  have h2 := HB2.out.size
  exact ⟨_, r, rfl, (ires_other (ires_other HR.out (by simp; omega) _) (by simp; omega) _).weaken (by omega), HIR.out, ((below_then (below_then (below_then HB0.out (by omega) HB1.out) (by omega) HB2.out) (by omega) HB3.out).setCell (by simp) _).setCell (by simp) _⟩
set_option maxHeartbeats 8000000 in
set_option maxRecDepth 100000 in
theorem awake_any (w : World) : Calls Try.prog 20 #[] w fun e w' => e = .returned (.bool true) ∧ Below w.heap.size w w' := by
  have L2 : (lim ((2 : Nat) : Int).natAbs).length + 1 ≤ 70368744177664 := by have := lim_len_le (n := 2) (k := 1) (by omega); simp; omega
  have L1 : (lim (1 : Int).natAbs).length + 1 ≤ 70368744177664 := by have := lim_len_le (n := 1) (k := 1) (by omega); simp; omega
  go_enter Try.func20, Try.ntmps20
  go_wp2_with fail
  refine (of_any 2 (by omega) _).mono ?_
  rintro e w1 ⟨x2, rfl, h2, hb1⟩
  have H2 := Aside0.mk h2
  have HB1 := Aside0.mk hb1
  clear h2 hb1
  go_wp2_with fail
  refine (one_any _).mono ?_
  rintro e w2 ⟨x1, rfl, h1, hb2⟩
  have H1 := Aside0.mk h1
  have H22 := Aside0.mk (H2.out.below hb2)
  have HB2 := Aside0.mk (below_then HB1.out HB1.out.size hb2)
  clear h1 hb2
  go_wp2_with fail
  refine (wcmp_any _ _ _ _ _ _ _ H22.out.arg H1.out.arg L2 L1).mono ?_
  rintro e w3 ⟨rfl, hb3⟩
  rw [show sgn (((2 : Nat) : Int) - 1) = 1 by decide]
  have HB3 := Aside0.mk (below_then HB2.out HB2.out.size hb3)
  clear hb3
  go_wp2_with fail
  refine (one_any _).mono ?_
  rintro e w4 ⟨y1, rfl, h1, hb4⟩
  have H4 := Aside0.mk h1
  have HB4 := Aside0.mk (below_then HB3.out HB3.out.size hb4)
  clear h1 hb4
  go_wp2_with fail
  refine (sign_any _ _ _ _ H4.out.arg).mono ?_
  rintro e w5 ⟨rfl, hb5⟩
  rw [show sgn 1 = 1 by decide]
  have HB5 := Aside0.mk (below_then HB4.out HB4.out.size hb5)
  clear hb5
  go_wp2_with fail
  refine (of_any 0 (by omega) _).mono ?_
  rintro e w6 ⟨y0, rfl, h0, hb6⟩
  have H6 := Aside0.mk h0
  have HB6 := Aside0.mk (below_then HB5.out HB5.out.size hb6)
  clear h0 hb6
  go_wp2_with fail
  refine (sign_any _ _ _ _ H6.out.arg).mono ?_
  rintro e w7 ⟨rfl, hb7⟩
  rw [show sgn ((0 : Nat) : Int) = 0 by decide]
  have HB7 := Aside0.mk (below_then HB6.out HB6.out.size hb7)
  clear hb7
  go_wp2
  go_ret
  exact ⟨rfl, HB7.out⟩
end Go.Proofs.Ytnjbpkopekgihaa
