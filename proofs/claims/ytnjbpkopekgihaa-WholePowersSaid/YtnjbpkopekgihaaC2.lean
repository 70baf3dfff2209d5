/- Walks: whole.Neg. -/
import Derived.Test.YtnjbpkopekgihaaC1
import Derived.Deep.RegionHeld3
namespace Go.Proofs.Ytnjbpkopekgihaa
open Go.RowKit Go.Proofs.YtnjbpkopekgihaaW.PrintWords
set_option linter.unusedVariables false
set_option linter.unusedSimpArgs false
theorem reads_two (w : World) (a b : Int) : ReadsInt (w.alloc (.cells #[.int .i64 a, .int .i64 b] 3)) .i64 (some ⟨w.heap.size, 0, none⟩) ([a, b] : List Int).length [a, b] := by
  obtain ⟨A, c, e, hr⟩ := own_reads (own_lit w w.heap.size 3 .i64 [a, b] (Nat.le_refl _) (by simp))
  injection e with e1 e2 e3
  subst e1
  exact hr
theorem reads_one (w : World) (a : Int) : ReadsInt (w.alloc (.cells #[.int .i64 a] 3)) .i64 (some ⟨w.heap.size, 0, none⟩) ([a] : List Int).length [a] := by
  obtain ⟨A, c, e, hr⟩ := own_reads (own_lit w w.heap.size 3 .i64 [a] (Nat.le_refl _) (by simp))
  injection e with e1 e2 e3
  subst e1
  exact hr
theorem zv_abs (neg : Bool) (n : Nat) : (zv neg n).natAbs = n := by unfold zv; cases neg <;> simp
theorem prodL_two (a b : Int) : prodL [a, b] = a * b := by simp [prodL]
theorem prodL_one (a : Int) : prodL [a] = a := by simp [prodL]
theorem sgnd_neg (z : Int) (n : Nat) (h : z.natAbs = n) : sgnd (prodL [-1, sgn z]) n = -z := by
  rw [prodL_two]
  unfold sgnd sgn
  subst h
  split <;> split <;> (try split at *) <;> omega
theorem sgn_bd (z : Int) : -1 ≤ sgn z ∧ sgn z ≤ 1 := by unfold sgn; split <;> (try split) <;> omega
set_option maxHeartbeats 4000000 in
set_option maxRecDepth 100000 in
theorem neg_any (x : Value) (z : Int) (L : Nat) (w : World) (hx : IArg w x z L) (hL : L ≤ 70368744177664) :
    Calls Try.prog 87 #[x] w fun e w' => ∃ y, e = .returned y ∧ IRes w.heap.size w' y (-z) ∧ Below w.heap.size w w' := by
  obtain ⟨neg, v, xs, rfl, ha, hz, hl⟩ := hx.form
  have HBx := Aside0.mk ((Box.new w neg v).below (below_alloc (Below.refl _ _) (.cells #[.bool false, .slice none 0 0] 35)))
  have hbr := Box.new (w.alloc (.cells #[.bool neg, v] 35)) false (.slice none 0 0)
  rw [show (w.alloc (.cells #[.bool neg, v] 35)).heap.size = w.heap.size + 1 by simp] at hbr
  have HBr := Aside0.mk hbr
  clear hbr
  have HX := Aside0.mk hx
  have HA := Aside0.mk ha
  have HZ := Aside0.mk hz
  have hl' := hl
  clear hx ha hz hl
  go_enter Try.func87, Try.ntmps87
  go_wp2_with fail
  obtain ⟨W0, hW0⟩ : ∃ W0, W0 = ((w.alloc (.cells #[.bool neg, v] 35)).alloc (.cells #[.bool false, .slice none 0 0] 35)) := ⟨_, rfl⟩
  have HB0 := Aside0.mk (show Below w.heap.size w W0 by rw [hW0]; exact below_alloc (below_alloc (Below.refl _ _) _) _)
  rw [← hW0] at HBx HBr ⊢
  have hsz0 : W0.heap.size = w.heap.size + 2 := by rw [hW0]; simp
  have HSZ := Aside0.mk hsz0
  have HXW := Aside0.mk (HX.out.below HB0.out)
  have HAW := Aside0.mk (HA.out.below HB0.out)
  clear hW0 hsz0
  have hS : ∀ w', Below (w.heap.size + 1) W0 w' → w'.cell? ⟨w.heap.size, 0, none⟩ = some (.bool neg) ∧ w'.cell? ⟨w.heap.size, 1, none⟩ = some v :=
    fun w' hb => ⟨(hb.cell (p := ⟨w.heap.size, 0, none⟩) (by simp)).trans HBx.out.c0, (hb.cell (p := ⟨w.heap.size, 1, none⟩) (by simp)).trans HBx.out.c1⟩
  have HS := Aside0.mk hS
  have hsz1 : w.heap.size + 1 ≤ W0.heap.size := by have := HSZ.out; omega
  clear hS
  have hsb := sgn_bd z
  go_region_held3 (fun w' => w'.cell? ⟨w.heap.size, 0, none⟩ = some (.bool neg) ∧ w'.cell? ⟨w.heap.size, 1, none⟩ = some v)
    (first
      | exact HS.out _ (below_drew (Below.refl _ _))
      | exact HS.out _ (HB1.out.mono hsz1)
      | exact HS.out _ ((HB1.out.alloc HB1.out.size _).mono hsz1)
      | exact HS.out _ (HB2.out.mono hsz1)
      | exact HS.out _ (stored_below _ _ (HB2.out.mono hsz1)))
    (first
      | (go_at_call 19; refine (sign_any _ z L _ (HXW.out.below (below_drew (Below.refl _ _)))).mono ?_; rintro e w1 ⟨rfl, hb1⟩; have HB1 := Aside0.mk (below_then (below_drew (Below.refl W0.heap.size W0)) (Nat.le_refl _) hb1); clear hb1)
      | (go_at_call 50; refine (signed_any _ xs _ _ [-1, sgn z] _ (HAW.out.below (HB1.out.alloc HB1.out.size _)) (reads_two _ _ _) (by simp; omega) (by omega)).mono ?_; rintro e w2 ⟨y, rfl, hy, hb2⟩; have HB2 := Aside0.mk (below_then (HB1.out.alloc HB1.out.size (.cells #[.int .i64 (-1), .int .i64 (sgn z)] 3)) (by have := HB1.out.size; simp; omega) hb2); have HY := Aside0.mk hy; obtain ⟨b, A, m, c, rfl⟩ := hy.shape; obtain ⟨c0, c1, f0, f1, _⟩ := HBr.out.below HB2.out; clear hy hb2))
  go_wp2
  obtain ⟨g0, g1⟩ := two_stored (.bool b) (.slice A m c) c0 c1
  refine bodyPost_ret (v := .agg #[.bool b, .slice A m c]) (by simp [results, Try.results87, go_sem, g0, g1]) rfl ?_
  have h0 := HSZ.out
  have h1 := HB1.out.size
  have hy := HY.out
  rw [sgnd_neg z _ (by rw [HZ.out, zv_abs])] at hy
  exact ⟨_, rfl, (ires_other (ires_other hy (by simp; omega) _) (by simp; omega) _).weaken (by simp; omega), ((below_then HB0.out (by omega) HB2.out).setCell (by simp) _).setCell (by simp) _⟩
end Go.Proofs.Ytnjbpkopekgihaa
