/- Walks: whole.Sub, Cmp, Mul. -/
import Derived.Test.YtnjbpkopekgihaaC3
import Derived.Test.YtnjbpkopekgihaaB6
namespace Go.Proofs.Ytnjbpkopekgihaa
open Go.RowKit Go.Proofs.YtnjbpkopekgihaaW.PrintWords
set_option linter.unusedVariables false
set_option linter.unusedSimpArgs false
theorem IArg.len {w : World} {x : Value} {z : Int} {L : Nat} (h : IArg w x z L) : (lim z.natAbs).length ≤ L := by
  obtain ⟨neg, v, xs, _, ha, rfl, hl⟩ := h.form
  rw [zv_abs]
  exact Nat.le_trans (lim_val_len ha.lims) hl
set_option maxHeartbeats 8000000 in
set_option maxRecDepth 100000 in
theorem wsub_any (x y : Value) (z1 z2 : Int) (L1 L2 : Nat) (w : World) (hx : IArg w x z1 L1) (hy : IArg w y z2 L2) (hL1 : L1 + 1 ≤ 70368744177664) (hL2 : L2 + 1 ≤ 70368744177664) :
    Calls Try.prog 60 #[x, y] w fun e w' => ∃ r, e = .returned r ∧ IRes w.heap.size w' r (z1 - z2) ∧ Below w.heap.size w w' := by
  have hlen2 := hy.len
  obtain ⟨n1, v1, xs, rfl, ha1, hz1, hl1⟩ := hx.form
  obtain ⟨n2, v2, ys, rfl, ha2, hz2, hl2⟩ := hy.form
  obtain ⟨W0, hW0, hb1, hb2, hb3, hB0, hsz0⟩ := boxes3 w n1 n2 v1 v2
  have HX := Aside0.mk (hx.below hB0)
  have HY := Aside0.mk (hy.below hB0)
  have HA1 := Aside0.mk (ha1.below hB0)
  have HA2 := Aside0.mk (ha2.below hB0)
  have HZ1 := Aside0.mk hz1
  have HZ2 := Aside0.mk hz2
  have HBX := Aside0.mk hb1
  have HBY := Aside0.mk hb2
  have HBR := Aside0.mk hb3
  have HB0 := Aside0.mk hB0
  have HSZ := Aside0.mk hsz0
  have HW := Aside0.mk hW0
  have hsz1 : w.heap.size + 2 ≤ W0.heap.size := by omega
  obtain ⟨k0, k1, _, _, _⟩ := hb1
  obtain ⟨k2, k3, _, _, _⟩ := hb2
  have hS : ∀ w', Below (w.heap.size + 2) W0 w' → w'.cell? ⟨w.heap.size, 0, none⟩ = some (.bool n1) ∧ w'.cell? ⟨w.heap.size, 1, none⟩ = some v1 ∧ w'.cell? ⟨w.heap.size + 1, 0, none⟩ = some (.bool n2) ∧ w'.cell? ⟨w.heap.size + 1, 1, none⟩ = some v2 :=
    fun w' hb => ⟨(hb.cell (p := ⟨w.heap.size, 0, none⟩) (by simp)).trans k0, (hb.cell (p := ⟨w.heap.size, 1, none⟩) (by simp)).trans k1, (hb.cell (p := ⟨w.heap.size + 1, 0, none⟩) (by simp)).trans k2, (hb.cell (p := ⟨w.heap.size + 1, 1, none⟩) (by simp)).trans k3⟩
  have HS := Aside0.mk hS
  clear hx hy ha1 ha2 hz1 hz2 hb3 hB0 hsz0 hW0 hS
  go_enter Try.func60, Try.ntmps60
  go_wp2_with fail
  rw [← HW.out]
  go_region_held3 (fun w' => w'.cell? ⟨w.heap.size, 0, none⟩ = some (.bool n1) ∧ w'.cell? ⟨w.heap.size, 1, none⟩ = some v1 ∧ w'.cell? ⟨w.heap.size + 1, 0, none⟩ = some (.bool n2) ∧ w'.cell? ⟨w.heap.size + 1, 1, none⟩ = some v2)
    (first
      | exact HS.out _ (below_drew (Below.refl _ _))
      | exact HS.out _ (HB2.out.mono hsz1)
      | exact HS.out _ (HB1.out.mono hsz1)
      | exact HS.out _ ((HB2.out.setCell (by omega) _).mono (Nat.le_refl _))
      | exact HS.out _ ((((HB2.out.mono hsz1).setCell (by simp) _).setCell (by simp) _)))
    (first
      | (go_at_call 21; refine (wadd_any _ _ z1 (-z2) L1 _ _ (HX.out.below HB1.out) HN.out.arg hL1 (by rw [Int.natAbs_neg]; omega)).mono ?_; rintro e w2 ⟨y, rfl, hy, hb2⟩; have HB2 := Aside0.mk (below_then HB1.out HB1.out.size hb2); have HR := Aside0.mk hy; obtain ⟨b, A, m, c, rfl⟩ := hy.shape; obtain ⟨c0, c1, f0, f1, _⟩ := HBR.out.below HB2.out; clear hy hb2)
      | (go_at_call 87; refine (neg_any _ _ _ _ (HY.out.below (below_drew (Below.refl _ _))) (by omega)).mono ?_; rintro e w1 ⟨n, rfl, hn, hb1⟩; have HN := Aside0.mk hn; have HB1 := Aside0.mk (below_then (below_drew (Below.refl W0.heap.size W0)) (Nat.le_refl _) hb1); clear hb1 hn))
  go_wp2
  obtain ⟨g0, g1⟩ := two_stored (.bool b) (.slice A m c) c0 c1
  refine bodyPost_ret (v := .agg #[.bool b, .slice A m c]) (by simp [results, Try.results60, go_sem, g0, g1]) rfl ?_
  have h0 := HSZ.out
  have h1 := HB1.out.size
  have h2 := HB2.out.size
  exact ⟨_, rfl, (ires_other (ires_other HR.out (by simp; omega) _) (by simp; omega) _).weaken (by omega), ((below_then HB0.out (by omega) HB2.out).setCell (by simp; omega) _).setCell (by simp; omega) _⟩
theorem boxes2 (w : World) (n1 n2 : Bool) (v1 v2 : Value) :
    ∃ W0, W0 = (w.alloc (.cells #[.bool n1, v1] 35)).alloc (.cells #[.bool n2, v2] 35) ∧
      Box W0 w.heap.size (.bool n1) v1 ∧ Box W0 (w.heap.size + 1) (.bool n2) v2 ∧ Below w.heap.size w W0 ∧ W0.heap.size = w.heap.size + 2 := by
  refine ⟨_, rfl, (Box.new w n1 v1).below (below_alloc (Below.refl _ _) _), ?_, below_alloc (below_alloc (Below.refl _ _) _) _, by simp⟩
  have h := Box.new (w.alloc (.cells #[.bool n1, v1] 35)) n2 v2
  rwa [show (w.alloc (.cells #[.bool n1, v1] 35)).heap.size = w.heap.size + 1 by simp] at h
set_option maxHeartbeats 8000000 in
set_option maxRecDepth 100000 in
theorem wcmp_any (x y : Value) (z1 z2 : Int) (L1 L2 : Nat) (w : World) (hx : IArg w x z1 L1) (hy : IArg w y z2 L2) (hL1 : L1 + 1 ≤ 70368744177664) (hL2 : L2 + 1 ≤ 70368744177664) :
    Calls Try.prog 23 #[x, y] w fun e w' => e = .returned (.int .i64 (sgn (z1 - z2))) ∧ Below w.heap.size w w' := by
  obtain ⟨n1, v1, xs, rfl, ha1, hz1, hl1⟩ := hx.form
  obtain ⟨n2, v2, ys, rfl, ha2, hz2, hl2⟩ := hy.form
  obtain ⟨W0, hW0, hb1, hb2, hB0, hsz0⟩ := boxes2 w n1 n2 v1 v2
  have HX := Aside0.mk (hx.below hB0)
  have HY := Aside0.mk (hy.below hB0)
  have HB0 := Aside0.mk hB0
  have HSZ := Aside0.mk hsz0
  have HW := Aside0.mk hW0
  obtain ⟨k0, k1, _, _, _⟩ := hb1
  obtain ⟨k2, k3, _, _, _⟩ := hb2
  rw [hW0] at k0 k1 k2 k3
  clear hx hy ha1 ha2 hz1 hz2 hB0 hsz0 hW0
  go_enter Try.func23, Try.ntmps23
  go_wp2_with fail
  rw [← HW.out]
  refine (wsub_any _ _ z1 z2 L1 L2 _ HX.out HY.out hL1 hL2).mono ?_
  rintro e w1 ⟨r, rfl, hr, hb1⟩
  have HR := Aside0.mk hr
  have HB1 := Aside0.mk hb1
  clear hr hb1
  go_wp2_with fail
  refine (sign_any _ _ _ _ HR.out.arg).mono ?_
  rintro e w2 ⟨rfl, hb2⟩
  have HB2 := Aside0.mk hb2
  clear hb2
  go_wp2
  go_ret
  have h0 := HSZ.out
  have h1 := HB1.out.size
  exact ⟨rfl, below_then (below_then HB0.out (by omega) HB1.out) (by omega) HB2.out⟩
theorem sgnd_mul (z1 z2 : Int) (n1 n2 : Nat) (h1 : z1.natAbs = n1) (h2 : z2.natAbs = n2) : sgnd (prodL [sgn z1, sgn z2]) (n1 * n2) = z1 * z2 := by
  rw [prodL_two]
  subst h1 h2
  have hz : ∀ z : Int, (sgn z = -1 ∧ z = -(z.natAbs : Int)) ∨ (sgn z = 0 ∧ z = 0 ∧ (z.natAbs : Int) = 0) ∨ (sgn z = 1 ∧ z = (z.natAbs : Int)) := by
    intro z
    rcases sgn_cases' z with ⟨e, f⟩ | ⟨e, f⟩ | ⟨e, f⟩
    · exact .inl ⟨e, by omega⟩
    · exact .inr (.inl ⟨e, f, by omega⟩)
    · exact .inr (.inr ⟨e, by omega⟩)
  have e3 : ((z1.natAbs * z2.natAbs : Nat) : Int) = (z1.natAbs : Int) * z2.natAbs := Int.natCast_mul _ _
  have h1 := hz z1
  have h2 := hz z2
  unfold sgnd
  rw [e3]
  clear e3 hz
  generalize (z1.natAbs : Int) = a at *
  generalize (z2.natAbs : Int) = b at *
  rcases h1 with ⟨e1, f1⟩ | ⟨e1, f1, g1⟩ | ⟨e1, f1⟩ <;> rcases h2 with ⟨e2, f2⟩ | ⟨e2, f2, g2⟩ | ⟨e2, f2⟩ <;> simp [e1, e2] <;> grind
set_option maxHeartbeats 8000000 in
set_option maxRecDepth 100000 in
theorem wmul_any (x y : Value) (z1 z2 : Int) (L1 L2 : Nat) (w : World) (hx : IArg w x z1 L1) (hy : IArg w y z2 L2) (hL : (lim z1.natAbs).length + (lim z2.natAbs).length ≤ 70368744177664) :
    Calls Try.prog 24 #[x, y] w fun e w' => ∃ r, e = .returned r ∧ IRes w.heap.size w' r (z1 * z2) ∧ Below w.heap.size w w' := by
  obtain ⟨n1, v1, xs, rfl, ha1, hz1, hl1⟩ := hx.form
  obtain ⟨n2, v2, ys, rfl, ha2, hz2, hl2⟩ := hy.form
  obtain ⟨W0, hW0, hb1, hb2, hb3, hB0, hsz0⟩ := boxes3 w n1 n2 v1 v2
  have HX := Aside0.mk (hx.below hB0)
  have HY := Aside0.mk (hy.below hB0)
  have HA1 := Aside0.mk (ha1.below hB0)
  have HA2 := Aside0.mk (ha2.below hB0)
  have HZ1 := Aside0.mk hz1
  have HZ2 := Aside0.mk hz2
  have HBX := Aside0.mk hb1
  have HBY := Aside0.mk hb2
  have HBR := Aside0.mk hb3
  have HB0 := Aside0.mk hB0
  have HSZ := Aside0.mk hsz0
  have HW := Aside0.mk hW0
  have hsz1 : w.heap.size + 2 ≤ W0.heap.size := by omega
  obtain ⟨k0, k1, _, _, _⟩ := hb1
  obtain ⟨k2, k3, _, _, _⟩ := hb2
  have hS : ∀ w', Below (w.heap.size + 2) W0 w' → w'.cell? ⟨w.heap.size, 0, none⟩ = some (.bool n1) ∧ w'.cell? ⟨w.heap.size, 1, none⟩ = some v1 ∧ w'.cell? ⟨w.heap.size + 1, 0, none⟩ = some (.bool n2) ∧ w'.cell? ⟨w.heap.size + 1, 1, none⟩ = some v2 :=
    fun w' hb => ⟨(hb.cell (p := ⟨w.heap.size, 0, none⟩) (by simp)).trans k0, (hb.cell (p := ⟨w.heap.size, 1, none⟩) (by simp)).trans k1, (hb.cell (p := ⟨w.heap.size + 1, 0, none⟩) (by simp)).trans k2, (hb.cell (p := ⟨w.heap.size + 1, 1, none⟩) (by simp)).trans k3⟩
  have HS := Aside0.mk hS
  have HN1 := Aside0.mk (show z1.natAbs = val xs by rw [hz1, zv_abs])
  have HN2 := Aside0.mk (show z2.natAbs = val ys by rw [hz2, zv_abs])
  have hmlen : (lim (val xs * val ys)).length ≤ 70368744177664 := by
    refine Nat.le_trans (lim_len_le (k := (lim (val xs)).length + (lim (val ys)).length) ?_) (by rw [HN1.out, HN2.out] at hL; exact hL)
    rw [Nat.pow_add]
    exact Nat.mul_lt_mul'' (lim_len_lt _) (lim_len_lt _)
  have HV := Aside0.mk (sgnd_mul z1 z2 (val xs) (val ys) HN1.out HN2.out)
  have hs1 := sgn_bd z1
  have hs2 := sgn_bd z2
  clear hx hy ha1 ha2 hz1 hz2 hb3 hB0 hsz0 hW0 hS
  go_enter Try.func24, Try.ntmps24
  go_wp2_with fail
  rw [← HW.out]
  go_region_held3 (fun w' => w'.cell? ⟨w.heap.size, 0, none⟩ = some (.bool n1) ∧ w'.cell? ⟨w.heap.size, 1, none⟩ = some v1 ∧ w'.cell? ⟨w.heap.size + 1, 0, none⟩ = some (.bool n2) ∧ w'.cell? ⟨w.heap.size + 1, 1, none⟩ = some v2)
    (first
      | exact HS.out _ (below_drew (Below.refl _ _))
      | exact HS.out _ (HB4.out.mono hsz1)
      | exact HS.out _ ((HB3.out.alloc HB3.out.size _).mono hsz1)
      | exact HS.out _ (HB3.out.mono hsz1)
      | exact HS.out _ (HB2.out.mono hsz1)
      | exact HS.out _ (HB1.out.mono hsz1)
      | exact HS.out _ ((((HB4.out.mono hsz1).setCell (by simp) _).setCell (by simp) _)))
    (first
      | (go_at_call 50; refine (signed_any _ (lim (val xs * val ys)) _ _ [sgn z1, sgn z2] _ (HM3.out.arg.below (below_alloc (Below.refl _ _) _)) (reads_two _ _ _) (by simp; omega) hmlen).mono ?_; rintro e w4 ⟨y, rfl, hy, hb4⟩; rw [val_lim, HV.out] at hy; have HB4 := Aside0.mk (below_then (HB3.out.alloc HB3.out.size (.cells #[.int .i64 (sgn z1), .int .i64 (sgn z2)] 3)) (by have := HB3.out.size; simp; omega) hb4); have HR := Aside0.mk hy; obtain ⟨b, A, m, c, rfl⟩ := hy.shape; obtain ⟨c0, c1, f0, f1, _⟩ := HBR.out.below HB4.out; clear hy hb4)
      | (go_at_call 19; refine (sign_any _ _ _ _ (by first | exact HX.out.below HB2.out | exact HY.out.below HB2.out)).mono ?_; rintro e w3 ⟨rfl, hb3⟩; have HB3 := Aside0.mk (below_then HB2.out HB2.out.size hb3); have HM3 := Aside0.mk (HM2.out.below hb3); clear hb3)
      | (go_at_call 19; refine (sign_any _ _ _ _ (by first | exact HX.out.below HB1.out | exact HY.out.below HB1.out)).mono ?_; rintro e w2 ⟨rfl, hb2⟩; have HB2 := Aside0.mk (below_then HB1.out HB1.out.size hb2); have HM2 := Aside0.mk (HM1.out.below hb2); clear hb2)
      | (go_at_call 45; refine (mul_any _ _ _ _ _ (HA1.out.below (below_drew (Below.refl _ _))) (HA2.out.below (below_drew (Below.refl _ _))) (by rw [← HN1.out, ← HN2.out]; exact hL)).mono ?_; rintro e w1 ⟨n, rfl, hn, hb1⟩; have HM1 := Aside0.mk hn; have HB1 := Aside0.mk (below_then (below_drew (Below.refl W0.heap.size W0)) (Nat.le_refl _) hb1); clear hb1 hn))
  go_wp2
  obtain ⟨g0, g1⟩ := two_stored (.bool b) (.slice A m c) c0 c1
  refine bodyPost_ret (v := .agg #[.bool b, .slice A m c]) (by simp [results, Try.results24, go_sem, g0, g1]) rfl ?_
  have h0 := HSZ.out
  have h3 := HB3.out.size
  exact ⟨_, rfl, (ires_other (ires_other HR.out (by simp; omega) _) (by simp; omega) _).weaken (by simp; omega), ((below_then HB0.out (by omega) HB4.out).setCell (by simp; omega) _).setCell (by simp; omega) _⟩
end Go.Proofs.Ytnjbpkopekgihaa
