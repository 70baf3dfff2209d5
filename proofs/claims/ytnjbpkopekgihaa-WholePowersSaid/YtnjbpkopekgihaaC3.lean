/- Walks: whole.Add. -/
import Derived.Test.YtnjbpkopekgihaaC2
import Derived.Test.YtnjbpkopekgihaaB4
import Derived.Test.YtnjbpkopekgihaaB5
namespace Go.Proofs.Ytnjbpkopekgihaa
open Go.RowKit Go.Proofs.YtnjbpkopekgihaaW.PrintWords
set_option linter.unusedVariables false
set_option linter.unusedSimpArgs false
theorem sgn_cases (z : Int) : sgn z = -1 ∨ sgn z = 0 ∨ sgn z = 1 := by unfold sgn; split <;> (try split) <;> simp
theorem sgn_cases' (z : Int) : (sgn z = -1 ∧ z < 0) ∨ (sgn z = 0 ∧ z = 0) ∨ (sgn z = 1 ∧ 0 < z) := by
  unfold sgn
  by_cases h : z < 0
  · simp [h]
  · by_cases h2 : z = 0
    · simp [h2]
    · simp [h, h2]; omega
/-- the sign that a sum of two numbers of no other signs bears -/
def orS (z1 z2 : Int) : Int := bits .or .i64 (bits .or .i64 (sgn z1) (sgn z2)) 1
theorem orS_eq (z1 z2 : Int) : orS z1 z2 = if sgn z1 < 0 ∨ sgn z2 < 0 then -1 else 1 := by
  unfold orS
  rcases sgn_cases z1 with h | h | h <;> rcases sgn_cases z2 with h2 | h2 | h2 <;> rw [h, h2] <;> rfl
theorem or_bd (z1 z2 : Int) : -1 ≤ orS z1 z2 ∧ orS z1 z2 ≤ 1 := by rw [orS_eq]; split <;> omega
theorem sgnd_add (z1 z2 : Int) (n1 n2 : Nat) (h1 : z1.natAbs = n1) (h2 : z2.natAbs = n2) (h : 0 ≤ sgn z1 * sgn z2) : sgnd (prodL [orS z1 z2]) (n1 + n2) = z1 + z2 := by
  rw [prodL_one, orS_eq]
  subst h1 h2
  rcases sgn_cases' z1 with ⟨e1, f1⟩ | ⟨e1, f1⟩ | ⟨e1, f1⟩ <;> rcases sgn_cases' z2 with ⟨e2, f2⟩ | ⟨e2, f2⟩ | ⟨e2, f2⟩ <;> rw [e1, e2] at h <;> simp [e1, e2, sgnd] at h ⊢ <;> omega
theorem sgnd_suba (z1 z2 : Int) (n1 n2 : Nat) (h1 : z1.natAbs = n1) (h2 : z2.natAbs = n2) (h : ¬ 0 ≤ sgn z1 * sgn z2) (hle : n2 ≤ n1) : sgnd (prodL [sgn z1]) (n1 - n2) = z1 + z2 := by
  rw [prodL_one]
  subst h1 h2
  rcases sgn_cases' z1 with ⟨e1, f1⟩ | ⟨e1, f1⟩ | ⟨e1, f1⟩ <;> rcases sgn_cases' z2 with ⟨e2, f2⟩ | ⟨e2, f2⟩ | ⟨e2, f2⟩ <;> rw [e1, e2] at h <;> simp [e1, e2, sgnd] at h ⊢ <;> omega
theorem sgnd_subb (z1 z2 : Int) (n1 n2 : Nat) (h1 : z1.natAbs = n1) (h2 : z2.natAbs = n2) (h : ¬ 0 ≤ sgn z1 * sgn z2) (hle : n1 ≤ n2) : sgnd (prodL [sgn z2]) (n2 - n1) = z1 + z2 := by
  rw [prodL_one]
  subst h1 h2
  rcases sgn_cases' z1 with ⟨e1, f1⟩ | ⟨e1, f1⟩ | ⟨e1, f1⟩ <;> rcases sgn_cases' z2 with ⟨e2, f2⟩ | ⟨e2, f2⟩ | ⟨e2, f2⟩ <;> rw [e1, e2] at h <;> simp [e1, e2, sgnd] at h ⊢ <;> omega
/-- three boxes: x's, y's and the result's -/
theorem boxes3 (w : World) (n1 n2 : Bool) (v1 v2 : Value) :
    ∃ W0, W0 = ((w.alloc (.cells #[.bool n1, v1] 35)).alloc (.cells #[.bool n2, v2] 35)).alloc (.cells #[.bool false, .slice none 0 0] 35) ∧
      Box W0 w.heap.size (.bool n1) v1 ∧ Box W0 (w.heap.size + 1) (.bool n2) v2 ∧ Box W0 (w.heap.size + 1 + 1) (.bool false) (.slice none 0 0) ∧ Below w.heap.size w W0 ∧ W0.heap.size = w.heap.size + 3 := by
  refine ⟨_, rfl, ?_, ?_, ?_, ?_, by simp⟩
  · exact ((Box.new w n1 v1).below (below_alloc (Below.refl _ _) _)).below (below_alloc (Below.refl _ _) _)
  · have h := Box.new (w.alloc (.cells #[.bool n1, v1] 35)) n2 v2
    rw [show (w.alloc (.cells #[.bool n1, v1] 35)).heap.size = w.heap.size + 1 by simp] at h
    exact h.below (below_alloc (Below.refl _ _) _)
  · have h := Box.new ((w.alloc (.cells #[.bool n1, v1] 35)).alloc (.cells #[.bool n2, v2] 35)) false (.slice none 0 0)
    rw [show ((w.alloc (.cells #[.bool n1, v1] 35)).alloc (.cells #[.bool n2, v2] 35)).heap.size = w.heap.size + 1 + 1 by simp] at h
    exact h
  · exact below_alloc (below_alloc (below_alloc (Below.refl _ _) _) _) _
set_option maxHeartbeats 8000000 in
set_option maxRecDepth 100000 in
theorem wadd_any (x y : Value) (z1 z2 : Int) (L1 L2 : Nat) (w : World) (hx : IArg w x z1 L1) (hy : IArg w y z2 L2) (hL1 : L1 + 1 ≤ 70368744177664) (hL2 : L2 + 1 ≤ 70368744177664) :
    Calls Try.prog 21 #[x, y] w fun e w' => ∃ r, e = .returned r ∧ IRes w.heap.size w' r (z1 + z2) ∧ Below w.heap.size w w' := by
  obtain ⟨n1, v1, xs, rfl, ha1, hz1, hl1⟩ := hx.form
  obtain ⟨n2, v2, ys, rfl, ha2, hz2, hl2⟩ := hy.form
  obtain ⟨W0, hW0, hb1, hb2, hb3, hB0, hsz0⟩ := boxes3 w n1 n2 v1 v2
  have HX := Aside0.mk (hx.below hB0)
  have HY := Aside0.mk (hy.below hB0)
  have HA1 := Aside0.mk (ha1.below hB0)
  have HA2 := Aside0.mk (ha2.below hB0)
  have HZ1 := Aside0.mk hz1
  have HZ2 := Aside0.mk hz2
  have HBX := Aside0.mk hb1
  have HBY := Aside0.mk hb2
  have HBR := Aside0.mk hb3
  have HB0 := Aside0.mk hB0
  have HSZ := Aside0.mk hsz0
  have HW := Aside0.mk hW0
  have hsz1 : w.heap.size + 2 ≤ W0.heap.size := by omega
  obtain ⟨k0, k1, _, _, _⟩ := hb1
  obtain ⟨k2, k3, _, _, _⟩ := hb2
  have hS : ∀ w', Below (w.heap.size + 2) W0 w' → w'.cell? ⟨w.heap.size, 0, none⟩ = some (.bool n1) ∧ w'.cell? ⟨w.heap.size, 1, none⟩ = some v1 ∧ w'.cell? ⟨w.heap.size + 1, 0, none⟩ = some (.bool n2) ∧ w'.cell? ⟨w.heap.size + 1, 1, none⟩ = some v2 :=
    fun w' hb => ⟨(hb.cell (p := ⟨w.heap.size, 0, none⟩) (by simp)).trans k0, (hb.cell (p := ⟨w.heap.size, 1, none⟩) (by simp)).trans k1, (hb.cell (p := ⟨w.heap.size + 1, 0, none⟩) (by simp)).trans k2, (hb.cell (p := ⟨w.heap.size + 1, 1, none⟩) (by simp)).trans k3⟩
  have HS := Aside0.mk hS
  clear hx hy ha1 ha2 hz1 hz2 hb3 hB0 hsz0 hW0 hS
  go_enter Try.func21, Try.ntmps21
  go_wp2_with fail
  rw [← HW.out]
  go_region_held3 (fun w' => w'.cell? ⟨w.heap.size, 0, none⟩ = some (.bool n1) ∧ w'.cell? ⟨w.heap.size, 1, none⟩ = some v1 ∧ w'.cell? ⟨w.heap.size + 1, 0, none⟩ = some (.bool n2) ∧ w'.cell? ⟨w.heap.size + 1, 1, none⟩ = some v2)
    (first
      | exact HS.out _ (below_drew (Below.refl _ _))
      | exact HS.out _ (HB2.out.mono hsz1)
      | exact HS.out _ (HB1.out.mono hsz1))
    (first
      | (go_at_call 19; refine (sign_any _ _ _ _ (by first | exact HX.out.below HB1.out | exact HY.out.below HB1.out)).mono ?_; rintro e w2 ⟨rfl, hb2⟩; have HB2 := Aside0.mk (below_then HB1.out HB1.out.size hb2); clear hb2)
      | (go_at_call 19; refine (sign_any _ _ _ _ (by first | exact HX.out.below (below_drew (Below.refl _ _)) | exact HY.out.below (below_drew (Below.refl _ _)))).mono ?_; rintro e w1 ⟨rfl, hb1⟩; have HB1 := Aside0.mk (below_then (below_drew (Below.refl W0.heap.size W0)) (Nat.le_refl _) hb1); clear hb1))
  obtain ⟨d0, d1, d2, d3⟩ := HS.out w2 (HB2.out.mono hsz1)
  have hs1 := sgn_bd z1
  have hs2 := sgn_bd z2
  obtain ⟨p1, p2⟩ := unit_mul hs1.1 hs1.2 hs2.1 hs2.2
  clear k0 k1 k2 k3
  have HT1 := Aside0.mk (HA1.out.below HB2.out)
  have HT2 := Aside0.mk (HA2.out.below HB2.out)
  have hszw := HB2.out.size
  have hszW := HSZ.out
  have HBW := Aside0.mk (below_then HB0.out (by omega) HB2.out)
  have HBR2 := Aside0.mk (HBR.out.below HB2.out)
  by_cases hc : 0 ≤ sgn z1 * sgn z2
  · have hb : decide (sgn z1 * sgn z2 ≥ 0) = true := decide_eq_true hc
    have HV := Aside0.mk (sgnd_add z1 z2 (val xs) (val ys) (by rw [HZ1.out, zv_abs]) (by rw [HZ2.out, zv_abs]) hc)
    obtain ⟨o1, o2⟩ := or_bd z1 z2
    clear hc
    go_wp2_with fail
    refine (add_any _ _ _ _ _ HT1.out HT2.out (by omega) (by omega)).mono ?_
    rintro e w3 ⟨u, rfl, hu, hb3⟩
    have HU := Aside0.mk hu
    have HB3 := Aside0.mk hb3
    have hlu : (lim (val xs + val ys)).length ≤ 70368744177664 := by
      have l1 := val_lt HT1.out.lims
      have l2 := val_lt HT2.out.lims
      refine Nat.le_trans (lim_len_le (k := max xs.length ys.length + 1) ?_) (by omega)
      have q1 : (4294967296 : Nat) ^ xs.length ≤ 4294967296 ^ max xs.length ys.length := Nat.pow_le_pow_right (by omega) (by omega)
      have q2 : (4294967296 : Nat) ^ ys.length ≤ 4294967296 ^ max xs.length ys.length := Nat.pow_le_pow_right (by omega) (by omega)
      rw [pw_succ]
      omega
    clear hu hb3
    go_wp2_with fail
    rw [show bits .or .i64 (bits .or .i64 (sgn z1) (sgn z2)) 1 = orS z1 z2 from rfl]
    refine (signed_any _ (lim (val xs + val ys)) _ _ [orS z1 z2] _ (HU.out.arg.below (below_alloc (Below.refl _ _) _)) (reads_one _ _) (by simp; omega) hlu).mono ?_
    rintro e w4 ⟨y, rfl, hy, hb4⟩
    rw [val_lim, HV.out] at hy
    have HY4 := Aside0.mk hy
    have hal : Below w3.heap.size w3 (w3.alloc (.cells #[.int .i64 (orS z1 z2)] 3)) := below_alloc (Below.refl _ _) _
    have hb34 := below_then hal (by simp) hb4
    have hsz3 := HB3.out.size
    have hsz4 := hb34.size
    have HBF := Aside0.mk (below_then (below_then HBW.out (by omega) HB3.out) (by omega) hb34)
    obtain ⟨c0, c1, f0, f1, _⟩ := (HBR2.out.below HB3.out).below hb34
    obtain ⟨b, A, m, c, rfl⟩ := hy.shape
    clear hy hb4 hal hb34
    go_wp2
    obtain ⟨g0, g1⟩ := two_stored (.bool b) (.slice A m c) c0 c1
    refine bodyPost_ret (v := .agg #[.bool b, .slice A m c]) (by simp [results, Try.results21, go_sem, g0, g1]) rfl ?_
    exact ⟨_, rfl, (ires_other (ires_other HY4.out (by simp; omega) _) (by simp; omega) _).weaken (by simp; omega), (HBF.out.setCell (by simp; omega) _).setCell (by simp; omega) _⟩
  · have hb : decide (sgn z1 * sgn z2 ≥ 0) = false := decide_eq_false hc
    rcases Nat.lt_or_ge (val xs) (val ys) with hlt | hge
    · have hb2 : decide (cmpN (val xs) (val ys) ≥ 0) = false := decide_eq_false (by rw [cmpN_lt hlt]; omega)
      have HV := Aside0.mk (sgnd_subb z1 z2 (val xs) (val ys) (by rw [HZ1.out, zv_abs]) (by rw [HZ2.out, zv_abs]) hc (by omega))
      have hle : val xs ≤ val ys := by omega
      clear hc hlt
      go_wp2_with fail
      refine (cmp_any _ _ _ _ _ HT1.out HT2.out).mono ?_
      rintro e w5 ⟨rfl, ⟨nd, rfl⟩⟩
      go_wp2_with fail
      refine (sub_ge _ _ _ _ _ (HT2.out.drawn nd) (HT1.out.drawn nd) hle (by omega)).mono ?_
      rintro e w3 ⟨u, rfl, hu, hb3⟩
      have HU := Aside0.mk hu
      have HB3 := Aside0.mk (show Below w2.heap.size w2 w3 from below_then (pw_below_drewN (Below.refl w2.heap.size w2) nd) (Nat.le_refl _) hb3)
      have hlu : (lim (val ys - val xs)).length ≤ 70368744177664 := by
        have l2 := lim_val_len HT2.out.lims
        have := lim_len_mono (show val ys - val xs ≤ val ys by omega)
        omega
      clear hu hb3
      go_wp2_with fail
      refine (signed_any _ (lim (val ys - val xs)) _ _ [sgn z2] _ (HU.out.arg.below (below_alloc (Below.refl _ _) _)) (reads_one _ _) (by simp; omega) hlu).mono ?_
      rintro e w4 ⟨y, rfl, hy, hb4⟩
      rw [val_lim, HV.out] at hy
      have HY4 := Aside0.mk hy
      have hal : Below w3.heap.size w3 (w3.alloc (.cells #[.int .i64 (sgn z2)] 3)) := below_alloc (Below.refl _ _) _
      have hb34 := below_then hal (by simp) hb4
      have hsz3 := HB3.out.size
      have hsz4 := hb34.size
      have HBF := Aside0.mk (below_then (below_then HBW.out (by omega) HB3.out) (by omega) hb34)
      obtain ⟨c0, c1, f0, f1, _⟩ := (HBR2.out.below HB3.out).below hb34
      obtain ⟨b, A, m, c, rfl⟩ := hy.shape
      clear hy hb4 hal hb34
      go_wp2
      obtain ⟨g0, g1⟩ := two_stored (.bool b) (.slice A m c) c0 c1
      refine bodyPost_ret (v := .agg #[.bool b, .slice A m c]) (by simp [results, Try.results21, go_sem, g0, g1]) rfl ?_
      exact ⟨_, rfl, (ires_other (ires_other HY4.out (by simp; omega) _) (by simp; omega) _).weaken (by simp; omega), (HBF.out.setCell (by simp; omega) _).setCell (by simp; omega) _⟩
    · have hb2 : decide (cmpN (val xs) (val ys) ≥ 0) = true := by
        apply decide_eq_true
        rcases Nat.lt_or_ge (val ys) (val xs) with h | h
        · rw [cmpN_gt h]; omega
        · rw [cmpN_eq (by omega)]; omega
      have HV := Aside0.mk (sgnd_suba z1 z2 (val xs) (val ys) (by rw [HZ1.out, zv_abs]) (by rw [HZ2.out, zv_abs]) hc hge)
      have hle : val ys ≤ val xs := hge
      clear hc hge
      go_wp2_with fail
      refine (cmp_any _ _ _ _ _ HT1.out HT2.out).mono ?_
      rintro e w5 ⟨rfl, ⟨nd, rfl⟩⟩
      go_wp2_with fail
      refine (sub_ge _ _ _ _ _ (HT1.out.drawn nd) (HT2.out.drawn nd) hle (by omega)).mono ?_
      rintro e w3 ⟨u, rfl, hu, hb3⟩
      have HU := Aside0.mk hu
      have HB3 := Aside0.mk (show Below w2.heap.size w2 w3 from below_then (pw_below_drewN (Below.refl w2.heap.size w2) nd) (Nat.le_refl _) hb3)
      have hlu : (lim (val xs - val ys)).length ≤ 70368744177664 := by
        have l2 := lim_val_len HT1.out.lims
        have := lim_len_mono (show val xs - val ys ≤ val xs by omega)
        omega
      clear hu hb3
      go_wp2_with fail
      refine (signed_any _ (lim (val xs - val ys)) _ _ [sgn z1] _ (HU.out.arg.below (below_alloc (Below.refl _ _) _)) (reads_one _ _) (by simp; omega) hlu).mono ?_
      rintro e w4 ⟨y, rfl, hy, hb4⟩
      rw [val_lim, HV.out] at hy
      have HY4 := Aside0.mk hy
      have hal : Below w3.heap.size w3 (w3.alloc (.cells #[.int .i64 (sgn z1)] 3)) := below_alloc (Below.refl _ _) _
      have hb34 := below_then hal (by simp) hb4
      have hsz3 := HB3.out.size
      have hsz4 := hb34.size
      have HBF := Aside0.mk (below_then (below_then HBW.out (by omega) HB3.out) (by omega) hb34)
      obtain ⟨c0, c1, f0, f1, _⟩ := (HBR2.out.below HB3.out).below hb34
      obtain ⟨b, A, m, c, rfl⟩ := hy.shape
      clear hy hb4 hal hb34
      go_wp2
      obtain ⟨g0, g1⟩ := two_stored (.bool b) (.slice A m c) c0 c1
      refine bodyPost_ret (v := .agg #[.bool b, .slice A m c]) (by simp [results, Try.results21, go_sem, g0, g1]) rfl ?_
      exact ⟨_, rfl, (ires_other (ires_other HY4.out (by simp; omega) _) (by simp; omega) _).weaken (by simp; omega), (HBF.out.setCell (by simp; omega) _).setCell (by simp; omega) _⟩
end Go.Proofs.Ytnjbpkopekgihaa
