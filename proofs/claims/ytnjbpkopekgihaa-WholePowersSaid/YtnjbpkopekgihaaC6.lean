/- Walks: the law WholeRoots. -/
import Derived.Test.YtnjbpkopekgihaaC5
namespace Go.Proofs.Ytnjbpkopekgihaa
open Go.RowKit Go.Proofs.YtnjbpkopekgihaaW.PrintWords
set_option linter.unusedVariables false
set_option linter.unusedSimpArgs false
set_option maxHeartbeats 8000000 in
set_option maxRecDepth 100000 in
theorem wroots_neg (x : Value) (z : Int) (L : Nat) (w : World) (hx : IArg w x z L) (hz : z < 0) :
    Calls Try.prog 5 #[x] w fun e w' => e = .returned (.bool true) ∧ Below w.heap.size w w' := by
  obtain ⟨n1, v1, xs, rfl, ha1, hz1, hl1⟩ := hx.form
  obtain ⟨W0, hW0⟩ : ∃ W0, W0 = w.alloc (.cells #[.bool n1, v1] 35) := ⟨_, rfl⟩
  have hb1 := Box.new w n1 v1
  have hB0 := below_alloc (Below.refl w.heap.size w) (.cells #[.bool n1, v1] 35)
  rw [← hW0] at hb1 hB0
  have hsz0 : W0.heap.size = w.heap.size + 1 := by rw [hW0]; simp
  have HX := Aside0.mk (hx.below hB0)
  have HB0 := Aside0.mk hB0
  have HSZ := Aside0.mk hsz0
  have HW := Aside0.mk hW0
  have HBX := Aside0.mk hb1
  have HS := Aside0.mk (show sgn z = -1 by simp [sgn, hz])
  have HZ := Aside0.mk hz
  clear hx ha1 hz1 hl1 hb1 hB0 hsz0 hW0 hz
  go_enter Try.func5, Try.ntmps5
  go_wp2_with fail
  rw [← HW.out]
  refine (wroot_neg _ _ _ _ HX.out HZ.out).mono ?_
  rintro e w1 ⟨rfl, hb1⟩
  obtain ⟨k0, k1, _, _, _⟩ := HBX.out.below hb1
  have HX1 := Aside0.mk (HX.out.below hb1)
  have HB1 := Aside0.mk hb1
  clear hb1
  go_wp2_with fail
  have hal := below_alloc (Below.refl w1.heap.size w1) (.cells #[.bool false, .slice none 0 0] 35)
  refine (sign_any _ _ _ _ (HX1.out.below hal)).mono ?_
  rintro e w2 ⟨rfl, hb2⟩
  rw [HS.out]
  have h0 := HSZ.out
  have h1 := HB1.out.size
  have HB2 := Aside0.mk (below_then (below_then HB0.out (by omega) HB1.out) (by omega) (below_then hal (by simp) hb2))
  have h2 := HB2.out.size
  clear hb2 hal
  go_wp2_with fail
  refine (awake_any _).mono ?_
  rintro e w3 ⟨rfl, hb3⟩
  have HB3 := Aside0.mk hb3
  clear hb3
  go_wp2
  go_ret
  exact ⟨rfl, below_then HB2.out h2 HB3.out⟩
theorem IArg.le {w : World} {x : Value} {z : Int} {L L' : Nat} (h : IArg w x z L) (hl : L ≤ L') : IArg w x z L' := by
  obtain ⟨neg, v, xs, rfl, ha, hz, hk⟩ := h.form
  exact ⟨neg, v, xs, rfl, ha, hz, Nat.le_trans hk hl⟩
theorem next_stored {B : Nat} {w4 : World} {b2 : Bool} {v : Value} {z : Int} {g : Nat} {x y : Value} (c0 : w4.cell? ⟨g, 0, none⟩ = some x) (c1 : w4.cell? ⟨g, 1, none⟩ = some y) (hg : g < B) (hlt : g < w4.heap.size) (hn : IRes B w4 (.agg #[.bool b2, v]) z) :
    ((w4.setCell ⟨g, 0, none⟩ (.bool b2)).setCell ⟨g, 1, none⟩ v).cell? ⟨g, 0, none⟩ = some (.bool b2) ∧ ((w4.setCell ⟨g, 0, none⟩ (.bool b2)).setCell ⟨g, 1, none⟩ v).cell? ⟨g, 1, none⟩ = some v ∧ g < ((w4.setCell ⟨g, 0, none⟩ (.bool b2)).setCell ⟨g, 1, none⟩ v).heap.size ∧ IRes B ((w4.setCell ⟨g, 0, none⟩ (.bool b2)).setCell ⟨g, 1, none⟩ v) (.agg #[.bool b2, v]) z := by
  obtain ⟨g0, g1⟩ := two_stored (.bool b2) v c0 c1
  refine ⟨?_, g1, by simp; omega, ires_other (ires_other hn hg _) hg _⟩
  rw [World.cell?_setCell_other _ _ _ _ (by simp)]
  exact g0
theorem root_laid (r : Nat) (z : Int) (L : Nat) (h : IsRoot r z.natAbs) (hz : 0 ≤ z) (hl : (lim z.natAbs).length ≤ L) :
    decide (sgn ((r : Int) * r - z) ≤ 0) = true ∧ (sgn (((r : Int) + 1) * ((r : Int) + 1) - z) == 1) = true ∧ decide (sgn (r : Int) ≥ 0) = true ∧ (lim ((r : Int) * r).natAbs).length ≤ L ∧ (lim (((r : Int) + 1) * ((r : Int) + 1)).natAbs).length ≤ 2 * L + 2 ∧ (lim (r : Int).natAbs).length ≤ L ∧ (lim ((r : Int) + 1).natAbs).length ≤ L + 1 := by
  have hrz : r ≤ z.natAbs := root_le h
  obtain ⟨h1, h2⟩ := h
  have e1 : ((r : Int) * r) = ((r * r : Nat) : Int) := by simp
  have e2 : (((r : Int) + 1) * ((r : Int) + 1)) = (((r + 1) * (r + 1) : Nat) : Int) := by simp
  have e3 : ((r : Int) + 1) = ((r + 1 : Nat) : Int) := by simp
  have k1 : r + 1 ≤ 4294967296 ^ L := by
    have := lim_len_lt z.natAbs
    have h3 : z.natAbs < 4294967296 ^ L := Nat.lt_of_lt_of_le this (Nat.pow_le_pow_right (by omega) hl)
    omega
  have k2 : (r + 1) * (r + 1) < 4294967296 ^ (2 * L + 2) := by
    have h4 := Nat.mul_le_mul k1 k1
    rw [← Nat.pow_add] at h4
    have h5 : 4294967296 ^ (L + L) < 4294967296 ^ (2 * L + 2) := Nat.pow_lt_pow_right (by omega) (by omega)
    omega
  have k3 : r + 1 < 4294967296 ^ (L + 1) := Nat.lt_of_le_of_lt k1 (Nat.pow_lt_pow_right (by omega) (by omega))
  generalize ea : r * r = a at *
  generalize eb : (r + 1) * (r + 1) = b at *
  rw [e1, e2]
  refine ⟨decide_eq_true ?_, ?_, decide_eq_true ?_, ?_, ?_, ?_, ?_⟩
  · rcases sgn_cases' ((a : Int) - z) with ⟨e, f⟩ | ⟨e, f⟩ | ⟨e, f⟩ <;> omega
  · rcases sgn_cases' ((b : Int) - z) with ⟨e, f⟩ | ⟨e, f⟩ | ⟨e, f⟩
    · omega
    · omega
    · rw [e]; rfl
  · rcases sgn_cases' (r : Int) with ⟨e, f⟩ | ⟨e, f⟩ | ⟨e, f⟩ <;> omega
  · rw [Int.natAbs_natCast]; exact Nat.le_trans (lim_len_mono h1) hl
  · rw [Int.natAbs_natCast]; exact lim_len_le k2
  · rw [Int.natAbs_natCast]; exact Nat.le_trans (lim_len_mono hrz) hl
  · rw [e3, Int.natAbs_natCast]; exact lim_len_le k3
set_option maxHeartbeats 16000000 in
set_option maxRecDepth 100000 in
theorem wroots_pos (x : Value) (z : Int) (L : Nat) (w : World) (hx : IArg w x z L) (hz : 0 ≤ z) (hL : 2 * (L + 2) ≤ 70368744177664) :
    Calls Try.prog 5 #[x] w fun e w' => e = .returned (.bool true) ∧ Below w.heap.size w w' := by
  have hlen := hx.len
  obtain ⟨n1, v1, xs, rfl, ha1, hz1, hl1⟩ := hx.form
  obtain ⟨W0, hW0⟩ : ∃ W0, W0 = w.alloc (.cells #[.bool n1, v1] 35) := ⟨_, rfl⟩
  have hb1 := Box.new w n1 v1
  have hB0 := below_alloc (Below.refl w.heap.size w) (.cells #[.bool n1, v1] 35)
  rw [← hW0] at hb1 hB0
  have hsz0 : W0.heap.size = w.heap.size + 1 := by rw [hW0]; simp
  have HX := Aside0.mk (hx.below hB0)
  have HB0 := Aside0.mk hB0
  have HSZ := Aside0.mk hsz0
  have HW := Aside0.mk hW0
  have HBX := Aside0.mk hb1
  have hb : decide (sgn z < 0) = false := decide_eq_false (by rcases sgn_cases' z with ⟨e, f⟩ | ⟨e, f⟩ | ⟨e, f⟩ <;> omega)
  have HZ := Aside0.mk hz
  clear hx ha1 hz1 hl1 hb1 hB0 hsz0 hW0 hz
  go_enter Try.func5, Try.ntmps5
  go_wp2_with fail
  rw [← HW.out]
  refine (wroot_any _ _ _ _ HX.out HZ.out (by omega)).mono ?_
  rintro e w1 ⟨y, r, rfl, hy, hir, hb1⟩
  obtain ⟨k0, k1, _, _, _⟩ := HBX.out.below hb1
  have hrz : r ≤ z.natAbs := root_le hir
  have hlr := lim_len_mono hrz
  have HX1 := Aside0.mk (HX.out.below hb1)
  have HBX1 := Aside0.mk (HBX.out.below hb1)
  have HB1 := Aside0.mk hb1
  have HR := Aside0.mk hy
  have HIR := Aside0.mk hir
  obtain ⟨b, A, m, c, rfl⟩ := hy.shape
  clear hb1 hy hir
  go_wp2_with fail
  obtain ⟨W1, hW1⟩ : ∃ W1, W1 = w1.alloc (.cells #[.bool b, .slice A m c] 35) := ⟨_, rfl⟩
  have hal := below_alloc (Below.refl w1.heap.size w1) (.cells #[.bool b, .slice A m c] 35)
  have hbr := Box.new w1 b (.slice A m c)
  rw [← hW1] at hal hbr ⊢
  have HSZ1 := Aside0.mk (show W1.heap.size = w1.heap.size + 1 by rw [hW1]; simp)
  clear hW1
  refine (sign_any _ _ _ _ (HX1.out.below hal)).mono ?_
  rintro e w2 ⟨rfl, hb2⟩
  have hsz0 := HSZ.out
  have hsz1 := HSZ1.out
  have hg1 := HB1.out.size
  have HX2 := Aside0.mk ((HX1.out.below hal).below hb2)
  have HBX2 := Aside0.mk ((HBX1.out.below hal).below hb2)
  have HBR2 := Aside0.mk (hbr.below hb2)
  have HR2 := Aside0.mk ((HR.out.below hal).below hb2)
  have HB2 := Aside0.mk (below_then (below_then (below_then HB0.out (by omega) HB1.out) (by omega) hal) (by omega) hb2)
  have hg2 := hb2.size
  have hgs : w1.heap.size < w2.heap.size := by omega
  have hgx : w.heap.size < w2.heap.size := by omega
  obtain ⟨k0, k1, _, _, _⟩ := HBX2.out
  obtain ⟨k2, k3, _, _, _⟩ := HBR2.out
  have hS : ∀ w', Below w2.heap.size w2 w' → w'.cell? ⟨w.heap.size, 0, none⟩ = some (.bool n1) ∧ w'.cell? ⟨w.heap.size, 1, none⟩ = some v1 ∧ w'.cell? ⟨w1.heap.size, 0, none⟩ = some (.bool b) ∧ w'.cell? ⟨w1.heap.size, 1, none⟩ = some (.slice A m c) :=
    fun w' hb => ⟨(hb.cell (p := ⟨w.heap.size, 0, none⟩) hgx).trans k0, (hb.cell (p := ⟨w.heap.size, 1, none⟩) hgx).trans k1, (hb.cell (p := ⟨w1.heap.size, 0, none⟩) hgs).trans k2, (hb.cell (p := ⟨w1.heap.size, 1, none⟩) hgs).trans k3⟩
  have HS := Aside0.mk hS
  have L1 : (lim (1 : Int).natAbs).length ≤ 1 := lim_len_le (n := 1) (k := 1) (by omega)
  obtain ⟨g1, g2, g3, M1, M2, M3, M4⟩ := root_laid r z L HIR.out HZ.out hlen
  clear hal hbr hb2 hS HR HX1 HX HBX HBX1
  go_wp2_with fail
  go_upto_region 5 with fail
  go_cut [5] (fun G wc => ∃ g b2 A2 m2 c2, G = .pointer (some ⟨g, 0, none⟩) ∧ wc.cell? ⟨g, 0, none⟩ = some (.bool b2) ∧ wc.cell? ⟨g, 1, none⟩ = some (.slice A2 m2 c2) ∧ g < wc.heap.size ∧ Aside0 (IArg wc (.agg #[.bool b2, .slice A2 m2 c2]) ((r : Int) + 1) (L + 1)) ∧ Aside0 (Below w2.heap.size w2 wc))
  case first =>
    go_region_held3 (fun w' => w'.cell? ⟨w.heap.size, 0, none⟩ = some (.bool n1) ∧ w'.cell? ⟨w.heap.size, 1, none⟩ = some v1 ∧ w'.cell? ⟨w1.heap.size, 0, none⟩ = some (.bool b) ∧ w'.cell? ⟨w1.heap.size, 1, none⟩ = some (.slice A m c))
      (first
        | exact HS.out _ (below_drew (Below.refl _ _))
        | exact HS.out _ ((below_drew (Below.refl _ _)).alloc (Nat.le_refl _) _)
        | exact HS.out _ HB3.out
        | exact HS.out _ (HB3.out.alloc HB3.out.size _)
        | exact HS.out _ HB4.out
        | exact HS.out _ (HB4.out.alloc HB4.out.size _)
        | exact HS.out _ ((HB4.out.setCell (by try have := HB3.out.size; try have := HB4.out.size; simp; try omega) _).setCell (by try have := HB3.out.size; try have := HB4.out.size; simp; try omega) _)
        | exact HS.out _ (((HB4.out.alloc HB4.out.size _).setCell (by try have := HB3.out.size; try have := HB4.out.size; simp; try omega) _).setCell (by try have := HB3.out.size; try have := HB4.out.size; simp; try omega) _))
      (first
        | (go_at_call 22; refine (one_any _).mono ?_; rintro e w3 ⟨x1, rfl, h1, hb3⟩; have HO := Aside0.mk h1; have HB3 := Aside0.mk (below_then (below_drew (Below.refl w2.heap.size w2)) (Nat.le_refl _) hb3); clear h1 hb3)
        | (go_at_call 22; refine (one_any _).mono ?_; rintro e w3 ⟨x1, rfl, h1, hb3⟩; have HO := Aside0.mk h1; have HB3 := Aside0.mk (below_then ((below_drew (Below.refl w2.heap.size w2)).alloc (Nat.le_refl _) _) (by simp) hb3); have HBN : Aside0 (Box w3 w2.heap.size (.bool false) (.slice none 0 0)) := Aside0.mk ((Box.new w2.drew false (.slice none 0 0)).below hb3); clear h1 hb3)
        | (go_at_call 21; refine (wadd_any _ _ _ _ _ _ _ (HR2.out.below HB3.out).arg HO.out.arg (by omega) (by omega)).mono ?_; rintro e w4 ⟨y, rfl, hy, hb4⟩; have HB4 := Aside0.mk (below_then HB3.out HB3.out.size hb4); have HNX := Aside0.mk hy; obtain ⟨b2, A2, m2, c2, rfl⟩ := hy.shape; obtain ⟨c0, c1, f0, f1, hlt⟩ := HBN.out.below hb4; have HLT := Aside0.mk (HBN.out).lt; clear hy hb4)
        | (go_at_call 21; refine (wadd_any _ _ _ _ _ _ _ (HR2.out.below HB3.out).arg HO.out.arg (by omega) (by omega)).mono ?_; rintro e w4 ⟨y, rfl, hy, hb4⟩; have HB4 := Aside0.mk (below_then HB3.out HB3.out.size hb4); have HNX := Aside0.mk hy; obtain ⟨b2, A2, m2, c2, rfl⟩ := hy.shape; obtain ⟨c0, c1, f0, f1, hlt⟩ := Box.new w4 false (.slice none 0 0); clear hy hb4)
        | (go_at_call 21; refine (wadd_any _ _ _ _ _ _ _ (HR2.out.below (HB3.out.alloc HB3.out.size _)).arg (HO.out.below (below_alloc (Below.refl _ _) _)).arg (by omega) (by omega)).mono ?_; rintro e w4 ⟨y, rfl, hy, hb4⟩; have HB4 := Aside0.mk (below_then (HB3.out.alloc HB3.out.size _) (by have := HB3.out.size; simp; omega) hb4); have HNX := Aside0.mk hy; obtain ⟨b2, A2, m2, c2, rfl⟩ := hy.shape; obtain ⟨c0, c1, f0, f1, hlt⟩ := (Box.new w3 false (.slice none 0 0)).below hb4; have HLT := Aside0.mk ((Box.new w3 false (.slice none 0 0))).lt; clear hy hb4))
    all_goals (go_wp2_with fail; go_meet)
    · obtain ⟨q0, q1, _, _, ql⟩ := Box.new w4 b2 (.slice A2 m2 c2)
      exact ⟨_, b2, A2, m2, c2, rfl, q0, q1, ql, Aside0.mk ((HNX.out.below (below_alloc (Below.refl _ _) _)).arg.le M4), Aside0.mk (HB4.out.alloc HB4.out.size _)⟩
    · have hl3 := HLT.out
      have s3 := HB3.out.size
      obtain ⟨q0, q1, ql, qn⟩ := next_stored c0 c1 hl3 hlt HNX.out
      exact ⟨_, b2, A2, m2, c2, rfl, q0, q1, ql, Aside0.mk (qn.arg.le M4), Aside0.mk ((HB4.out.setCell s3 _).setCell s3 _)⟩
    · have hl3 := HLT.out
      obtain ⟨q0, q1, ql, qn⟩ := next_stored c0 c1 hl3 hlt HNX.out
      exact ⟨_, b2, A2, m2, c2, rfl, q0, q1, ql, Aside0.mk (qn.arg.le M4), Aside0.mk ((HB4.out.setCell (Nat.le_refl _) _).setCell (Nat.le_refl _) _)⟩
  case rest =>
    obtain ⟨g, b2, A2, m2, c2, rfl, q0, q1, ql, HN, HBC⟩ := hcut
    have hszc := HBC.out.size
    have HSC := Aside0.mk (show ∀ w', Below wc.heap.size wc w' → w'.cell? ⟨w.heap.size, 0, none⟩ = some (.bool n1) ∧ w'.cell? ⟨w.heap.size, 1, none⟩ = some v1 ∧ w'.cell? ⟨w1.heap.size, 0, none⟩ = some (.bool b) ∧ w'.cell? ⟨w1.heap.size, 1, none⟩ = some (.slice A m c) ∧ w'.cell? ⟨g, 0, none⟩ = some (.bool b2) ∧ w'.cell? ⟨g, 1, none⟩ = some (.slice A2 m2 c2) from fun w' hb => by
      obtain ⟨t0, t1, t2, t3⟩ := HS.out w' (below_then HBC.out hszc hb)
      exact ⟨t0, t1, t2, t3, (hb.cell (p := ⟨g, 0, none⟩) ql).trans q0, (hb.cell (p := ⟨g, 1, none⟩) ql).trans q1⟩)
    obtain ⟨_, _, _, _, _, _⟩ := HSC.out _ (Below.refl _ _)
    have HXC := Aside0.mk (HX2.out.below HBC.out)
    have HRC := Aside0.mk ((HR2.out.below HBC.out).arg.le M3)
    clear HX2 HR2 HBX2 HBR2 HS
    go_wp2_with fail
    go_region_held3 (fun w' => w'.cell? ⟨w.heap.size, 0, none⟩ = some (.bool n1) ∧ w'.cell? ⟨w.heap.size, 1, none⟩ = some v1 ∧ w'.cell? ⟨w1.heap.size, 0, none⟩ = some (.bool b) ∧ w'.cell? ⟨w1.heap.size, 1, none⟩ = some (.slice A m c) ∧ w'.cell? ⟨g, 0, none⟩ = some (.bool b2) ∧ w'.cell? ⟨g, 1, none⟩ = some (.slice A2 m2 c2))
      (first
        | exact HSC.out _ (below_drew (Below.refl _ _))
        | exact HSC.out _ HB5.out
        | exact HSC.out _ HB6.out
        | exact HSC.out _ HB7.out
        | exact HSC.out _ HB8.out
        | exact HSC.out _ HB9.out)
      (first
        | (go_at_call 24; refine (wmul_any _ _ ((r : Int) + 1) ((r : Int) + 1) _ _ _ (HN.out.below HB6.out) (HN.out.below HB6.out) (by omega)).mono ?_; rintro e w7 ⟨y, rfl, hy, hb⟩; have HP2 := Aside0.mk (hy.arg.le M2); have HB7 := Aside0.mk (below_then HB6.out HB6.out.size hb); clear hy hb)
        | (go_at_call 24; refine (wmul_any _ _ (r : Int) (r : Int) _ _ _ (HRC.out.below (below_drew (Below.refl _ _))) (HRC.out.below (below_drew (Below.refl _ _))) (by omega)).mono ?_; rintro e w5 ⟨y, rfl, hy, hb⟩; have HP1 := Aside0.mk (hy.arg.le M1); have HB5 := Aside0.mk (below_then (below_drew (Below.refl wc.heap.size wc)) (Nat.le_refl _) hb); clear hy hb)
        | (go_at_call 23; refine (wcmp_any _ _ _ _ _ _ _ HP2.out (HXC.out.below HB7.out) (by omega) (by omega)).mono ?_; rintro e w8 ⟨rfl, hb⟩; have HB8 := Aside0.mk (below_then HB7.out HB7.out.size hb); clear hb)
        | (go_at_call 23; refine (wcmp_any _ _ _ _ _ _ _ HP1.out (HXC.out.below HB5.out) (by omega) (by omega)).mono ?_; rintro e w6 ⟨rfl, hb⟩; have HB6 := Aside0.mk (below_then HB5.out HB5.out.size hb); clear hb)
        | (go_at_call 19; refine (sign_any _ _ _ _ (HRC.out.below HB8.out)).mono ?_; rintro e w9 ⟨rfl, hb⟩; have HB9 := Aside0.mk (below_then HB8.out HB8.out.size hb); clear hb))
    have hz2 := HB2.out.size
    have hz9 := HB9.out.size
    go_wp2
    go_ret
    exact ⟨rfl, below_then HB2.out hz2 (below_then HBC.out hszc HB9.out)⟩
end Go.Proofs.Ytnjbpkopekgihaa
