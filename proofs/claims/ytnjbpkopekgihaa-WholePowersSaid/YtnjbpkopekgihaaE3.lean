/- Walks: the reference's Root of a whole number. -/
import Derived.Test.YtnjbpkopekgihaaA16
import Derived.Test.YtnjbpkopekgihaaE2
namespace Go.Proofs.Ytnjbpkopekgihaa
open Go.RowKit Go.Proofs.YtnjbpkopekgihaaW.PrintWords
set_option linter.unusedVariables false
set_option linter.unusedSimpArgs false
def RtInv (N R k : Nat) : Prop := R * R ≤ N ∧ N < (R + 2 ^ k) * (R + 2 ^ k)
theorem rt_start {xs : List Int} (h : Lim xs) : RtInv (val xs) 0 (16 * xs.length + 2) := by
  refine ⟨by omega, ?_⟩
  have h1 := val_lt h
  have e : (0 + 2 ^ (16 * xs.length + 2)) * (0 + 2 ^ (16 * xs.length + 2)) = 4294967296 ^ xs.length * 16 := by
    rw [Nat.zero_add, ← Nat.pow_add, show (4294967296 : Nat) = 2 ^ 32 by decide, ← Nat.pow_mul, show (16 : Nat) = 2 ^ 4 by decide, ← Nat.pow_add]
    congr 1; omega
  rw [e]; omega
theorem rt_le {N R j : Nat} (h : RtInv N R (j + 1)) (hle : (R + 2 ^ j) * (R + 2 ^ j) ≤ N) : RtInv N (R + 2 ^ j) j := by
  refine ⟨hle, ?_⟩
  have h2 := h.2
  rw [Nat.pow_succ] at h2
  rw [show R + 2 ^ j + 2 ^ j = R + 2 ^ j * 2 by omega]
  exact h2
theorem rt_gt {N R j : Nat} (h : RtInv N R (j + 1)) (hgt : N < (R + 2 ^ j) * (R + 2 ^ j)) : RtInv N R j := ⟨h.1, hgt⟩
theorem rt_end {N R : Nat} (h : RtInv N R 0) : IsRoot R N := ⟨h.1, by simpa using h.2⟩
theorem rt_len {N R k L : Nat} (h : RtInv N R k) (hN : N < 4294967296 ^ L) : (lim R).length ≤ L := lim_len_le (by
  have h1 := h.1
  rcases Nat.eq_zero_or_pos R with h0 | h0
  · have := pw_pos L; omega
  · have := Nat.le_mul_of_pos_left R h0; omega)
theorem rt_len2 {N R k j L : Nat} (h : RtInv N R k) (hN : N < 4294967296 ^ L) (hj : j ≤ 16 * L + 1) : (lim (R + 2 ^ j)).length ≤ L + 2 := by
  have h1 : R < 4294967296 ^ L := by have := lim_len_lt R; exact Nat.lt_of_lt_of_le this (Nat.pow_le_pow_right (by omega) (rt_len h hN))
  have h2 : 2 ^ j ≤ 4294967296 ^ (L + 1) := by
    rw [show (4294967296 : Nat) = 2 ^ 32 by decide, ← Nat.pow_mul]
    exact Nat.pow_le_pow_right (by omega) (by omega)
  refine lim_len_le ?_
  rw [pw_succ, pw_succ] 
  rw [pw_succ] at h2
  generalize 4294967296 ^ L = P at *
  omega
theorem cmpN_le {a b : Nat} (h : a ≤ b) : decide (cmpN a b ≤ 0) = true := by
  unfold cmpN
  by_cases h1 : a < b
  · rw [if_pos h1]; rfl
  · rw [if_neg h1, if_pos (by omega)]; rfl
theorem cmpN_nle {a b : Nat} (h : b < a) : decide (cmpN a b ≤ 0) = false := by rw [cmpN_gt h]; rfl
set_option maxHeartbeats 8000000 in
set_option maxRecDepth 100000 in
theorem rroot_neg (x : Value) (z : Int) (L : Nat) (w : World) (hx : IArg w x z L) (hz : z < 0) (hL : L ≤ 70368744177664) :
    Calls Try.prog 14 #[x] w fun e w' => e = .returned (.tuple #[.agg #[.bool false, .slice none 0 0], .int .i64 10]) ∧ Below w.heap.size w w' := by
  obtain ⟨n1, v1, xs, rfl, ha1, hz1, hl1⟩ := hx.form
  obtain ⟨W0, hW0, hb1, hb2, hB0, hsz0⟩ := boxes2 w n1 false v1 (.slice none 0 0)
  have HX := Aside0.mk (hx.below hB0)
  have HB0 := Aside0.mk hB0
  have HSZ := Aside0.mk hsz0
  have HW := Aside0.mk hW0
  have HBR := Aside0.mk hb2
  have HS := Aside0.mk (show sgn z = -1 by simp [sgn, hz])
  clear hx ha1 hz1 hl1 hb1 hb2 hB0 hsz0 hW0 hz
  go_enter Try.func14, Try.ntmps14
  go_wp2_with fail
  rw [← HW.out]
  refine (rsign_any _ _ _ _ HX.out hL).mono ?_
  rintro e w1 ⟨rfl, hb1⟩
  rw [HS.out]
  obtain ⟨c0, c1, f0, f1, _⟩ := HBR.out.below hb1
  have HB1 := Aside0.mk hb1
  clear hb1
  go_wp2
  obtain ⟨g0, g1⟩ := two_stored (.bool false) (.slice none 0 0) c0 c1
  refine bodyPost_ret (v := .tuple #[.agg #[.bool false, .slice none 0 0], .int .i64 10]) (by simp [results, Try.results14, go_sem, g0, g1]) rfl ?_
  have h0 := HSZ.out
  exact ⟨rfl, ((below_then HB0.out (by omega) HB1.out).setCell (by simp) _).setCell (by simp) _⟩
set_option maxHeartbeats 16000000 in
set_option maxRecDepth 100000 in
theorem rroot_any (x : Value) (z : Int) (L : Nat) (w : World) (hx : IArg w x z L) (hz : 0 ≤ z) (hL : 2 * (L + 2) ≤ 70368744177664) :
    Calls Try.prog 14 #[x] w fun e w' => ∃ y r, e = .returned (.tuple #[y, .int .i64 0]) ∧ IRes w.heap.size w' y (r : Nat) ∧ IsRoot r z.natAbs ∧ Below w.heap.size w w' := by
  obtain ⟨n1, v1, xs, rfl, ha1, hz1, hl1⟩ := hx.form
  obtain ⟨W0, hW0, hb1, hb2, hB0, hsz0⟩ := boxes2 w n1 false v1 (.slice none 0 0)
  have HX := Aside0.mk (hx.below hB0)
  have HA := Aside0.mk (ha1.below hB0)
  have HB0 := Aside0.mk hB0
  have HSZ := Aside0.mk hsz0
  have HW := Aside0.mk hW0
  have HBX := Aside0.mk hb1
  have HBR := Aside0.mk hb2
  have HL := Aside0.mk ha1.lims
  have HN := Aside0.mk (show val xs = z.natAbs by rw [hz1, zv_abs])
  have HV := Aside0.mk (val_lt ha1.lims)
  have hb : decide (sgn z < 0) = false := decide_eq_false (by rcases sgn_cases' z with ⟨e, f⟩ | ⟨e, f⟩ | ⟨e, f⟩ <;> omega)
  obtain ⟨⟨A, c, rfl, hc, hr⟩, hl⟩ := ha1
  have hxl : xs.length ≤ 35184372088832 := by omega
  have HMK := Aside0.mk (print_make (P := Try.prog) 23 58 .u32 4 Try.underlying23 info58 (by omega))
  clear hx hz1 hb1 hb2 hB0 hsz0 hW0 hz hr hl hc
  go_enter Try.func14, Try.ntmps14
  go_wp2_with fail
  rw [← HW.out]
  refine (rsign_any _ _ _ _ HX.out (by omega)).mono ?_
  rintro e w1 ⟨rfl, hb1⟩
  obtain ⟨k0, k1, _, _, _⟩ := HBX.out.below hb1
  have HB1 := Aside0.mk hb1
  clear hb1
  go_wp2_with fail
  go_loopw [4, 5] (fun vr i wr => ∃ (R k : Nat), i = .int .i64 ((k : Int) - 1) ∧ k ≤ 16 * xs.length + 2 ∧ Aside0 (Arg wr vr (lim R)) ∧ Aside0 (RtInv (val xs) R k) ∧ Aside0 (Below W0.heap.size W0 wr)) (fun _ i _ => (intOf i + 1).toNat)
  case atStart => exact ⟨0, 16 * xs.length + 2, by congr 1; omega, Nat.le_refl _, ⟨(Res.nil 0 _).arg⟩, ⟨rt_start HL.out⟩, HB1⟩
  case round =>
    clear k0 k1
    obtain ⟨R, k, rfl, hk, hvr, hinv, hbel⟩ := hrel
    obtain ⟨k0, k1, _, _, _⟩ := HBX.out.below hbel.out
    have hszr := hbel.out.size
    by_cases h0 : 0 < k
    · obtain ⟨j, rfl⟩ : ∃ j, k = j + 1 := ⟨k - 1, by omega⟩
      rw [show (((j + 1 : Nat) : Int) - 1) = (j : Int) by omega]
      obtain ⟨q, hq⟩ : ∃ q, q = j / 32 := ⟨_, rfl⟩
      obtain ⟨p, hp⟩ : ∃ p, p = j % 32 := ⟨_, rfl⟩
      have hq' : (j : Int) / 32 = (q : Int) := by omega
      have hp' : (j : Int) % 32 = (p : Int) := by omega
      have hq2 : q + 1 ≤ xs.length + 1 := by omega
      have hp3 : p < 32 := by omega
      have hj2 : j ≤ 562949953421313 := by omega
      have HR1 := Aside0.mk (rt_len hinv.out HV.out)
      have HR2 := Aside0.mk (rt_len2 hinv.out HV.out (j := j) (by omega))
      have HQ := Aside0.mk hq
      have HP := Aside0.mk hp
      clear hq hp
      have hmk := HMK.out (q + 1) (by omega)
      simp only [Int.natCast_add, Int.cast_ofNat_Int] at hmk
      have hom := own_made wr wr.heap.size 58 .u32 (q + 1) (Nat.le_refl _) (by omega)
      obtain ⟨hc1, hc2⟩ := own_cell hom q (by omega)
      rw [at_replicate] at hc1
      have hp2 : (2 : Int) ^ p % 4294967296 = 2 ^ p := by
        have h := two_pow_lt p hp3
        rw [← two_pow_int p]
        exact Int.emod_eq_of_lt (Int.natCast_nonneg _) (by omega)
      have hput := own_put hom (below_alloc (Below.refl _ _) _) q (2 ^ p)
      have hlist : (List.replicate (q + 1) (0 : Int)).set q (2 ^ p) = lim (2 ^ j) := by
        have h := pow2_limbs j
        rw [← HQ.out, ← HP.out, two_pow_int] at h
        exact h
      rw [hlist, World.setCell_alloc_at _ _ _ _ _ rfl] at hput
      have hX0 : Res wr.heap.size (wr.alloc (.cells ((madeCells #[.int .u32 0] (q + 1)).setIfInBounds q (.int .u32 (2 ^ p))) 58)) (.slice (some ⟨wr.heap.size, 0, none⟩) (q + 1) (q + 1)) (2 ^ j) :=
        ⟨by rw [show (lim (2 ^ j)).length = q + 1 by rw [lim_pow2_len, HQ.out]]; exact hput.1⟩
      have HX0 := Aside0.mk hX0
      have HB2 := Aside0.mk hput.2
      have HL0 := Aside0.mk (show (lim (2 ^ j)).length = q + 1 by rw [lim_pow2_len, HQ.out])
      clear hom hput hlist hX0
      go_wp2_with fail
      refine (radd_any _ _ _ _ _ (hvr.out.below HB2.out) HX0.out.arg (by have := HR1.out; omega) (by have := HL0.out; omega)).mono ?_
      rintro e w2 ⟨t, rfl, ht, hb2⟩
      rw [val_lim, val_lim] at ht
      have HT := Aside0.mk ht
      have HBE := Aside0.mk (below_then HB2.out HB2.out.size hb2)
      have HB0w := Aside0.mk (below_then hbel.out hszr HBE.out)
      have hsz02 := HB0w.out.size
      have hgx : w.heap.size < w2.heap.size := by have := HSZ.out; omega
      obtain ⟨k2, k3, _, _, _⟩ := HBX.out.below HB0w.out
      have HS := Aside0.mk (show ∀ w', Below w2.heap.size w2 w' → w'.cell? ⟨w.heap.size, 1, none⟩ = some (.slice A xs.length c) from fun w' hb => (hb.cell (p := ⟨w.heap.size, 1, none⟩) hgx).trans k3)
      clear ht hb2 hmk hc1 hc2 hp2 hq' hp' k0 k1
      by_cases hle : (R + 2 ^ j) * (R + 2 ^ j) ≤ val xs
      · have hcmp : decide (cmpN ((R + 2 ^ j) * (R + 2 ^ j)) (val xs) ≤ 0) = true := cmpN_le hle
        have hst := Aside0.mk (rt_le hinv.out hle)
        clear hle
        go_wp2_with fail
        go_region_held3 (fun w' => w'.cell? ⟨w.heap.size, 1, none⟩ = some (.slice A xs.length c))
          (first
            | exact HS.out _ (below_drew (Below.refl _ _))
            | exact HS.out _ HB4.out)
          (first
            | (go_at_call 36; refine (rmul_any _ _ _ _ _ (HT.out.arg.below (below_drew (Below.refl _ _))) (HT.out.arg.below (below_drew (Below.refl _ _))) (by have := HR2.out; omega)).mono ?_; rintro e w4 ⟨m, rfl, hm, hb4⟩; rw [val_lim] at hm; have HM := Aside0.mk hm; have HB4 := Aside0.mk (below_then (below_drew (Below.refl w2.heap.size w2)) (Nat.le_refl _) hb4); clear hm hb4)
            | (go_at_call 52; refine (rcmp_any _ _ _ xs _ HM.out.arg (HA.out.below (below_then HB0w.out hsz02 HB4.out))).mono ?_; rintro e w5 ⟨rfl, rfl⟩; rw [val_lim]))
        go_wp2
        go_roundw
        case rel => exact ⟨R + 2 ^ j, j, rfl, by omega, Aside0.mk (HT.out.arg.below HB4.out), hst, Aside0.mk (below_then HB0w.out hsz02 HB4.out)⟩
        case measure => simp [intOf]
      · have hcmp : decide (cmpN ((R + 2 ^ j) * (R + 2 ^ j)) (val xs) ≤ 0) = false := cmpN_nle (by omega)
        have hst := Aside0.mk (rt_gt hinv.out (by omega))
        clear hle
        go_wp2_with fail
        go_region_held3 (fun w' => w'.cell? ⟨w.heap.size, 1, none⟩ = some (.slice A xs.length c))
          (first
            | exact HS.out _ (below_drew (Below.refl _ _))
            | exact HS.out _ HB4.out)
          (first
            | (go_at_call 36; refine (rmul_any _ _ _ _ _ (HT.out.arg.below (below_drew (Below.refl _ _))) (HT.out.arg.below (below_drew (Below.refl _ _))) (by have := HR2.out; omega)).mono ?_; rintro e w4 ⟨m, rfl, hm, hb4⟩; rw [val_lim] at hm; have HM := Aside0.mk hm; have HB4 := Aside0.mk (below_then (below_drew (Below.refl w2.heap.size w2)) (Nat.le_refl _) hb4); clear hm hb4)
            | (go_at_call 52; refine (rcmp_any _ _ _ xs _ HM.out.arg (HA.out.below (below_then HB0w.out hsz02 HB4.out))).mono ?_; rintro e w5 ⟨rfl, rfl⟩; rw [val_lim]))
        go_wp2
        go_roundw
        case rel => exact ⟨R, j, rfl, by omega, Aside0.mk (hvr.out.below (below_then HBE.out HBE.out.size HB4.out)), hst, Aside0.mk (below_then HB0w.out hsz02 HB4.out)⟩
        case measure => simp [intOf]
    · obtain rfl : k = 0 := by omega
      have hend := Aside0.mk (rt_end hinv.out)
      have HR1 := Aside0.mk (rt_len hinv.out HV.out)
      rw [show (((0 : Nat) : Int) - 1) = -1 by omega]
      clear h0
      go_wp2_with fail
      refine (made_any _ _ _ _ hvr.out (by have := HR1.out; omega)).mono ?_
      rintro e w3 ⟨y, rfl, hy, hb3⟩
      rw [val_lim, show zv false R = (R : Int) from rfl] at hy
      have HR := Aside0.mk hy
      have HB3 := Aside0.mk hb3
      obtain ⟨c0, c1, f0, f1, _⟩ := HBR.out.below (below_then hbel.out hszr hb3)
      obtain ⟨b, A2, m, c2, rfl⟩ := hy.shape
      clear hy hb3
      go_wp2
      obtain ⟨g0, g1⟩ := two_stored (.bool b) (.slice A2 m c2) c0 c1
      refine bodyPost_ret (v := .tuple #[.agg #[.bool b, .slice A2 m c2], .int .i64 0]) (by simp [results, Try.results14, go_sem, g0, g1]) rfl ?_
      have h0 := HSZ.out
      exact ⟨_, R, rfl, (ires_other (ires_other HR.out (by simp; omega) _) (by simp; omega) _).weaken (by omega), by rw [← HN.out]; exact hend.out, ((below_then HB0.out (by omega) (below_then hbel.out hszr HB3.out)).setCell (by simp) _).setCell (by simp) _⟩
end Go.Proofs.Ytnjbpkopekgihaa
