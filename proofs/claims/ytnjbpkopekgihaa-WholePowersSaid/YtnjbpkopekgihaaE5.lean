/- Walks: nat.Pow, whole.Pow, great. -/
import Derived.Test.YtnjbpkopekgihaaE4
namespace Go.Proofs.Ytnjbpkopekgihaa
open Go.RowKit Go.Proofs.YtnjbpkopekgihaaW.PrintWords
set_option linter.unusedVariables false
set_option linter.unusedSimpArgs false
theorem lim_one : lim 1 = [1] := by rw [lim_pos (by omega)]; simp [lim_zero]
set_option maxHeartbeats 2000000 in
set_option maxRecDepth 100000 in
theorem natpow_bad (va : Value) (n : Int) (w : World) (hn : n < 0 ∨ 4096 < n) (hn2 : -9223372036854775808 ≤ n) (hn3 : n ≤ 9223372036854775807) :
    Calls Try.prog 42 #[va, .int .i64 n] w fun e w' => e = .returned (.tuple #[.slice none 0 0, .int .i64 13]) ∧ w = w' := by
  go_enter Try.func42, Try.ntmps42
  go_wp2_with fail
  all_goals
    go_ret2
    exact ⟨rfl, rfl⟩
set_option maxHeartbeats 8000000 in
set_option maxRecDepth 100000 in
theorem natpow_any (va : Value) (xs : List Int) (n : Nat) (w : World) (ha : Arg w va xs) (hn : n ≤ 4096) (hLn : xs.length * n ≤ 536870912) (hL : xs.length ≤ 70368744177664) :
    Calls Try.prog 42 #[va, .int .i64 (n : Int)] w fun e w' => ∃ u, e = .returned (.tuple #[u, .int .i64 0]) ∧ Res w.heap.size w' u (val xs ^ n) ∧ Below w.heap.size w w' := by
  obtain ⟨K, hK⟩ : ∃ K, K = xs.length := ⟨_, rfl⟩
  have hKl : (lim (val xs)).length ≤ K := by rw [hK]; exact lim_val_len ha.lims
  have hlen : ∀ e, e ≤ n → (lim (val xs ^ e)).length ≤ 536870913 := by
    intro e he
    have h1 := pow_len (val xs) e
    have h2 : e * (lim (val xs)).length ≤ n * K := Nat.mul_le_mul he hKl
    rw [← hK, Nat.mul_comm] at hLn
    omega
  have HLEN := Aside0.mk hlen
  have hlit := own_lit w w.heap.size 58 .u32 [1] (Nat.le_refl _) (by simp)
  have hal := below_alloc (Below.refl w.heap.size w) (.cells #[.int .u32 1] 58)
  have HP := Aside0.mk (show Res w.heap.size (w.alloc (.cells #[.int .u32 1] 58)) (.slice (some ⟨w.heap.size, 0, none⟩) 1 1) 1 from ⟨by rw [lim_one]; exact hlit⟩)
  have HA := Aside0.mk (ha.below hal)
  have HB := Aside0.mk hal
  clear hlen hK hKl hlit hal ha hLn
  go_enter Try.func42, Try.ntmps42
  go_wp2_with fail
  refine (own_any _ _ _ HA.out (by omega)).mono ?_
  rintro e w1 ⟨u, rfl, hu, hb⟩
  have hsz0 := HB.out.size
  have HB1 := Aside0.mk (below_then HB.out hsz0 hb)
  have HP1 := Aside0.mk (HP.out.below hb)
  have HU := Aside0.mk (hu.weaken hsz0)
  clear hu hb
  go_wp2_with fail
  go_loopw [1, 6, 7] (fun nn vp vs wr => ∃ m e f : Nat, nn = .int .i64 (m : Int) ∧ m ≤ 4096 ∧ Aside0 (f + e * m = n) ∧ Aside0 (Res w.heap.size wr vp (val xs ^ f)) ∧ Aside0 (Res w.heap.size wr vs (val xs ^ e)) ∧ Aside0 (Below w.heap.size w wr)) (fun nn _ _ _ => (intOf nn).toNat)
  case atStart => exact ⟨n, 1, 0, rfl, hn, ⟨by omega⟩, ⟨by rw [Nat.pow_zero]; exact HP1.out⟩, ⟨by rw [Nat.pow_one]; exact HU.out⟩, HB1⟩
  case round =>
    clear HP1 HU HB1
    obtain ⟨m, e, f, rfl, hm, hef, hp, hs, hbel⟩ := hrel
    have hszr := hbel.out.size
    by_cases h0 : 0 < m
    · obtain ⟨m', hm'⟩ : ∃ m', m' = m / 2 := ⟨_, rfl⟩
      have hmi : (m : Int) / 2 = (m' : Int) := by omega
      have he : e ≤ n := by have := hef.out; have := Nat.le_mul_of_pos_right e h0; omega
      have hfe : f + e ≤ n := by have := hef.out; have := Nat.le_mul_of_pos_right e h0; omega
      have HL1 := Aside0.mk (HLEN.out e he)
      have HL2 := Aside0.mk (HLEN.out f (by omega))
      by_cases hodd : m % 2 = 1
      · have hb1 : ((m : Int) % 2 == 1) = true := beq_iff_eq.2 (by omega)
        by_cases h1 : 1 < m
        · have hst := Aside0.mk (show (f + e) + (e + e) * m' = n by
            have h := hef.out
            have h2 : m = m' + m' + 1 := by omega
            rw [h2] at h
            simp only [Nat.mul_add, Nat.add_mul, Nat.mul_one] at h ⊢
            omega)
          have hmm : m' ≤ 4096 := by omega
          have hlt : m' < m := by omega
          clear hm' hodd
          go_wp2_with fail
          refine (mul_any _ _ _ _ _ hp.out.arg hs.out.arg (by rw [val_lim, val_lim]; have := HL1.out; have := HL2.out; omega)).mono ?_
          rintro e1 w2 ⟨u2, rfl, hu2, hb2⟩
          rw [val_lim, val_lim, ← Nat.pow_add] at hu2
          have HU2 := Aside0.mk (hu2.weaken hszr)
          have HS2 := Aside0.mk (hs.out.below hb2)
          have HB2 := Aside0.mk (below_then hbel.out hszr hb2)
          have hsz2 := HB2.out.size
          clear hu2 hb2
          go_wp2_with fail
          refine (mul_any _ _ _ _ _ HS2.out.arg HS2.out.arg (by rw [val_lim]; have := HL1.out; omega)).mono ?_
          rintro e1 w3 ⟨u3, rfl, hu3, hb3⟩
          rw [val_lim, ← Nat.pow_add] at hu3
          have HU3 := Aside0.mk (hu3.weaken hsz2)
          have HU23 := Aside0.mk (HU2.out.below hb3)
          have HB3 := Aside0.mk (below_then HB2.out hsz2 hb3)
          clear hu3 hb3
          go_wp2_with fail
          go_roundw
          case rel => exact ⟨m', e + e, f + e, rfl, hmm, hst, HU23, HU3, HB3⟩
          case measure => simp [intOf]; omega
        · obtain rfl : m = 1 := by omega
          have hst := Aside0.mk (show (f + e) + e * 0 = n by have := hef.out; omega)
          clear hm' hodd hmi hb1
          go_wp2_with fail
          refine (mul_any _ _ _ _ _ hp.out.arg hs.out.arg (by rw [val_lim, val_lim]; have := HL1.out; have := HL2.out; omega)).mono ?_
          rintro e1 w2 ⟨u2, rfl, hu2, hb2⟩
          rw [val_lim, val_lim, ← Nat.pow_add] at hu2
          have HU2 := Aside0.mk (hu2.weaken hszr)
          have HS2 := Aside0.mk (hs.out.below hb2)
          have HB2 := Aside0.mk (below_then hbel.out hszr hb2)
          clear hu2 hb2
          go_wp2_with fail
          go_roundw
          case rel => exact ⟨0, e, f + e, rfl, by omega, hst, HU2, HS2, HB2⟩
          case measure => simp [intOf]
      · have hb1 : ((m : Int) % 2 == 1) = false := beq_eq_false_iff_ne.2 (by omega)
        have hst := Aside0.mk (show f + (e + e) * m' = n by
          have h := hef.out
          have h2 : m = m' + m' := by omega
          rw [h2] at h
          simp only [Nat.mul_add, Nat.add_mul] at h ⊢
          omega)
        have h1 : 1 < m := by omega
        have hmm : m' ≤ 4096 := by omega
        have hlt : m' < m := by omega
        clear hm' hodd
        go_wp2_with fail
        refine (mul_any _ _ _ _ _ hs.out.arg hs.out.arg (by rw [val_lim]; have := HL1.out; omega)).mono ?_
        rintro e1 w3 ⟨u3, rfl, hu3, hb3⟩
        rw [val_lim, ← Nat.pow_add] at hu3
        have HU3 := Aside0.mk (hu3.weaken hszr)
        have HP3 := Aside0.mk (hp.out.below hb3)
        have HB3 := Aside0.mk (below_then hbel.out hszr hb3)
        clear hu3 hb3
        go_wp2_with fail
        go_roundw
        case rel => exact ⟨m', e + e, f, rfl, hmm, hst, HP3, HU3, HB3⟩
        case measure => simp [intOf]; omega
    · obtain rfl : m = 0 := by omega
      have hf : f = n := by have := hef.out; omega
      subst hf
      go_wp2_with fail
      go_ret2
      exact ⟨_, rfl, hp.out, hbel.out⟩
theorem pow_even_nonneg (z : Int) (m : Nat) : 0 ≤ z ^ (m + m) := by
  rw [Int.pow_add]
  rcases Int.le_total 0 (z ^ m) with h | h
  · exact Int.mul_nonneg h h
  · exact Int.mul_nonneg_of_nonpos_of_nonpos h h
theorem sgnd_pow_even (z : Int) (n : Nat) (h : n % 2 = 0) : sgnd (prodL []) (z.natAbs ^ n) = z ^ n := by
  have h0 : 0 ≤ z ^ n := by rw [show n = n / 2 + n / 2 by omega]; exact pow_even_nonneg z _
  rw [show sgnd (prodL []) (z.natAbs ^ n) = ((z.natAbs ^ n : Nat) : Int) from rfl, ← Int.natAbs_pow]
  exact Int.natAbs_of_nonneg h0
theorem sgnd_pow_odd (z : Int) (n : Nat) (h : n % 2 = 1) : sgnd (prodL [sgn z]) (z.natAbs ^ n) = z ^ n := by
  have h0 : z ^ n = z ^ (n / 2 + n / 2) * z := by rw [← Int.pow_succ]; congr 1; omega
  have h1 := pow_even_nonneg z (n / 2)
  have hp : prodL [sgn z] = sgn z := by simp [prodL]
  rw [hp, ← Int.natAbs_pow]
  unfold sgnd
  rcases sgn_cases' z with ⟨e, f⟩ | ⟨e, f⟩ | ⟨e, f⟩
  · rw [e, if_pos (by omega)]
    have := Int.mul_nonpos_of_nonneg_of_nonpos h1 (show z ≤ 0 by omega)
    rw [← h0] at this
    omega
  · rw [e, if_neg (by omega)]
    have : z ^ n = 0 := by rw [h0, f, Int.mul_zero]
    rw [this]; rfl
  · rw [e, if_neg (by omega)]
    have := Int.mul_nonneg h1 (show 0 ≤ z by omega)
    rw [← h0] at this
    omega
set_option maxHeartbeats 4000000 in
set_option maxRecDepth 100000 in
theorem wpow_bad (x : Value) (z n : Int) (L : Nat) (w : World) (hx : IArg w x z L) (hn : n < 0 ∨ 4096 < n) (hn2 : -9223372036854775808 ≤ n) (hn3 : n ≤ 9223372036854775807) :
    Calls Try.prog 17 #[x, .int .i64 n] w fun e w' => e = .returned (.tuple #[.agg #[.bool false, .slice none 0 0], .int .i64 13]) ∧ Below w.heap.size w w' := by
  obtain ⟨n1, v1, xs, rfl, ha1, hz1, hl1⟩ := hx.form
  obtain ⟨W0, hW0, hb1, hb2, hB0, hsz0⟩ := boxes2 w n1 false v1 (.slice none 0 0)
  have HB0 := Aside0.mk hB0
  have HW := Aside0.mk hW0
  obtain ⟨c0, c1, f0, f1, _⟩ := hb2
  clear hx ha1 hz1 hl1 hb1 hB0 hsz0 hW0
  go_enter Try.func17, Try.ntmps17
  go_wp2_with fail
  rw [← HW.out]
  refine (natpow_bad _ _ _ hn hn2 hn3).mono ?_
  rintro e w1 ⟨rfl, rfl⟩
  go_wp2
  obtain ⟨g0, g1⟩ := two_stored (.bool false) (.slice none 0 0) c0 c1
  refine bodyPost_ret (v := .tuple #[.agg #[.bool false, .slice none 0 0], .int .i64 13]) (by simp [results, Try.results17, go_sem, g0, g1]) rfl ?_
  exact ⟨rfl, (HB0.out.setCell (by simp) _).setCell (by simp) _⟩
set_option maxHeartbeats 4000000 in
set_option maxRecDepth 100000 in
theorem wpow_any (x : Value) (z : Int) (n L : Nat) (w : World) (hx : IArg w x z L) (hn : n ≤ 4096) (hLn : L * n ≤ 536870912) (hL : L ≤ 70368744177664) :
    Calls Try.prog 17 #[x, .int .i64 (n : Int)] w fun e w' => ∃ y, e = .returned (.tuple #[y, .int .i64 0]) ∧ IRes w.heap.size w' y (z ^ n) ∧ Below w.heap.size w w' := by
  obtain ⟨n1, v1, xs, rfl, ha1, hz1, hl1⟩ := hx.form
  obtain ⟨W0, hW0, hb1, hb2, hB0, hsz0⟩ := boxes2 w n1 false v1 (.slice none 0 0)
  have HX := Aside0.mk (hx.below hB0)
  have HA := Aside0.mk (ha1.below hB0)
  have HB0 := Aside0.mk hB0
  have HSZ := Aside0.mk hsz0
  have HW := Aside0.mk hW0
  have HBX := Aside0.mk hb1
  have HBR := Aside0.mk hb2
  have HN := Aside0.mk (show val xs = z.natAbs by rw [hz1, zv_abs])
  have hln : xs.length * n ≤ 536870912 := Nat.le_trans (Nat.mul_le_mul_right n hl1) hLn
  have HLEN := Aside0.mk (show (lim (z.natAbs ^ n)).length ≤ 70368744177664 by
    have h1 := pow_len z.natAbs n
    have h2 : (lim z.natAbs).length ≤ xs.length := by rw [← HN.out]; exact lim_val_len ha1.lims
    have h3 := Nat.mul_le_mul_left n h2
    rw [Nat.mul_comm n xs.length] at h3
    omega)
  clear hx ha1 hz1 hb1 hb2 hB0 hsz0 hW0
  by_cases hpar : n % 2 = 0
  · have hb1 : ((n : Int) % 2 == 0) = true := beq_iff_eq.2 (by omega)
    have HPW := Aside0.mk (sgnd_pow_even z n hpar)
    clear hpar
    go_enter Try.func17, Try.ntmps17
    go_wp2_with fail
    rw [← HW.out]
    refine (natpow_any _ _ _ _ HA.out hn hln (by omega)).mono ?_
    rintro e w1 ⟨u, rfl, hu, hb⟩
    rw [HN.out] at hu
    have HU := Aside0.mk hu
    have HB1 := Aside0.mk hb
    clear hu hb
    go_wp2_with fail
    refine (signed_any _ _ none 0 [] _ HU.out.arg (reads_nil _) (by simp) HLEN.out).mono ?_
    rintro e w2 ⟨y, rfl, hy, hb2⟩
    rw [val_lim, HPW.out] at hy
    have HR := Aside0.mk hy
    have HB2 := Aside0.mk hb2
    have hs1 := HB1.out.size
    obtain ⟨c0, c1, f0, f1, _⟩ := HBR.out.below (below_then HB1.out hs1 hb2)
    obtain ⟨b, A, m, c, rfl⟩ := hy.shape
    clear hy hb2
    go_wp2
    obtain ⟨g0, g1⟩ := two_stored (.bool b) (.slice A m c) c0 c1
    refine bodyPost_ret (v := .tuple #[.agg #[.bool b, .slice A m c], .int .i64 0]) (by simp [results, Try.results17, go_sem, g0, g1]) rfl ?_
    have h0 := HSZ.out
    exact ⟨_, rfl, (ires_other (ires_other HR.out (by simp; omega) _) (by simp; omega) _).weaken (by omega), ((below_then HB0.out (by omega) (below_then HB1.out hs1 HB2.out)).setCell (by simp) _).setCell (by simp) _⟩
  · have hb1 : ((n : Int) % 2 == 0) = false := beq_eq_false_iff_ne.2 (by omega)
    have HPW := Aside0.mk (sgnd_pow_odd z n (by omega))
    have hsb := sgn_bd z
    clear hpar
    go_enter Try.func17, Try.ntmps17
    go_wp2_with fail
    rw [← HW.out]
    refine (natpow_any _ _ _ _ HA.out hn hln (by omega)).mono ?_
    rintro e w1 ⟨u, rfl, hu, hb⟩
    rw [HN.out] at hu
    have HU := Aside0.mk hu
    have HB1 := Aside0.mk hb
    obtain ⟨k0, k1, _, _, _⟩ := HBX.out.below hb
    have HX1 := Aside0.mk (HX.out.below hb)
    clear hu hb
    go_wp2_with fail
    refine (sign_any _ _ _ _ HX1.out).mono ?_
    rintro e w2 ⟨rfl, hb2⟩
    have HU2 := Aside0.mk (HU.out.below hb2)
    have hs1 := HB1.out.size
    have HB2 := Aside0.mk (below_then HB1.out hs1 hb2)
    have hs2 := HB2.out.size
    clear hb2
    go_wp2_with fail
    refine (signed_any _ (lim (z.natAbs ^ n)) _ _ [sgn z] _ (HU2.out.arg.below (below_alloc (Below.refl _ _) _)) (reads_one _ _) (by simp; omega) HLEN.out).mono ?_
    rintro e w3 ⟨y, rfl, hy, hb3⟩
    rw [val_lim, HPW.out] at hy
    have HR := Aside0.mk hy
    have HB3 := Aside0.mk (below_then (HB2.out.alloc hs2 (.cells #[.int .i64 (sgn z)] 3)) (by simp; omega) hb3)
    obtain ⟨c0, c1, f0, f1, _⟩ := HBR.out.below HB3.out
    obtain ⟨b, A, m, c, rfl⟩ := hy.shape
    clear hy hb3
    go_wp2
    obtain ⟨g0, g1⟩ := two_stored (.bool b) (.slice A m c) c0 c1
    refine bodyPost_ret (v := .tuple #[.agg #[.bool b, .slice A m c], .int .i64 0]) (by simp [results, Try.results17, go_sem, g0, g1]) rfl ?_
    have h0 := HSZ.out
    exact ⟨_, rfl, (ires_other (ires_other HR.out (by simp; omega) _) (by simp; omega) _).weaken (by simp; omega), ((below_then HB0.out (by omega) HB3.out).setCell (by simp) _).setCell (by simp) _⟩
def GreatOk (l : Nat) (n : Int) (g : Bool) : Prop := g = false → 0 < n → l * n.toNat ≤ 536870912
theorem great_ok {l : Nat} {n : Int} (h2 : 0 < n) : GreatOk l n (decide (536870912 / n < (l : Int))) := by
  intro hg _
  have hg2 : (l : Int) ≤ 536870912 / n := by have := of_decide_eq_false hg; omega
  have h3 := (Int.le_ediv_iff_mul_le h2).1 hg2
  obtain ⟨k, rfl⟩ : ∃ k : Nat, n = k := ⟨n.toNat, by omega⟩
  rw [Int.toNat_natCast]
  rw [← Int.natCast_mul] at h3
  generalize l * k = a at h3
  omega
set_option maxHeartbeats 4000000 in
set_option maxRecDepth 100000 in
theorem great_pos (l : Nat) (n : Int) (w : World) (hl : l ≤ 35184372088832) (h1 : 0 < l) (h2 : 0 < n) (hn3 : n ≤ 4096) :
    Calls Try.prog 16 #[.int .i64 (l : Int), .int .i64 n] w fun e w' => e = .returned (.bool (decide (536870912 / n < (l : Int)))) ∧ w = w' := by
  go_enter Try.func16, Try.ntmps16
  go_wp2_with fail
  go_ret
  exact ⟨rfl, rfl⟩
set_option maxHeartbeats 4000000 in
set_option maxRecDepth 100000 in
theorem great_no (l : Nat) (n : Int) (w : World) (hl : l ≤ 35184372088832) (hn2 : -9223372036854775808 ≤ n) (hn3 : n ≤ 4096) (h : l = 0 ∨ n ≤ 0) :
    Calls Try.prog 16 #[.int .i64 (l : Int), .int .i64 n] w fun e w' => e = .returned (.bool false) ∧ w = w' := by
  by_cases h1 : 0 < l
  · have h2 : n ≤ 0 := by omega
    clear h
    go_enter Try.func16, Try.ntmps16
    go_wp2_with fail
    go_ret
    exact ⟨rfl, rfl⟩
  · clear h
    go_enter Try.func16, Try.ntmps16
    go_wp2_with fail
    go_ret
    exact ⟨rfl, rfl⟩
theorem great_any (l : Nat) (n : Int) (w : World) (hl : l ≤ 35184372088832) (hn2 : -9223372036854775808 ≤ n) (hn3 : n ≤ 4096) :
    Calls Try.prog 16 #[.int .i64 (l : Int), .int .i64 n] w fun e w' => ∃ g, e = .returned (.bool g) ∧ GreatOk l n g ∧ w = w' := by
  by_cases h : 0 < l ∧ 0 < n
  · refine (great_pos l n w hl h.1 h.2 hn3).mono ?_
    rintro e w' ⟨rfl, rfl⟩
    exact ⟨_, rfl, great_ok h.2, rfl⟩
  · refine (great_no l n w hl hn2 hn3 (by omega)).mono ?_
    rintro e w' ⟨rfl, rfl⟩
    refine ⟨_, rfl, ?_, rfl⟩
    intro _ h2
    rw [show l = 0 by omega]; omega
end Go.Proofs.Ytnjbpkopekgihaa
