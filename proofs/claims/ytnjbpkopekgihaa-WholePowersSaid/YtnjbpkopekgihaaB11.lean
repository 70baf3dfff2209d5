/- Walks: nat.Div. -/
import Derived.Test.YtnjbpkopekgihaaB10
import Derived.Test.YtnjbpkopekgihaaB7
import Derived.Test.YtnjbpkopekgihaaB2
namespace Go.Proofs.Ytnjbpkopekgihaa
open Go.RowKit Go.Proofs.YtnjbpkopekgihaaW.PrintWords
set_option linter.unusedVariables false
set_option linter.unusedSimpArgs false
set_option maxHeartbeats 4000000 in
set_option maxRecDepth 100000 in
theorem div_zero (va vb : Value) (ps qs : List Int) (w : World) (ha : Arg w va ps) (hb : Arg w vb qs) (h0 : val qs = 0) :
    Calls Try.prog 40 #[va, vb] w fun e w' => e = .returned (.tuple #[.slice none 0 0, .slice none 0 0, .int .i64 11]) ∧ Drawn0 w w' := by
  have HA := Aside0.mk ha
  have HB := Aside0.mk hb
  have H0 := Aside0.mk h0
  clear ha hb h0
  go_enter Try.func40, Try.ntmps40
  go_wp2_with fail
  refine (trim_any _ _ _ HA.out).mono ?_
  rintro e w' ⟨u, rfl, hu, rfl⟩
  clear hu
  go_wp2_with fail
  refine (trim_any _ _ _ HB.out).mono ?_
  rintro e w' ⟨u, rfl, hu, rfl⟩
  rw [H0.out, lim_zero] at hu
  obtain ⟨⟨A, c, rfl, hc, hr⟩, hl⟩ := hu
  clear hr hl hc
  go_wp2
  go_ret3
  exact ⟨rfl, Drawn0.refl _⟩
set_option maxHeartbeats 4000000 in
set_option maxRecDepth 100000 in
theorem div_less (va vb : Value) (ps qs : List Int) (w : World) (ha : Arg w va ps) (hb : Arg w vb qs) (hlt : val ps < val qs) (hs : ps.length + 1 ≤ 70368744177664) :
    Calls Try.prog 40 #[va, vb] w fun e w' => ∃ q r, e = .returned (.tuple #[q, r, .int .i64 0]) ∧ Res w.heap.size w' q (val ps / val qs) ∧ Res w.heap.size w' r (val ps % val qs) ∧ NeRow q r ∧ Below w.heap.size w w' := by
  have h0 : val qs ≠ 0 := by omega
  have hp := lim_len_pos h0
  have hll := lim_val_len ha.lims
  have hb0 : (((lim (val qs)).length : Int) == 0) = false := beq_eq_false_iff_ne.2 (by omega)
  have HA := Aside0.mk ha
  have HB := Aside0.mk hb
  have hc := Aside0.mk (cmpN_lt hlt)
  have hq := Aside0.mk (Nat.div_eq_of_lt hlt)
  have hr := Aside0.mk (Nat.mod_eq_of_lt hlt)
  clear ha hb h0 hlt
  go_enter Try.func40, Try.ntmps40
  go_wp2_with fail
  refine (trim_any _ _ _ HA.out).mono ?_
  rintro e w' ⟨u, rfl, hu, rfl⟩
  have HU := Aside0.mk hu
  obtain ⟨⟨A, c, rfl, hca, hra⟩, hl⟩ := hu
  clear hra hl hca
  go_wp2_with fail
  refine (trim_any _ _ _ HB.out).mono ?_
  rintro e w' ⟨u, rfl, hu, rfl⟩
  have HV := Aside0.mk hu
  obtain ⟨⟨A2, c2, rfl, hca, hra⟩, hl⟩ := hu
  clear hra hl hca
  go_wp2_with fail
  refine (cmp_any _ _ _ _ _ HU.out HV.out).mono ?_
  rintro e w' ⟨rfl, ⟨nd, rfl⟩⟩
  rw [val_lim, val_lim, hc.out]
  go_wp2_with fail
  refine (own_any _ _ _ (HU.out.drawn nd) (by omega)).mono ?_
  rintro e w2 ⟨r, rfl, hr2, hb2⟩
  rw [val_lim] at hr2
  have HR2 := Aside0.mk hr2
  have HB2 := Aside0.mk hb2
  clear hr2 hb2
  go_wp2
  go_ret3
  exact ⟨_, r, rfl, by rw [hq.out]; exact Res.nil _ _, by rw [hr.out]; exact HR2.out, fun b hb => by simp [Value.ownBlock] at hb, below_then (pw_below_drewN (Below.refl _ _) nd) (Nat.le_refl _) HB2.out⟩
set_option maxHeartbeats 4000000 in
set_option maxRecDepth 100000 in
theorem div_short (va vb : Value) (ps qs : List Int) (w : World) (ha : Arg w va ps) (hb : Arg w vb qs) (hge : val qs ≤ val ps) (h1 : (lim (val qs)).length = 1) (hs : ps.length + 1 ≤ 70368744177664) :
    Calls Try.prog 40 #[va, vb] w fun e w' => ∃ q r, e = .returned (.tuple #[q, r, .int .i64 0]) ∧ Res w.heap.size w' q (val ps / val qs) ∧ Res w.heap.size w' r (val ps % val qs) ∧ NeRow q r ∧ Below w.heap.size w w' := by
  obtain ⟨ys, hys⟩ : ∃ ys, ys = lim (val qs) := ⟨_, rfl⟩
  obtain ⟨xs, hxs⟩ : ∃ xs, xs = lim (val ps) := ⟨_, rfl⟩
  have hyv : val ys = val qs := by rw [hys]; exact val_lim _
  have hxv : val xs = val ps := by rw [hxs]; exact val_lim _
  rw [← hys] at h1
  have hyl : Lim ys := by rw [hys]; exact Lim_lim _
  have hxl : xs.length ≤ ps.length := by rw [hxs]; exact lim_val_len ha.lims
  obtain ⟨b, rfl⟩ : ∃ b, ys = [b] := by
    match ys, h1 with
    | [b], _ => exact ⟨b, rfl⟩
  have hb01 := (Lim_cons.1 hyl).1
  obtain ⟨hb0, hb1⟩ := hb01
  rw [val_cons, val_nil, Nat.mul_zero, Nat.add_zero] at hyv
  have hbp : 0 < b := by
    have h := Nrm_lim (val qs)
    rw [← hys] at h
    rcases h with h | h
    · cases h
    · simp [at_] at h; omega
  have hc : decide (cmpN (val ps) (val qs) < 0) = false := by
    apply decide_eq_false
    rcases Nat.lt_or_ge (val qs) (val ps) with h | h
    · rw [cmpN_gt h]; omega
    · rw [cmpN_eq (by omega)]; omega
  have HA := Aside0.mk ha
  have HB := Aside0.mk hb
  have HXS := Aside0.mk hxs
  have HYS := Aside0.mk hys
  have HXV := Aside0.mk hxv
  have HYV := Aside0.mk hyv
  clear ha hb hge h1 hxs hys hxv hyv hyl
  go_enter Try.func40, Try.ntmps40
  go_wp2_with fail
  refine (trim_any _ _ _ HA.out).mono ?_
  rintro e w' ⟨u, rfl, hu, rfl⟩
  rw [← HXS.out] at hu
  have HU := Aside0.mk hu
  obtain ⟨⟨A, c, rfl, hca, hra⟩, hl⟩ := hu
  clear hra hl hca
  go_wp2_with fail
  refine (trim_any _ _ _ HB.out).mono ?_
  rintro e w' ⟨u, rfl, hu, rfl⟩
  rw [← HYS.out] at hu
  have HV := Aside0.mk hu
  obtain ⟨⟨A2, c2, rfl, hca, hra⟩, hl⟩ := hu
  obtain ⟨ad, rfl, hcell⟩ := reads_nat hra 0 (by simp)
  replace hcell : w.cell? ad = some (.int .u32 b) := by simpa [Addr.add, at_] using hcell
  clear hra hl hca
  go_wp2_with fail
  refine (cmp_any _ _ _ _ _ HU.out HV.out).mono ?_
  rintro e w' ⟨rfl, ⟨nd, rfl⟩⟩
  rw [HXV.out, show val [b] = val qs from by rw [val_cons, val_nil, Nat.mul_zero, Nat.add_zero]; exact HYV.out]
  go_wp2_with fail
  refine (short_any _ _ b _ (HU.out.drawn nd) hbp hb1 (by omega)).mono ?_
  rintro e w2 ⟨u2, zs, rfl, hown, hzl, hzn, hzv, hb2⟩
  rw [HXV.out, HYV.out] at hzv
  have HZ := Aside0.mk (own_arg hown hzl)
  have HZV := Aside0.mk hzv
  have HZN := Aside0.mk hzn
  have HB2 := Aside0.mk (below_then (pw_below_drewN (Below.refl _ _) nd) (Nat.le_refl _) hb2)
  clear hown hzl hzn hzv hb2
  rw [HXV.out, HYV.out]
  obtain ⟨r, hr⟩ : ∃ r, r = val ps % val qs := ⟨_, rfl⟩
  rw [← hr]
  have hrl : r < 4294967296 := by rw [hr]; exact Nat.lt_of_lt_of_le (Nat.mod_lt _ (by have := HYV.out; omega)) (by have := HYV.out; omega)
  have HR := Aside0.mk hr
  clear hr
  go_wp2_with fail
  refine (own_any _ _ _ HZ.out (by have := HZN.out; omega)).mono ?_
  rintro e w3 ⟨q, rfl, hq3, hb3⟩
  rw [HZV.out] at hq3
  have HQ3 := Aside0.mk hq3
  have HB3 := Aside0.mk (below_then HB2.out HB2.out.size hb3)
  have hsz3 := hb3.size
  clear hq3 hb3
  go_wp2_with fail
  have hlit := own_lit w3 w3.heap.size 58 .u32 [(r : Int)] (Nat.le_refl _) (by simp)
  refine (own_any _ [(r : Int)] _ (own_arg hlit (by intro x hx; simp at hx; subst hx; omega)) (by simp)).mono ?_
  rintro e w4 ⟨q4, rfl, hq4, hb4⟩
  rw [show val [(r : Int)] = val ps % val qs by rw [val_cons, val_nil, Nat.mul_zero, Nat.add_zero, Int.toNat_natCast, HR.out]] at hq4
  have hal : Below w3.heap.size w3 (w3.alloc (.cells (nums .u32 [(r : Int)]).toArray 58)) := below_alloc (Below.refl _ _) _
  have hb34 := below_then hal hal.size hb4
  have HQ4 := Aside0.mk hq4
  have HB4 := Aside0.mk hb34
  have hsz4 := hal.size
  clear hq4 hb4 hb34 hal hlit
  go_wp2
  go_ret3
  have h2 := HB2.out.size
  have h3 := HB3.out.size
  exact ⟨q, q4, rfl, (HQ3.out.below HB4.out).weaken h2, HQ4.out.weaken (by omega), fun b hb hb' => by have := own_lt HQ3.out.own b hb; have := own_base HQ4.out.own b hb'; omega, below_then HB3.out h3 HB4.out⟩
set_option maxHeartbeats 4000000 in
set_option maxRecDepth 100000 in
theorem div_long (va vb : Value) (ps qs : List Int) (w : World) (ha : Arg w va ps) (hb : Arg w vb qs) (hge : val qs ≤ val ps) (h1 : 2 ≤ (lim (val qs)).length) (hs : ps.length + 1 ≤ 70368744177664) :
    Calls Try.prog 40 #[va, vb] w fun e w' => ∃ q r, e = .returned (.tuple #[q, r, .int .i64 0]) ∧ Res w.heap.size w' q (val ps / val qs) ∧ Res w.heap.size w' r (val ps % val qs) ∧ NeRow q r ∧ Below w.heap.size w w' := by
  obtain ⟨ys, hys⟩ : ∃ ys, ys = lim (val qs) := ⟨_, rfl⟩
  obtain ⟨xs, hxs⟩ : ∃ xs, xs = lim (val ps) := ⟨_, rfl⟩
  have HNY := Aside0.mk (show Nrm ys by rw [hys]; exact Nrm_lim _)
  have hyv : val ys = val qs := by rw [hys]; exact val_lim _
  have hxv : val xs = val ps := by rw [hxs]; exact val_lim _
  have hxl : xs.length ≤ ps.length := by rw [hxs]; exact lim_val_len ha.lims
  have hyx : ys.length ≤ xs.length := by rw [hys, hxs]; exact lim_len_mono hge
  rw [← hys] at h1
  have hc : decide (cmpN (val ps) (val qs) < 0) = false := by
    apply decide_eq_false
    rcases Nat.lt_or_ge (val qs) (val ps) with h | h
    · rw [cmpN_gt h]; omega
    · rw [cmpN_eq (by omega)]; omega
  have hb0 : ((ys.length : Int) == 0) = false := beq_eq_false_iff_ne.2 (by omega)
  have hb1 : ((ys.length : Int) == 1) = false := beq_eq_false_iff_ne.2 (by omega)
  have HA := Aside0.mk ha
  have HB := Aside0.mk hb
  have HXS := Aside0.mk hxs
  have HYS := Aside0.mk hys
  have HXV := Aside0.mk hxv
  have HYV := Aside0.mk hyv
  clear ha hb hge hxs hys hxv hyv
  go_enter Try.func40, Try.ntmps40
  go_wp2_with fail
  refine (trim_any _ _ _ HA.out).mono ?_
  rintro e w' ⟨u, rfl, hu, rfl⟩
  rw [← HXS.out] at hu
  have HU := Aside0.mk hu
  obtain ⟨⟨A, c, rfl, hca, hra⟩, hl⟩ := hu
  clear hra hl hca
  go_wp2_with fail
  refine (trim_any _ _ _ HB.out).mono ?_
  rintro e w' ⟨u, rfl, hu, rfl⟩
  rw [← HYS.out] at hu
  have HV := Aside0.mk hu
  obtain ⟨⟨A2, c2, rfl, hca, hra⟩, hl⟩ := hu
  clear hra hl hca
  go_wp2_with fail
  refine (cmp_any _ _ _ _ _ HU.out HV.out).mono ?_
  rintro e w' ⟨rfl, ⟨nd, rfl⟩⟩
  rw [HXV.out, HYV.out]
  go_wp2_with fail
  refine (long_any _ _ xs ys _ (HU.out.drawn nd) (HV.out.drawn nd) HNY.out h1 hyx (by omega)).mono ?_
  rintro e w2 ⟨q, r, rfl, hq2, hr2, hne, hb2⟩
  rw [HXV.out, HYV.out] at hq2 hr2
  have HQ2 := Aside0.mk hq2
  have HR2 := Aside0.mk hr2
  have HNE := Aside0.mk hne
  have HB2 := Aside0.mk (below_then (pw_below_drewN (Below.refl _ _) nd) (Nat.le_refl _) hb2)
  clear hq2 hr2 hne hb2
  go_wp2
  go_ret3
  exact ⟨q, r, rfl, HQ2.out, HR2.out, HNE.out, HB2.out⟩
theorem div_any (va vb : Value) (ps qs : List Int) (w : World) (ha : Arg w va ps) (hb : Arg w vb qs) (h0 : val qs ≠ 0) (hs : ps.length + 1 ≤ 70368744177664) :
    Calls Try.prog 40 #[va, vb] w fun e w' => ∃ q r, e = .returned (.tuple #[q, r, .int .i64 0]) ∧ Res w.heap.size w' q (val ps / val qs) ∧ Res w.heap.size w' r (val ps % val qs) ∧ NeRow q r ∧ Below w.heap.size w w' := by
  have hp := lim_len_pos h0
  rcases Nat.lt_or_ge (val ps) (val qs) with h | h
  · exact div_less va vb ps qs w ha hb h hs
  · rcases Nat.lt_or_ge (lim (val qs)).length 2 with h2 | h2
    · exact div_short va vb ps qs w ha hb h (by omega) hs
    · exact div_long va vb ps qs w ha hb h h2 hs
end Go.Proofs.Ytnjbpkopekgihaa
