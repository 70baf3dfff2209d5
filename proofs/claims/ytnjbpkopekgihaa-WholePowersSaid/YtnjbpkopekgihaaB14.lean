/- Walks: nat.Root. -/
import Derived.Test.YtnjbpkopekgihaaA16
import Derived.Test.YtnjbpkopekgihaaB4
import Derived.Test.YtnjbpkopekgihaaB11
import Derived.Test.YtnjbpkopekgihaaB12
import Derived.Test.YtnjbpkopekgihaaB13
import Derived.Deep.LoopGhost
namespace Go.Proofs.Ytnjbpkopekgihaa
open Go.RowKit Go.Proofs.YtnjbpkopekgihaaW.PrintWords
set_option linter.unusedVariables false
set_option linter.unusedSimpArgs false
theorem half_any (va : Value) (ps : List Int) (w : World) (ha : Arg w va ps) (hs : ps.length ≤ 70368744177664) :
    Calls Try.prog 41 #[va, .int .i64 (-1)] w fun e w' => ∃ u, e = .returned (.tuple #[u, .int .i64 0]) ∧ Res w.heap.size w' u (val ps / 2) ∧ Below w.heap.size w w' :=
  down_any va ps 1 w ha (by omega) (by omega) hs
set_option maxHeartbeats 4000000 in
set_option maxRecDepth 100000 in
theorem root_zero (va : Value) (ps : List Int) (w : World) (ha : Arg w va ps) (h0 : val ps = 0) (hs : ps.length ≤ 70368744177664) :
    Calls Try.prog 47 #[va] w fun e w' => e = .returned (.slice none 0 0) ∧ Below w.heap.size w w' := by
  have HA := Aside0.mk ha
  have H0 := Aside0.mk h0
  clear ha h0
  go_enter Try.func47, Try.ntmps47
  go_wp2_with fail
  refine (own_any _ _ _ HA.out hs).mono ?_
  rintro e w1 ⟨u, rfl, hu, hb⟩
  rw [H0.out] at hu
  have h := hu.arg
  rw [lim_zero] at h
  obtain ⟨⟨A, c, rfl, hc, hr⟩, hl⟩ := h
  have HB := Aside0.mk hb
  clear hr hl hc hu hb
  go_wp2
  go_ret
  exact ⟨rfl, HB.out⟩
set_option maxHeartbeats 8000000 in
set_option maxRecDepth 100000 in
theorem root_pos (va : Value) (ps : List Int) (w : World) (ha : Arg w va ps) (h0 : val ps ≠ 0) (hs : ps.length + 2 ≤ 70368744177664) :
    Calls Try.prog 47 #[va] w fun e w' => ∃ u r, e = .returned u ∧ Res w.heap.size w' u r ∧ IsRoot r (val ps) ∧ Below w.heap.size w w' := by
  obtain ⟨N, hN⟩ : ∃ N, N = val ps := ⟨_, rfl⟩
  have hll := lim_val_len ha.lims
  rw [← hN] at h0 hll ⊢
  obtain ⟨xs, hxs⟩ : ∃ xs, xs = lim N := ⟨_, rfl⟩
  have hxl := lim_len_pos h0
  have hbd := bitsN_bd h0
  rw [← hxs] at hll hxl hbd
  obtain ⟨b, hb⟩ : ∃ b, b = bitsN N := ⟨_, rfl⟩
  rw [← hb] at hbd
  obtain ⟨n, hn⟩ : ∃ n, n = (b + 1) / 2 := ⟨_, rfl⟩
  obtain ⟨m, hm⟩ : ∃ m, m = n / 32 := ⟨_, rfl⟩
  obtain ⟨r, hr⟩ : ∃ r, r = n % 32 := ⟨_, rfl⟩
  obtain ⟨hb1, _, hbN, hb2⟩ := hbd
  have hb3 : (b : Int) ≤ 2251799813685248 := by omega
  have hn' : ((b : Int) + 1) / 2 = (n : Int) := by omega
  have hm' : (n : Int) / 32 = (m : Int) := by omega
  have hr' : (n : Int) % 32 = (r : Int) := by omega
  have hn2 : n ≤ 1125899906842624 := by omega
  have hm2 : m + 1 ≤ ps.length + 1 := by omega
  have hr2 : r < 32 := by omega
  have hnb : ((xs.length : Int) == 0) = false := beq_eq_false_iff_ne.2 (by omega)
  have HXV := Aside0.mk (show val xs = N by rw [hxs]; exact val_lim _)
  have HST := Aside0.mk (show Above (2 ^ n) N by rw [hn]; exact newton_start hbN)
  have HA := Aside0.mk ha
  have HN := Aside0.mk hN
  have HXS := Aside0.mk hxs
  have HBB := Aside0.mk hb
  have HMM := Aside0.mk hm
  have HRR := Aside0.mk hr
  have H0 := Aside0.mk h0
  have hmk := print_make (P := Try.prog) 23 58 .u32 4 Try.underlying23 info58 (by omega) (m + 1) (by omega)
  simp only [Int.natCast_add, Int.cast_ofNat_Int] at hmk
  clear ha hN hxs hb hn hm hr hbN h0
  go_enter Try.func47, Try.ntmps47
  go_wp2_with fail
  refine (own_any _ _ _ HA.out (by omega)).mono ?_
  rintro e w1 ⟨u, rfl, hu, hb⟩
  rw [← HN.out] at hu
  have ha1 := hu.arg
  rw [← HXS.out] at ha1
  have HA1 := Aside0.mk ha1
  obtain ⟨⟨A, c, rfl, hc, hr⟩, hl⟩ := ha1
  have HB1 := Aside0.mk hb
  clear hr hl hc hu hb
  go_wp2_with fail
  refine (bits_pos _ xs _ HA1.out (by rw [HXV.out]; exact H0.out) (by omega)).mono ?_
  rintro e w' ⟨rfl, rfl⟩
  rw [HXV.out, ← HBB.out]
  have hom := own_made w1 w1.heap.size 58 .u32 (m + 1) (Nat.le_refl _) (by omega)
  obtain ⟨hc1, hc2⟩ := own_cell hom m (by omega)
  rw [at_replicate] at hc1
  have hp2 : (2 : Int) ^ r % 4294967296 = 2 ^ r := by
    have h := two_pow_lt r hr2
    rw [← two_pow_int r]
    exact Int.emod_eq_of_lt (Int.natCast_nonneg _) (by omega)
  have hput := own_put hom (below_alloc (Below.refl _ _) _) m (2 ^ r)
  have hlist : (List.replicate (m + 1) (0 : Int)).set m (2 ^ r) = lim (2 ^ n) := by
    have h := pow2_limbs n
    rw [← HMM.out, ← HRR.out, two_pow_int] at h
    exact h
  rw [hlist, World.setCell_alloc_at _ _ _ _ _ rfl] at hput
  have hX0 : Res w1.heap.size (w1.alloc (.cells ((madeCells #[.int .u32 0] (m + 1)).setIfInBounds m (.int .u32 (2 ^ r))) 58)) (.slice (some ⟨w1.heap.size, 0, none⟩) (m + 1) (m + 1)) (2 ^ n) :=
    ⟨by rw [show (lim (2 ^ n)).length = m + 1 by rw [lim_pow2_len, HMM.out]]; exact hput.1⟩
  have HX0 := Aside0.mk hX0
  have HB2 := Aside0.mk hput.2
  clear hom hput hlist hX0
  have HL0 := Aside0.mk (show (lim (2 ^ n)).length = m + 1 by rw [lim_pow2_len, HMM.out])
  have hsz1 := HB1.out.size
  go_wp2_with fail
  rw [hn', hr']
  clear hmk hc1 hc2 hp2 hn' hm' hr'
  obtain ⟨G, hG⟩ : ∃ G, G = 2 ^ n := ⟨_, rfl⟩
  rw [← hG] at HX0 HST HL0
  clear hG
  go_loopg [4] G (fun g x wr => Aside0 (Res w.heap.size wr x g) ∧ Aside0 (Above g N) ∧ g ≤ G ∧ Aside0 (Below w.heap.size w wr) ∧ Aside0 (Below w1.heap.size w1 wr))
  case atStart => exact ⟨⟨HX0.out.weaken hsz1⟩, HST, Nat.le_refl _, ⟨below_then HB1.out hsz1 HB2.out⟩, HB2⟩
  case round =>
    obtain ⟨hx, hab, hgG, hbel, hbel1⟩ := hrel
    have HLG := Aside0.mk (show (lim gk).length ≤ ps.length + 1 by have := lim_len_mono hgG; have := HL0.out; omega)
    have HAX := Aside0.mk (HA1.out.below hbel1.out)
    have hszr := hbel.out.size
    have hszr1 := hbel1.out.size
    go_wp2_with fail
    refine (div_any _ _ xs (lim gk) _ HAX.out hx.out.arg (by rw [val_lim]; have := hab.out.1; omega) (by omega)).mono ?_
    rintro e w2 ⟨q, r, rfl, hq2, hr2', hne, hb2'⟩
    rw [HXV.out, val_lim] at hq2
    have HQ2 := Aside0.mk hq2
    have HBB2 := Aside0.mk hb2'
    have HX2 := Aside0.mk (hx.out.below hb2')
    clear hq2 hr2' hne hb2'
    have hNl : N / gk ≤ N := Nat.div_le_self _ _
    have HLQ := Aside0.mk (show (lim (N / gk)).length ≤ ps.length by have := lim_len_mono hNl; rw [← HXS.out] at this; omega)
    clear hNl
    go_wp2_with fail
    refine (add_any _ _ _ _ _ HX2.out.arg HQ2.out.arg (by have := HLG.out; omega) (by have := HLQ.out; omega)).mono ?_
    rintro e w3 ⟨s, rfl, hs3, hb3'⟩
    rw [val_lim, val_lim] at hs3
    have HS3 := Aside0.mk hs3
    have HB3 := Aside0.mk hb3'
    have HX3 := Aside0.mk (HX2.out.below hb3')
    clear hs3 hb3'
    go_wp2_with fail
    refine (half_any _ _ _ HS3.out.arg ?_).mono ?_
    · have h1 := HLG.out
      have h2 := HLQ.out
      have h3 : gk + N / gk < 4294967296 ^ (ps.length + 2) := by
        have l1 := lim_len_lt gk
        have l2 := lim_len_lt (N / gk)
        have p1 : (4294967296 : Nat) ^ (lim gk).length ≤ 4294967296 ^ (ps.length + 1) := Nat.pow_le_pow_right (by omega) h1
        have p2 : (4294967296 : Nat) ^ (lim (N / gk)).length ≤ 4294967296 ^ (ps.length + 1) := Nat.pow_le_pow_right (by omega) (by omega)
        rw [pw_succ]
        generalize N / gk = z at *
        generalize (4294967296 : Nat) ^ (ps.length + 1) = P at *
        omega
      have h4 := lim_len_le h3
      omega
    rintro e w4 ⟨y, rfl, hy4, hb4⟩
    rw [val_lim] at hy4
    have HY4 := Aside0.mk hy4
    have HB4 := Aside0.mk hb4
    have HX4 := Aside0.mk (HX3.out.below hb4)
    clear hy4 hb4
    go_wp2_with fail
    refine (cmp_any _ _ _ _ _ HY4.out.arg HX4.out.arg).mono ?_
    rintro e w5 ⟨rfl, ⟨nd, rfl⟩⟩
    rw [val_lim, val_lim]
    have hg2 := HBB2.out.size
    have hg3 := HB3.out.size
    have hg4 := HB4.out.size
    have HBA := Aside0.mk (below_then (below_then (below_then hbel.out hszr HBB2.out) (by omega) HB3.out) (by omega) HB4.out)
    have HBA1 := Aside0.mk (below_then (below_then (below_then hbel1.out hszr1 HBB2.out) (by omega) HB3.out) (by omega) HB4.out)
    have hN0 : 0 < N := Nat.pos_of_ne_zero H0.out
    by_cases hstop : gk ≤ (gk + N / gk) / 2
    · have hc : decide (cmpN ((gk + N / gk) / 2) gk ≥ 0) = true := by
        apply decide_eq_true
        rcases Nat.lt_or_ge gk ((gk + N / gk) / 2) with h | h
        · rw [cmpN_gt h]; omega
        · rw [cmpN_eq (by omega)]; omega
      have HR := Aside0.mk (newton_stop hab.out hstop)
      clear hstop
      go_wp2
      go_ret
      exact ⟨_, gk, rfl, HX4.out.below (Drawn0.below ⟨⟨nd, rfl⟩⟩), HR.out, pw_below_drewN HBA.out nd⟩
    · have hc : decide (cmpN ((gk + N / gk) / 2) gk ≥ 0) = false := by
        apply decide_eq_false
        rw [cmpN_lt (by omega)]; omega
      have HN2 := Aside0.mk (newton_next hab.out.1 hN0)
      have HLT := Aside0.mk (show (gk + N / gk) / 2 < gk by omega)
      clear hstop
      go_wp2
      go_roundg ((gk + N / gk) / 2)
      case measure => exact HLT.out
      case rel => exact ⟨⟨(HY4.out.weaken (by omega)).below (Drawn0.below ⟨⟨nd, rfl⟩⟩)⟩, HN2, by have := HLT.out; omega, ⟨pw_below_drewN HBA.out nd⟩, ⟨pw_below_drewN HBA1.out nd⟩⟩
theorem root_any (va : Value) (ps : List Int) (w : World) (ha : Arg w va ps) (hs : ps.length + 2 ≤ 70368744177664) :
    Calls Try.prog 47 #[va] w fun e w' => ∃ u r, e = .returned u ∧ Res w.heap.size w' u r ∧ IsRoot r (val ps) ∧ Below w.heap.size w w' := by
  by_cases h0 : val ps = 0
  · refine (root_zero va ps w ha h0 (by omega)).mono ?_
    rintro e w' ⟨rfl, hb⟩
    exact ⟨_, 0, rfl, Res.nil _ _, by rw [h0]; simp [IsRoot], hb⟩
  · exact root_pos va ps w ha h0 hs
end Go.Proofs.Ytnjbpkopekgihaa
