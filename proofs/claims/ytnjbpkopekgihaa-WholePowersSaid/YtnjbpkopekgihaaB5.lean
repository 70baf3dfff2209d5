/- Walks: nat.Sub. -/
import Derived.Test.YtnjbpkopekgihaaA5
import Derived.Test.YtnjbpkopekgihaaB1
import Derived.Test.YtnjbpkopekgihaaB2
import Derived.Test.YtnjbpkopekgihaaB3
namespace Go.Proofs.Ytnjbpkopekgihaa
open Go.RowKit Go.Proofs.YtnjbpkopekgihaaW.PrintWords
set_option linter.unusedVariables false
set_option linter.unusedSimpArgs false
set_option maxHeartbeats 4000000 in
set_option maxRecDepth 100000 in
theorem sub_less (va vb : Value) (xs ys : List Int) (w : World) (ha : Arg w va xs) (hb : Arg w vb ys) (hlt : val xs < val ys) :
    Calls Try.prog 39 #[va, vb] w fun e w' => e = .returned (.tuple #[.slice none 0 0, .int .i64 10]) ∧ Drawn0 w w' := by
  have HA := Aside0.mk ha
  have HB := Aside0.mk hb
  have hc := Aside0.mk (cmpN_lt hlt)
  clear ha hb hlt
  go_enter Try.func39, Try.ntmps39
  go_wp2_with fail
  refine (cmp_any _ _ _ _ _ HA.out HB.out).mono ?_
  rintro e w' ⟨rfl, ⟨nd, rfl⟩⟩
  rw [hc.out]
  go_wp2
  go_ret2
  exact ⟨rfl, ⟨_, rfl⟩⟩
set_option maxHeartbeats 4000000 in
set_option maxRecDepth 100000 in
theorem sub_ge (va vb : Value) (xs ys : List Int) (w : World) (ha : Arg w va xs) (hb : Arg w vb ys) (hge : val ys ≤ val xs) (hs : xs.length ≤ 70368744177664) :
    Calls Try.prog 39 #[va, vb] w fun e w' => ∃ u, e = .returned (.tuple #[u, .int .i64 0]) ∧ Res w.heap.size w' u (val xs - val ys) ∧ Below w.heap.size w w' := by
  obtain ⟨zs, hzs⟩ : ∃ zs, zs = lim (val ys) := ⟨_, rfl⟩
  have hzl : zs.length ≤ xs.length := by rw [hzs]; exact Nat.le_trans (lim_len_mono hge) (lim_val_len ha.lims)
  have hzv : val zs = val ys := by rw [hzs]; exact val_lim _
  have HA := Aside0.mk ha
  have HB := Aside0.mk hb
  obtain ⟨⟨A, ca, rfl, hca, hra⟩, hla⟩ := ha
  have HRL := Aside0.mk hra
  have HLL := Aside0.mk hla
  have hc : decide (cmpN (val xs) (val ys) < 0) = false := by
    apply decide_eq_false
    rcases Nat.lt_or_ge (val ys) (val xs) with h | h
    · rw [cmpN_gt h]; omega
    · rw [cmpN_eq (by omega)]; omega
  have hge' := Aside0.mk hge
  have HZ := Aside0.mk hzs
  have HV := Aside0.mk hzv
  have hmk := print_make (P := Try.prog) 23 58 .u32 4 Try.underlying23 info58 (by omega) xs.length (by omega)
  clear hra hla hb hge hzs hzv
  go_enter Try.func39, Try.ntmps39
  go_wp2_with fail
  refine (cmp_any _ _ _ _ _ HA.out HB.out).mono ?_
  rintro e w' ⟨rfl, ⟨nd, rfl⟩⟩
  go_wp2_with fail
  refine (trim_any _ _ _ (HB.out.drawn nd)).mono ?_
  rintro e w' ⟨u, rfl, hu, rfl⟩
  rw [← HZ.out] at hu
  obtain ⟨⟨B, cb, rfl, hcb, hrb⟩, hlb⟩ := hu
  have HRS := Aside0.mk (show ReadsInt (w.drewN nd) .u32 B zs.length zs from hrb)
  have HLS := Aside0.mk hlb
  clear hrb hlb
  go_wp2
  go_loopw [7, 21] (fun cy i wr => ∃ (k : Nat) (z : Int) (cs : List Int), i = .int .i64 (k : Int) ∧ cy = .int .u32 z ∧ k ≤ xs.length ∧ 0 ≤ z ∧ z ≤ 1 ∧ Aside0 (SubInv xs.length xs zs k z cs) ∧ Aside0 (wr.ownsRow w.heap.size 58 1 (.slice (some ⟨w.heap.size, 0, none⟩) xs.length xs.length) xs.length (nums .u32 cs)) ∧ Aside0 (Below w.heap.size w wr)) (fun _ i _ => xs.length - (intOf i).toNat)
  case atStart => exact ⟨0, 0, _, rfl, rfl, Nat.zero_le _, by omega, by omega, ⟨sub_start _ _ _⟩, ⟨own_made (w.drewN nd) _ 58 .u32 _ (Nat.le_refl _) (by omega)⟩, ⟨below_alloc (pw_below_drewN (Below.refl _ _) nd) _⟩⟩
  case round =>
    clear hmk
    obtain ⟨k, z, cs, rfl, rfl, hk, hz0, hz1, hinv, hown, hbel⟩ := hrel
    by_cases hlt : k < xs.length
    · obtain ⟨ad1, rfl, hcell1⟩ := reads_nat (HRL.out.below hbel.out) k hlt
      obtain ⟨hc1, hc2⟩ := own_cell hown.out k (by omega)
      have r1 := at_range HLL.out k
      have r2 := at_range HLS.out k
      obtain ⟨r10, r11⟩ := r1
      obtain ⟨r20, r21⟩ := r2
      by_cases hky : k < zs.length
      · obtain ⟨ad2, rfl, hcell2⟩ := reads_nat ((HRS.out.below (Below.refl _ _)).below (below_of_drawn hbel.out nd)) k hky
        have hbr := bor_range (at_ xs k) (at_ zs k) z
        have hst := Aside0.mk (sub_step hinv.out (by omega) HLL.out HLS.out hz0 hz1 _ _ rfl rfl)
        have hpt := Aside0.mk (own_put hown.out hbel.out k ((at_ xs k - at_ zs k - z) % 4294967296))
        go_wp2_with (go_at_call 75; refine (sub32_any _ _ _ _ r10 r11 r20 r21 hz0 hz1).mono ?_; rintro e w' ⟨rfl, rfl⟩)
        go_roundw
        case rel => exact ⟨k + 1, _, _, by go_num, rfl, by omega, hbr.1, hbr.2, hst, ⟨hpt.out.1⟩, ⟨hpt.out.2⟩⟩
        case measure => simp [intOf]; omega
      · have hbr := bor_range (at_ xs k) 0 z
        have hst0 := sub_step hinv.out (by omega) HLL.out HLS.out hz0 hz1 (at_ xs k) 0 rfl (by rw [at_over zs k (by omega)])
        rw [Int.sub_zero] at hst0
        have hst := Aside0.mk hst0
        clear hst0
        have hpt := Aside0.mk (own_put hown.out hbel.out k ((at_ xs k - z) % 4294967296))
        go_wp2_with (go_at_call 75; refine (sub32_any _ _ _ _ r10 r11 (by omega) (by omega) hz0 hz1).mono ?_; rintro e w' ⟨rfl, rfl⟩)
        go_roundw
        case rel => exact ⟨k + 1, _, _, by go_num, rfl, by omega, hbr.1, hbr.2, hst, ⟨hpt.out.1⟩, ⟨hpt.out.2⟩⟩
        case measure => simp [intOf]; omega
    · obtain rfl : k = xs.length := by omega
      have hend := sub_end hinv.out (Nat.le_refl _) hzl hz0 (by rw [HV.out]; exact hge'.out)
      have hsz := hbel.out.size
      have HA := Aside0.mk (own_arg hown.out hend.1)
      have HE := Aside0.mk hend.2
      clear hend
      go_wp2_with (go_at_call 76; refine (own_any _ _ _ HA.out (by rw [HE.out.2]; omega)).mono ?_; rintro e w' ⟨u, rfl, hu, hB⟩; have HU := Aside0.mk hu; have HB2 := Aside0.mk hB; clear hu hB)
      go_ret2
      exact ⟨_, rfl, by have := HU.out; rw [HE.out.1, HV.out] at this; exact this.weaken hsz, below_then hbel.out hsz HB2.out⟩
end Go.Proofs.Ytnjbpkopekgihaa
