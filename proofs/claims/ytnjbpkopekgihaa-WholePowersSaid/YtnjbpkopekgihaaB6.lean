/- Walks: nat.Mul. -/
import Derived.Test.YtnjbpkopekgihaaA6
import Derived.Test.YtnjbpkopekgihaaB1
import Derived.Deep.QuietTactic
import Derived.BigQuiet
namespace Go.Proofs.Ytnjbpkopekgihaa
open Go.RowKit Go.Proofs.YtnjbpkopekgihaaW.PrintWords
set_option linter.unusedVariables false
set_option linter.unusedSimpArgs false
set_option maxHeartbeats 8000000 in
set_option maxRecDepth 100000 in
theorem mul_any (va vb : Value) (ps qs : List Int) (w : World) (ha : Arg w va ps) (hb : Arg w vb qs) (hsz : (lim (val ps)).length + (lim (val qs)).length ≤ 70368744177664) :
    Calls Try.prog 45 #[va, vb] w fun e w' => ∃ u, e = .returned u ∧ Res w.heap.size w' u (val ps * val qs) ∧ Below w.heap.size w w' := by
  obtain ⟨xs, hxs⟩ : ∃ xs, xs = lim (val ps) := ⟨_, rfl⟩
  obtain ⟨ys, hys⟩ : ∃ ys, ys = lim (val qs) := ⟨_, rfl⟩
  have HVX := Aside0.mk (show val xs = val ps by rw [hxs]; exact val_lim _)
  have HVY := Aside0.mk (show val ys = val qs by rw [hys]; exact val_lim _)
  rw [← hxs, ← hys] at hsz
  have HX := Aside0.mk hxs
  have HY := Aside0.mk hys
  have HA := Aside0.mk ha
  have HB := Aside0.mk hb
  clear ha hb hxs hys
  have hmk := print_make (P := Try.prog) 23 58 .u32 4 Try.underlying23 info58 (by omega) (xs.length + ys.length) (by omega)
  simp only [Int.natCast_add] at hmk
  go_enter Try.func45, Try.ntmps45
  go_wp2_with fail
  refine (trim_any _ _ _ HA.out).mono ?_
  rintro e w' ⟨u, rfl, hu, rfl⟩
  rw [← HX.out] at hu
  obtain ⟨⟨A, ca, rfl, hca, hra⟩, hla⟩ := hu
  have HRA := Aside0.mk hra
  have HLA := Aside0.mk hla
  clear hra hla
  go_wp2_with fail
  refine (trim_any _ _ _ HB.out).mono ?_
  rintro e w' ⟨u, rfl, hu, rfl⟩
  rw [← HY.out] at hu
  obtain ⟨⟨B, cb, rfl, hcb, hrb⟩, hlb⟩ := hu
  have HRB := Aside0.mk hrb
  have HLB := Aside0.mk hlb
  clear hrb hlb
  go_wp2
  go_loopw [22] (fun i wr => ∃ (k : Nat) (cs : List Int), i = .int .i64 (k : Int) ∧ k ≤ xs.length ∧ Aside0 (MulRow xs ys k cs) ∧ Aside0 (wr.ownsRow w.heap.size 58 1 (.slice (some ⟨w.heap.size, 0, none⟩) (xs.length + ys.length) (xs.length + ys.length)) (xs.length + ys.length) (nums .u32 cs)) ∧ Aside0 (Below w.heap.size w wr)) (fun i _ => xs.length - (intOf i).toNat)
  case atStart => exact ⟨0, _, rfl, Nat.zero_le _, ⟨mul_start _ _ _ rfl⟩, ⟨own_made w _ 58 .u32 _ (Nat.le_refl _) (by omega)⟩, ⟨below_alloc (Below.refl _ _) _⟩⟩
  case round =>
    clear hmk
    obtain ⟨i, cs, rfl, hi, hrow, hown, hbel⟩ := hrel
    obtain ⟨wo, rfl⟩ : ∃ wo : World, wo = wr := ⟨_, rfl⟩
    by_cases hlt : i < xs.length
    · obtain ⟨adx, rfl, hcellx0⟩ := reads_nat HRA.out i hlt
      have hinv0 := Aside0.mk (mul_row hrow.out)
      have r1 := at_range HLA.out i
      obtain ⟨r10, r11⟩ := r1
      have HC0 := Aside0.mk hcellx0
      clear hcellx0
      go_wp2
      go_loopw [7, 27] (fun cy kk wr => ∃ (k : Nat) (z : Int) (ds : List Int), kk = .int .i64 (k : Int) ∧ cy = .int .u64 z ∧ k ≤ ys.length ∧ 0 ≤ z ∧ z < 4294967296 ∧ Aside0 (MulInv xs ys i k z ds) ∧ Aside0 (wr.ownsRow w.heap.size 58 1 (.slice (some ⟨w.heap.size, 0, none⟩) (xs.length + ys.length) (xs.length + ys.length)) (xs.length + ys.length) (nums .u32 ds)) ∧ Aside0 (Below w.heap.size w wr)) (fun _ kk _ => ys.length - (intOf kk).toNat)
      case atStart => exact ⟨0, 0, cs, rfl, rfl, Nat.zero_le _, by omega, by omega, hinv0, hown, hbel⟩
      case round =>
        clear hinv0 hown hrow hbel
        obtain ⟨k, z, ds, rfl, rfl, hk, hz0, hz1, hinv, hown, hbel⟩ := hrel
        by_cases hky : k < ys.length
        · have hcellx := (hbel.out.cell (World.block_lt_of_cell? _ _ HC0.out)).trans HC0.out
          obtain ⟨ady, rfl, hcelly⟩ := reads_nat (HRB.out.below hbel.out) k hky
          obtain ⟨hc1, hc2⟩ := own_cell hown.out (i + k) (by omega)
          have r2 := at_range HLB.out k
          have r3 := at_range hinv.out.1 (i + k)
          obtain ⟨r20, r21⟩ := r2
          obtain ⟨r30, r31⟩ := r3
          have hp := prod_range r10 r11 r20 r21
          obtain ⟨hp0, hp1⟩ := hp
          have hst := Aside0.mk (mul_step hinv.out hlt hky HLA.out HLB.out hz0 _ rfl)
          have hcar := mul_carry (i := i) (k := k) (t := at_ xs i * at_ ys k + at_ ds (i + k) + z) HLA.out HLB.out hinv.out.1 hz0 hz1 rfl
          obtain ⟨hcar0, hcar1⟩ := hcar
          go_wp2
          go_quiet (fail)
          go_wp2
          go_roundw
          case rel =>
            have hq := own_put (W := wr.drewN nq) hown.out (pw_below_drewN hbel.out nq) (i + k) ((at_ xs i * at_ ys k + at_ ds (i + k) + z) % 4294967296)
            exact ⟨k + 1, _, _, by go_num, rfl, by omega, hcar0, hcar1, hst, ⟨hq.1⟩, ⟨hq.2⟩⟩
          case measure => simp [intOf]; omega
        · obtain rfl : k = ys.length := by omega
          obtain ⟨hc1, hc2⟩ := own_cell hown.out (i + ys.length) (by omega)
          have hst := Aside0.mk (mul_row_end hinv.out hlt hz0 hz1)
          go_wp2
          go_roundw
          case rel =>
            have hq := own_put hown.out hbel.out (i + ys.length) z
            exact ⟨i + 1, _, by go_num, by omega, hst, ⟨hq.1⟩, ⟨hq.2⟩⟩
          case measure => simp [intOf]; omega
    · obtain rfl : i = xs.length := by omega
      have hend := mul_end hrow.out
      have hsz := hbel.out.size
      have HA := Aside0.mk (own_arg hown.out hend.1)
      have HE := Aside0.mk hend.2
      clear hend
      go_wp2_with (go_at_call 76; refine (own_any _ _ _ HA.out (by rw [HE.out.2]; omega)).mono ?_; rintro e w' ⟨u, rfl, hu, hB⟩; have HU := Aside0.mk hu; have HB2 := Aside0.mk hB; clear hu hB)
      go_ret
      exact ⟨_, rfl, by have := HU.out; rw [HE.out.1, HVX.out, HVY.out] at this; exact this.weaken hsz, below_then hbel.out hsz HB2.out⟩
end Go.Proofs.Ytnjbpkopekgihaa
