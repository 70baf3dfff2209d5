/- Walks: nat.Add. -/
import Derived.Test.YtnjbpkopekgihaaA5
import Derived.Test.YtnjbpkopekgihaaB1
import Derived.Test.YtnjbpkopekgihaaB3
namespace Go.Proofs.Ytnjbpkopekgihaa
open Go.RowKit Go.Proofs.YtnjbpkopekgihaaW.PrintWords
set_option linter.unusedVariables false
set_option linter.unusedSimpArgs false
set_option maxHeartbeats 4000000 in
set_option maxRecDepth 100000 in
theorem add_ge (va vb : Value) (xs ys : List Int) (w : World) (ha : Arg w va xs) (hb : Arg w vb ys) (hle : ys.length ≤ xs.length) (hs : xs.length + 1 ≤ 70368744177664) :
    Calls Try.prog 44 #[va, vb] w fun e w' => ∃ u, e = .returned u ∧ Res w.heap.size w' u (val xs + val ys) ∧ Below w.heap.size w w' := by
  obtain ⟨⟨A, ca, rfl, hca, hra⟩, hla⟩ := ha
  obtain ⟨⟨B, cb, rfl, hcb, hrb⟩, hlb⟩ := hb
  have HRL := Aside0.mk hra
  have HRS := Aside0.mk hrb
  have HLL := Aside0.mk hla
  have HLS := Aside0.mk hlb
  clear hra hrb hla hlb
  have hsw : decide (xs.length < ys.length) = false := decide_eq_false (by omega)
  have hmk := print_make (P := Try.prog) 23 58 .u32 4 Try.underlying23 info58 (by omega) (xs.length + 1) (by omega)
  simp only [Int.natCast_add, Int.cast_ofNat_Int] at hmk
  go_enter Try.func44, Try.ntmps44
  go_wp2
  go_loopw [6, 22] (fun cy i wr => ∃ (k : Nat) (z : Int) (cs : List Int), i = .int .i64 (k : Int) ∧ cy = .int .u32 z ∧ k ≤ xs.length ∧ 0 ≤ z ∧ z ≤ 1 ∧ Aside0 (AddInv (xs.length + 1) xs ys k z cs) ∧ Aside0 (wr.ownsRow w.heap.size 58 1 (.slice (some ⟨w.heap.size, 0, none⟩) (xs.length + 1) (xs.length + 1)) (xs.length + 1) (nums .u32 cs)) ∧ Aside0 (Below w.heap.size w wr)) (fun _ i _ => xs.length - (intOf i).toNat)
  case atStart => exact ⟨0, 0, _, rfl, rfl, Nat.zero_le _, by omega, by omega, ⟨add_start _ _ _⟩, ⟨own_made w _ 58 .u32 _ (Nat.le_refl _) (by omega)⟩, ⟨below_alloc (Below.refl _ _) _⟩⟩
  case round =>
    clear hmk
    obtain ⟨k, z, cs, rfl, rfl, hk, hz0, hz1, hinv, hown, hbel⟩ := hrel
    by_cases hlt : k < xs.length
    · obtain ⟨ad1, rfl, hcell1⟩ := reads_nat (HRL.out.below hbel.out) k hlt
      obtain ⟨hc1, hc2⟩ := own_cell hown.out k (by omega)
      have r1 := at_range HLL.out k
      have r2 := at_range HLS.out k
      obtain ⟨r10, r11⟩ := r1
      obtain ⟨r20, r21⟩ := r2
      by_cases hky : k < ys.length
      · obtain ⟨ad2, rfl, hcell2⟩ := reads_nat (HRS.out.below hbel.out) k hky
        have hst := Aside0.mk (add_step hinv.out (by omega) HLL.out HLS.out hz0 _ rfl)
        have hpt := Aside0.mk (own_put hown.out hbel.out k ((at_ xs k + at_ ys k + z) % 4294967296))
        go_wp2_with (go_at_call 80; refine (add32_any _ _ _ _ r10 r11 r20 r21 hz0 hz1).mono ?_; rintro e w' ⟨rfl, rfl⟩)
        go_roundw
        case rel => exact ⟨k + 1, _, _, by go_num, rfl, by omega, by omega, by omega, hst, ⟨hpt.out.1⟩, ⟨hpt.out.2⟩⟩
        case measure => simp [intOf]; omega
      · have hst := Aside0.mk (add_step hinv.out (by omega) HLL.out HLS.out hz0 (at_ xs k + z) (by rw [at_over ys k (by omega), Int.add_zero]))
        have hpt := Aside0.mk (own_put hown.out hbel.out k ((at_ xs k + z) % 4294967296))
        go_wp2_with (go_at_call 80; refine (add32_any _ _ _ _ r10 r11 (by omega) (by omega) hz0 hz1).mono ?_; rintro e w' ⟨rfl, rfl⟩)
        go_roundw
        case rel => exact ⟨k + 1, _, _, by go_num, rfl, by omega, by omega, by omega, hst, ⟨hpt.out.1⟩, ⟨hpt.out.2⟩⟩
        case measure => simp [intOf]; omega
    · obtain rfl : k = xs.length := by omega
      obtain ⟨hc1, hc2⟩ := own_cell hown.out xs.length (by omega)
      have hpt := own_put hown.out hbel.out xs.length z
      have hend := add_end hinv.out (Nat.le_refl _) hle hz0 hz1
      have hsz := hpt.2.size
      have HA := Aside0.mk (own_arg hpt.1 hend.1)
      have HE := Aside0.mk hend.2
      have HB := Aside0.mk hpt.2
      clear hpt hend
      go_wp2_with (go_at_call 76; refine (own_any _ _ _ HA.out (by rw [HE.out.2]; omega)).mono ?_; rintro e w' ⟨u, rfl, hu, hB⟩; have HU := Aside0.mk hu; have HB2 := Aside0.mk hB; clear hu hB)
      go_ret
      exact ⟨_, rfl, by have := HU.out; rw [HE.out.1] at this; exact this.weaken hsz, below_then HB.out hsz HB2.out⟩
set_option maxHeartbeats 4000000 in
set_option maxRecDepth 100000 in
theorem add_lt (va vb : Value) (xs ys : List Int) (w : World) (ha : Arg w va xs) (hb : Arg w vb ys) (hle : xs.length ≤ ys.length) (hlt0 : xs.length < ys.length) (hs : ys.length + 1 ≤ 70368744177664) :
    Calls Try.prog 44 #[va, vb] w fun e w' => ∃ u, e = .returned u ∧ Res w.heap.size w' u (val xs + val ys) ∧ Below w.heap.size w w' := by
  obtain ⟨⟨A, ca, rfl, hca, hra⟩, hla⟩ := ha
  obtain ⟨⟨B, cb, rfl, hcb, hrb⟩, hlb⟩ := hb
  have HRS := Aside0.mk hra
  have HRL := Aside0.mk hrb
  have HLS := Aside0.mk hla
  have HLL := Aside0.mk hlb
  clear hra hrb hla hlb
  have hsw : decide (xs.length < ys.length) = true := decide_eq_true hlt0
  have hmk := print_make (P := Try.prog) 23 58 .u32 4 Try.underlying23 info58 (by omega) (ys.length + 1) (by omega)
  simp only [Int.natCast_add, Int.cast_ofNat_Int] at hmk
  go_enter Try.func44, Try.ntmps44
  go_wp2
  go_loopw [6, 22] (fun cy i wr => ∃ (k : Nat) (z : Int) (cs : List Int), i = .int .i64 (k : Int) ∧ cy = .int .u32 z ∧ k ≤ ys.length ∧ 0 ≤ z ∧ z ≤ 1 ∧ Aside0 (AddInv (ys.length + 1) ys xs k z cs) ∧ Aside0 (wr.ownsRow w.heap.size 58 1 (.slice (some ⟨w.heap.size, 0, none⟩) (ys.length + 1) (ys.length + 1)) (ys.length + 1) (nums .u32 cs)) ∧ Aside0 (Below w.heap.size w wr)) (fun _ i _ => ys.length - (intOf i).toNat)
  case atStart => exact ⟨0, 0, _, rfl, rfl, Nat.zero_le _, by omega, by omega, ⟨add_start _ _ _⟩, ⟨own_made w _ 58 .u32 _ (Nat.le_refl _) (by omega)⟩, ⟨below_alloc (Below.refl _ _) _⟩⟩
  case round =>
    clear hmk
    obtain ⟨k, z, cs, rfl, rfl, hk, hz0, hz1, hinv, hown, hbel⟩ := hrel
    by_cases hlt : k < ys.length
    · obtain ⟨ad1, rfl, hcell1⟩ := reads_nat (HRL.out.below hbel.out) k hlt
      obtain ⟨hc1, hc2⟩ := own_cell hown.out k (by omega)
      have r1 := at_range HLL.out k
      have r2 := at_range HLS.out k
      obtain ⟨r10, r11⟩ := r1
      obtain ⟨r20, r21⟩ := r2
      by_cases hky : k < xs.length
      · obtain ⟨ad2, rfl, hcell2⟩ := reads_nat (HRS.out.below hbel.out) k hky
        have hst := Aside0.mk (add_step hinv.out (by omega) HLL.out HLS.out hz0 _ rfl)
        have hpt := Aside0.mk (own_put hown.out hbel.out k ((at_ ys k + at_ xs k + z) % 4294967296))
        go_wp2_with (go_at_call 80; refine (add32_any _ _ _ _ r10 r11 r20 r21 hz0 hz1).mono ?_; rintro e w' ⟨rfl, rfl⟩)
        go_roundw
        case rel => exact ⟨k + 1, _, _, by go_num, rfl, by omega, by omega, by omega, hst, ⟨hpt.out.1⟩, ⟨hpt.out.2⟩⟩
        case measure => simp [intOf]; omega
      · have hst := Aside0.mk (add_step hinv.out (by omega) HLL.out HLS.out hz0 (at_ ys k + z) (by rw [at_over xs k (by omega), Int.add_zero]))
        have hpt := Aside0.mk (own_put hown.out hbel.out k ((at_ ys k + z) % 4294967296))
        go_wp2_with (go_at_call 80; refine (add32_any _ _ _ _ r10 r11 (by omega) (by omega) hz0 hz1).mono ?_; rintro e w' ⟨rfl, rfl⟩)
        go_roundw
        case rel => exact ⟨k + 1, _, _, by go_num, rfl, by omega, by omega, by omega, hst, ⟨hpt.out.1⟩, ⟨hpt.out.2⟩⟩
        case measure => simp [intOf]; omega
    · obtain rfl : k = ys.length := by omega
      obtain ⟨hc1, hc2⟩ := own_cell hown.out ys.length (by omega)
      have hpt := own_put hown.out hbel.out ys.length z
      have hend := add_end hinv.out (Nat.le_refl _) hle hz0 hz1
      have hsz := hpt.2.size
      have HA := Aside0.mk (own_arg hpt.1 hend.1)
      have HE := Aside0.mk hend.2
      have HB := Aside0.mk hpt.2
      clear hpt hend
      go_wp2_with (go_at_call 76; refine (own_any _ _ _ HA.out (by rw [HE.out.2]; omega)).mono ?_; rintro e w' ⟨u, rfl, hu, hB⟩; have HU := Aside0.mk hu; have HB2 := Aside0.mk hB; clear hu hB)
      go_ret
      exact ⟨_, rfl, by have := HU.out; rw [HE.out.1] at this; rw [Nat.add_comm] at this; exact this.weaken hsz, below_then HB.out hsz HB2.out⟩
theorem add_any (va vb : Value) (xs ys : List Int) (w : World) (ha : Arg w va xs) (hb : Arg w vb ys) (hs : xs.length + 1 ≤ 70368744177664) (hs2 : ys.length + 1 ≤ 70368744177664) :
    Calls Try.prog 44 #[va, vb] w fun e w' => ∃ u, e = .returned u ∧ Res w.heap.size w' u (val xs + val ys) ∧ Below w.heap.size w w' := by
  by_cases h : xs.length < ys.length
  · exact add_lt va vb xs ys w ha hb (by omega) h hs2
  · exact add_ge va vb xs ys w ha hb (by omega) hs
end Go.Proofs.Ytnjbpkopekgihaa
