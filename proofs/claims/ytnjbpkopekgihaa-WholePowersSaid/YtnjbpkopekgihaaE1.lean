/- Walks: the reference's Mul, Add. -/
import Derived.Test.YtnjbpkopekgihaaA6
import Derived.Test.YtnjbpkopekgihaaE0
import Derived.Deep.QuietTactic
import Derived.BigQuiet
namespace Go.Proofs.Ytnjbpkopekgihaa
open Go.RowKit Go.Proofs.YtnjbpkopekgihaaW.PrintWords
set_option linter.unusedVariables false
set_option linter.unusedSimpArgs false
set_option maxHeartbeats 8000000 in
set_option maxRecDepth 100000 in
theorem rmul_any (va vb : Value) (xs ys : List Int) (w : World) (ha : Arg w va xs) (hb : Arg w vb ys) (hsz : xs.length + ys.length ≤ 70368744177664) :
    Calls Try.prog 36 #[va, vb] w fun e w' => ∃ u, e = .returned u ∧ Res w.heap.size w' u (val xs * val ys) ∧ Below w.heap.size w w' := by
  obtain ⟨⟨A, ca, rfl, hca, hra⟩, hla⟩ := ha
  obtain ⟨⟨B, cb, rfl, hcb, hrb⟩, hlb⟩ := hb
  have HRA := Aside0.mk hra
  have HRB := Aside0.mk hrb
  have HLA := Aside0.mk hla
  have HLB := Aside0.mk hlb
  clear hra hrb hla hlb
  have hmk := print_make (P := Try.prog) 23 58 .u32 4 Try.underlying23 info58 (by omega) (xs.length + ys.length) (by omega)
  simp only [Int.natCast_add] at hmk
  go_enter Try.func36, Try.ntmps36
  go_wp2
  go_loopw [6] (fun i wr => ∃ (k : Nat) (cs : List Int), i = .int .i64 (k : Int) ∧ k ≤ xs.length ∧ Aside0 (MulRow xs ys k cs) ∧ Aside0 (wr.ownsRow w.heap.size 58 1 (.slice (some ⟨w.heap.size, 0, none⟩) (xs.length + ys.length) (xs.length + ys.length)) (xs.length + ys.length) (nums .u32 cs)) ∧ Aside0 (Below w.heap.size w wr)) (fun i _ => xs.length - (intOf i).toNat)
  case atStart => exact ⟨0, _, rfl, Nat.zero_le _, ⟨mul_start _ _ _ rfl⟩, ⟨own_made w _ 58 .u32 _ (Nat.le_refl _) (by omega)⟩, ⟨below_alloc (Below.refl _ _) _⟩⟩
  case round =>
    clear hmk
    obtain ⟨i, cs, rfl, hi, hrow, hown, hbel⟩ := hrel
    obtain ⟨wo, rfl⟩ : ∃ wo : World, wo = wr := ⟨_, rfl⟩
    by_cases hlt : i < xs.length
    · obtain ⟨adx, rfl, hcellx0⟩ := reads_nat HRA.out i hlt
      have hinv0 := Aside0.mk (mul_row hrow.out)
      have r1 := at_range HLA.out i
      obtain ⟨r10, r11⟩ := r1
      have HC0 := Aside0.mk hcellx0
      clear hcellx0
      go_wp2
      go_loopw [7, 8] (fun cy kk wr => ∃ (k : Nat) (z : Int) (ds : List Int), kk = .int .i64 (k : Int) ∧ cy = .int .u64 z ∧ k ≤ ys.length ∧ 0 ≤ z ∧ z < 4294967296 ∧ Aside0 (MulInv xs ys i k z ds) ∧ Aside0 (wr.ownsRow w.heap.size 58 1 (.slice (some ⟨w.heap.size, 0, none⟩) (xs.length + ys.length) (xs.length + ys.length)) (xs.length + ys.length) (nums .u32 ds)) ∧ Aside0 (Below w.heap.size w wr)) (fun _ kk _ => ys.length - (intOf kk).toNat)
      case atStart => exact ⟨0, 0, cs, rfl, rfl, Nat.zero_le _, by omega, by omega, hinv0, hown, hbel⟩
      case round =>
        clear hinv0 hown hrow hbel
        obtain ⟨k, z, ds, rfl, rfl, hk, hz0, hz1, hinv, hown, hbel⟩ := hrel
        by_cases hky : k < ys.length
        · have hcellx := (hbel.out.cell (World.block_lt_of_cell? _ _ HC0.out)).trans HC0.out
          obtain ⟨ady, rfl, hcelly⟩ := reads_nat (HRB.out.below hbel.out) k hky
          obtain ⟨hc1, hc2⟩ := own_cell hown.out (i + k) (by omega)
          have r2 := at_range HLB.out k
          have r3 := at_range hinv.out.1 (i + k)
          obtain ⟨r20, r21⟩ := r2
          obtain ⟨r30, r31⟩ := r3
          have hp := prod_range r10 r11 r20 r21
          obtain ⟨hp0, hp1⟩ := hp
          have hst := Aside0.mk (mul_step hinv.out hlt hky HLA.out HLB.out hz0 _ rfl)
          have hcar := mul_carry (i := i) (k := k) (t := at_ xs i * at_ ys k + at_ ds (i + k) + z) HLA.out HLB.out hinv.out.1 hz0 hz1 rfl
          obtain ⟨hcar0, hcar1⟩ := hcar
          go_wp2
          go_quiet (fail)
          go_wp2
          go_roundw
          case rel =>
            have hq := own_put (W := wr.drewN nq) hown.out (pw_below_drewN hbel.out nq) (i + k) ((at_ xs i * at_ ys k + at_ ds (i + k) + z) % 4294967296)
            exact ⟨k + 1, _, _, by go_num, rfl, by omega, hcar0, hcar1, hst, ⟨hq.1⟩, ⟨hq.2⟩⟩
          case measure => simp [intOf]; omega
        · obtain rfl : k = ys.length := by omega
          obtain ⟨hc1, hc2⟩ := own_cell hown.out (i + ys.length) (by omega)
          have hst := Aside0.mk (mul_row_end hinv.out hlt hz0 hz1)
          go_wp2
          go_roundw
          case rel =>
            have hq := own_put hown.out hbel.out (i + ys.length) z
            exact ⟨i + 1, _, by go_num, by omega, hst, ⟨hq.1⟩, ⟨hq.2⟩⟩
          case measure => simp [intOf]; omega
    · obtain rfl : i = xs.length := by omega
      have hend := mul_end hrow.out
      have hsz := hbel.out.size
      have HA := Aside0.mk (own_arg hown.out hend.1)
      have HE := Aside0.mk hend.2
      clear hend
      go_wp2_with (go_at_call 34; refine (rnorm_any _ _ _ HA.out (by rw [HE.out.2]; omega)).mono ?_; rintro e w' ⟨u, rfl, hu, hB⟩; have HU := Aside0.mk hu; have HB2 := Aside0.mk hB; clear hu hB)
      go_ret
      exact ⟨_, rfl, by have := HU.out; rw [HE.out.1] at this; exact this.weaken hsz, below_then hbel.out hsz HB2.out⟩
theorem add_done {n : Nat} {xs ys : List Int} {z : Int} {cs : List Int} (h : AddInv n xs ys n z cs) (lx : Lim xs) (ly : Lim ys) (hx : xs.length < n) (hy : ys.length < n) (h0 : 0 ≤ z) :
    Lim cs ∧ val cs = val xs + val ys ∧ cs.length = n := by
  obtain ⟨hl, hn, hv⟩ := h
  refine ⟨hl, ?_, hn⟩
  rw [List.take_of_length_le (by omega), List.take_of_length_le (by omega), List.take_of_length_le (by omega)] at hv
  obtain ⟨m, rfl⟩ : ∃ m, n = m + 1 := ⟨n - 1, by omega⟩
  have v1 := low_lt lx m
  have v2 := low_lt ly m
  rw [List.take_of_length_le (by omega)] at v1 v2
  rcases Nat.eq_zero_or_pos z.toNat with h | h
  · rw [h, Nat.mul_zero, Nat.add_zero] at hv; exact hv
  · exfalso
    have := Nat.mul_le_mul_left (4294967296 ^ (m + 1)) h
    rw [pw_succ] at this hv
    generalize 4294967296 * 4294967296 ^ m * z.toNat = Q at this hv
    generalize 4294967296 ^ m = R at this v1 v2
    omega
set_option maxHeartbeats 8000000 in
set_option maxRecDepth 100000 in
theorem radd_any (va vb : Value) (xs ys : List Int) (w : World) (ha : Arg w va xs) (hb : Arg w vb ys) (hx : xs.length + 1 ≤ 70368744177664) (hy : ys.length + 1 ≤ 70368744177664) :
    Calls Try.prog 35 #[va, vb] w fun e w' => ∃ u, e = .returned u ∧ Res w.heap.size w' u (val xs + val ys) ∧ Below w.heap.size w w' := by
  have HA := Aside0.mk ha
  have HB := Aside0.mk hb
  obtain ⟨⟨A, ca, rfl, hca, hra⟩, hla⟩ := ha
  obtain ⟨⟨B, cb, rfl, hcb, hrb⟩, hlb⟩ := hb
  have HLA := Aside0.mk hla
  have HLB := Aside0.mk hlb
  clear hra hrb hla hlb
  have HMK := Aside0.mk (print_make (P := Try.prog) 23 58 .u32 4 Try.underlying23 info58 (by omega))
  go_enter Try.func35, Try.ntmps35
  go_upto_if 15 with (fail)
  go_cut [5] (fun N wc => wc = w ∧ ∃ n : Nat, N = .int .i64 (n : Int) ∧ xs.length ≤ n ∧ ys.length ≤ n ∧ n + 1 ≤ 70368744177664)
  case first =>
    go_wp2
    all_goals (go_meet; exact ⟨rfl, _, rfl, by omega, by omega, by omega⟩)
  case rest =>
    obtain ⟨rfl, n, rfl, hn1, hn2, hn3⟩ := hcut
    have hmk := HMK.out (n + 1) (by omega)
    simp only [Int.natCast_add, Int.cast_ofNat_Int] at hmk
    go_wp2
    go_loopw [7, 8] (fun cy i wr => ∃ (k : Nat) (z : Int) (cs : List Int), i = .int .i64 (k : Int) ∧ cy = .int .u64 z ∧ k ≤ n + 1 ∧ 0 ≤ z ∧ z ≤ 1 ∧ Aside0 (AddInv (n + 1) xs ys k z cs) ∧ Aside0 (wr.ownsRow wc.heap.size 58 1 (.slice (some ⟨wc.heap.size, 0, none⟩) (n + 1) (n + 1)) (n + 1) (nums .u32 cs)) ∧ Aside0 (Below wc.heap.size wc wr)) (fun _ i _ => n + 1 - (intOf i).toNat)
    case atStart => exact ⟨0, 0, _, rfl, rfl, Nat.zero_le _, by omega, by omega, ⟨add_start _ _ _⟩, ⟨own_made wc _ 58 .u32 _ (Nat.le_refl _) (by omega)⟩, ⟨below_alloc (Below.refl _ _) _⟩⟩
    case round =>
      clear hmk
      obtain ⟨k, z, cs, rfl, rfl, hk, hz0, hz1, hinv, hown, hbel⟩ := hrel
      by_cases hlt : k < n + 1
      · obtain ⟨hc1, hc2⟩ := own_cell hown.out k (by omega)
        obtain ⟨r10, r11⟩ := at_range HLA.out k
        obtain ⟨r20, r21⟩ := at_range HLB.out k
        have hst := Aside0.mk (add_step hinv.out (by omega) HLA.out HLB.out hz0 _ rfl)
        have hpt := Aside0.mk (own_put hown.out hbel.out k ((at_ xs k + at_ ys k + z) % 4294967296))
        go_wp2_with (first | (go_at_call_of 71 (Value.slice A xs.length ca); refine (at_any _ xs k _ _ (HA.out.below hbel.out) rfl).mono ?_; rintro e w' ⟨rfl, rfl⟩) | (go_at_call_of 71 (Value.slice B ys.length cb); refine (at_any _ ys k _ _ (HB.out.below hbel.out) rfl).mono ?_; rintro e w' ⟨rfl, rfl⟩))
        go_roundw
        case rel => exact ⟨k + 1, _, _, by go_num, rfl, by omega, by omega, by omega, hst, ⟨hpt.out.1⟩, ⟨hpt.out.2⟩⟩
        case measure => simp [intOf]; omega
      · obtain rfl : k = n + 1 := by omega
        have hend := add_done hinv.out HLA.out HLB.out (by omega) (by omega) hz0
        have hsz := hbel.out.size
        have HC := Aside0.mk (own_arg hown.out hend.1)
        have HE := Aside0.mk hend.2
        clear hend
        go_wp2_with (go_at_call 34; refine (rnorm_any _ _ _ HC.out (by rw [HE.out.2]; omega)).mono ?_; rintro e w' ⟨u, rfl, hu, hB⟩; have HU := Aside0.mk hu; have HB2 := Aside0.mk hB; clear hu hB)
        go_ret
        exact ⟨_, rfl, by have := HU.out; rw [HE.out.1] at this; exact this.weaken hsz, below_then hbel.out hsz HB2.out⟩
end Go.Proofs.Ytnjbpkopekgihaa
