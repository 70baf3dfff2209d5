/- Walks: nat.short. -/
import Derived.Test.YtnjbpkopekgihaaA7
import Derived.Test.YtnjbpkopekgihaaB1
import Derived.Test.YtnjbpkopekgihaaB3
namespace Go.Proofs.Ytnjbpkopekgihaa
open Go.RowKit Go.Proofs.YtnjbpkopekgihaaW.PrintWords
set_option linter.unusedVariables false
set_option linter.unusedSimpArgs false
set_option maxHeartbeats 8000000 in
set_option maxRecDepth 100000 in
theorem short_any (va : Value) (xs : List Int) (b : Int) (w : World) (ha : Arg w va xs) (hb0 : 0 < b) (hb : b < 4294967296) (hs : xs.length ≤ 70368744177664) :
    Calls Try.prog 77 #[va, .int .u32 b] w fun e w' => ∃ u qs, e = .returned (.tuple #[u, .int .u32 ((val xs % b.toNat : Nat) : Int)]) ∧ w'.ownsRow w.heap.size 58 1 u qs.length (nums .u32 qs) ∧ Lim qs ∧ qs.length = xs.length ∧ val qs = val xs / b.toNat ∧ Below w.heap.size w w' := by
  obtain ⟨⟨A, ca, rfl, hca, hra⟩, hla⟩ := ha
  have HR := Aside0.mk hra
  have HL := Aside0.mk hla
  have hm := hra.2.1
  clear hra hla
  have hmk := print_make (P := Try.prog) 23 58 .u32 4 Try.underlying23 info58 (by omega) xs.length (by omega)
  go_enter Try.func77, Try.ntmps77
  go_wp2
  go_loopw [7, 8] (fun rr i wr => ∃ (k : Nat) (r : Int) (qs : List Int), i = .int .i64 ((k : Int) - 1) ∧ rr = .int .u32 r ∧ k ≤ xs.length ∧ 0 ≤ r ∧ r < b ∧ Aside0 (ShInv xs b k r qs) ∧ Aside0 (wr.ownsRow w.heap.size 58 1 (.slice (some ⟨w.heap.size, 0, none⟩) xs.length xs.length) xs.length (nums .u32 qs)) ∧ Aside0 (Below w.heap.size w wr)) (fun _ i _ => (intOf i + 1).toNat)
  case atStart => exact ⟨_, 0, _, rfl, rfl, Nat.le_refl _, by omega, by omega, ⟨sh_start _ _⟩, ⟨own_made w _ 58 .u32 _ (Nat.le_refl _) (by omega)⟩, ⟨below_alloc (Below.refl _ _) _⟩⟩
  case round =>
    clear hmk
    obtain ⟨k, r, qs, rfl, rfl, hk, hr0, hr1, hinv, hown, hbel⟩ := hrel
    by_cases h0 : 0 < k
    · obtain ⟨ad, rfl, hcell⟩ := reads_nat (HR.out.below hbel.out) (k - 1) (by omega)
      obtain ⟨hc1, hc2⟩ := own_cell hown.out (k - 1) (by omega)
      have r1 := at_range HL.out (k - 1)
      obtain ⟨r10, r11⟩ := r1
      have hst := Aside0.mk (sh_step hinv.out h0 hk HL.out hr0 hr1 _ rfl)
      have hm1 := Aside0.mk (And.intro (Int.emod_nonneg (r * 4294967296 + at_ xs (k - 1)) (show b ≠ 0 by omega)) (Int.emod_lt_of_pos (r * 4294967296 + at_ xs (k - 1)) hb0))
      go_wp2_with (go_at_call 98; refine (div32_any _ _ _ _ hr0 hr1 r10 r11 hb).mono ?_; rintro e w' ⟨rfl, ⟨nq, rfl⟩⟩)
      go_roundw
      case rel =>
        have hq := own_put (W := wr.drewN nq) hown.out (pw_below_drewN hbel.out nq) (k - 1) ((r * 4294967296 + at_ xs (k - 1)) / b)
        exact ⟨k - 1, _, _, by congr 1; omega, rfl, by omega, hm1.out.1, hm1.out.2, hst, ⟨hq.1⟩, ⟨hq.2⟩⟩
      case measure => simp [intOf]; omega
    · obtain rfl : k = 0 := by omega
      have hend := Aside0.mk (sh_end hinv.out hr0 hr1)
      go_wp2
      go_ret2
      exact ⟨_, qs, by rw [← hend.out.2.2.2]; rfl, by rw [hend.out.2.1]; exact hown.out, hend.out.1, hend.out.2.1, hend.out.2.2.1, hbel.out⟩
end Go.Proofs.Ytnjbpkopekgihaa
