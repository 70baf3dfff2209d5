/- Walks: nat.moved. -/
import Derived.Test.YtnjbpkopekgihaaA8
import Derived.Test.YtnjbpkopekgihaaB1
import Derived.RegionTactic
import Derived.BigRegion
namespace Go.Proofs.Ytnjbpkopekgihaa
open Go.RowKit Go.Proofs.YtnjbpkopekgihaaW.PrintWords
set_option linter.unusedVariables false
set_option linter.unusedSimpArgs false
set_option maxHeartbeats 8000000 in
set_option maxRecDepth 100000 in
theorem moved_any (va : Value) (xs : List Int) (s : Nat) (w : World) (ha : Arg w va xs) (hs : s < 32) (hsz : xs.length + 1 ≤ 70368744177664) :
    Calls Try.prog 79 #[va, .int .i64 (s : Int)] w fun e w' => ∃ u cs, e = .returned u ∧ w'.ownsRow w.heap.size 58 1 u cs.length (nums .u32 cs) ∧ Lim cs ∧ cs.length = xs.length + 1 ∧ val cs = val xs * 2 ^ s ∧ Below w.heap.size w w' := by
  obtain ⟨⟨A, ca, rfl, hca, hra⟩, hla⟩ := ha
  have HR := Aside0.mk hra
  have HL := Aside0.mk hla
  clear hra hla
  have hmk := print_make (P := Try.prog) 23 58 .u32 4 Try.underlying23 info58 (by omega) (xs.length + 1) (by omega)
  simp only [Int.natCast_add, Int.cast_ofNat_Int] at hmk
  go_enter Try.func79, Try.ntmps79
  go_wp2
  go_loopw [13] (fun i wr => ∃ (k : Nat) (cs : List Int), i = .int .i64 (k : Int) ∧ k ≤ xs.length ∧ Aside0 (MvInv xs s k cs) ∧ Aside0 (wr.ownsRow w.heap.size 58 1 (.slice (some ⟨w.heap.size, 0, none⟩) (xs.length + 1) (xs.length + 1)) (xs.length + 1) (nums .u32 cs)) ∧ Aside0 (Below w.heap.size w wr)) (fun i _ => xs.length - (intOf i).toNat)
  case atStart => exact ⟨0, _, rfl, Nat.zero_le _, ⟨mv_start _ _⟩, ⟨own_made w _ 58 .u32 _ (Nat.le_refl _) (by omega)⟩, ⟨below_alloc (Below.refl _ _) _⟩⟩
  case round =>
    clear hmk
    obtain ⟨k, cs, rfl, hk, hinv, hown, hbel⟩ := hrel
    by_cases hlt : k < xs.length
    · obtain ⟨ad, rfl, hcell⟩ := reads_nat (HR.out.below hbel.out) k hlt
      obtain ⟨hc1, hc2⟩ := own_cell hown.out k (by omega)
      have r1 := at_range HL.out k
      obtain ⟨r10, r11⟩ := r1
      have r2 := at_range hinv.out.1 k
      obtain ⟨r20, r21⟩ := r2
      have hmin : min s 32 = s := by omega
      have hor := or_lo (at_ cs k) (at_ xs k) s hs r10 r20 hinv.out.2.2.2
      have hq := Aside0.mk (own_put (W := wr.drew) hown.out (below_drew hbel.out) k (at_ cs k + at_ xs k * 2 ^ s % 4294967296))
      have hst := Aside0.mk (mv_step hinv.out hs hlt HL.out)
      have hrg := mv_range hinv.out hs HL.out
      obtain ⟨hrg0, hrg1⟩ := hrg
      go_wp2
      go_region
      obtain ⟨w1, hw1⟩ : ∃ w1, w1 = (wr.setCell ⟨w.heap.size, k, none⟩ (.int .u32 (at_ cs k + at_ xs k * 2 ^ s % 4294967296))).drew := ⟨_, rfl⟩
      rw [← hw1]
      have hq1 : w1.ownsRow w.heap.size 58 1 (.slice (some ⟨w.heap.size, 0, none⟩) (xs.length + 1) (xs.length + 1)) (xs.length + 1) (nums .u32 (cs.set k (at_ cs k + at_ xs k * 2 ^ s % 4294967296))) := by rw [hw1]; exact hq.out.1
      have hq2 : Below w.heap.size w w1 := by rw [hw1]; exact hq.out.2
      clear hq hown hbel hcell hc1 hc2 hw1 hor
      obtain ⟨ad', e', hcell⟩ := reads_nat (HR.out.below hq2) k hlt
      cases e'
      obtain ⟨hc1, hc2⟩ := own_cell hq1 (k + 1) (by omega)
      have HQ1 := Aside0.mk hq1
      have HQ2 := Aside0.mk hq2
      clear hq1 hq2
      have hm := Aside0.mk (hi_mod _ s hs r10 r11)
      go_wp2
      go_roundw
      case rel =>
        have hq := own_put HQ1.out HQ2.out (k + 1) (at_ xs k / 2 ^ (32 - s))
        rw [hm.out]
        exact ⟨k + 1, _, by go_num, by omega, hst, ⟨hq.1⟩, ⟨hq.2⟩⟩
      case measure => simp [intOf]; omega
    · obtain rfl : k = xs.length := by omega
      have hend := Aside0.mk (mv_end hinv.out)
      go_wp2
      go_ret
      exact ⟨_, cs, rfl, by rw [hend.out.2.1]; exact hown.out, hend.out.1, hend.out.2.1, hend.out.2.2, hbel.out⟩
end Go.Proofs.Ytnjbpkopekgihaa
