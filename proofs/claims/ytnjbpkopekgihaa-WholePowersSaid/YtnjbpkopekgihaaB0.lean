/- Walks: nat.trim. -/
import Derived.Test.YtnjbpkopekgihaaA1
namespace Go.Proofs.Ytnjbpkopekgihaa
open Go.RowKit Go.Proofs.YtnjbpkopekgihaaW.PrintWords
set_option linter.unusedVariables false
set_option linter.unusedSimpArgs false
set_option maxHeartbeats 400000 in
theorem trim_any (v : Value) (xs : List Int) (w : World) (ha : Arg w v xs) :
    Calls Try.prog 74 #[v] w fun e w' => ∃ u, e = .returned u ∧ Arg w' u (lim (val xs)) ∧ w = w' := by
  obtain ⟨⟨A, c, rfl, hc, hr⟩, hl⟩ := ha
  have hm : xs.length ≤ 9223372036854775807 := hr.2.1
  have HR := Aside0.mk hr
  clear hr
  have HL := Aside0.mk hl
  clear hl
  go_enter Try.func74, Try.ntmps74
  go_wp2
  go_loop [3] (fun n => ∃ k : Nat, n = .int .i64 k ∧ k ≤ xs.length ∧ Aside0 (val (xs.take k) = val xs)) (fun n => (intOf n).toNat)
  case atStart => exact ⟨_, rfl, Nat.le_refl _, ⟨by rw [List.take_length]⟩⟩
  case round =>
    obtain ⟨k, rfl, hk, hv⟩ := hrel
    by_cases h0 : 0 < k
    · obtain ⟨ad, rfl, hcell⟩ := reads_nat HR.out (k - 1) (by omega)
      by_cases hz : at_ xs (k - 1) = 0
      · have hb : (at_ xs (k - 1) == 0) = true := beq_iff_eq.2 hz
        have hs := Aside0.mk (trim_step xs k h0 hk hz hv.out)
        clear hz
        go_wp2
        go_round
        case rel => exact ⟨k - 1, by go_num, by omega, hs⟩
        case measure => simp [intOf]; omega
      · have hb : (at_ xs (k - 1) == 0) = false := beq_eq_false_iff_ne.2 hz
        have hs := Aside0.mk (trim_end HL.out k hk (.inr hz) hv.out)
        clear hz
        go_wp2
        go_ret
        exact ⟨_, rfl, arg_trim HR.out HL.out hc hs.out, rfl⟩
    · have hs := Aside0.mk (trim_end HL.out k hk (.inl (by omega)) hv.out)
      go_wp2
      go_ret
      exact ⟨_, rfl, arg_trim HR.out HL.out hc hs.out, rfl⟩
end Go.Proofs.Ytnjbpkopekgihaa
