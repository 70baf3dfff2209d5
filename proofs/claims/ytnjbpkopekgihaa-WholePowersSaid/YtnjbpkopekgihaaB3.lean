/- Walks: bits.Add32, Sub32, Div32. -/
import Derived.Test.YtnjbpkopekgihaaA2
import Derived.Test.YtnjbpkopekgihaaA4
import Derived.Deep.QuietTactic
import Derived.BigQuiet
namespace Go.Proofs.Ytnjbpkopekgihaa
open Go.RowKit Go.Proofs.YtnjbpkopekgihaaW.PrintWords
set_option linter.unusedVariables false
set_option linter.unusedSimpArgs false
set_option maxHeartbeats 2000000 in
set_option maxRecDepth 100000 in
theorem add32_any (x y c : Int) (w : World) (hx0 : 0 ≤ x) (hx : x < 4294967296) (hy0 : 0 ≤ y) (hy : y < 4294967296) (hc0 : 0 ≤ c) (hc : c ≤ 1) :
    Calls Try.prog 80 #[.int .u32 x, .int .u32 y, .int .u32 c] w fun e w' => e = .returned (.tuple #[.int .u32 ((x + y + c) % 4294967296), .int .u32 ((x + y + c) / 4294967296)]) ∧ w = w' := by
  go_enter Try.func80, Try.ntmps80
  go_wp2
  go_ret2
  exact ⟨rfl, rfl⟩
set_option maxHeartbeats 2000000 in
set_option maxRecDepth 100000 in
theorem sub32_any (x y b : Int) (w : World) (hx0 : 0 ≤ x) (hx : x < 4294967296) (hy0 : 0 ≤ y) (hy : y < 4294967296) (hb0 : 0 ≤ b) (hb : b ≤ 1) :
    Calls Try.prog 75 #[.int .u32 x, .int .u32 y, .int .u32 b] w fun e w' => e = .returned (.tuple #[.int .u32 ((x - y - b) % 4294967296), .int .u32 (bor x y b)]) ∧ w = w' := by
  have hres := Aside0.mk (borrow_bits x y b hx0 hx hy0 hy hb0 hb)
  have hsg : IntKind.u32.signed = false := rfl
  have hmx : IntKind.u32.max = 4294967295 := rfl
  go_enter Try.func75, Try.ntmps75
  go_wp2
  go_ret2
  exact ⟨ret_two (by omega) hres.out, rfl⟩
set_option maxHeartbeats 2000000 in
set_option maxRecDepth 100000 in
theorem div32_any (x y b : Int) (w : World) (hx0 : 0 ≤ x) (hx : x < b) (hy0 : 0 ≤ y) (hy : y < 4294967296) (hb : b < 4294967296) :
    Calls Try.prog 98 #[.int .u32 x, .int .u32 y, .int .u32 b] w fun e w' => e = .returned (.tuple #[.int .u32 ((x * 4294967296 + y) / b), .int .u32 ((x * 4294967296 + y) % b)]) ∧ Drawn0 w w' := by
  have h1 : (b != 0) = true := bne_iff_ne.2 (by omega)
  have h2 : decide (b ≤ x) = false := decide_eq_false (by omega)
  have hor := or64_join x y hx0 (by omega) hy0 hy
  have hq := Aside0.mk (Int.emod_eq_of_lt (div_lt_of hx0 hx hy0 hy).1 (div_lt_of hx0 hx hy0 hy).2)
  have hr := Aside0.mk (Int.emod_eq_of_lt (mod_range (n := x * 4294967296 + y) (b := b) (by omega) hb).1 (mod_range (by omega) hb).2)
  go_enter Try.func98, Try.ntmps98
  go_wp2
  go_quiet (fail)
  go_wp2
  go_ret2
  exact ⟨ret_two hq.out hr.out, ⟨_, rfl⟩⟩
end Go.Proofs.Ytnjbpkopekgihaa
