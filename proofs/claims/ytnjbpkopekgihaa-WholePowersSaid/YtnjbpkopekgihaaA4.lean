/- Plain: the bits of bits.Sub32. -/
import Derived.Laws.BitsAllLaws
import Derived.Test.YtnjbpkopekgihaaA0
namespace Go.Proofs.Ytnjbpkopekgihaa
theorem bit31 (n : Nat) (h : n < 4294967296) : n / 2147483648 = if n.testBit 31 then 1 else 0 := by
  rw [Nat.testBit_eq_decide_div_mod_eq]
  simp only [decide_eq_true_eq]
  split <;> omega
theorem bit31_ge (n : Nat) (h : n < 4294967296) : n.testBit 31 = decide (2147483648 ≤ n) := by
  rw [Nat.testBit_eq_decide_div_mod_eq, decide_eq_decide]
  omega
theorem borrow_nat (x y d : Nat) (hx : x < 4294967296) (hy : y < 4294967296) (hd : d < 4294967296) :
    ((((4294967295 ^^^ x) &&& y) ||| ((4294967295 ^^^ (x ^^^ y)) &&& d)) / 2147483648) =
      if (x < 2147483648 ∧ 2147483648 ≤ y) ∨ ((2147483648 ≤ x ↔ 2147483648 ≤ y) ∧ 2147483648 ≤ d) then 1 else 0 := by
  have b32 : ∀ a b : Nat, a < 4294967296 → b < 4294967296 → a ^^^ b < 4294967296 := fun a b ha hb => Nat.xor_lt_two_pow (n := 32) ha hb
  have a1 : (4294967295 ^^^ x) &&& y < 4294967296 := Nat.and_lt_two_pow (n := 32) _ hy
  have a2 : (4294967295 ^^^ (x ^^^ y)) &&& d < 4294967296 := Nat.and_lt_two_pow (n := 32) _ hd
  rw [bit31 _ (Nat.or_lt_two_pow (n := 32) a1 a2)]
  rw [Nat.testBit_or, Nat.testBit_and, Nat.testBit_and, Nat.testBit_xor, Nat.testBit_xor, Nat.testBit_xor, bit31_ge x hx, bit31_ge y hy, bit31_ge d hd, bit31_ge 4294967295 (by omega)]
  by_cases h1 : 2147483648 ≤ x <;> by_cases h2 : 2147483648 ≤ y <;> by_cases h3 : 2147483648 ≤ d <;> simp [h1, h2, h3] <;> omega
/-- the borrow -/
def bor (x y b : Int) : Int := if x < y + b then 1 else 0
theorem bor_range (x y b : Int) : 0 ≤ bor x y b ∧ bor x y b ≤ 1 := by unfold bor; split <;> omega
theorem borrow_bits (x y b : Int) (hx0 : 0 ≤ x) (hx : x < 4294967296) (hy0 : 0 ≤ y) (hy : y < 4294967296) (hb0 : 0 ≤ b) (hb : b ≤ 1) :
    bits .or .u32 (bits .and .u32 (bits .xor .u32 4294967295 x) y) (bits .and .u32 (bits .xor .u32 4294967295 (bits .xor .u32 x y)) ((x - y - b) % 4294967296)) / 2147483648 = bor x y b := by
  have hd0 : 0 ≤ (x - y - b) % 4294967296 := by omega
  have hd : (x - y - b) % 4294967296 < 4294967296 := by omega
  have X := Nat.xor_lt_two_pow (n := 32) (x := 4294967295) (y := x.toNat) (by omega) (by omega)
  have X2 := Nat.xor_lt_two_pow (n := 32) (x := x.toNat) (y := y.toNat) (by omega) (by omega)
  have X3 := Nat.xor_lt_two_pow (n := 32) (x := 4294967295) (y := x.toNat ^^^ y.toNat) (by omega) X2
  have A1 := Nat.and_lt_two_pow (n := 32) (4294967295 ^^^ x.toNat) (y := y.toNat) (by omega)
  have A2 := Nat.and_lt_two_pow (n := 32) (4294967295 ^^^ (x.toNat ^^^ y.toNat)) (y := ((x - y - b) % 4294967296).toNat) (by omega)
  rw [u32_xor x y hx0 hx hy0 hy, u32_xor 4294967295 x (by omega) (by omega) hx0 hx, u32_xor 4294967295 _ (by omega) (by omega) (by omega) (by omega), Int.toNat_natCast, show (4294967295 : Int).toNat = 4294967295 from rfl,
    u32_and _ y (by omega) (by omega) hy0 hy, u32_and _ _ (by omega) (by omega) hd0 hd, Int.toNat_natCast, Int.toNat_natCast, u32_or _ _ (by omega) (by omega) (by omega) (by omega), Int.toNat_natCast, Int.toNat_natCast]
  have h := borrow_nat x.toNat y.toNat ((x - y - b) % 4294967296).toNat (by omega) (by omega) (by omega)
  have e : ∀ n : Nat, (n : Int) / 2147483648 = ((n / 2147483648 : Nat) : Int) := fun n => by omega
  rw [e, h]
  unfold bor
  by_cases c : x < y + b
  · rw [if_pos c, if_pos (by omega)]; rfl
  · rw [if_neg c, if_neg (by omega)]; rfl
theorem or64_join (x y : Int) (hx0 : 0 ≤ x) (hx : x < 4294967296) (hy0 : 0 ≤ y) (hy : y < 4294967296) : bits .or .u64 (x * 4294967296) y = x * 4294967296 + y := by
  rw [u64_or _ _ (by omega) (by omega) hy0 (by omega), nat_join 32 _ _ (by omega) (by omega)]
  omega
theorem div_lt_of {x y b : Int} (hx0 : 0 ≤ x) (hx : x < b) (hy0 : 0 ≤ y) (hy : y < 4294967296) : 0 ≤ (x * 4294967296 + y) / b ∧ (x * 4294967296 + y) / b < 4294967296 := by
  have hb : 0 < b := by omega
  refine ⟨Int.ediv_nonneg (by omega) (by omega), Int.ediv_lt_of_lt_mul hb ?_⟩
  have : (x + 1) * 4294967296 ≤ b * 4294967296 := by omega
  omega
theorem mod_range {n b : Int} (h0 : 0 < b) (hb : b < 4294967296) : 0 ≤ n % b ∧ n % b < 4294967296 := by
  have := Int.emod_nonneg n (show b ≠ 0 by omega)
  have := Int.emod_lt_of_pos n h0
  omega
end Go.Proofs.Ytnjbpkopekgihaa
