/- Plain: how many binary digits; the divisor moved up to the top. -/
import Derived.Lib.ItoaNum
import Derived.Test.YtnjbpkopekgihaaA13
namespace Go.Proofs.Ytnjbpkopekgihaa
theorem bitLen_zero : Lib.bitLen 0 = 0 := rfl
theorem bitLen_bd (x : Nat) (hx : x < 4294967296) (h0 : x ≠ 0) : 1 ≤ Lib.bitLen x ∧ Lib.bitLen x ≤ 32 ∧ 2 ^ (Lib.bitLen x - 1) ≤ x ∧ x < 2 ^ Lib.bitLen x := by
  have h := Lib.bitLenAux_bounds 64 x (by omega) h0
  exact ⟨h.1, Lib.bitLen_le x 32 (by omega) hx, h.2.1, h.2.2⟩
/-- by how much the divisor is moved -/
theorem up_bd (x : Nat) (hx : x < 4294967296) (h0 : x ≠ 0) : 32 - Lib.bitLen x < 32 ∧ 2147483648 ≤ x * 2 ^ (32 - Lib.bitLen x) ∧ (x + 1) * 2 ^ (32 - Lib.bitLen x) ≤ 4294967296 := by
  obtain ⟨h1, h2, h3, h4⟩ := bitLen_bd x hx h0
  generalize Lib.bitLen x = l at *
  refine ⟨by omega, ?_, ?_⟩
  · have := Nat.mul_le_mul_right (2 ^ (32 - l)) h3
    rw [← Nat.pow_add, show l - 1 + (32 - l) = 31 by omega] at this
    exact this
  · have := Nat.mul_le_mul_right (2 ^ (32 - l)) (show x + 1 ≤ 2 ^ l from h4)
    rw [← Nat.pow_add, show l + (32 - l) = 32 by omega] at this
    exact this
theorem nrm_top {xs : List Int} (hl : Lim xs) (hn : Nrm xs) (h0 : 0 < xs.length) : (at_ xs (xs.length - 1)).toNat ≠ 0 := by
  have := at_range hl (xs.length - 1)
  rcases hn with h | h
  · subst h; simp at h0
  · omega
theorem moved_top {bs cs : List Int} {n s : Nat} (hb : Lim bs) (hc : Lim cs) (hbl : bs.length = n) (hn : 0 < n) (hcl : cs.length = n + 1) (hv : val cs = val bs * 2 ^ s)
    (h1 : 2147483648 ≤ (at_ bs (n - 1)).toNat * 2 ^ s) (h2 : ((at_ bs (n - 1)).toNat + 1) * 2 ^ s ≤ 4294967296) :
    val (cs.take n) = val bs * 2 ^ s ∧ 2147483648 ≤ at_ (cs.take n) (n - 1) ∧ val bs * 2 ^ s < 4294967296 ^ n := by
  have e := val_take_succ bs (n - 1) (by omega)
  rw [show n - 1 + 1 = n by omega, List.take_of_length_le (by omega)] at e
  have hlt := val_lt (Lim_take hb (n - 1))
  rw [List.length_take, Nat.min_eq_left (by omega)] at hlt
  have hp : 4294967296 ^ n = 4294967296 ^ (n - 1) * 4294967296 := by rw [← Nat.pow_succ, show (n - 1).succ = n by omega]
  have hup : val bs * 2 ^ s < 4294967296 ^ n := by
    have h3 : val bs + 1 ≤ 4294967296 ^ (n - 1) * ((at_ bs (n - 1)).toNat + 1) := by rw [Nat.mul_add]; omega
    have h4 := Nat.mul_le_mul_right (2 ^ s) h3
    have h5 := Nat.mul_le_mul_left (4294967296 ^ (n - 1)) h2
    rw [← Nat.mul_assoc, ← hp] at h5
    have := Nat.two_pow_pos s
    rw [Nat.add_mul, Nat.one_mul] at h4
    omega
  have s1 := val_split cs n (by omega)
  have hz : val (cs.drop n) = 0 := by
    rcases Nat.eq_zero_or_pos (val (cs.drop n)) with h | h
    · exact h
    · have := Nat.mul_le_mul_left (4294967296 ^ n) h
      omega
  rw [hz, Nat.mul_zero, Nat.add_zero] at s1
  refine ⟨by rw [← s1, hv], ?_, hup⟩
  have e2 := val_take_succ (cs.take n) (n - 1) (by simp; omega)
  rw [show n - 1 + 1 = n by omega, List.take_of_length_le (by simp; omega), ← s1, hv] at e2
  have hlt2 := val_lt (Lim_take (Lim_take hc n) (n - 1))
  rw [List.length_take, List.length_take, Nat.min_eq_left (by omega)] at hlt2
  have hr := at_range (Lim_take hc n) (n - 1)
  have hlo : 4294967296 ^ (n - 1) * 2147483648 ≤ val bs * 2 ^ s := by
    have h5 := Nat.mul_le_mul_left (4294967296 ^ (n - 1)) h1
    have h6 : 4294967296 ^ (n - 1) * (at_ bs (n - 1)).toNat ≤ val bs := by omega
    have h7 := Nat.mul_le_mul_right (2 ^ s) h6
    rw [Nat.mul_assoc] at h7
    omega
  rcases Nat.lt_or_ge (at_ (cs.take n) (n - 1)).toNat 2147483648 with h | h
  · exfalso
    have := Nat.mul_le_mul_left (4294967296 ^ (n - 1)) (show (at_ (cs.take n) (n - 1)).toNat + 1 ≤ 2147483648 from h)
    rw [Nat.mul_add, Nat.mul_one] at this
    omega
  · omega
/-- the first digit fits -/
theorem first_fits {av bv m n s : Nat} (ha : av < 4294967296 ^ m) (hb : 4294967296 ^ (n - 1) ≤ bv) (hn : 0 < n) (hm : n ≤ m) : av * 2 ^ s < 4294967296 ^ (m + 1 - n) * (bv * 2 ^ s) := by
  have h1 := Nat.mul_le_mul_left (4294967296 ^ (m + 1 - n)) hb
  rw [← Nat.pow_add, show m + 1 - n + (n - 1) = m by omega] at h1
  rw [← Nat.mul_assoc]
  exact Nat.mul_lt_mul_of_pos_right (by omega) (Nat.two_pow_pos s)
end Go.Proofs.Ytnjbpkopekgihaa
