/- Plain: shifting down. -/
import Derived.Test.YtnjbpkopekgihaaA13
namespace Go.Proofs.Ytnjbpkopekgihaa
theorem dn_floor {us rs : List Int} {s n : Nat} (h : DnInv us s n n rs) (hul : us.length = n) : Lim rs ∧ val rs = val us / 2 ^ s ∧ rs.length = n := by
  obtain ⟨hl, hn, hv⟩ := h
  rw [at_over us n (by omega), List.take_of_length_le (by omega), List.take_of_length_le (by omega)] at hv
  have hm := Nat.mod_lt (at_ us 0).toNat (Nat.two_pow_pos s)
  refine ⟨hl, ?_, hn⟩
  simp at hv
  rw [hv, Nat.mul_comm, Nat.mul_add_div (Nat.two_pow_pos s), Nat.div_eq_of_lt hm, Nat.add_zero]
theorem dnLimb_zero (x : Int) (s : Nat) : dnLimb x 0 s = x / 2 ^ s := by simp [dnLimb]
theorem val_drop_div (xs : List Int) (hl : Lim xs) (q : Nat) (h : q ≤ xs.length) : val (xs.drop q) = val xs / 4294967296 ^ q := by
  have hs := val_split xs q h
  have ht := val_lt (Lim_take hl q)
  rw [List.length_take, Nat.min_eq_left h] at ht
  rw [hs, Nat.add_mul_div_left _ _ (pw_pos q), Nat.div_eq_of_lt ht, Nat.zero_add]
theorem shift_split (N q d : Nat) : N / 4294967296 ^ q / 2 ^ d = N / 2 ^ (32 * q + d) := by
  rw [Nat.div_div_eq_div_mul, show (4294967296 : Nat) ^ q = 2 ^ (32 * q) from by rw [Nat.pow_mul], ← Nat.pow_add]
theorem shift_gone (N q d : Nat) (h : (lim N).length ≤ q) : N / 2 ^ (32 * q + d) = 0 := by
  apply Nat.div_eq_of_lt
  have h1 := lim_len_lt N
  have h2 : (4294967296 : Nat) ^ (lim N).length ≤ 2 ^ (32 * q + d) := by
    rw [show (4294967296 : Nat) = 2 ^ 32 from rfl, ← Nat.pow_mul]
    exact Nat.pow_le_pow_right (by omega) (by omega)
  omega
end Go.Proofs.Ytnjbpkopekgihaa
