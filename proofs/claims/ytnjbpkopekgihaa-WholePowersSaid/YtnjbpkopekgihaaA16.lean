/- Plain: Newton's way to the square root. -/
import Derived.Test.YtnjbpkopekgihaaA15
namespace Go.Proofs.Ytnjbpkopekgihaa
/-- the square root, rounded down -/
def IsRoot (r n : Nat) : Prop := r * r ≤ n ∧ n < (r + 1) * (r + 1)
theorem sq_lt {a b : Nat} (h : a < b) : (a + 1) * (a + 1) ≤ b * b := Nat.mul_le_mul h h
theorem root_unique {r s n : Nat} (h : IsRoot r n) (k : IsRoot s n) : r = s := by
  obtain ⟨h1, h2⟩ := h
  obtain ⟨k1, k2⟩ := k
  rcases Nat.lt_trichotomy r s with h | h | h
  · have := sq_lt h; omega
  · exact h
  · have := sq_lt h; omega
theorem four_mul (a b : Nat) : 4 * (a * b) ≤ (a + b) * (a + b) := by
  rcases Nat.le_total a b with h | h
  · obtain ⟨d, rfl⟩ := Nat.exists_eq_add_of_le h
    have e : (a + (a + d)) * (a + (a + d)) = 4 * (a * (a + d)) + d * d := by grind
    omega
  · obtain ⟨d, rfl⟩ := Nat.exists_eq_add_of_le h
    have e : (b + d + b) * (b + d + b) = 4 * ((b + d) * b) + d * d := by grind
    omega
/-- what is above the root -/
def Above (x n : Nat) : Prop := 0 < x ∧ n < (x + 1) * (x + 1)
theorem newton_next {x n : Nat} (hx : 0 < x) (hn : 0 < n) : Above ((x + n / x) / 2) n := by
  obtain ⟨q, hq⟩ : ∃ q, q = n / x := ⟨_, rfl⟩
  obtain ⟨y, hy⟩ : ∃ y, y = (x + q) / 2 := ⟨_, rfl⟩
  rw [← hq, ← hy]
  have h1 : n < (q + 1) * x := by
    have := Nat.div_add_mod n x
    have hm := Nat.mod_lt n hx
    rw [← hq, Nat.mul_comm] at this
    rw [Nat.add_mul, Nat.one_mul]
    omega
  have h2 := four_mul (q + 1) x
  have h3 : q + 1 + x ≤ 2 * (y + 1) := by omega
  have h4 := Nat.mul_le_mul h3 h3
  have h5 : 2 * (y + 1) * (2 * (y + 1)) = 4 * ((y + 1) * (y + 1)) := by grind
  have h6 : n < (y + 1) * (y + 1) := by omega
  refine ⟨?_, h6⟩
  rcases Nat.eq_zero_or_pos y with h | h
  · rw [h] at h6; omega
  · exact h
theorem newton_stop {x n : Nat} (hx : Above x n) (h : x ≤ (x + n / x) / 2) : IsRoot x n := by
  refine ⟨?_, hx.2⟩
  have h1 : x ≤ n / x := by omega
  exact (Nat.le_div_iff_mul_le hx.1).1 h1
theorem newton_start {n b : Nat} (hb : n < 2 ^ b) : Above (2 ^ ((b + 1) / 2)) n := by
  refine ⟨Nat.two_pow_pos _, ?_⟩
  have h1 : (2 : Nat) ^ b ≤ 2 ^ ((b + 1) / 2) * 2 ^ ((b + 1) / 2) := by
    rw [← Nat.pow_add]; exact Nat.pow_le_pow_right (by omega) (by omega)
  have h2 := Nat.mul_le_mul (show 2 ^ ((b + 1) / 2) ≤ 2 ^ ((b + 1) / 2) + 1 by omega) (show 2 ^ ((b + 1) / 2) ≤ 2 ^ ((b + 1) / 2) + 1 by omega)
  omega
theorem root_exists (n : Nat) : ∃ r, IsRoot r n := by
  induction n with
  | zero => exact ⟨0, by simp [IsRoot]⟩
  | succ n ih =>
    obtain ⟨r, h1, h2⟩ := ih
    by_cases h : (r + 1) * (r + 1) ≤ n + 1
    · have e1 : (r + 1 + 1) * (r + 1 + 1) = (r + 1) * (r + 1) + 2 * r + 3 := by grind
      exact ⟨r + 1, h, by omega⟩
    · exact ⟨r, by omega, by omega⟩
theorem root_le {r n : Nat} (h : IsRoot r n) : r ≤ n := by
  obtain ⟨h1, _⟩ := h
  rcases Nat.eq_zero_or_pos r with h | h
  · omega
  · exact Nat.le_trans (Nat.le_mul_of_pos_left r h) h1
/-- a power of 2 as limbs -/
theorem pow2_limbs (n : Nat) : (List.replicate (n / 32 + 1) (0 : Int)).set (n / 32) ((2 ^ (n % 32) : Nat) : Int) = lim (2 ^ n) := by
  have hlt : 2 ^ (n % 32) < 4294967296 := by
    have := two_pow_lt (n % 32) (Nat.mod_lt _ (by omega)); omega
  have hpos := Nat.two_pow_pos (n % 32)
  refine nrm_ext (Lim_set (Lim_replicate _) _ (by omega) (by omega)) (Lim_lim _) (.inr ?_) (Nrm_lim _) ?_
  · simp only [List.length_set, List.length_replicate, Nat.add_sub_cancel]
    rw [at_set _ _ _ _ (by simp), if_pos rfl]
    omega
  · have h := val_set (List.replicate (n / 32 + 1) (0 : Int)) (n / 32) ((2 ^ (n % 32) : Nat) : Int) (by simp)
    rw [at_replicate, val_replicate, Int.toNat_natCast] at h
    rw [val_lim]
    simp at h
    have e : (4294967296 : Nat) ^ (n / 32) * 2 ^ (n % 32) = 2 ^ n := by
      rw [show (4294967296 : Nat) = 2 ^ 32 from rfl, ← Nat.pow_mul, ← Nat.pow_add, Nat.div_add_mod]
    rw [e] at h
    simpa using h
theorem lim_pow2_len (n : Nat) : (lim (2 ^ n)).length = n / 32 + 1 := by rw [← pow2_limbs]; simp
end Go.Proofs.Ytnjbpkopekgihaa
