/- Plain: a list moved by less than a limb. -/
import Derived.Test.YtnjbpkopekgihaaA7
namespace Go.Proofs.Ytnjbpkopekgihaa
theorem pow_split (s : Nat) (hs : s < 32) : 4294967296 = 2 ^ (32 - s) * 2 ^ s := by rw [← Nat.pow_add, show 32 - s + s = 32 by omega]
theorem lo_eq (a s : Nat) (hs : s < 32) : a * 2 ^ s % 4294967296 = a % 2 ^ (32 - s) * 2 ^ s := by rw [pow_split s hs, Nat.mul_mod_mul_right]
theorem hi_eq (a s : Nat) (hs : s < 32) : a * 2 ^ s / 4294967296 = a / 2 ^ (32 - s) := by rw [pow_split s hs, Nat.mul_div_mul_right _ _ (Nat.two_pow_pos s)]
theorem lo_le (a s : Nat) (hs : s < 32) : a * 2 ^ s % 4294967296 + 2 ^ s ≤ 4294967296 := by
  rw [lo_eq a s hs, ← Nat.succ_mul]
  have h := Nat.mul_le_mul_right (2 ^ s) (Nat.mod_lt a (Nat.two_pow_pos (32 - s)))
  rw [← pow_split s hs] at h
  exact h
theorem hi_lt (a s : Nat) (hs : s < 32) (ha : a < 4294967296) : a / 2 ^ (32 - s) < 2 ^ s := by
  rw [Nat.div_lt_iff_lt_mul (Nat.two_pow_pos _), Nat.mul_comm, ← pow_split s hs]; exact ha
theorem lo_mod (a s : Nat) (hs : s < 32) : a * 2 ^ s % 4294967296 % 2 ^ s = 0 := by rw [lo_eq a s hs, Nat.mul_mod_left]
theorem two_pow_int (s : Nat) : ((2 ^ s : Nat) : Int) = (2 : Int) ^ s := by rw [Int.natCast_pow]; rfl
theorem two_pow_lt (s : Nat) (hs : s < 32) : (2 : Nat) ^ s ≤ 2147483648 := Nat.pow_le_pow_right (by omega) (show s ≤ 31 by omega)
/-- in Int, as the walk has them -/
theorem lo_int (a : Int) (s : Nat) (h0 : 0 ≤ a) : a * 2 ^ s % 4294967296 = ((a.toNat * 2 ^ s % 4294967296 : Nat) : Int) := by
  rw [Int.natCast_emod, Int.natCast_mul, two_pow_int, Int.toNat_of_nonneg h0]; rfl
theorem hi_int (a : Int) (n : Nat) (h0 : 0 ≤ a) : a / 2 ^ n = ((a.toNat / 2 ^ n : Nat) : Int) := by
  rw [Int.natCast_ediv, two_pow_int, Int.toNat_of_nonneg h0]
theorem or_lo (c a : Int) (s : Nat) (hs : s < 32) (h0 : 0 ≤ a) (hc0 : 0 ≤ c) (hc : c.toNat < 2 ^ s) : bits .or .u32 c (a * 2 ^ s % 4294967296) = c + a * 2 ^ s % 4294967296 := by
  have hlo := lo_le a.toNat s hs
  have h2 := two_pow_lt s hs
  rw [lo_int a s h0, u32_or _ _ hc0 (by omega) (by omega) (by omega), Int.toNat_natCast, Nat.or_comm, nat_join s _ _ (lo_mod _ _ hs) hc, Int.natCast_add, Int.toNat_of_nonneg hc0, Int.add_comm]
theorem hi_mod (a : Int) (s : Nat) (hs : s < 32) (h0 : 0 ≤ a) (h1 : a < 4294967296) : a / 2 ^ (32 - s) % 4294967296 = a / 2 ^ (32 - s) := by
  have h := hi_lt a.toNat s hs (by omega)
  have h2 := two_pow_lt s hs
  rw [hi_int _ _ h0]
  exact Int.emod_eq_of_lt (Int.natCast_nonneg _) (by omega)
def MvInv (xs : List Int) (s k : Nat) (cs : List Int) : Prop :=
  Lim cs ∧ cs.length = xs.length + 1 ∧ val (cs.take (k + 1)) = val (xs.take k) * 2 ^ s ∧ (at_ cs k).toNat < 2 ^ s
theorem mv_start (xs : List Int) (s : Nat) : MvInv xs s 0 (List.replicate (xs.length + 1) 0) :=
  ⟨Lim_replicate _, by simp, by simp [val, List.replicate_succ], by rw [at_replicate]; exact Nat.two_pow_pos s⟩
theorem mv_range {xs cs : List Int} {s k : Nat} (h : MvInv xs s k cs) (hs : s < 32) (hx : Lim xs) : 0 ≤ at_ cs k + at_ xs k * 2 ^ s % 4294967296 ∧ at_ cs k + at_ xs k * 2 ^ s % 4294967296 < 4294967296 := by
  have rx := at_range hx k
  have rc := at_range h.1 k
  have hlo := lo_le (at_ xs k).toNat s hs
  have := h.2.2.2
  rw [lo_int _ s rx.1]
  omega
theorem mv_step {xs cs : List Int} {s k : Nat} (h : MvInv xs s k cs) (hs : s < 32) (hk : k < xs.length) (hx : Lim xs) :
    MvInv xs s (k + 1) ((cs.set k (at_ cs k + at_ xs k * 2 ^ s % 4294967296)).set (k + 1) (at_ xs k / 2 ^ (32 - s))) := by
  have hr := mv_range h hs hx
  obtain ⟨hl, hn, hv, hc⟩ := h
  have rx := at_range hx k
  have rc := at_range hl k
  have hhi := hi_lt (at_ xs k).toNat s hs (by omega)
  have h2 := two_pow_lt s hs
  have hhi0 : 0 ≤ at_ xs k / 2 ^ (32 - s) := by rw [hi_int _ _ rx.1]; exact Int.natCast_nonneg _
  have hhi1 : (at_ xs k / 2 ^ (32 - s)).toNat < 2 ^ s := by rw [hi_int _ _ rx.1, Int.toNat_natCast]; exact hhi
  refine ⟨Lim_set (Lim_set hl k hr.1 hr.2) _ hhi0 (by omega), by simpa using hn, ?_, ?_⟩
  · rw [val_take_set_succ _ (k + 1) _ (by simp; omega), val_take_set_succ cs k _ (by omega), val_take_succ xs k hk, pw_succ, Nat.add_mul, ← hv, val_take_succ cs k (by omega)]
    have e : (at_ cs k + at_ xs k * 2 ^ s % 4294967296).toNat + 4294967296 * (at_ xs k / 2 ^ (32 - s)).toNat = (at_ cs k).toNat + (at_ xs k).toNat * 2 ^ s := by
      rw [lo_int _ s rx.1, hi_int _ _ rx.1, Int.toNat_natCast, ← hi_eq _ s hs]
      have := Nat.mod_add_div ((at_ xs k).toNat * 2 ^ s) 4294967296
      omega
    have e2 := congrArg (4294967296 ^ k * ·) e
    simp only [Nat.mul_add] at e2
    have e3 : 4294967296 * 4294967296 ^ k * (at_ xs k / 2 ^ (32 - s)).toNat = 4294967296 ^ k * (4294967296 * (at_ xs k / 2 ^ (32 - s)).toNat) := by simp only [Nat.mul_assoc, Nat.mul_left_comm]
    rw [e3, Nat.mul_assoc (4294967296 ^ k) (at_ xs k).toNat (2 ^ s)]
    omega
  · rw [at_set _ _ _ _ (by simp; omega), if_pos rfl]; exact hhi1
theorem mv_end {xs cs : List Int} {s : Nat} (h : MvInv xs s xs.length cs) : Lim cs ∧ cs.length = xs.length + 1 ∧ val cs = val xs * 2 ^ s := by
  obtain ⟨hl, hn, hv, _⟩ := h
  exact ⟨hl, hn, by rwa [List.take_of_length_le (by omega), List.take_of_length_le (Nat.le_refl _)] at hv⟩
end Go.Proofs.Ytnjbpkopekgihaa
