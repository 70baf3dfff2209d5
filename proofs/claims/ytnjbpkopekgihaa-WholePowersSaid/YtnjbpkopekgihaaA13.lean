/- Plain: long division, digit by digit; and what is left moved down. -/
import Derived.Test.YtnjbpkopekgihaaA12
namespace Go.Proofs.Ytnjbpkopekgihaa
/-- us: what is left of U0 when the digits from k on (qs) have been taken -/
def LgInv (U0 V m n k : Nat) (us qs : List Int) : Prop :=
  Lim us ∧ us.length = m + 1 ∧ Lim qs ∧ qs.length = m + 1 - n ∧ val us < 4294967296 ^ k * V ∧ U0 = val us + 4294967296 ^ k * (val (qs.drop k) * V)
theorem lg_start {U0 V m n : Nat} {us : List Int} (hl : Lim us) (hn : us.length = m + 1) (hv : val us = U0) (hlt : U0 < 4294967296 ^ (m + 1 - n) * V) : LgInv U0 V m n (m + 1 - n) us (List.replicate (m + 1 - n) 0) :=
  ⟨hl, hn, Lim_replicate _, by simp, by omega, by rw [List.drop_of_length_le (by simp)]; simp [val, hv]⟩
theorem split3 (us : List Int) (j n : Nat) (h : j + n + 1 ≤ us.length) : us = us.take j ++ (us.drop j).take (n + 1) ++ us.drop (j + n + 1) := by
  rw [List.append_assoc, show j + n + 1 = j + (n + 1) by omega, ← List.drop_drop, List.take_append_drop, List.take_append_drop]
/-- the stretch that is divided -/
theorem lg_mid {U0 V m n k : Nat} {us qs : List Int} (h : LgInv U0 V m n k us qs) (h0 : 0 < k) (hk : k ≤ m + 1 - n) (hn : n ≤ m) (hV : V < 4294967296 ^ n) :
    val us = val (us.take (k - 1)) + 4294967296 ^ (k - 1) * val ((us.drop (k - 1)).take (n + 1)) ∧ val ((us.drop (k - 1)).take (n + 1)) < 4294967296 * V ∧ val (us.drop (k - 1 + n + 1)) = 0 := by
  obtain ⟨hl, hn1, hlq, hnq, hlt, heq⟩ := h
  have s1 := val_split us (k - 1) (by omega)
  have s2 := val_split us (k - 1 + n + 1) (by omega)
  have hk1 : 4294967296 ^ k = 4294967296 * 4294967296 ^ (k - 1) := by rw [← pw_succ, show k - 1 + 1 = k by omega]
  have hz : val (us.drop (k - 1 + n + 1)) = 0 := by
    rcases Nat.eq_zero_or_pos (val (us.drop (k - 1 + n + 1))) with h | h
    · exact h
    · have h1 := Nat.mul_le_mul_left (4294967296 ^ (k - 1 + n + 1)) h
      have h2 : 4294967296 ^ k * V ≤ 4294967296 ^ k * 4294967296 ^ n := Nat.mul_le_mul_left _ (Nat.le_of_lt hV)
      rw [← Nat.pow_add, show k + n = k - 1 + n + 1 by omega] at h2
      omega
  have s3 := val_split (us.drop (k - 1)) (n + 1) (by rw [List.length_drop]; omega)
  rw [List.drop_drop, show k - 1 + (n + 1) = k - 1 + n + 1 by omega, hz, Nat.mul_zero, Nat.add_zero] at s3
  rw [s3] at s1
  refine ⟨s1, ?_, hz⟩
  rw [hk1, Nat.mul_comm 4294967296, Nat.mul_assoc] at hlt
  exact Nat.lt_of_mul_lt_mul_left (Nat.lt_of_le_of_lt (by omega) hlt)
theorem lg_step {U0 V m n k : Nat} {us qs ms : List Int} (h : LgInv U0 V m n k us qs) (h0 : 0 < k) (hk : k ≤ m + 1 - n) (hn : n ≤ m) (hV : V < 4294967296 ^ n) (hV0 : 0 < V)
    (hm : Lim ms) (hml : ms.length = n + 1) (hmv : val ms = val ((us.drop (k - 1)).take (n + 1)) % V) (d : Nat) (hd : d = val ((us.drop (k - 1)).take (n + 1)) / V) :
    LgInv U0 V m n (k - 1) (us.take (k - 1) ++ ms ++ us.drop (k - 1 + n + 1)) (qs.set (k - 1) (d : Int)) := by
  obtain ⟨e1, e2, e3⟩ := lg_mid h h0 hk hn hV
  obtain ⟨hl, hn1, hlq, hnq, hlt, heq⟩ := h
  have hd1 : d < 4294967296 := by rw [hd, Nat.div_lt_iff_lt_mul hV0]; exact e2
  have hk1 : 4294967296 ^ k = 4294967296 * 4294967296 ^ (k - 1) := by rw [← pw_succ, show k - 1 + 1 = k by omega]
  have htl := val_lt (Lim_take hl (k - 1))
  rw [List.length_take, Nat.min_eq_left (by omega)] at htl
  have hval : val (us.take (k - 1) ++ ms ++ us.drop (k - 1 + n + 1)) = val (us.take (k - 1)) + 4294967296 ^ (k - 1) * val ms := by
    rw [val_append, e3, Nat.mul_zero, Nat.add_zero, val_append, List.length_take, Nat.min_eq_left (by omega)]
  refine ⟨Lim_append (Lim_append (Lim_take hl _) hm) (Lim_drop hl _), ?_, Lim_set hlq _ (by omega) (by omega), by simpa using hnq, ?_, ?_⟩
  · simp only [List.length_append, List.length_take, List.length_drop]; omega
  · have hr := Nat.mod_lt (val ((us.drop (k - 1)).take (n + 1))) hV0
    rw [hval, hmv]
    have := Nat.mul_le_mul_left (4294967296 ^ (k - 1)) (show val ((us.drop (k - 1)).take (n + 1)) % V + 1 ≤ V from hr)
    rw [Nat.mul_add, Nat.mul_one] at this
    omega
  · rw [hval, hmv, heq, e1, val_drop (qs.set (k - 1) (d : Int)) (k - 1) (by simp; omega), drop_set_succ, at_set qs _ _ _ (by omega), if_pos rfl, Int.toNat_natCast, show k - 1 + 1 = k by omega, hk1]
    have hdm := Nat.div_add_mod (val ((us.drop (k - 1)).take (n + 1))) V
    rw [← hd] at hdm
    generalize val ((us.drop (k - 1)).take (n + 1)) = X at *
    generalize 4294967296 ^ (k - 1) = P at *
    generalize val (qs.drop k) = Q at *
    generalize X % V = Y at *
    have : P * X = P * (V * d) + P * Y := by rw [← hdm, Nat.mul_add]
    rw [this, Nat.add_mul, Nat.mul_add, Nat.mul_comm V d]
    have e5 : 4294967296 * P * (Q * V) = P * (4294967296 * Q * V) := by simp only [Nat.mul_assoc, Nat.mul_left_comm]
    rw [e5]
    omega
theorem lg_end {U0 V m n : Nat} {us qs : List Int} (h : LgInv U0 V m n 0 us qs) (hV0 : 0 < V) : Lim us ∧ us.length = m + 1 ∧ Lim qs ∧ qs.length = m + 1 - n ∧ val qs = U0 / V ∧ val us = U0 % V := by
  obtain ⟨hl, hn1, hlq, hnq, hlt, heq⟩ := h
  rw [List.drop_zero, Nat.pow_zero, Nat.one_mul] at heq
  rw [Nat.pow_zero, Nat.one_mul] at hlt
  refine ⟨hl, hn1, hlq, hnq, ?_, ?_⟩
  · rw [heq, Nat.add_mul_div_right _ _ hV0, Nat.div_eq_of_lt hlt, Nat.zero_add]
  · rw [heq, Nat.add_mul_mod_self_right, Nat.mod_eq_of_lt hlt]
/-- moved down by s binary digits -/
def DnInv (us : List Int) (s n i : Nat) (rs : List Int) : Prop :=
  Lim rs ∧ rs.length = n ∧ val (us.take i) + 4294967296 ^ i * ((at_ us i).toNat % 2 ^ s) = val (rs.take i) * 2 ^ s + (at_ us 0).toNat % 2 ^ s
theorem dn_start (us : List Int) (s n : Nat) : DnInv us s n 0 (List.replicate n 0) := ⟨Lim_replicate _, by simp, by simp [val]⟩
def dnLimb (x y : Int) (s : Nat) : Int := x / 2 ^ s + y * 2 ^ (32 - s) % 4294967296
theorem dn_limb_nat (x y : Int) (s : Nat) (hs : s < 32) (hx0 : 0 ≤ x) (hx : x < 4294967296) (hy0 : 0 ≤ y) :
    dnLimb x y s = ((x.toNat / 2 ^ s + y.toNat % 2 ^ s * 2 ^ (32 - s) : Nat) : Int) ∧ x.toNat / 2 ^ s < 2 ^ (32 - s) ∧ y.toNat % 2 ^ s * 2 ^ (32 - s) + 2 ^ (32 - s) ≤ 4294967296 := by
  have h1 : y * 2 ^ (32 - s) % 4294967296 = ((y.toNat % 2 ^ s * 2 ^ (32 - s) : Nat) : Int) := by
    rw [lo_int y _ hy0]
    have e : 4294967296 = 2 ^ s * 2 ^ (32 - s) := by rw [← Nat.pow_add, show s + (32 - s) = 32 by omega]
    rw [e, Nat.mul_mod_mul_right]
  refine ⟨by rw [dnLimb, h1, hi_int x s hx0, Int.natCast_add], ?_, ?_⟩
  · rw [Nat.div_lt_iff_lt_mul (Nat.two_pow_pos s), ← pow_split s hs]; omega
  · have := Nat.mul_le_mul_right (2 ^ (32 - s)) (show y.toNat % 2 ^ s + 1 ≤ 2 ^ s from Nat.mod_lt _ (Nat.two_pow_pos s))
    rw [Nat.add_mul, Nat.one_mul, Nat.mul_comm (2 ^ s), ← pow_split s hs] at this
    exact this
theorem or_hi (x y : Int) (s : Nat) (hs : s < 32) (hx0 : 0 ≤ x) (hx : x < 4294967296) (hy0 : 0 ≤ y) : bits .or .u32 (x / 2 ^ s) (y * 2 ^ (32 - s) % 4294967296) = dnLimb x y s := by
  obtain ⟨h1, h2, h3⟩ := dn_limb_nat x y s hs hx0 hx hy0
  have e1 : y * 2 ^ (32 - s) % 4294967296 = ((y.toNat % 2 ^ s * 2 ^ (32 - s) : Nat) : Int) := by
    rw [lo_int y _ hy0]
    have e : 4294967296 = 2 ^ s * 2 ^ (32 - s) := by rw [← Nat.pow_add, show s + (32 - s) = 32 by omega]
    rw [e, Nat.mul_mod_mul_right]
  have hlt : x.toNat / 2 ^ s < 4294967296 := Nat.lt_of_le_of_lt (Nat.div_le_self _ _) (by omega)
  have hp := Nat.two_pow_pos (32 - s)
  rw [h1, e1, hi_int x s hx0, u32_or _ _ (Int.natCast_nonneg _) (by omega) (Int.natCast_nonneg _) (by omega), Int.toNat_natCast, Int.toNat_natCast, Nat.or_comm, nat_join (32 - s) _ _ (Nat.mul_mod_left _ _) h2, Nat.add_comm]
theorem or_hi' (x y : Int) (s : Nat) (hs : s < 32) (hx0 : 0 ≤ x) (hx : x < 4294967296) (hy0 : 0 ≤ y) : bits .or .u32 (x / 2 ^ s) (IntKind.u64.wrap (y * 2 ^ (32 - s)) % 4294967296) = dnLimb x y s := by
  have e : IntKind.u64.wrap (y * 2 ^ (32 - s)) % 4294967296 = y * 2 ^ (32 - s) % 4294967296 := by
    simp only [IntKind.wrap, IntKind.bits, IntKind.signed]
    simp
  rw [e]
  exact or_hi x y s hs hx0 hx hy0
theorem dn_range (x y : Int) (s : Nat) (hs : s < 32) (hx0 : 0 ≤ x) (hx : x < 4294967296) (hy0 : 0 ≤ y) : 0 ≤ dnLimb x y s ∧ dnLimb x y s < 4294967296 := by
  obtain ⟨h1, h2, h3⟩ := dn_limb_nat x y s hs hx0 hx hy0
  rw [h1]
  generalize x.toNat / 2 ^ s = d at *
  generalize y.toNat % 2 ^ s * 2 ^ (32 - s) = e at *
  omega
theorem dn_step {us rs : List Int} {s n i : Nat} (h : DnInv us s n i rs) (hs : s < 32) (hi : i < n) (hu : Lim us) (hul : i < us.length) : DnInv us s n (i + 1) (rs.set i (dnLimb (at_ us i) (at_ us (i + 1)) s)) := by
  obtain ⟨hl, hn, hv⟩ := h
  have r1 := at_range hu i
  have r2 := at_range hu (i + 1)
  obtain ⟨h1, h2, h3⟩ := dn_limb_nat (at_ us i) (at_ us (i + 1)) s hs r1.1 r1.2 r2.1
  have hr := dn_range (at_ us i) (at_ us (i + 1)) s hs r1.1 r1.2 r2.1
  refine ⟨Lim_set hl _ hr.1 hr.2, by simpa using hn, ?_⟩
  rw [val_take_set_succ rs i _ (by omega), val_take_succ us i hul, h1, Int.toNat_natCast, pw_succ]
  have hdm := Nat.div_add_mod (at_ us i).toNat (2 ^ s)
  have hps := pow_split s hs
  generalize (at_ us i).toNat = x at *
  generalize (at_ us (i + 1)).toNat % 2 ^ s = y at *
  have e1 : 4294967296 * 4294967296 ^ i * y = 4294967296 ^ i * (y * 2 ^ (32 - s) * 2 ^ s) := by
    rw [Nat.mul_assoc y, ← hps, Nat.mul_comm _ y, ← Nat.mul_assoc, Nat.mul_comm (y * 4294967296)]
  have e2 : 4294967296 ^ i * x = 4294967296 ^ i * (x / 2 ^ s * 2 ^ s) + 4294967296 ^ i * (x % 2 ^ s) := by
    rw [← Nat.mul_add, Nat.mul_comm (x / 2 ^ s), hdm]
  rw [e1, e2, Nat.add_mul, Nat.mul_assoc (4294967296 ^ i), Nat.add_mul, Nat.mul_add]
  omega
theorem dn_end {us rs : List Int} {s n N : Nat} (h : DnInv us s n n rs) (hs : s < 32) (hu : Lim us) (hul : n < us.length) (hv : val us = N * 2 ^ s) (hlt : val us < 4294967296 ^ n) (hn : 0 < n) : Lim rs ∧ val rs = N ∧ rs.length = n := by
  obtain ⟨hl, hnl, hval⟩ := h
  have s1 := val_split us n (by omega)
  have hz : val (us.drop n) = 0 := by
    rcases Nat.eq_zero_or_pos (val (us.drop n)) with h | h
    · exact h
    · have := Nat.mul_le_mul_left (4294967296 ^ n) h
      omega
  rw [hz, Nat.mul_zero, Nat.add_zero] at s1
  have hun : (at_ us n).toNat = 0 := by
    have := val_drop us n hul
    omega
  have hu0 : (at_ us 0).toNat % 2 ^ s = 0 := by
    have h1 := val_drop us 0 (by omega)
    rw [List.drop_zero, hv] at h1
    have hps := pow_split s hs
    have h2 : (N * 2 ^ s) % 2 ^ s = 0 := Nat.mul_mod_left _ _
    rw [h1, hps, Nat.mul_comm (2 ^ (32 - s)), Nat.mul_assoc, Nat.add_mul_mod_self_left] at h2
    exact h2
  rw [hun, hu0, Nat.zero_mod, Nat.mul_zero, Nat.add_zero, Nat.add_zero, ← s1, hv, List.take_of_length_le (by omega)] at hval
  exact ⟨hl, (Nat.eq_of_mul_eq_mul_right (Nat.two_pow_pos s) hval).symm, hnl⟩
end Go.Proofs.Ytnjbpkopekgihaa
