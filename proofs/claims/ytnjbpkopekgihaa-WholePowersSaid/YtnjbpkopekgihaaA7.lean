/- Plain: dividing by one limb. -/
import Derived.Test.YtnjbpkopekgihaaA6
namespace Go.Proofs.Ytnjbpkopekgihaa
theorem drop_at (xs : List Int) (k : Nat) (h : k < xs.length) : xs.drop k = at_ xs k :: xs.drop (k + 1) := by
  rw [List.drop_eq_getElem_cons h]
  simp [at_, List.getD_eq_getElem?_getD, List.getElem?_eq_getElem h]
theorem val_drop (xs : List Int) (k : Nat) (h : k < xs.length) : val (xs.drop k) = (at_ xs k).toNat + 4294967296 * val (xs.drop (k + 1)) := by
  rw [drop_at xs k h, val_cons]
theorem drop_set_succ (xs : List Int) (k : Nat) (x : Int) : (xs.set k x).drop (k + 1) = xs.drop (k + 1) := List.drop_set_of_lt (by omega)
def ShInv (xs : List Int) (b : Int) (k : Nat) (r : Int) (qs : List Int) : Prop :=
  Lim qs ∧ qs.length = xs.length ∧ val (xs.drop k) = val (qs.drop k) * b.toNat + r.toNat
theorem sh_start (xs : List Int) (b : Int) : ShInv xs b xs.length 0 (List.replicate xs.length 0) :=
  ⟨Lim_replicate _, by simp, by rw [List.drop_length, List.drop_of_length_le (by simp)]; simp [val]⟩
theorem sh_step {xs qs : List Int} {b r : Int} {k : Nat} (h : ShInv xs b k r qs) (h0 : 0 < k) (hk : k ≤ xs.length) (hx : Lim xs) (hr0 : 0 ≤ r) (hr : r < b) (t : Int) (ht : t = r * 4294967296 + at_ xs (k - 1)) :
    ShInv xs b (k - 1) (t % b) (qs.set (k - 1) (t / b)) := by
  obtain ⟨hl, hn, hv⟩ := h
  have rx := at_range hx (k - 1)
  have hq := div_lt_of hr0 hr rx.1 rx.2
  rw [← ht] at hq
  have hm0 := Int.emod_nonneg t (show b ≠ 0 by omega)
  refine ⟨Lim_set hl _ hq.1 hq.2, by simpa using hn, ?_⟩
  rw [val_drop xs (k - 1) (by omega), val_drop _ (k - 1) (by simp; omega), drop_set_succ, at_set qs _ _ _ (by omega), if_pos rfl, show k - 1 + 1 = k by omega, hv]
  have e := Int.mul_ediv_add_emod t b
  have e1 : b.toNat * (t / b).toNat + (t % b).toNat = r.toNat * 4294967296 + (at_ xs (k - 1)).toNat := by
    have e2 : ((b.toNat * (t / b).toNat + (t % b).toNat : Nat) : Int) = ((r.toNat * 4294967296 + (at_ xs (k - 1)).toNat : Nat) : Int) := by
      rw [Int.natCast_add, Int.natCast_mul, Int.natCast_add, Int.natCast_mul, Int.toNat_of_nonneg (by omega), Int.toNat_of_nonneg hq.1, Int.toNat_of_nonneg hm0, Int.toNat_of_nonneg hr0, Int.toNat_of_nonneg rx.1, e, ht]
      rfl
    exact Int.ofNat.inj e2
  rw [Nat.add_mul, Nat.mul_comm (t / b).toNat, Nat.mul_assoc]
  omega
theorem sh_end {xs qs : List Int} {b r : Int} (h : ShInv xs b 0 r qs) (hr0 : 0 ≤ r) (hr : r < b) : Lim qs ∧ qs.length = xs.length ∧ val qs = val xs / b.toNat ∧ r = ((val xs % b.toNat : Nat) : Int) := by
  obtain ⟨hl, hn, hv⟩ := h
  rw [List.drop_zero, List.drop_zero] at hv
  have hlt : r.toNat < b.toNat := by omega
  refine ⟨hl, hn, ?_, ?_⟩
  · rw [hv, Nat.mul_comm, Nat.mul_add_div (by omega), Nat.div_eq_of_lt hlt, Nat.add_zero]
  · rw [hv, Nat.mul_comm, Nat.mul_add_mod, Nat.mod_eq_of_lt hlt]; omega
end Go.Proofs.Ytnjbpkopekgihaa
