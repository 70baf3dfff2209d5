/- Plain: multiplying as at school. -/
import Derived.Test.YtnjbpkopekgihaaA5
namespace Go.Proofs.Ytnjbpkopekgihaa
theorem prod_range {a b : Int} (h0 : 0 ≤ a) (h1 : a < 4294967296) (h2 : 0 ≤ b) (h3 : b < 4294967296) : 0 ≤ a * b ∧ a * b ≤ 18446744065119617025 := by
  refine ⟨Int.mul_nonneg h0 h2, ?_⟩
  have h := Int.mul_le_mul (show a ≤ 4294967295 by omega) (show b ≤ 4294967295 by omega) h2 (by omega)
  omega
def MulRow (xs ys : List Int) (i : Nat) (cs : List Int) : Prop :=
  Lim cs ∧ cs.length = xs.length + ys.length ∧ (∀ j, i + ys.length ≤ j → at_ cs j = 0) ∧ val cs = val (xs.take i) * val ys
def MulInv (xs ys : List Int) (i k : Nat) (z : Int) (cs : List Int) : Prop :=
  Lim cs ∧ cs.length = xs.length + ys.length ∧ (∀ j, i + ys.length ≤ j → at_ cs j = 0) ∧ val cs + 4294967296 ^ (i + k) * z.toNat = val (xs.take i) * val ys + 4294967296 ^ i * ((at_ xs i).toNat * val (ys.take k))
theorem at_replicate (n j : Nat) : at_ (List.replicate n 0) j = 0 := by
  unfold at_
  rw [List.getD_eq_getElem?_getD, List.getElem?_replicate]
  split <;> rfl
theorem mul_start (xs ys : List Int) (n : Nat) (hn : n = xs.length + ys.length) : MulRow xs ys 0 (List.replicate n 0) :=
  ⟨Lim_replicate n, by simpa using hn, fun j _ => at_replicate n j, by simp [val, val_replicate]⟩
theorem mul_row {xs ys : List Int} {i : Nat} {cs : List Int} (h : MulRow xs ys i cs) : MulInv xs ys i 0 0 cs := by
  obtain ⟨h1, h2, h3, h4⟩ := h
  exact ⟨h1, h2, h3, by simp [val, h4]⟩
theorem mul_step {xs ys : List Int} {i k : Nat} {z : Int} {cs : List Int} (h : MulInv xs ys i k z cs) (hi : i < xs.length) (hk : k < ys.length) (hx : Lim xs) (hy : Lim ys) (h0 : 0 ≤ z) (t : Int) (ht : t = at_ xs i * at_ ys k + at_ cs (i + k) + z) :
    MulInv xs ys i (k + 1) (t / 4294967296) (cs.set (i + k) (t % 4294967296)) := by
  obtain ⟨hl, hn, hz, hv⟩ := h
  have rx := at_range hx i
  have ry := at_range hy k
  have rc := at_range hl (i + k)
  have hp := prod_range rx.1 rx.2 ry.1 ry.2
  refine ⟨Lim_set hl _ (by omega) (by omega), by simpa using hn, fun j hj => ?_, ?_⟩
  · rw [at_set cs _ j _ (by omega), if_neg (by omega)]; exact hz j hj
  · have hs := val_set cs (i + k) (t % 4294967296) (by omega)
    rw [val_take_succ' ys k, show i + (k + 1) = (i + k) + 1 by omega, pw_succ, Nat.mul_add, Nat.mul_add]
    have e1 : (t % 4294967296).toNat + 4294967296 * (t / 4294967296).toNat = (at_ xs i).toNat * (at_ ys k).toNat + (at_ cs (i + k)).toNat + z.toNat := by
      have e : ((at_ xs i).toNat * (at_ ys k).toNat : Nat) = (at_ xs i * at_ ys k).toNat := by rw [Int.toNat_mul rx.1 ry.1]
      rw [e]; omega
    have e2 := congrArg (4294967296 ^ (i + k) * ·) e1
    simp only [Nat.mul_add] at e2
    have e3 : 4294967296 ^ i * ((at_ xs i).toNat * (4294967296 ^ k * (at_ ys k).toNat)) = 4294967296 ^ (i + k) * ((at_ xs i).toNat * (at_ ys k).toNat) := by
      rw [Nat.pow_add]; simp only [Nat.mul_assoc, Nat.mul_left_comm]
    have e4 : 4294967296 * 4294967296 ^ (i + k) * (t / 4294967296).toNat = 4294967296 ^ (i + k) * (4294967296 * (t / 4294967296).toNat) := by
      simp only [Nat.mul_assoc, Nat.mul_left_comm]
    rw [e3, e4]
    omega
theorem mul_row_end {xs ys : List Int} {i : Nat} {z : Int} {cs : List Int} (h : MulInv xs ys i ys.length z cs) (hi : i < xs.length) (h0 : 0 ≤ z) (h1 : z < 4294967296) :
    MulRow xs ys (i + 1) (cs.set (i + ys.length) z) := by
  obtain ⟨hl, hn, hz, hv⟩ := h
  refine ⟨Lim_set hl _ h0 h1, by simpa using hn, fun j hj => ?_, ?_⟩
  · rw [at_set cs _ j _ (by omega), if_neg (by omega)]; exact hz j (by omega)
  · have hs := val_set cs (i + ys.length) z (by omega)
    rw [hz (i + ys.length) (by omega)] at hs
    rw [List.take_of_length_le (Nat.le_refl _)] at hv
    rw [val_take_succ xs i hi, Nat.add_mul, Nat.mul_assoc]
    simp at hs
    omega
theorem mul_end {xs ys cs : List Int} (h : MulRow xs ys xs.length cs) : Lim cs ∧ val cs = val xs * val ys ∧ cs.length = xs.length + ys.length := by
  obtain ⟨h1, h2, h3, h4⟩ := h
  exact ⟨h1, by rw [h4, List.take_of_length_le (Nat.le_refl _)], h2⟩
theorem mul_carry {xs ys cs : List Int} {i k : Nat} {z t : Int} (hx : Lim xs) (hy : Lim ys) (hc : Lim cs) (h0 : 0 ≤ z) (h1 : z < 4294967296) (ht : t = at_ xs i * at_ ys k + at_ cs (i + k) + z) : 0 ≤ t / 4294967296 ∧ t / 4294967296 < 4294967296 := by
  have rx := at_range hx i
  have ry := at_range hy k
  have rc := at_range hc (i + k)
  have hp := prod_range rx.1 rx.2 ry.1 ry.2
  omega
end Go.Proofs.Ytnjbpkopekgihaa
