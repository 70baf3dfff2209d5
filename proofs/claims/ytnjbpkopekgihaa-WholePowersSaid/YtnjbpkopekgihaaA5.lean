/- Plain: adding and subtracting limb by limb. -/
import Derived.Test.YtnjbpkopekgihaaA4
namespace Go.Proofs.Ytnjbpkopekgihaa
theorem at_over (xs : List Int) (k : Nat) (h : xs.length ≤ k) : at_ xs k = 0 := by
  unfold at_; rw [List.getD_eq_getElem?_getD, List.getElem?_eq_none h]; rfl
theorem take_set_succ (cs : List Int) (k : Nat) (v : Int) (h : k < cs.length) : (cs.set k v).take (k + 1) = cs.take k ++ [v] := by
  rw [take_snoc _ k (by simpa using h), take_set_le _ _ _ _ (Nat.le_refl _), at_set cs k k v h, if_pos rfl]
theorem val_take_set_succ (cs : List Int) (k : Nat) (v : Int) (h : k < cs.length) : val ((cs.set k v).take (k + 1)) = val (cs.take k) + 4294967296 ^ k * v.toNat := by
  rw [take_set_succ cs k v h, val_append, List.length_take, Nat.min_eq_left (by omega), val_cons, val_nil, Nat.mul_zero, Nat.add_zero]
def AddInv (n : Nat) (xs ys : List Int) (k : Nat) (z : Int) (cs : List Int) : Prop :=
  Lim cs ∧ cs.length = n ∧ val (cs.take k) + 4294967296 ^ k * z.toNat = val (xs.take k) + val (ys.take k)
theorem add_start (n : Nat) (xs ys : List Int) : AddInv n xs ys 0 0 (List.replicate n 0) :=
  ⟨Lim_replicate n, by simp, by simp [val]⟩
theorem add_step {n : Nat} {xs ys : List Int} {k : Nat} {z : Int} {cs : List Int} (h : AddInv n xs ys k z cs) (hk : k < n) (hx : Lim xs) (hy : Lim ys) (h0 : 0 ≤ z) (s : Int) (hs : s = at_ xs k + at_ ys k + z) :
    AddInv n xs ys (k + 1) (s / 4294967296) (cs.set k (s % 4294967296)) := by
  obtain ⟨hl, hn, hv⟩ := h
  have rx := at_range hx k
  have ry := at_range hy k
  refine ⟨Lim_set hl k (by omega) (by omega), by simpa using hn, ?_⟩
  rw [val_take_set_succ cs k _ (by omega), val_take_succ' xs k, val_take_succ' ys k, pw_succ]
  have e : 4294967296 ^ k * (s % 4294967296).toNat + 4294967296 * 4294967296 ^ k * (s / 4294967296).toNat = 4294967296 ^ k * (at_ xs k).toNat + 4294967296 ^ k * (at_ ys k).toNat + 4294967296 ^ k * z.toNat := by
    have e1 : (s % 4294967296).toNat + 4294967296 * (s / 4294967296).toNat = (at_ xs k).toNat + (at_ ys k).toNat + z.toNat := by omega
    rw [← Nat.mul_add, ← Nat.mul_add, ← e1, Nat.mul_add, Nat.mul_comm 4294967296 (4294967296 ^ k), Nat.mul_assoc]
  omega
theorem add_end {n : Nat} {xs ys : List Int} {z : Int} {cs : List Int} (h : AddInv (n + 1) xs ys n z cs) (hx : xs.length ≤ n) (hy : ys.length ≤ n) (h0 : 0 ≤ z) (h1 : z ≤ 1) :
    Lim (cs.set n z) ∧ val (cs.set n z) = val xs + val ys ∧ (cs.set n z).length = n + 1 := by
  obtain ⟨hl, hn, hv⟩ := h
  refine ⟨Lim_set hl n h0 (by omega), ?_, by simpa using hn⟩
  rw [List.take_of_length_le hx, List.take_of_length_le hy] at hv
  rw [← hv, ← val_take_set_succ cs n z (by omega), List.take_of_length_le (by simp; omega)]
def SubInv (n : Nat) (xs ys : List Int) (k : Nat) (z : Int) (cs : List Int) : Prop :=
  Lim cs ∧ cs.length = n ∧ val (cs.take k) + val (ys.take k) = val (xs.take k) + 4294967296 ^ k * z.toNat
theorem sub_start (n : Nat) (xs ys : List Int) : SubInv n xs ys 0 0 (List.replicate n 0) :=
  ⟨Lim_replicate n, by simp, by simp [val]⟩
theorem sub_step {n : Nat} {xs ys : List Int} {k : Nat} {z : Int} {cs : List Int} (h : SubInv n xs ys k z cs) (hk : k < n) (hx : Lim xs) (hy : Lim ys) (h0 : 0 ≤ z) (h1 : z ≤ 1) (x y : Int) (hx' : x = at_ xs k) (hy' : y = at_ ys k) :
    SubInv n xs ys (k + 1) (bor x y z) (cs.set k ((x - y - z) % 4294967296)) := by
  obtain ⟨hl, hn, hv⟩ := h
  have rx := at_range hx k
  have ry := at_range hy k
  subst hx' hy'
  refine ⟨Lim_set hl k (by omega) (by omega), by simpa using hn, ?_⟩
  rw [val_take_set_succ cs k _ (by omega), val_take_succ' xs k, val_take_succ' ys k, pw_succ]
  have e : 4294967296 ^ k * ((at_ xs k - at_ ys k - z) % 4294967296).toNat + 4294967296 ^ k * (at_ ys k).toNat + 4294967296 ^ k * z.toNat = 4294967296 ^ k * (at_ xs k).toNat + 4294967296 * 4294967296 ^ k * (bor (at_ xs k) (at_ ys k) z).toNat := by
    have e1 : ((at_ xs k - at_ ys k - z) % 4294967296).toNat + (at_ ys k).toNat + z.toNat = (at_ xs k).toNat + 4294967296 * (bor (at_ xs k) (at_ ys k) z).toNat := by
      unfold bor; split <;> omega
    rw [← Nat.mul_add, ← Nat.mul_add, e1, Nat.mul_add, Nat.mul_comm 4294967296 (4294967296 ^ k), Nat.mul_assoc]
  omega
theorem sub_end {n : Nat} {xs ys : List Int} {z : Int} {cs : List Int} (h : SubInv n xs ys n z cs) (hx : xs.length ≤ n) (hy : ys.length ≤ n) (h0 : 0 ≤ z) (hge : val ys ≤ val xs) :
    Lim cs ∧ val cs = val xs - val ys ∧ cs.length = n := by
  obtain ⟨hl, hn, hv⟩ := h
  refine ⟨hl, ?_, hn⟩
  rw [List.take_of_length_le hx, List.take_of_length_le hy, List.take_of_length_le (by omega)] at hv
  have hlt := val_lt hl
  rw [hn] at hlt
  have hz : z.toNat = 0 := by
    rcases Nat.eq_zero_or_pos z.toNat with h | h
    · exact h
    · have := Nat.mul_le_mul_left (4294967296 ^ n) h
      omega
  rw [hz] at hv
  omega
end Go.Proofs.Ytnjbpkopekgihaa
