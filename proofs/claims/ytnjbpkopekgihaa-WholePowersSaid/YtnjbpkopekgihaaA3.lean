/- Plain: comparing from the highest limb on. -/
import Derived.Test.YtnjbpkopekgihaaA0
namespace Go.Proofs.Ytnjbpkopekgihaa
def cmpN (a b : Nat) : Int := if a < b then -1 else if a = b then 0 else 1
theorem cmpN_lt {a b : Nat} (h : a < b) : cmpN a b = -1 := by simp [cmpN, h]
theorem cmpN_eq {a b : Nat} (h : a = b) : cmpN a b = 0 := by simp [cmpN, h]
theorem cmpN_gt {a b : Nat} (h : b < a) : cmpN a b = 1 := by unfold cmpN; rw [if_neg (by omega), if_neg (by omega)]
theorem cmp_len_lt {m n : Nat} (h : (lim m).length < (lim n).length) : m < n := by
  rcases Nat.lt_or_ge m n with h1 | h1
  · exact h1
  · have := lim_len_mono h1; omega
/-- with the same limbs from k + 1 on, limb k decides -/
theorem drop_eq_step {xs ys : List Int} (hl : xs.length = ys.length) (k : Nat) (hk : k < xs.length) (h : xs.drop (k + 1) = ys.drop (k + 1)) (he : at_ xs k = at_ ys k) : xs.drop k = ys.drop k := by
  rw [List.drop_eq_getElem_cons hk, List.drop_eq_getElem_cons (show k < ys.length by omega), h]
  have e1 : at_ xs k = xs[k] := by simp [at_, List.getD_eq_getElem?_getD, List.getElem?_eq_getElem hk]
  have e2 : at_ ys k = ys[k]'(by omega) := by simp [at_, List.getD_eq_getElem?_getD, List.getElem?_eq_getElem (show k < ys.length by omega)]
  rw [← e1, ← e2, he]
theorem drop_lt_step {xs ys : List Int} (hx : Lim xs) (hy : Lim ys) (hl : xs.length = ys.length) (k : Nat) (hk : k < xs.length) (h : xs.drop (k + 1) = ys.drop (k + 1)) (he : at_ xs k < at_ ys k) : val xs < val ys := by
  have s1 := val_split xs (k + 1) (by omega)
  have s2 := val_split ys (k + 1) (by omega)
  have t1 := val_take_succ xs k hk
  have t2 := val_take_succ ys k (by omega)
  have l1 := val_lt (Lim_take hx k)
  rw [List.length_take, Nat.min_eq_left (by omega)] at l1
  rw [h] at s1
  have r1 := at_range hx k
  have r2 := at_range hy k
  have hm := Nat.mul_le_mul_left (4294967296 ^ k) (show (at_ xs k).toNat + 1 ≤ (at_ ys k).toNat by omega)
  rw [Nat.mul_add, Nat.mul_one] at hm
  omega
end Go.Proofs.Ytnjbpkopekgihaa
