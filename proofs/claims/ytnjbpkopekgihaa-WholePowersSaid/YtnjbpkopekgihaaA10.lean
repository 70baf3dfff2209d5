/- Plain: the guessed digit times the divisor taken away, and the divisor added back. -/
import Derived.Test.YtnjbpkopekgihaaA9
namespace Go.Proofs.Ytnjbpkopekgihaa
theorem sub_limb {x y b : Int} (hx0 : 0 ≤ x) (hx : x < 4294967296) (hy0 : 0 ≤ y) (hy : y < 4294967296) (hb0 : 0 ≤ b) (hb : b ≤ 1) :
    ((x - y - b) % 4294967296).toNat + y.toNat + b.toNat = x.toNat + 4294967296 * (bor x y b).toNat := by
  unfold bor; split <;> omega
theorem at_drop {xs ys : List Int} {k : Nat} (h : xs.drop k = ys.drop k) (j : Nat) (hj : k ≤ j) : at_ xs j = at_ ys j := by
  have h1 := congrArg (fun l : List Int => l.getD (j - k) 0) h
  simp only [List.getD_eq_getElem?_getD, List.getElem?_drop, show k + (j - k) = j by omega] at h1
  simpa [at_, List.getD_eq_getElem?_getD] using h1
theorem drop_succ_of {xs ys : List Int} {k : Nat} (h : xs.drop k = ys.drop k) : xs.drop (k + 1) = ys.drop (k + 1) := by
  have := congrArg (List.drop 1) h
  rwa [List.drop_drop, List.drop_drop] at this
def DgInv (n : Nat) (G : Int) (m0 vs : List Int) (k : Nat) (b c : Int) (ms : List Int) : Prop :=
  Lim ms ∧ ms.length = n + 1 ∧ ms.drop k = m0.drop k ∧ val (ms.take k) + G.toNat * val (vs.take k) = val (m0.take k) + 4294967296 ^ k * (c.toNat + b.toNat)
theorem dg_start {n : Nat} {G : Int} {m0 vs : List Int} (h : Lim m0) (hn : m0.length = n + 1) : DgInv n G m0 vs 0 0 0 m0 :=
  ⟨h, hn, rfl, by simp [val]⟩
theorem dg_step {n k : Nat} {G b c : Int} {m0 vs ms : List Int} (h : DgInv n G m0 vs k b c ms) (h0 : m0.length = n + 1) (hk : k < n) (hv : Lim vs) (hG0 : 0 ≤ G) (hb0 : 0 ≤ b) (hb : b ≤ 1) (hc0 : 0 ≤ c) (t : Int) (ht : t = G * at_ vs k + c) :
    DgInv n G m0 vs (k + 1) (bor (at_ ms k) (t % 4294967296) b) (t / 4294967296) (ms.set k ((at_ ms k - t % 4294967296 - b) % 4294967296)) := by
  obtain ⟨hl, hn, hd, hval⟩ := h
  have rm := at_range hl k
  have rv := at_range hv k
  have hp : 0 ≤ G * at_ vs k := Int.mul_nonneg hG0 rv.1
  refine ⟨Lim_set hl _ (by omega) (by omega), by simpa using hn, ?_, ?_⟩
  · rw [drop_set_succ]; exact drop_succ_of hd
  · rw [val_take_set_succ _ _ _ (by omega), val_take_succ' vs k, val_take_succ m0 k (by omega), ← at_drop hd k (Nat.le_refl _), pw_succ, Nat.mul_add]
    have e1 := sub_limb rm.1 rm.2 (show 0 ≤ t % 4294967296 by omega) (by omega) hb0 hb
    have e2 : (t % 4294967296).toNat + 4294967296 * (t / 4294967296).toNat = G.toNat * (at_ vs k).toNat + c.toNat := by
      rw [← Int.toNat_mul hG0 rv.1]; omega
    have e3 : ((at_ ms k - t % 4294967296 - b) % 4294967296).toNat + G.toNat * (at_ vs k).toNat + c.toNat + b.toNat = (at_ ms k).toNat + 4294967296 * ((t / 4294967296).toNat + (bor (at_ ms k) (t % 4294967296) b).toNat) := by omega
    have e4 := congrArg (4294967296 ^ k * ·) e3
    simp only [Nat.mul_add] at e4
    have e5 : ∀ z : Nat, 4294967296 ^ k * (4294967296 * z) = 4294967296 * 4294967296 ^ k * z := fun z => by simp only [Nat.mul_assoc, Nat.mul_left_comm]
    have e6 : 4294967296 ^ k * (G.toNat * (at_ vs k).toNat) = G.toNat * (4294967296 ^ k * (at_ vs k).toNat) := by simp only [Nat.mul_left_comm]
    rw [e5, e5, e6] at e4
    rw [Nat.mul_add] at hval ⊢
    omega
theorem dg_carry {G a c : Int} (hG0 : 0 ≤ G) (hG : G < 4294967296) (ha0 : 0 ≤ a) (ha : a < 4294967296) (hc0 : 0 ≤ c) (hc : c < 4294967296) : 0 ≤ (G * a + c) / 4294967296 ∧ (G * a + c) / 4294967296 < 4294967296 := by
  have := prod_range hG0 hG ha0 ha
  omega
theorem dg_end {n : Nat} {G b c : Int} {m0 vs ms : List Int} (h : DgInv n G m0 vs n b c ms) (h0 : m0.length = n + 1) (hvl : vs.length = n) (hb0 : 0 ≤ b) (hb : b ≤ 1) (hc0 : 0 ≤ c) (hc : c < 4294967296) :
    Lim (ms.set n ((at_ ms n - c - b) % 4294967296)) ∧ (ms.set n ((at_ ms n - c - b) % 4294967296)).length = n + 1 ∧
      val (ms.set n ((at_ ms n - c - b) % 4294967296)) + G.toNat * val vs = val m0 + 4294967296 ^ (n + 1) * (bor (at_ ms n) c b).toNat := by
  obtain ⟨hl, hn, hd, hval⟩ := h
  have rm := at_range hl n
  refine ⟨Lim_set hl _ (by omega) (by omega), by simpa using hn, ?_⟩
  have hw : ∀ xs : List Int, xs.length = n + 1 → val xs = val (xs.take (n + 1)) := fun xs hx => by rw [List.take_of_length_le (by omega)]
  rw [hw _ (by simpa using hn), hw m0 h0, val_take_set_succ _ _ _ (by omega), val_take_succ m0 n (by omega), ← at_drop hd n (Nat.le_refl _), pw_succ]
  rw [List.take_of_length_le (by omega : vs.length ≤ n)] at hval
  have e1 := sub_limb rm.1 rm.2 hc0 hc hb0 hb
  have e4 := congrArg (4294967296 ^ n * ·) e1
  simp only [Nat.mul_add] at e4
  have e5 : ∀ z : Nat, 4294967296 ^ n * (4294967296 * z) = 4294967296 * 4294967296 ^ n * z := fun z => by simp only [Nat.mul_assoc, Nat.mul_left_comm]
  rw [e5] at e4
  rw [Nat.mul_add] at hval
  omega
def AbInv (n : Nat) (m0 vs : List Int) (k : Nat) (c : Int) (ms : List Int) : Prop :=
  Lim ms ∧ ms.length = n + 1 ∧ ms.drop k = m0.drop k ∧ val (ms.take k) + 4294967296 ^ k * c.toNat = val (m0.take k) + val (vs.take k)
theorem ab_start {n : Nat} {m0 vs : List Int} (h : Lim m0) (hn : m0.length = n + 1) : AbInv n m0 vs 0 0 m0 :=
  ⟨h, hn, rfl, by simp [val]⟩
theorem ab_step {n k : Nat} {c : Int} {m0 vs ms : List Int} (h : AbInv n m0 vs k c ms) (h0 : m0.length = n + 1) (hk : k < n) (hv : Lim vs) (hc0 : 0 ≤ c) (s : Int) (hs : s = at_ ms k + at_ vs k + c) :
    AbInv n m0 vs (k + 1) (s / 4294967296) (ms.set k (s % 4294967296)) := by
  obtain ⟨hl, hn, hd, hval⟩ := h
  have rm := at_range hl k
  have rv := at_range hv k
  refine ⟨Lim_set hl _ (by omega) (by omega), by simpa using hn, ?_, ?_⟩
  · rw [drop_set_succ]; exact drop_succ_of hd
  · rw [val_take_set_succ _ _ _ (by omega), val_take_succ' vs k, val_take_succ m0 k (by omega), ← at_drop hd k (Nat.le_refl _), pw_succ]
    have e3 : (s % 4294967296).toNat + 4294967296 * (s / 4294967296).toNat = (at_ ms k).toNat + (at_ vs k).toNat + c.toNat := by omega
    have e4 := congrArg (4294967296 ^ k * ·) e3
    simp only [Nat.mul_add] at e4
    have e5 : ∀ z : Nat, 4294967296 ^ k * (4294967296 * z) = 4294967296 * 4294967296 ^ k * z := fun z => by simp only [Nat.mul_assoc, Nat.mul_left_comm]
    rw [e5] at e4
    omega
theorem eq_of_parts {s b t r P : Nat} (h : s * P + t = b * P + r) (ht : t < P) (hr : r < P) : s = b ∧ t = r := by
  have hs : s = b := by
    rcases Nat.lt_trichotomy s b with h1 | h1 | h1
    · have := Nat.mul_le_mul_right P (show s + 1 ≤ b from h1)
      rw [Nat.add_mul, Nat.one_mul] at this
      omega
    · exact h1
    · have := Nat.mul_le_mul_right P (show b + 1 ≤ s from h1)
      rw [Nat.add_mul, Nat.one_mul] at this
      omega
  subst hs
  exact ⟨rfl, by omega⟩
theorem ab_end {n R : Nat} {c : Int} {m0 vs ms : List Int} (h : AbInv n m0 vs n c ms) (h0 : m0.length = n + 1) (hvl : vs.length = n) (hc0 : 0 ≤ c) (hc1 : c ≤ 1) (hR : val m0 + val vs = 4294967296 ^ (n + 1) + R) (hRl : R < val vs) (hv : Lim vs) :
    Lim (ms.set n ((at_ ms n + c) % 4294967296)) ∧ (ms.set n ((at_ ms n + c) % 4294967296)).length = n + 1 ∧ val (ms.set n ((at_ ms n + c) % 4294967296)) = R := by
  obtain ⟨hl, hn, hd, hval⟩ := h
  have rm := at_range hl n
  refine ⟨Lim_set hl _ (by omega) (by omega), by simpa using hn, ?_⟩
  have hw : ∀ xs : List Int, xs.length = n + 1 → val xs = val (xs.take (n + 1)) := fun xs hx => by rw [List.take_of_length_le (by omega)]
  rw [hw _ (by simpa using hn), val_take_set_succ _ _ _ (by omega)]
  rw [hw m0 h0, val_take_succ m0 n (by omega), ← at_drop hd n (Nat.le_refl _), pw_succ] at hR
  rw [List.take_of_length_le (by omega : vs.length ≤ n)] at hval
  have hvlt := val_lt hv
  rw [hvl] at hvlt
  have htl := val_lt (Lim_take hl n)
  rw [List.length_take, Nat.min_eq_left (by omega)] at htl
  have hx : ((at_ ms n).toNat + c.toNat) * 4294967296 ^ n + val (ms.take n) = 4294967296 * 4294967296 ^ n + R := by
    rw [Nat.add_mul, Nat.mul_comm (at_ ms n).toNat, Nat.mul_comm c.toNat]
    omega
  obtain ⟨e1, e2⟩ := eq_of_parts hx htl (by omega)
  have e3 : ((at_ ms n + c) % 4294967296).toNat = 0 := by omega
  rw [e3, Nat.mul_zero, Nat.add_zero, e2]
end Go.Proofs.Ytnjbpkopekgihaa
