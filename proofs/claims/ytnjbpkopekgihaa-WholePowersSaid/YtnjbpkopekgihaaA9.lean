/- Plain: one digit of a long division, guessed by the two highest limbs (Knuth's D). -/
import Derived.Test.YtnjbpkopekgihaaA8
namespace Go.Proofs.Ytnjbpkopekgihaa
/-- what is divided, U, and the divisor, V, by their highest limbs: P is 2^32 to the (n - 2) -/
structure Kn (u0 u1 u2 v1 v2 P U V U' V' : Nat) : Prop where
  hU : U = u0 * P * 4294967296 * 4294967296 + u1 * P * 4294967296 + u2 * P + U'
  hV : V = v1 * P * 4294967296 + v2 * P + V'
  hu : U' < P
  hv : V' < P
  b0 : u0 < 4294967296
  b1 : u1 < 4294967296
  b2 : u2 < 4294967296
  c1 : v1 < 4294967296
  c2 : v2 < 4294967296
  hn : 2147483648 ≤ v1
  hq : U < 4294967296 * V
section
variable {u0 u1 u2 v1 v2 P U V U' V' : Nat} (k : Kn u0 u1 u2 v1 v2 P U V U' V')
include k
theorem Kn.bounds : u1 * P + P ≤ 4294967296 * P ∧ u2 * P + P ≤ 4294967296 * P ∧ v2 * P + P ≤ 4294967296 * P ∧ 2147483648 * P ≤ v1 * P := by
  have h1 := Nat.mul_le_mul_right P (show u1 + 1 ≤ 4294967296 from k.b1)
  have h2 := Nat.mul_le_mul_right P (show u2 + 1 ≤ 4294967296 from k.b2)
  have h3 := Nat.mul_le_mul_right P (show v2 + 1 ≤ 4294967296 from k.c2)
  have h4 := Nat.mul_le_mul_right P k.hn
  rw [Nat.add_mul, Nat.one_mul] at h1 h2 h3
  exact ⟨h1, h2, h3, h4⟩
theorem Kn.pos : 0 < V := by
  have := k.bounds
  have := k.hV
  have := k.hv
  omega
theorem Kn.u0_le : u0 ≤ v1 := by
  rcases Nat.lt_or_ge v1 u0 with h | h
  · have h1 := Nat.mul_le_mul_right P (show v1 + 1 ≤ u0 from h)
    rw [Nat.add_mul, Nat.one_mul] at h1
    have := k.bounds
    have := k.hU
    have := k.hV
    have := k.hv
    have := k.hq
    omega
  · exact h
theorem Kn.init : U / V ≤ (u0 * 4294967296 + u1) / v1 := by
  have hv1 : 0 < v1 := by have := k.hn; omega
  rw [Nat.le_div_iff_mul_le hv1]
  have hd : U / V * V ≤ U := Nat.div_mul_le_self U V
  generalize U / V = q at hd ⊢
  rcases Nat.lt_or_ge (u0 * 4294967296 + u1) (q * v1) with h | h
  · exfalso
    have h1 := Nat.mul_le_mul_right P (show u0 * 4294967296 + u1 + 1 ≤ q * v1 from h)
    rw [Nat.add_mul, Nat.add_mul, Nat.one_mul, Nat.mul_right_comm u0 4294967296 P] at h1
    have h2 : q * V = q * v1 * P * 4294967296 + q * (v2 * P + V') := by
      rw [k.hV, Nat.add_assoc, Nat.mul_add, Nat.mul_assoc q v1 P, Nat.mul_assoc q]
    have := k.bounds
    have := k.hU
    have := k.hu
    omega
  · exact h
theorem Kn.guess_le : (u0 * 4294967296 + u1) / v1 ≤ 4294967297 := by
  have hv1 : 0 < v1 := by have := k.hn; omega
  have h0 := k.u0_le
  have := k.b1
  have := k.hn
  have : (u0 * 4294967296 + u1) / v1 < 4294967298 := by
    rw [Nat.div_lt_iff_lt_mul hv1]
    omega
  omega
variable {g r : Nat} (hg : g * v1 + r = u0 * 4294967296 + u1)
include hg
omit k in
theorem Kn.times : g * v1 * P + r * P = u0 * P * 4294967296 + u1 * P := by
  have h := congrArg (· * P) hg
  simp only [Nat.add_mul] at h
  rw [h, Nat.mul_right_comm u0 4294967296 P]
omit hg in
theorem Kn.gV (g : Nat) : g * V = g * v1 * P * 4294967296 + g * v2 * P + g * V' := by
  rw [k.hV, Nat.mul_add, Nat.mul_add, Nat.mul_assoc g v1 P, Nat.mul_assoc g v2 P, Nat.mul_assoc g]
theorem Kn.dec (hc : 4294967296 ≤ g ∨ r * 4294967296 + u2 < g * v2) : U / V < g := by
  rw [Nat.div_lt_iff_lt_mul k.pos]
  rcases hc with hc | hc
  · have := Nat.mul_le_mul_right V hc
    have := k.hq
    omega
  · have ht := Kn.times (P := P) hg
    have hgv := k.gV g
    have h1 := Nat.mul_le_mul_right P (show r * 4294967296 + u2 + 1 ≤ g * v2 from hc)
    rw [Nat.add_mul, Nat.add_mul, Nat.one_mul, Nat.mul_right_comm r 4294967296 P] at h1
    have := k.hU
    have := k.hu
    omega
theorem Kn.stop (hb : g < 4294967296) (hc : g * v2 ≤ r * 4294967296 + u2) : g * V < U + V := by
  have ht := Kn.times (P := P) hg
  have hgv := k.gV g
  have h1 := Nat.mul_le_mul_right P hc
  rw [Nat.add_mul, Nat.mul_right_comm r 4294967296 P] at h1
  have h2 : g * V' ≤ 4294967296 * P := Nat.mul_le_mul (Nat.le_of_lt hb) (Nat.le_of_lt k.hv)
  have := k.bounds
  have := k.hU
  have := k.hV
  have hP : 0 < P := by have := k.hu; omega
  omega
theorem Kn.brk (hb : g < 4294967296) (hr : 4294967296 ≤ r) : g * V < U + V := by
  have ht := Kn.times (P := P) hg
  have hgv := k.gV g
  have h1 := Nat.mul_le_mul_right P hr
  have h2 : g * (v2 * P + V') ≤ g * (4294967296 * P) := Nat.mul_le_mul_left g (by have := k.bounds; have := k.hv; omega)
  have h3 := Nat.mul_le_mul_right P (show g + 1 ≤ 4294967296 from hb)
  rw [Nat.add_mul, Nat.one_mul] at h3
  rw [Nat.mul_add, ← Nat.mul_assoc g v2 P, Nat.mul_left_comm] at h2
  have := k.hU
  have hP : 0 < P := by have := k.hu; omega
  omega
theorem Kn.less (hr : r < 4294967296) (hd : 4294967296 ≤ r + v1) (hb : g ≤ 4294967297) : g ≤ 4294967296 := by
  rcases Nat.lt_or_ge 4294967296 g with h | h
  · obtain rfl : g = 4294967297 := by omega
    have := k.u0_le
    have := k.b1
    omega
  · exact h
end
theorem good_end {U V G M b B1 : Nat} (h1 : U / V ≤ G) (h2 : G * V < U + V) (hm : M + G * V = U + B1 * b) (hM : M < B1) (hV : V < B1) (hVp : 0 < V) (hb : b ≤ 1) :
    (b = 0 → G = U / V ∧ M = U % V) ∧ (b = 1 → G = U / V + 1 ∧ M + V = B1 + U % V) := by
  have hd := Nat.div_add_mod U V
  have hlt := Nat.mod_lt U hVp
  have hle : G ≤ U / V + 1 := by
    rcases Nat.lt_or_ge (U / V + 1) G with h | h
    · have h3 := Nat.mul_le_mul_right V (show U / V + 2 ≤ G from h)
      rw [Nat.add_mul, Nat.mul_comm (U / V) V] at h3
      omega
    · exact h
  have hG : G = U / V ∨ G = U / V + 1 := by omega
  constructor
  · intro h0
    subst h0
    rcases hG with rfl | rfl
    · refine ⟨rfl, ?_⟩
      rw [Nat.mul_comm (U / V) V] at hm
      omega
    · rw [Nat.add_mul, Nat.mul_comm (U / V) V, Nat.one_mul] at hm
      omega
  · intro h0
    subst h0
    rcases hG with rfl | rfl
    · rw [Nat.mul_comm (U / V) V] at hm
      omega
    · refine ⟨rfl, ?_⟩
      rw [Nat.add_mul, Nat.mul_comm (U / V) V, Nat.one_mul] at hm
      omega
end Go.Proofs.Ytnjbpkopekgihaa
