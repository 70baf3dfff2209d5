/- Plain: the guess of a digit, in the walk's own numbers. -/
import Derived.Test.YtnjbpkopekgihaaA10
namespace Go.Proofs.Ytnjbpkopekgihaa
theorem mk_kn {m0 vs : List Int} {n : Nat} (hm : Lim m0) (hv : Lim vs) (h0 : m0.length = n + 1) (hvl : vs.length = n) (hn : 2 ≤ n) (htop : 2147483648 ≤ at_ vs (n - 1)) (hq : val m0 < 4294967296 * val vs) :
    Kn (at_ m0 n).toNat (at_ m0 (n - 1)).toNat (at_ m0 (n - 2)).toNat (at_ vs (n - 1)).toNat (at_ vs (n - 2)).toNat (4294967296 ^ (n - 2)) (val m0) (val vs) (val (m0.take (n - 2))) (val (vs.take (n - 2))) := by
  obtain ⟨p, rfl⟩ : ∃ p, n = p + 2 := ⟨n - 2, by omega⟩
  rw [show p + 2 - 1 = p + 1 by omega, show p + 2 - 2 = p by omega] at *
  have r0 := at_range hm (p + 2)
  have r1 := at_range hm (p + 1)
  have r2 := at_range hm p
  have s1 := at_range hv (p + 1)
  have s2 := at_range hv p
  have l1 := val_lt (Lim_take hm p)
  have l2 := val_lt (Lim_take hv p)
  rw [List.length_take, Nat.min_eq_left (by omega)] at l1 l2
  refine ⟨?_, ?_, l1, l2, by omega, by omega, by omega, by omega, by omega, by omega, hq⟩
  · have e0 := val_take_succ m0 p (by omega)
    have e1 := val_take_succ m0 (p + 1) (by omega)
    have e2 := val_take_succ m0 (p + 2) (by omega)
    rw [List.take_of_length_le (by omega)] at e2
    rw [e2, e1, e0, show 4294967296 ^ (p + 2) = 4294967296 * (4294967296 * 4294967296 ^ p) from by rw [pw_succ, pw_succ], pw_succ]
    clear hq htop l1 l2 e0 e1 r0 r1 r2 s1 s2 h0 hvl hn
    try clear e2
    generalize 4294967296 ^ p = P
    grind
  · have e0 := val_take_succ vs p (by omega)
    have e1 := val_take_succ vs (p + 1) (by omega)
    rw [List.take_of_length_le (by omega)] at e1
    rw [e1, e0, pw_succ]
    clear hq htop l1 l2 e0 e1 r0 r1 r2 s1 s2 h0 hvl hn
    try clear e2
    generalize 4294967296 ^ p = P
    grind
structure GInv (m0 vs : List Int) (n : Nat) (G R : Int) : Prop where
  g0 : 0 ≤ G
  r0 : 0 ≤ R
  g1 : G ≤ 4294967297
  eq : G.toNat * (at_ vs (n - 1)).toNat + R.toNat = (at_ m0 n).toNat * 4294967296 + (at_ m0 (n - 1)).toNat
  ge : val m0 / val vs ≤ G.toNat
structure Good (m0 vs : List Int) (G : Int) : Prop where
  g0 : 0 ≤ G
  g1 : G < 4294967296
  ge : val m0 / val vs ≤ G.toNat
  lt : G.toNat * val vs < val m0 + val vs
section
variable {m0 vs : List Int} {n : Nat} (hm : Lim m0) (hv : Lim vs) (k : Kn (at_ m0 n).toNat (at_ m0 (n - 1)).toNat (at_ m0 (n - 2)).toNat (at_ vs (n - 1)).toNat (at_ vs (n - 2)).toNat (4294967296 ^ (n - 2)) (val m0) (val vs) (val (m0.take (n - 2))) (val (vs.take (n - 2))))
include hm hv k
theorem g_start : GInv m0 vs n ((at_ m0 n * 4294967296 + at_ m0 (n - 1)) / at_ vs (n - 1)) ((at_ m0 n * 4294967296 + at_ m0 (n - 1)) % at_ vs (n - 1)) ∧
    (at_ m0 n * 4294967296 + at_ m0 (n - 1)) % at_ vs (n - 1) < 4294967296 := by
  have r0 := at_range hm n
  have r1 := at_range hm (n - 1)
  have s1 := at_range hv (n - 1)
  have hn := k.hn
  have c1 := k.c1
  have e : at_ m0 n * 4294967296 + at_ m0 (n - 1) = (((at_ m0 n).toNat * 4294967296 + (at_ m0 (n - 1)).toNat : Nat) : Int) := by omega
  have e2 : at_ vs (n - 1) = ((at_ vs (n - 1)).toNat : Int) := by omega
  have hi := k.init
  have hg := k.guess_le
  rw [e, e2, ← Int.natCast_ediv, ← Int.natCast_emod]
  have hmod := Nat.mod_lt ((at_ m0 n).toNat * 4294967296 + (at_ m0 (n - 1)).toNat) (show 0 < (at_ vs (n - 1)).toNat by omega)
  refine ⟨⟨Int.natCast_nonneg _, Int.natCast_nonneg _, by omega, ?_, ?_⟩, by omega⟩
  · rw [Int.toNat_natCast, Int.toNat_natCast, Nat.mul_comm]; exact Nat.div_add_mod _ _
  · rw [Int.toNat_natCast]; exact hi
omit k in
theorem g_cond {G R : Int} (h : GInv m0 vs n G R) (hc : 4294967296 ≤ G ∨ R * 4294967296 + at_ m0 (n - 2) < G * at_ vs (n - 2)) :
    4294967296 ≤ G.toNat ∨ R.toNat * 4294967296 + (at_ m0 (n - 2)).toNat < G.toNat * (at_ vs (n - 2)).toNat := by
  have r2 := at_range hm (n - 2)
  have s2 := at_range hv (n - 2)
  have := h.g0
  have := h.r0
  rcases hc with hc | hc
  · left; omega
  · right; rw [← Int.toNat_mul h.g0 s2.1]; omega
theorem g_dec {G R : Int} (h : GInv m0 vs n G R) (hc : 4294967296 ≤ G ∨ R * 4294967296 + at_ m0 (n - 2) < G * at_ vs (n - 2)) :
    GInv m0 vs n (G - 1) (R + at_ vs (n - 1)) ∧ 1 ≤ G := by
  have s1 := at_range hv (n - 1)
  have hd := k.dec h.eq (g_cond hm hv h hc)
  have hg0 := h.g0
  have hr0 := h.r0
  have heq := h.eq
  have hg1 := h.g1
  have hq : 1 ≤ G.toNat ∧ val m0 / val vs ≤ (G - 1).toNat := by
    generalize val m0 / val vs = q at hd
    omega
  refine ⟨⟨by omega, by omega, by omega, ?_, hq.2⟩, by omega⟩
  rw [← heq, show G.toNat = (G - 1).toNat + 1 by omega, Nat.add_mul]
  omega
theorem g_stop {G R : Int} (h : GInv m0 vs n G R) (hG : G < 4294967296) (hc : G * at_ vs (n - 2) ≤ R * 4294967296 + at_ m0 (n - 2)) : Good m0 vs G := by
  have r2 := at_range hm (n - 2)
  have s2 := at_range hv (n - 2)
  have hg0 := h.g0
  have hr0 := h.r0
  have hc' : G.toNat * (at_ vs (n - 2)).toNat ≤ R.toNat * 4294967296 + (at_ m0 (n - 2)).toNat := by rw [← Int.toNat_mul h.g0 s2.1]; omega
  exact ⟨h.g0, hG, h.ge, k.stop h.eq (by omega) hc'⟩
theorem g_brk {G R : Int} (h : GInv m0 vs n G R) (hR : R < 4294967296) (hc : 4294967296 ≤ G ∨ R * 4294967296 + at_ m0 (n - 2) < G * at_ vs (n - 2)) (hb : 4294967296 ≤ R + at_ vs (n - 1)) : Good m0 vs (G - 1) := by
  have s1 := at_range hv (n - 1)
  have hd := g_dec hm hv k h hc
  have hg0 := h.g0
  have hr0 := h.r0
  have hg1 := h.g1
  have hl := k.less h.eq (by omega) (by omega) (by omega)
  exact ⟨hd.1.g0, by omega, hd.1.ge, k.brk hd.1.eq (by omega) (by omega)⟩
end
end Go.Proofs.Ytnjbpkopekgihaa
