/- Walks: nat.Bits. -/
import Derived.Test.YtnjbpkopekgihaaA14
import Derived.Test.YtnjbpkopekgihaaS0
import Derived.Test.YtnjbpkopekgihaaB0
namespace Go.Proofs.Ytnjbpkopekgihaa
open Go.RowKit Go.Proofs.YtnjbpkopekgihaaW.PrintWords
set_option linter.unusedVariables false
set_option linter.unusedSimpArgs false
/-- how many binary digits -/
def bitsN (n : Nat) : Nat := if n = 0 then 0 else 32 * ((lim n).length - 1) + Lib.bitLen (at_ (lim n) ((lim n).length - 1)).toNat
theorem bitsN_bd {n : Nat} (h : n ≠ 0) : 1 ≤ bitsN n ∧ 2 ^ (bitsN n - 1) ≤ n ∧ n < 2 ^ bitsN n ∧ bitsN n ≤ 32 * (lim n).length := by
  unfold bitsN
  rw [if_neg h]
  have hp := lim_len_pos h
  have ht := nrm_top (Lim_lim n) (Nrm_lim n) hp
  have hr := at_range (Lim_lim n) ((lim n).length - 1)
  obtain ⟨h1, h2, h3, h4⟩ := bitLen_bd _ (by omega) ht
  have hs := val_split (lim n) ((lim n).length - 1) (by omega)
  have hd : val ((lim n).drop ((lim n).length - 1)) = (at_ (lim n) ((lim n).length - 1)).toNat := by
    rw [val_drop _ _ (by omega), show (lim n).length - 1 + 1 = (lim n).length by omega, List.drop_length, val_nil]; omega
  have hl := val_lt (Lim_take (Lim_lim n) ((lim n).length - 1))
  rw [List.length_take, Nat.min_eq_left (by omega)] at hl
  rw [hd, val_lim] at hs
  have hk : (lim n).length - 1 + 1 = (lim n).length := by omega
  generalize (at_ (lim n) ((lim n).length - 1)).toNat = x at *
  generalize Lib.bitLen x = l at *
  generalize (lim n).length - 1 = k at *
  have hB : (4294967296 : Nat) ^ k = 2 ^ (32 * k) := by rw [Nat.pow_mul]
  rw [hB] at hs hl
  refine ⟨by omega, ?_, ?_, by omega⟩
  · rw [show 32 * k + l - 1 = 32 * k + (l - 1) by omega, Nat.pow_add]
    have := Nat.mul_le_mul_left (2 ^ (32 * k)) h3
    omega
  · rw [Nat.pow_add]
    have := Nat.mul_le_mul_left (2 ^ (32 * k)) (show x + 1 ≤ 2 ^ l from h4)
    rw [Nat.mul_add, Nat.mul_one] at this
    omega
theorem len32_any (x : Int) (w : World) (h0 : 0 ≤ x) (h1 : x < 4294967296) : Calls Try.prog 101 #[.int .u32 x] w fun e w' => e = .returned (.int .i64 (Lib.bitLen x.toNat)) ∧ w = w' :=
  (Try.bits_Len32 x w h0 (by omega)).mono fun e w' h => ⟨h.1, h.2.symm⟩
set_option maxHeartbeats 4000000 in
set_option maxRecDepth 100000 in
theorem bits_pos (va : Value) (ps : List Int) (w : World) (ha : Arg w va ps) (h0 : val ps ≠ 0) (hs : ps.length ≤ 70368744177664) :
    Calls Try.prog 81 #[va] w fun e w' => e = .returned (.int .i64 (bitsN (val ps))) ∧ w = w' := by
  obtain ⟨xs, hxs⟩ : ∃ xs, xs = lim (val ps) := ⟨_, rfl⟩
  have hp := lim_len_pos h0
  have hll := lim_val_len ha.lims
  have hbd := bitLen_bd (at_ (lim (val ps)) ((lim (val ps)).length - 1)).toNat (by have := at_range (Lim_lim (val ps)) ((lim (val ps)).length - 1); omega) (nrm_top (Lim_lim _) (Nrm_lim _) hp)
  have hbn : (bitsN (val ps) : Int) = 32 * ((xs.length : Int) - 1) + (Lib.bitLen (at_ xs (xs.length - 1)).toNat : Int) := by
    unfold bitsN; rw [if_neg h0, hxs]; omega
  rw [← hxs] at hp hll hbd
  have hr := at_range (show Lim xs by rw [hxs]; exact Lim_lim _) (xs.length - 1)
  obtain ⟨r0, r1⟩ := hr
  have hb0 : ((xs.length : Int) == 0) = false := beq_eq_false_iff_ne.2 (by omega)
  obtain ⟨l, hl⟩ : ∃ l, l = Lib.bitLen (at_ xs (xs.length - 1)).toNat := ⟨_, rfl⟩
  rw [← hl] at hbd hbn
  obtain ⟨l1, l2, _, _⟩ := hbd
  have HL := Aside0.mk hl
  have HA := Aside0.mk ha
  have HXS := Aside0.mk hxs
  have HBN := Aside0.mk hbn
  clear ha h0 hxs hbn hl
  go_enter Try.func81, Try.ntmps81
  go_wp2_with fail
  refine (trim_any _ _ _ HA.out).mono ?_
  rintro e w' ⟨u, rfl, hu, rfl⟩
  rw [← HXS.out] at hu
  obtain ⟨⟨A, c, rfl, hca, hra⟩, hl⟩ := hu
  obtain ⟨ad, rfl, hcell⟩ := reads_nat hra (xs.length - 1) (by omega)
  clear hra hl hca
  go_wp2_with fail
  refine (len32_any _ _ r0 r1).mono ?_
  rintro e w' ⟨rfl, rfl⟩
  rw [← HL.out]
  go_wp2
  go_ret
  exact ⟨by rw [HBN.out]; rfl, rfl⟩
end Go.Proofs.Ytnjbpkopekgihaa
