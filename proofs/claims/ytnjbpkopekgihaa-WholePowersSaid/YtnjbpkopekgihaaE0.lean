/- Walks: the reference's Norm, at, Cmp. -/
import Derived.Test.YtnjbpkopekgihaaA1
import Derived.Test.YtnjbpkopekgihaaA3
import Derived.Test.YtnjbpkopekgihaaA5
import Derived.Deep.CutBlock
import Derived.Deep.DeepCutAuto
namespace Go.Proofs.Ytnjbpkopekgihaa
open Go.RowKit Go.Proofs.YtnjbpkopekgihaaW.PrintWords
set_option linter.unusedVariables false
set_option linter.unusedSimpArgs false
theorem cop_step {cs xs : List Int} {k m : Nat} (hl : cs.length = m) (hk : k < m) (hx : m ≤ xs.length) (h : cs.take k = xs.take k) :
    (cs.set k (at_ xs k)).length = m ∧ (cs.set k (at_ xs k)).take (k + 1) = xs.take (k + 1) := by
  refine ⟨by simpa using hl, ?_⟩
  rw [take_set_succ cs k _ (by omega), take_snoc xs k (by omega), h]
theorem high_split (xs : List Int) (k : Nat) : val xs = val (xs.take k) + 4294967296 ^ k * val (xs.drop k) := by
  by_cases h : k ≤ xs.length
  · exact val_split xs k h
  · rw [List.take_of_length_le (by omega), List.drop_of_length_le (by omega), val_nil, Nat.mul_zero, Nat.add_zero]
theorem high_step (xs : List Int) (k : Nat) : val (xs.drop k) = (at_ xs k).toNat + 4294967296 * val (xs.drop (k + 1)) := by
  by_cases h : k < xs.length
  · rw [List.drop_eq_getElem_cons h, val_cons]
    have e1 : at_ xs k = xs[k] := by simp [at_, List.getD_eq_getElem?_getD, List.getElem?_eq_getElem h]
    rw [e1]
  · rw [List.drop_of_length_le (by omega), List.drop_of_length_le (by omega), at_over xs k (by omega), val_nil]; rfl
theorem low_lt {xs : List Int} (h : Lim xs) (k : Nat) : val (xs.take k) < 4294967296 ^ k := by
  have := val_lt (Lim_take h k)
  have h2 : (xs.take k).length ≤ k := by simp; omega
  exact Nat.lt_of_lt_of_le this (Nat.pow_le_pow_right (by omega) h2)
theorem high_eq {xs ys : List Int} (k : Nat) (h : val (xs.drop (k + 1)) = val (ys.drop (k + 1))) (he : at_ xs k = at_ ys k) : val (xs.drop k) = val (ys.drop k) := by
  rw [high_step xs k, high_step ys k, h, he]
theorem high_lt {xs ys : List Int} (hx : Lim xs) (hy : Lim ys) (k : Nat) (h : val (xs.drop (k + 1)) = val (ys.drop (k + 1))) (he : at_ xs k < at_ ys k) : val xs < val ys := by
  have r1 := at_range hx k
  have r2 := at_range hy k
  have h1 : val (xs.drop k) + 1 ≤ val (ys.drop k) := by rw [high_step xs k, high_step ys k, h]; omega
  have h2 := Nat.mul_le_mul_left (4294967296 ^ k) h1
  rw [Nat.mul_add, Nat.mul_one] at h2
  have s1 := high_split xs k
  have s2 := high_split ys k
  have l1 := low_lt hx k
  omega
set_option maxHeartbeats 2000000 in
set_option maxRecDepth 100000 in
theorem rnorm_any (v : Value) (xs : List Int) (w : World) (ha : Arg w v xs) (hb : xs.length ≤ 70368744177664) :
    Calls Try.prog 34 #[v] w fun e w' => ∃ u, e = .returned u ∧ Res w.heap.size w' u (val xs) ∧ Below w.heap.size w w' := by
  obtain ⟨⟨A, c, rfl, hc, hr⟩, hl⟩ := ha
  have HR := Aside0.mk hr
  have HL := Aside0.mk hl
  clear hr hl
  have hmk := print_make (P := Try.prog) 23 58 .u32 4 Try.underlying23 info58 (by omega)
  have HMK := Aside0.mk hmk
  clear hmk
  go_enter Try.func34, Try.ntmps34
  go_upto_block 0 with (fail)
  go_cut [3] (fun n wc => wc = w ∧ ∃ k : Nat, n = .int .i64 k ∧ k ≤ xs.length ∧ Aside0 (k = (lim (val xs)).length))
  case first =>
    go_wp2
    go_loop [3] (fun n => ∃ k : Nat, n = .int .i64 k ∧ k ≤ xs.length ∧ Aside0 (val (xs.take k) = val xs)) (fun n => (intOf n).toNat)
    case atStart => exact ⟨_, rfl, Nat.le_refl _, ⟨by rw [List.take_length]⟩⟩
    case round =>
      obtain ⟨k, rfl, hk, hv⟩ := hrel
      by_cases h0 : 0 < k
      · obtain ⟨ad, rfl, hcell⟩ := reads_nat HR.out (k - 1) (by omega)
        by_cases hz : at_ xs (k - 1) = 0
        · have hb : (at_ xs (k - 1) == 0) = true := beq_iff_eq.2 hz
          have hs := Aside0.mk (trim_step xs k h0 hk hz hv.out)
          clear hz
          go_wp2
          go_round
          case rel => exact ⟨k - 1, by go_num, by omega, hs⟩
          case measure => simp [intOf]; omega
        · have hb : (at_ xs (k - 1) == 0) = false := beq_eq_false_iff_ne.2 hz
          have hs := Aside0.mk (trim_end HL.out k hk (.inr hz) hv.out)
          clear hz
          go_wp2
          go_meet
          exact ⟨rfl, k, rfl, hk, hs⟩
      · have hs := Aside0.mk (trim_end HL.out k hk (.inl (by omega)) hv.out)
        go_wp2
        go_meet
        exact ⟨rfl, k, rfl, hk, hs⟩
  case rest =>
    obtain ⟨rfl, m, rfl, hm, hml⟩ := hcut
    have hmk := HMK.out m (by omega)
    go_wp2
    go_loopw [5] (fun i wr => ∃ (k : Nat) (cs : List Int), i = .int .i64 (k : Int) ∧ k ≤ m ∧ Aside0 (cs.length = m ∧ cs.take k = xs.take k) ∧ Aside0 (wr.ownsRow wc.heap.size 58 1 (.slice (some ⟨wc.heap.size, 0, none⟩) m m) m (nums .u32 cs)) ∧ Aside0 (Below wc.heap.size wc wr)) (fun i _ => m - (intOf i).toNat)
    case atStart => exact ⟨0, List.replicate m 0, rfl, Nat.zero_le _, ⟨by simp, rfl⟩, ⟨own_made wc _ 58 .u32 _ (Nat.le_refl _) (by omega)⟩, ⟨below_alloc (Below.refl _ _) _⟩⟩
    case round =>
      clear hmk
      obtain ⟨k, cs, rfl, hk, hinv, hown, hbel⟩ := hrel
      by_cases hlt : k < m
      · obtain ⟨ad, rfl, hcell⟩ := reads_nat (HR.out.below hbel.out) k (by omega)
        obtain ⟨hc1, hc2⟩ := own_cell hown.out k hlt
        have hst := Aside0.mk (cop_step hinv.out.1 hlt hm hinv.out.2)
        have hpt := Aside0.mk (own_put hown.out hbel.out k (at_ xs k))
        go_wp2
        go_roundw
        case rel => exact ⟨k + 1, _, by go_num, by omega, hst, ⟨hpt.out.1⟩, ⟨hpt.out.2⟩⟩
        case measure => simp [intOf]; omega
      · obtain rfl : k = m := by omega
        have he := Aside0.mk (show cs = lim (val xs) by
          have h1 := hinv.out.2
          rw [List.take_of_length_le (by rw [hinv.out.1]; exact Nat.le_refl _), hml.out] at h1
          rw [h1, ← lim_val_take HL.out])
        go_wp2
        go_ret
        exact ⟨_, rfl, ⟨by have h := hown.out; rw [he.out, hml.out] at h; rw [hml.out]; exact h⟩, hbel.out⟩
set_option maxHeartbeats 2000000 in
set_option maxRecDepth 100000 in
theorem at_any (v : Value) (xs : List Int) (k : Nat) (i : Int) (w : World) (ha : Arg w v xs) (hi : i = (k : Int)) :
    Calls Try.prog 71 #[v, .int .i64 i] w fun e w' => e = .returned (.int .u64 (at_ xs k)) ∧ w = w' := by
  obtain ⟨⟨A, c, rfl, hc, hr⟩, hl⟩ := ha
  subst hi
  by_cases hlt : k < xs.length
  · obtain ⟨ad, rfl, hcell⟩ := reads_nat hr k hlt
    obtain ⟨r0, r1⟩ := at_range hl k
    clear hr hl
    go_enter Try.func71, Try.ntmps71
    go_wp2
    go_ret
    exact ⟨rfl, rfl⟩
  · have h0 := Aside0.mk (at_over xs k (by omega))
    clear hr hl
    go_enter Try.func71, Try.ntmps71
    go_wp2
    go_ret
    exact ⟨by rw [h0.out]; rfl, rfl⟩
set_option maxHeartbeats 4000000 in
set_option maxRecDepth 100000 in
theorem rcmp_any (va vb : Value) (xs ys : List Int) (w : World) (ha : Arg w va xs) (hb : Arg w vb ys) :
    Calls Try.prog 52 #[va, vb] w fun e w' => e = .returned (.int .i64 (cmpN (val xs) (val ys))) ∧ w = w' := by
  have HA := Aside0.mk ha
  have HB := Aside0.mk hb
  obtain ⟨⟨A, ca, rfl, hca, hra⟩, hla⟩ := ha
  obtain ⟨⟨B, cb, rfl, hcb, hrb⟩, hlb⟩ := hb
  have HLA := Aside0.mk hla
  have HLB := Aside0.mk hlb
  have hna := hra.2.1
  have hnb := hrb.2.1
  clear hra hrb hla hlb
  go_enter Try.func52, Try.ntmps52
  go_upto_if 12 with (fail)
  go_cut [5] (fun N wc => wc = w ∧ ∃ n : Nat, N = .int .i64 (n : Int) ∧ xs.length ≤ n ∧ ys.length ≤ n ∧ n ≤ 9223372036854775807)
  case first =>
    go_wp2
    all_goals (go_meet; exact ⟨rfl, _, rfl, by omega, by omega, by omega⟩)
  case rest =>
    obtain ⟨rfl, n, rfl, hn1, hn2, hn3⟩ := hcut
    go_wp2
    go_loop [6] (fun i => ∃ k : Nat, i = .int .i64 ((k : Int) - 1) ∧ k ≤ n ∧ Aside0 (val (xs.drop k) = val (ys.drop k))) (fun i => (intOf i + 1).toNat)
    case atStart => exact ⟨n, rfl, Nat.le_refl _, ⟨by rw [List.drop_of_length_le (by omega), List.drop_of_length_le (by omega)]⟩⟩
    case round =>
      obtain ⟨k, rfl, hk, hd⟩ := hrel
      by_cases h0 : 0 < k
      · have hd2 : val (xs.drop (k - 1 + 1)) = val (ys.drop (k - 1 + 1)) := by rw [show k - 1 + 1 = k by omega]; exact hd.out
        have HD := Aside0.mk hd2
        clear hd2
        by_cases he : at_ xs (k - 1) < at_ ys (k - 1)
        · have hb3 : decide (at_ xs (k - 1) < at_ ys (k - 1)) = true := decide_eq_true he
          have hc := Aside0.mk (cmpN_lt (high_lt HLA.out HLB.out (k - 1) HD.out he))
          clear he
          go_wp2_with (first | (go_at_call_of 71 (Value.slice A xs.length ca); refine (at_any _ xs (k - 1) _ _ HA.out (by omega)).mono ?_; rintro e w' ⟨rfl, rfl⟩) | (go_at_call_of 71 (Value.slice B ys.length cb); refine (at_any _ ys (k - 1) _ _ HB.out (by omega)).mono ?_; rintro e w' ⟨rfl, rfl⟩))
          go_ret
          exact ⟨by rw [hc.out]; rfl, rfl⟩
        · have hb3 : decide (at_ xs (k - 1) < at_ ys (k - 1)) = false := decide_eq_false he
          by_cases he2 : at_ ys (k - 1) < at_ xs (k - 1)
          · have hb4 : decide (at_ ys (k - 1) < at_ xs (k - 1)) = true := decide_eq_true he2
            have hc := Aside0.mk (cmpN_gt (high_lt HLB.out HLA.out (k - 1) HD.out.symm he2))
            clear he he2
            go_wp2_with (first | (go_at_call_of 71 (Value.slice A xs.length ca); refine (at_any _ xs (k - 1) _ _ HA.out (by omega)).mono ?_; rintro e w' ⟨rfl, rfl⟩) | (go_at_call_of 71 (Value.slice B ys.length cb); refine (at_any _ ys (k - 1) _ _ HB.out (by omega)).mono ?_; rintro e w' ⟨rfl, rfl⟩))
            go_ret
            exact ⟨by rw [hc.out]; rfl, rfl⟩
          · have hb4 : decide (at_ ys (k - 1) < at_ xs (k - 1)) = false := decide_eq_false he2
            have hs := Aside0.mk (high_eq (k - 1) HD.out (by omega))
            clear he he2
            go_wp2_with (first | (go_at_call_of 71 (Value.slice A xs.length ca); refine (at_any _ xs (k - 1) _ _ HA.out (by omega)).mono ?_; rintro e w' ⟨rfl, rfl⟩) | (go_at_call_of 71 (Value.slice B ys.length cb); refine (at_any _ ys (k - 1) _ _ HB.out (by omega)).mono ?_; rintro e w' ⟨rfl, rfl⟩))
            go_round
            case rel => exact ⟨k - 1, by congr 1; omega, by omega, hs⟩
            case measure => simp [intOf]; omega
      · obtain rfl : k = 0 := by omega
        have hc := Aside0.mk (cmpN_eq (a := val xs) (b := val ys) (by have := hd.out; rwa [List.drop_zero, List.drop_zero] at this))
        go_wp2
        go_ret
        exact ⟨by rw [hc.out]; rfl, rfl⟩
end Go.Proofs.Ytnjbpkopekgihaa
