/- Walks: the reference's Pow of a whole number. -/
import Derived.Test.YtnjbpkopekgihaaC6
import Derived.Test.YtnjbpkopekgihaaE2
namespace Go.Proofs.Ytnjbpkopekgihaa
open Go.RowKit Go.Proofs.YtnjbpkopekgihaaW.PrintWords
set_option linter.unusedVariables false
set_option linter.unusedSimpArgs false
theorem Box.stored {w : World} {g : Nat} {x y : Value} (h : Box w g x y) (a b : Value) : Box ((w.setCell ⟨g, 0, none⟩ a).setCell ⟨g, 1, none⟩ b) g a b := by
  obtain ⟨g0, g1⟩ := two_stored a b h.c0 h.c1
  refine ⟨?_, g1, ?_, ?_, by simpa using h.lt⟩
  · rw [World.cell?_setCell_other _ _ _ _ (by simp)]; exact g0
  · simpa using h.f0
  · simpa using h.f1
theorem pow_len (a m : Nat) : (lim (a ^ m)).length ≤ m * (lim a).length + 1 := by
  refine lim_len_le ?_
  have h1 : a ^ m ≤ (4294967296 ^ (lim a).length) ^ m := Nat.pow_le_pow_left (Nat.le_of_lt (lim_len_lt a)) m
  rw [← Nat.pow_mul] at h1
  refine Nat.lt_of_le_of_lt h1 (Nat.pow_lt_pow_right (by omega) ?_)
  rw [Nat.mul_comm]; omega
theorem pow_len_int (z : Int) (m L : Nat) (hl : (lim z.natAbs).length ≤ L) : (lim (z ^ m).natAbs).length ≤ m * L + 1 := by
  rw [Int.natAbs_pow]
  have := pow_len z.natAbs m
  have h2 := Nat.mul_le_mul_left m hl
  omega
theorem pow_half (z : Int) (n m : Nat) (h : n = m + m) : z ^ m * z ^ m = z ^ n := by rw [h, Int.pow_add]
theorem pow_odd (z : Int) (n m : Nat) (h : n = m + m + 1) : z ^ m * z ^ m * z = z ^ n := by rw [h, Int.pow_succ, Int.pow_add]
set_option maxHeartbeats 4000000 in
set_option maxRecDepth 100000 in
theorem rpow_bad (x : Value) (z n : Int) (L : Nat) (w : World) (hx : IArg w x z L) (hn : n < 0 ∨ 4096 < n) (hn2 : -9223372036854775808 ≤ n) (hn3 : n ≤ 9223372036854775807) :
    Calls Try.prog 18 #[x, .int .i64 n] w fun e w' => e = .returned (.tuple #[.agg #[.bool false, .slice none 0 0], .int .i64 13]) ∧ Below w.heap.size w w' := by
  obtain ⟨n1, v1, xs, rfl, ha1, hz1, hl1⟩ := hx.form
  obtain ⟨W0, hW0, hb1, hb2, hB0, hsz0⟩ := boxes2 w n1 false v1 (.slice none 0 0)
  have HB0 := Aside0.mk hB0
  have HW := Aside0.mk hW0
  obtain ⟨c0, c1, f0, f1, _⟩ := hb2
  have HSZ := Aside0.mk hsz0
  clear hx ha1 hz1 hl1 hb1 hB0 hsz0 hW0
  go_enter Try.func18, Try.ntmps18
  go_wp2_with fail
  all_goals
    rw [← HW.out]
    refine bodyPost_ret (v := .tuple #[.agg #[.bool false, .slice none 0 0], .int .i64 13]) (by simp [results, Try.results18, go_sem, c0, c1]) rfl ?_
    exact ⟨rfl, HB0.out⟩
set_option maxHeartbeats 16000000 in
set_option maxRecDepth 100000 in
theorem rpow_any (z : Int) (L : Nat) : ∀ (n : Nat), n ≤ 4096 → L * n ≤ 536870912 → L ≤ 35184372088832 → ∀ (x : Value) (w : World), IArg w x z L →
    Calls Try.prog 18 #[x, .int .i64 (n : Int)] w fun e w' => ∃ y, e = .returned (.tuple #[y, .int .i64 0]) ∧ IRes w.heap.size w' y (z ^ n) ∧ Below w.heap.size w w' := by
  intro n
  induction n using Nat.strongRecOn with
  | _ n ih =>
  intro hn hLn hL x w hx
  have hzl := hx.len
  obtain ⟨n1, v1, xs, rfl, ha1, hz1, hl1⟩ := hx.form
  obtain ⟨W0, hW0, hb1, hb2, hB0, hsz0⟩ := boxes2 w n1 false v1 (.slice none 0 0)
  have HX := Aside0.mk (hx.below hB0)
  have HB0 := Aside0.mk hB0
  have HSZ := Aside0.mk hsz0
  have HW := Aside0.mk hW0
  have HBX := Aside0.mk hb1
  have HBR := Aside0.mk hb2
  have IH := Aside0.mk ih
  clear hx ha1 hz1 hl1 hb1 hb2 hB0 hsz0 hW0 ih
  by_cases h0 : n = 0
  · subst h0
    clear hzl
    rw [show z ^ 0 = ((1 : Nat) : Int) by simp]
    go_enter Try.func18, Try.ntmps18
    go_wp2_with fail
    rw [← HW.out]
    refine (rof_any 1 (by omega) _).mono ?_
    rintro e w1 ⟨y, rfl, hy, hb⟩
    have HR := Aside0.mk hy
    have HB := Aside0.mk hb
    obtain ⟨c0, c1, f0, f1, _⟩ := HBR.out.below hb
    obtain ⟨b, A, m, c, rfl⟩ := hy.shape
    clear hy hb
    go_wp2
    obtain ⟨g0, g1⟩ := two_stored (.bool b) (.slice A m c) c0 c1
    refine bodyPost_ret (v := .tuple #[.agg #[.bool b, .slice A m c], .int .i64 0]) (by simp [results, Try.results18, go_sem, g0, g1]) rfl ?_
    have h0 := HSZ.out
    exact ⟨_, rfl, (ires_other (ires_other HR.out (by simp; omega) _) (by simp; omega) _).weaken (by omega), ((below_then HB0.out (by omega) HB.out).setCell (by simp) _).setCell (by simp) _⟩
  · obtain ⟨m, hm⟩ : ∃ m, m = n / 2 := ⟨_, rfl⟩
    have hm' : (n : Int) / 2 = (m : Int) := by omega
    have hn0 : ((n : Int) == 0) = false := beq_eq_false_iff_ne.2 (by omega)
    have hmn : m < n := by omega
    have hLm : L * m ≤ L * n := Nat.mul_le_mul_left L (Nat.le_of_lt hmn)
    have hL2 : L ≤ 536870912 := by have := Nat.le_mul_of_pos_right L (show 0 < n by omega); omega
    have hmm : L * (m + m) ≤ L * n := Nat.mul_le_mul_left L (by omega)
    have HP1 := Aside0.mk (pow_len_int z m L hzl)
    have HP2 := Aside0.mk (pow_len_int z (m + m) L hzl)
    have HQ := Aside0.mk (show m * L + 1 + (m * L + 1) ≤ 70368744177664 by rw [Nat.mul_comm m L]; omega)
    have HQ2 := Aside0.mk (show (m + m) * L + 1 + L ≤ 70368744177664 by rw [Nat.mul_comm (m + m) L]; omega)
    have HMN := Aside0.mk hm
    clear hm hzl
    go_enter Try.func18, Try.ntmps18
    go_wp2_with fail
    rw [← HW.out]
    refine (IH.out m hmn (by omega) (by omega) (by omega) _ _ HX.out).mono ?_
    rintro e w1 ⟨y1, rfl, hy1, hb1⟩
    have HY1 := Aside0.mk hy1
    have HB1 := Aside0.mk hb1
    obtain ⟨k0, k1, _, _, _⟩ := HBX.out.below hb1
    obtain ⟨b1, A1, m1, c1, rfl⟩ := hy1.shape
    clear hy1 hb1 IH
    go_wp2_with fail
    obtain ⟨W1, hW1⟩ : ∃ W1, W1 = w1.alloc (.cells #[.bool b1, .slice A1 m1 c1] 35) := ⟨_, rfl⟩
    have hal := below_alloc (Below.refl w1.heap.size w1) (.cells #[.bool b1, .slice A1 m1 c1] 35)
    have hbh := Box.new w1 b1 (.slice A1 m1 c1)
    rw [← hW1] at hal hbh ⊢
    have hsz1 : W1.heap.size = w1.heap.size + 1 := by rw [hW1]; simp
    have hs1 := HB1.out.size
    have hs0 := HSZ.out
    clear hW1
    have hy := HY1.out.below hal
    refine (rmulint_any _ _ _ _ _ _ _ hy.arg hy.arg (by have := HP1.out; have := HQ.out; omega)).mono ?_
    rintro e w2 ⟨y2, rfl, hy2, hb2⟩
    rw [← Int.pow_add] at hy2
    have hs2 := hb2.size
    have HBH := Aside0.mk (hbh.below hb2)
    have HBE := Aside0.mk (below_then (below_then HB1.out hs1 hal) (by omega) hb2)
    have HY2 := Aside0.mk hy2
    obtain ⟨b2, A2, m2, c2, rfl⟩ := hy2.shape
    obtain ⟨d0, d1, e0, e1, _⟩ := hbh.below hb2
    clear hy hy2 hb2 hbh hal HY1 k0 k1
    go_upto_region 7 with fail
    obtain ⟨W2, hW2⟩ : ∃ W2, W2 = (w2.setCell ⟨w1.heap.size, 0, none⟩ (.bool b2)).setCell ⟨w1.heap.size, 1, none⟩ (.slice A2 m2 c2) := ⟨_, rfl⟩
    have hbe2 : Below W0.heap.size W0 W2 := by rw [hW2]; exact (HBE.out.setCell hs1 _).setCell hs1 _
    have hbh2 := HBH.out.stored (.bool b2) (.slice A2 m2 c2)
    have hy2 : IRes W1.heap.size W2 (.agg #[.bool b2, .slice A2 m2 c2]) (z ^ (m + m)) := by
      rw [hW2]; exact ires_other (ires_other HY2.out (by simp; omega) _) (by simp; omega) _
    rw [← hW2] at hbh2 ⊢
    clear hW2 d0 d1 e0 e1 HBH HBE HY2
    have HBE := Aside0.mk hbe2
    have HY2 := Aside0.mk hy2
    have HBH := Aside0.mk hbh2
    have HX2 := Aside0.mk (HX.out.below hbe2)
    have hsW := hbe2.size
    have hsB := hbh2.lt
    obtain ⟨d0, d1, e0, e1, _⟩ := hbh2
    obtain ⟨k0, k1, _, _, _⟩ := HBX.out.below hbe2
    obtain ⟨r0, r1, s0, s1, _⟩ := HBR.out.below hbe2
    clear hbe2 hy2
    by_cases hpar : n % 2 = 1
    · have hpr : ((n : Int) % 2 == 1) = true := beq_iff_eq.2 (by omega)
      have HPW := Aside0.mk (pow_odd z n m (by have := HMN.out; omega))
      clear hpar
      go_wp2_with fail
      refine (rmulint_any _ _ _ _ _ _ _ HY2.out.arg HX2.out (by have := HP2.out; have := HQ2.out; omega)).mono ?_
      rintro e w3 ⟨y3, rfl, hy3, hb3⟩
      rw [Int.pow_add, HPW.out] at hy3
      have hs3 := hb3.size
      obtain ⟨u0, u1, v0, v1', _⟩ := HBH.out.below hb3
      have HBX3 := Aside0.mk (HBH.out.below hb3)
      have HB3 := Aside0.mk (below_then HBE.out hsW hb3)
      have HRC := Aside0.mk (HBR.out.below HB3.out)
      obtain ⟨t0, t1, t2, t3, _⟩ := HBR.out.below HB3.out
      have HR := Aside0.mk hy3
      obtain ⟨b, A, mm, c, rfl⟩ := hy3.shape
      clear hy3 hb3 d0 d1 e0 e1 k0 k1 r0 r1 s0 s1
      go_upto_region 9 with fail
      obtain ⟨W3, hW3⟩ : ∃ W3, W3 = (w3.setCell ⟨w1.heap.size, 0, none⟩ (.bool b)).setCell ⟨w1.heap.size, 1, none⟩ (.slice A mm c) := ⟨_, rfl⟩
      have hb3 : Below W0.heap.size W0 W3 := by rw [hW3]; exact (HB3.out.setCell hs1 _).setCell hs1 _
      have hbh3 := HBX3.out.stored (.bool b) (.slice A mm c)
      have hr3 : IRes W2.heap.size W3 (.agg #[.bool b, .slice A mm c]) (z ^ n) := by
        rw [hW3]; exact ires_other (ires_other HR.out (by simp; omega) _) (by simp; omega) _
      rw [← hW3] at hbh3 ⊢
      clear hW3 u0 u1 v0 v1' t0 t1 t2 t3 HR HB3
      obtain ⟨u0, u1, _, _, _⟩ := hbh3
      obtain ⟨t0, t1, t2, t3, _⟩ := HBR.out.below hb3
      have HRC := Aside0.mk (HBR.out.below hb3)
      have HR := Aside0.mk hr3
      have HB3 := Aside0.mk hb3
      clear hr3 hb3
      go_wp2
      obtain ⟨g0, g1⟩ := two_stored (.bool b) (.slice A mm c) HRC.out.c0 HRC.out.c1
      refine bodyPost_ret (v := .tuple #[.agg #[.bool b, .slice A mm c], .int .i64 0]) (by simp [results, Try.results18, go_sem, g0, g1]) rfl ?_
      exact ⟨_, rfl, (ires_other (ires_other HR.out (by simp; omega) _) (by simp; omega) _).weaken (by omega), ((below_then HB0.out (by omega) HB3.out).setCell (by simp) _).setCell (by simp) _⟩
    · have hpr : ((n : Int) % 2 == 1) = false := beq_eq_false_iff_ne.2 (by omega)
      have HPW := Aside0.mk (show z ^ (m + m) = z ^ n by have := HMN.out; rw [show m + m = n by omega])
      have HRC := Aside0.mk (HBR.out.below HBE.out)
      clear hpar
      go_wp2
      obtain ⟨g0, g1⟩ := two_stored (.bool b2) (.slice A2 m2 c2) HRC.out.c0 HRC.out.c1
      refine bodyPost_ret (v := .tuple #[.agg #[.bool b2, .slice A2 m2 c2], .int .i64 0]) (by simp [results, Try.results18, go_sem, g0, g1]) rfl ?_
      exact ⟨_, rfl, (ires_other (ires_other (by have := HY2.out; rw [HPW.out] at this; exact this) (by simp; omega) _) (by simp; omega) _).weaken (by omega), ((below_then HB0.out (by omega) HBE.out).setCell (by simp) _).setCell (by simp) _⟩
end Go.Proofs.Ytnjbpkopekgihaa
