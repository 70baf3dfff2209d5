/- Walks: the law WholePowers. -/
import Derived.Test.YtnjbpkopekgihaaE3
import Derived.Test.YtnjbpkopekgihaaE5
namespace Go.Proofs.Ytnjbpkopekgihaa
open Go.RowKit Go.Proofs.YtnjbpkopekgihaaW.PrintWords
set_option linter.unusedVariables false
set_option linter.unusedSimpArgs false
theorem ires_zero (B : Nat) (w : World) : IRes B w (.agg #[.bool false, .slice none 0 0]) 0 := ⟨_, rfl, Res.nil B w⟩
/-- what a root's call answers: its code, and the number -/
def RootAns (z c v : Int) : Prop := (z < 0 ∧ c = 10 ∧ v = 0) ∨ (0 ≤ z ∧ c = 0 ∧ ∃ r : Nat, v = r ∧ IsRoot r z.natAbs)
theorem root_ans (z : Int) : ∃ c v, RootAns z c v := by
  by_cases h : z < 0
  · exact ⟨10, 0, .inl ⟨h, rfl, rfl⟩⟩
  · obtain ⟨r, hr⟩ := root_exists z.natAbs
    exact ⟨0, r, .inr ⟨by omega, rfl, r, rfl, hr⟩⟩
theorem wroot_all (x : Value) (z c v : Int) (L : Nat) (w : World) (hx : IArg w x z L) (hL : L + 2 ≤ 70368744177664) (h : RootAns z c v) :
    Calls Try.prog 13 #[x] w fun e w' => ∃ y, e = .returned (.tuple #[y, .int .i64 c]) ∧ IRes w.heap.size w' y v ∧ Below w.heap.size w w' := by
  rcases h with ⟨hz, rfl, rfl⟩ | ⟨hz, rfl, r, rfl, hr⟩
  · refine (wroot_neg x z L w hx hz).mono ?_
    rintro e w' ⟨rfl, hb⟩
    exact ⟨_, rfl, ires_zero _ _, hb⟩
  · refine (wroot_any x z L w hx hz hL).mono ?_
    rintro e w' ⟨y, r', rfl, hy, hr', hb⟩
    rw [root_unique hr' hr] at hy
    exact ⟨_, rfl, hy, hb⟩
theorem rroot_all (x : Value) (z c v : Int) (L : Nat) (w : World) (hx : IArg w x z L) (hL : 2 * (L + 2) ≤ 70368744177664) (h : RootAns z c v) :
    Calls Try.prog 14 #[x] w fun e w' => ∃ y, e = .returned (.tuple #[y, .int .i64 c]) ∧ IRes w.heap.size w' y v ∧ Below w.heap.size w w' := by
  rcases h with ⟨hz, rfl, rfl⟩ | ⟨hz, rfl, r, rfl, hr⟩
  · refine (rroot_neg x z L w hx hz (by omega)).mono ?_
    rintro e w' ⟨rfl, hb⟩
    exact ⟨_, rfl, ires_zero _ _, hb⟩
  · refine (rroot_any x z L w hx hz hL).mono ?_
    rintro e w' ⟨y, r', rfl, hy, hr', hb⟩
    rw [root_unique hr' hr] at hy
    exact ⟨_, rfl, hy, hb⟩
/-- what a power's call answers -/
def PowAns (z n c v : Int) : Prop := ((n < 0 ∨ 4096 < n) ∧ c = 13 ∧ v = 0) ∨ ∃ k : Nat, n = k ∧ k ≤ 4096 ∧ c = 0 ∧ v = z ^ k
theorem pow_ans (z n : Int) : ∃ c v, PowAns z n c v := by
  by_cases h : n < 0 ∨ 4096 < n
  · exact ⟨13, 0, .inl ⟨h, rfl, rfl⟩⟩
  · exact ⟨0, _, .inr ⟨n.toNat, by omega, by omega, rfl, rfl⟩⟩
/-- the sizes that a power may reach -/
def PowFits (L : Nat) (n : Int) : Prop := n ≤ 4096 → 0 < n → L * n.toNat ≤ 536870912
theorem pow_fits {L k : Nat} (h : PowFits L k) (hk : k ≤ 4096) : L * k ≤ 536870912 := by
  by_cases h0 : k = 0
  · rw [h0]; omega
  · have := h (by omega) (by omega)
    rwa [Int.toNat_natCast] at this
theorem wpow_all (x : Value) (z n c v : Int) (L : Nat) (w : World) (hx : IArg w x z L) (hL : L ≤ 35184372088832) (hf : PowFits L n) (hn2 : -9223372036854775808 ≤ n) (hn3 : n ≤ 9223372036854775807) (h : PowAns z n c v) :
    Calls Try.prog 17 #[x, .int .i64 n] w fun e w' => ∃ y, e = .returned (.tuple #[y, .int .i64 c]) ∧ IRes w.heap.size w' y v ∧ Below w.heap.size w w' := by
  rcases h with ⟨hn, rfl, rfl⟩ | ⟨k, rfl, hk, rfl, rfl⟩
  · refine (wpow_bad x z n L w hx hn hn2 hn3).mono ?_
    rintro e w' ⟨rfl, hb⟩
    exact ⟨_, rfl, ires_zero _ _, hb⟩
  · exact wpow_any x z k L w hx hk (pow_fits hf hk) (by omega)
theorem rpow_all (x : Value) (z n c v : Int) (L : Nat) (w : World) (hx : IArg w x z L) (hL : L ≤ 35184372088832) (hf : PowFits L n) (hn2 : -9223372036854775808 ≤ n) (hn3 : n ≤ 9223372036854775807) (h : PowAns z n c v) :
    Calls Try.prog 18 #[x, .int .i64 n] w fun e w' => ∃ y, e = .returned (.tuple #[y, .int .i64 c]) ∧ IRes w.heap.size w' y v ∧ Below w.heap.size w w' := by
  rcases h with ⟨hn, rfl, rfl⟩ | ⟨k, rfl, hk, rfl, rfl⟩
  · refine (rpow_bad x z n L w hx hn hn2 hn3).mono ?_
    rintro e w' ⟨rfl, hb⟩
    exact ⟨_, rfl, ires_zero _ _, hb⟩
  · exact rpow_any z L k hk (pow_fits hf hk) hL x w hx
set_option maxHeartbeats 16000000 in
set_option maxRecDepth 100000 in
theorem wpowers_any (x : Value) (z n : Int) (L : Nat) (w : World) (hx : IArg w x z L) (hL : L ≤ 35184372087808) (hn2 : -9223372036854775808 ≤ n) (hn3 : n ≤ 9223372036854775807) :
    Calls Try.prog 4 #[x, .int .i64 n] w fun e w' => e = .returned (.bool true) ∧ Below w.heap.size w w' := by
  obtain ⟨cr, vr, hra⟩ := root_ans z
  obtain ⟨cp, vp, hpa⟩ := pow_ans z n
  have HRA := Aside0.mk hra
  have HPA := Aside0.mk hpa
  have hcr : (cr != cr) = false := bne_self_eq_false cr
  have hcp : (cp == cp) = true := beq_self_eq_true cp
  obtain ⟨n1, v1, xs, rfl, ha1, hz1, hl1⟩ := hx.form
  have hxs : IArg w (.agg #[.bool n1, v1]) z xs.length := ⟨⟨n1, v1, xs, rfl, ha1, hz1, Nat.le_refl _⟩⟩
  have hxl : xs.length ≤ 35184372087808 := by omega
  obtain ⟨⟨A, c, rfl, hc, hr⟩, hl⟩ := ha1
  obtain ⟨W0, hW0⟩ : ∃ W0, W0 = w.alloc (.cells #[.bool n1, .slice A xs.length c] 35) := ⟨_, rfl⟩
  have hb1 := Box.new w n1 (.slice A xs.length c)
  have hB0 := below_alloc (Below.refl w.heap.size w) (.cells #[.bool n1, .slice A xs.length c] 35)
  rw [← hW0] at hb1 hB0
  have HX := Aside0.mk (hxs.below hB0)
  have HB0 := Aside0.mk hB0
  have HBX := Aside0.mk hb1
  have HW := Aside0.mk hW0
  have hs0 := hB0.size
  have hsz0 : W0.heap.size = w.heap.size + 1 := by rw [hW0]; simp
  clear hx hxs hra hpa hz1 hl1 hc hr hl hW0 hb1 hB0
  go_enter Try.func4, Try.ntmps4
  go_wp2_with fail
  rw [← HW.out]
  refine (wroot_all _ _ _ _ _ _ HX.out (by omega) HRA.out).mono ?_
  rintro e w1 ⟨y1, rfl, hy1, hb1⟩
  have hs1 := hb1.size
  obtain ⟨b1, A1, m1, c1, rfl⟩ := hy1.shape
  obtain ⟨k0, k1, _, _, _⟩ := HBX.out.below hb1
  have HX1 := Aside0.mk (HX.out.below hb1)
  have HBX1 := Aside0.mk (HBX.out.below hb1)
  have HY1 := Aside0.mk hy1
  have HB1 := Aside0.mk (below_then HB0.out hs0 hb1)
  clear hy1 hb1
  go_wp2_with fail
  obtain ⟨W1, hW1⟩ : ∃ W1, W1 = w1.alloc (.cells #[.bool b1, .slice A1 m1 c1] 35) := ⟨_, rfl⟩
  have hal := below_alloc (Below.refl w1.heap.size w1) (.cells #[.bool b1, .slice A1 m1 c1] 35)
  have hbr := Box.new w1 b1 (.slice A1 m1 c1)
  rw [← hW1] at hal hbr ⊢
  have hsW1 : W1.heap.size = w1.heap.size + 1 := by rw [hW1]; simp
  clear hW1 k0 k1
  refine (rroot_all _ _ _ _ _ _ (HX1.out.below hal) (by omega) HRA.out).mono ?_
  rintro e w2 ⟨y2, rfl, hy2, hb2⟩
  have hs2 := hb2.size
  obtain ⟨b2, A2, m2, c2, rfl⟩ := hy2.shape
  have hb12 := below_then hal (by omega) hb2
  obtain ⟨k0, k1, _, _, _⟩ := HBX1.out.below hb12
  obtain ⟨k2, k3, _, _, _⟩ := hbr.below hb2
  have HX2 := Aside0.mk (HX1.out.below hb12)
  have HBX2 := Aside0.mk (HBX1.out.below hb12)
  have HY12 := Aside0.mk (HY1.out.below hb12)
  have HY2 := Aside0.mk hy2
  have HB2 := Aside0.mk (below_then HB1.out (by omega) hb12)
  clear hy2 hb2 hb12 hal hbr HX1 HBX1 HY1 HX HBX HW
  go_wp2_with fail
  obtain ⟨W2, hW2⟩ : ∃ W2, W2 = w2.alloc (.cells #[.bool b2, .slice A2 m2 c2] 35) := ⟨_, rfl⟩
  have hal := below_alloc (Below.refl w2.heap.size w2) (.cells #[.bool b2, .slice A2 m2 c2] 35)
  rw [← hW2] at hal ⊢
  have hsW2 : W2.heap.size = w2.heap.size + 1 := by rw [hW2]; simp
  clear hW2 k0 k1 k2 k3
  refine (same_any _ _ _ _ _ _ (HY12.out.below hal) (HY2.out.below hal)).mono ?_
  rintro e w3 ⟨rfl, hb3⟩
  have hb23 := below_then hal (by omega) hb3
  have HX3 := Aside0.mk (HX2.out.below hb23)
  have HBX3 := Aside0.mk (HBX2.out.below hb23)
  have HB3 := Aside0.mk (below_then HB2.out (by omega) hb23)
  have hs3 := HB3.out.size
  obtain ⟨k0, k1, _, _, _⟩ := HBX2.out.below hb23
  clear hb23 hb3 hal HX2 HBX2 HY12 HY2
  by_cases hn : n ≤ 4096
  · have hd : decide (n ≤ 4096) = true := decide_eq_true hn
    go_wp2_with fail
    refine (great_any xs.length n _ (by omega) hn2 hn).mono ?_
    rintro e w' ⟨g, rfl, hg, rfl⟩
    cases g
    · have HPF := Aside0.mk (show PowFits xs.length n from fun _ h => hg rfl h)
      clear hg
      go_wp2_with fail
      refine (wpow_all _ _ _ _ _ _ _ HX3.out (by omega) HPF.out hn2 hn3 HPA.out).mono ?_
      rintro e w4 ⟨y4, rfl, hy4, hb4⟩
      have hs4 := hb4.size
      obtain ⟨b4, A4, m4, c4, rfl⟩ := hy4.shape
      clear k0 k1
      obtain ⟨k0, k1, _, _, _⟩ := HBX3.out.below hb4
      have HX4 := Aside0.mk (HX3.out.below hb4)
      have HY4 := Aside0.mk hy4
      have HB4 := Aside0.mk (below_then HB3.out hs3 hb4)
      have hs4' := HB4.out.size
      clear hy4 hb4
      go_wp2_with fail
      obtain ⟨W4, hW4⟩ : ∃ W4, W4 = w4.alloc (.cells #[.bool b4, .slice A4 m4 c4] 35) := ⟨_, rfl⟩
      have hal := below_alloc (Below.refl w4.heap.size w4) (.cells #[.bool b4, .slice A4 m4 c4] 35)
      have hbr := Box.new w4 b4 (.slice A4 m4 c4)
      rw [← hW4] at hal hbr ⊢
      have hsW4 : W4.heap.size = w4.heap.size + 1 := by rw [hW4]; simp
      clear hW4 k0 k1
      refine (rpow_all _ _ _ _ _ _ _ (HX4.out.below hal) (by omega) HPF.out hn2 hn3 HPA.out).mono ?_
      rintro e w5 ⟨y5, rfl, hy5, hb5⟩
      have hs5 := hb5.size
      obtain ⟨b5, A5, m5, c5, rfl⟩ := hy5.shape
      have hb45 := below_then hal (by omega) hb5
      obtain ⟨k2, k3, _, _, _⟩ := hbr.below hb5
      have HY45 := Aside0.mk (HY4.out.below hb45)
      have HY5 := Aside0.mk hy5
      have HB5 := Aside0.mk (below_then HB4.out hs4' hb45)
      have hs5' := HB5.out.size
      clear hy5 hb5 hb45 hal hbr
      go_wp2_with fail
      have hal := below_alloc (Below.refl w5.heap.size w5) (.cells #[.bool b5, .slice A5 m5 c5] 35)
      refine (same_any _ _ _ _ _ _ (HY45.out.below hal) (HY5.out.below hal)).mono ?_
      rintro e w6 ⟨rfl, hb6⟩
      have HB6 := Aside0.mk (below_then HB5.out hs5' (below_then hal (by simp) hb6))
      clear hb6 hal
      go_wp2
      go_ret
      exact ⟨rfl, HB6.out⟩
    · clear hg
      go_wp2
      go_ret
      exact ⟨rfl, HB3.out⟩
  · have hd : decide (n ≤ 4096) = false := decide_eq_false hn
    have HPF := Aside0.mk (show PowFits xs.length n from fun h => absurd h hn)
    go_wp2_with fail
    refine (wpow_all _ _ _ _ _ _ _ HX3.out (by omega) HPF.out hn2 hn3 HPA.out).mono ?_
    rintro e w4 ⟨y4, rfl, hy4, hb4⟩
    have hs4 := hb4.size
    obtain ⟨b4, A4, m4, c4, rfl⟩ := hy4.shape
    clear k0 k1
    obtain ⟨k0, k1, _, _, _⟩ := HBX3.out.below hb4
    have HX4 := Aside0.mk (HX3.out.below hb4)
    have HY4 := Aside0.mk hy4
    have HB4 := Aside0.mk (below_then HB3.out hs3 hb4)
    have hs4' := HB4.out.size
    clear hy4 hb4
    go_wp2_with fail
    obtain ⟨W4, hW4⟩ : ∃ W4, W4 = w4.alloc (.cells #[.bool b4, .slice A4 m4 c4] 35) := ⟨_, rfl⟩
    have hal := below_alloc (Below.refl w4.heap.size w4) (.cells #[.bool b4, .slice A4 m4 c4] 35)
    have hbr := Box.new w4 b4 (.slice A4 m4 c4)
    rw [← hW4] at hal hbr ⊢
    have hsW4 : W4.heap.size = w4.heap.size + 1 := by rw [hW4]; simp
    clear hW4 k0 k1
    refine (rpow_all _ _ _ _ _ _ _ (HX4.out.below hal) (by omega) HPF.out hn2 hn3 HPA.out).mono ?_
    rintro e w5 ⟨y5, rfl, hy5, hb5⟩
    have hs5 := hb5.size
    obtain ⟨b5, A5, m5, c5, rfl⟩ := hy5.shape
    have hb45 := below_then hal (by omega) hb5
    obtain ⟨k2, k3, _, _, _⟩ := hbr.below hb5
    have HY45 := Aside0.mk (HY4.out.below hb45)
    have HY5 := Aside0.mk hy5
    have HB5 := Aside0.mk (below_then HB4.out hs4' hb45)
    have hs5' := HB5.out.size
    clear hy5 hb5 hb45 hal hbr
    go_wp2_with fail
    have hal := below_alloc (Below.refl w5.heap.size w5) (.cells #[.bool b5, .slice A5 m5 c5] 35)
    refine (same_any _ _ _ _ _ _ (HY45.out.below hal) (HY5.out.below hal)).mono ?_
    rintro e w6 ⟨rfl, hb6⟩
    have HB6 := Aside0.mk (below_then HB5.out hs5' (below_then hal (by simp) hb6))
    clear hb6 hal
    go_wp2
    go_ret
    exact ⟨rfl, HB6.out⟩
end Go.Proofs.Ytnjbpkopekgihaa
