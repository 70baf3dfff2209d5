/- Walks: nat.Cmp. -/
import Derived.Test.YtnjbpkopekgihaaA2
import Derived.Test.YtnjbpkopekgihaaA3
import Derived.Test.YtnjbpkopekgihaaB0
import Derived.Deep.QuietTactic
import Derived.BigQuiet
namespace Go.Proofs.Ytnjbpkopekgihaa
open Go.RowKit Go.Proofs.YtnjbpkopekgihaaW.PrintWords
set_option linter.unusedVariables false
set_option linter.unusedSimpArgs false
set_option maxHeartbeats 2000000 in
set_option maxRecDepth 100000 in
theorem cmp_any (va vb : Value) (xs ys : List Int) (w : World) (ha : Arg w va xs) (hb : Arg w vb ys) :
    Calls Try.prog 59 #[va, vb] w fun e w' => e = .returned (.int .i64 (cmpN (val xs) (val ys))) ∧ Drawn0 w w' := by
  have HA := Aside0.mk ha
  have HB := Aside0.mk hb
  clear ha hb
  have main : ∀ m n : Nat, m = val xs → n = val ys → Calls Try.prog 59 #[va, vb] w fun e w' => e = .returned (.int .i64 (cmpN m n)) ∧ Drawn0 w w' := by
    intro m n hm hn
    have HM := Aside0.mk hm
    have HN := Aside0.mk hn
    clear hm hn
    rcases Nat.lt_trichotomy (lim m).length (lim n).length with hlt | heq | hgt
    · have hc := Aside0.mk (cmpN_lt (cmp_len_lt hlt))
      have hb1 : (((lim m).length : Int) != ((lim n).length : Int)) = true := bne_iff_ne.2 (by omega)
      have hb2 : decide ((lim m).length < (lim n).length) = true := decide_eq_true hlt
      clear hlt
      go_enter Try.func59, Try.ntmps59
      go_wp2_with fail
      refine (trim_any _ _ _ HA.out).mono ?_
      rintro e w' ⟨u, rfl, hu, rfl⟩
      rw [← HM.out] at hu
      obtain ⟨⟨A, c, rfl, hc1, hr⟩, hl⟩ := hu
      clear hr hl hc1
      go_wp2_with fail
      refine (trim_any _ _ _ HB.out).mono ?_
      rintro e w' ⟨u, rfl, hu, rfl⟩
      rw [← HN.out] at hu
      obtain ⟨⟨A2, c2, rfl, hc2, hr⟩, hl⟩ := hu
      clear hr hl hc2
      go_wp2
      go_ret
      exact ⟨by rw [hc.out]; rfl, Drawn0.refl _⟩
    · have hb1 : (((lim m).length : Int) != ((lim n).length : Int)) = false := bne_eq_false_iff_eq.2 (by omega)
      have hq := Aside0.mk heq
      have hle1 : (lim m).length ≤ (lim n).length := by omega
      have hle2 : (lim n).length ≤ (lim m).length := by omega
      clear heq
      go_enter Try.func59, Try.ntmps59
      go_wp2_with fail
      refine (trim_any _ _ _ HA.out).mono ?_
      rintro e w' ⟨u, rfl, hu, rfl⟩
      rw [← HM.out] at hu
      obtain ⟨⟨A, c, rfl, hc1, hr⟩, hl⟩ := hu
      have HR1 := Aside0.mk hr
      have hm1 := hr.2.1
      clear hr hl hc1
      go_wp2_with fail
      refine (trim_any _ _ _ HB.out).mono ?_
      rintro e w' ⟨u, rfl, hu, rfl⟩
      rw [← HN.out] at hu
      obtain ⟨⟨A2, c2, rfl, hc2, hr⟩, hl⟩ := hu
      have HR2 := Aside0.mk hr
      clear hr hl hc2
      go_wp2
      go_loopw [5] (fun i wr => ∃ k : Nat, i = .int .i64 ((k : Int) - 1) ∧ k ≤ (lim m).length ∧ Aside0 ((lim m).drop k = (lim n).drop k) ∧ Drawn0 w wr) (fun i _ => (intOf i + 1).toNat)
      case atStart => exact ⟨_, rfl, Nat.le_refl _, ⟨by rw [List.drop_length, hq.out, List.drop_length]⟩, Drawn0.refl _⟩
      case round =>
        obtain ⟨k, rfl, hk, hd, hw⟩ := hrel
        obtain ⟨nd, rfl⟩ := hw.out
        by_cases h0 : 0 < k
        · obtain ⟨ad1, rfl, hcell1⟩ := reads_nat HR1.out (k - 1) (by omega)
          obtain ⟨ad2, rfl, hcell2⟩ := reads_nat HR2.out (k - 1) (by omega)
          by_cases he : at_ (lim m) (k - 1) = at_ (lim n) (k - 1)
          · have hs := Aside0.mk (drop_eq_step hq.out (k - 1) (by omega) (by rw [show k - 1 + 1 = k by omega]; exact hd.out) he)
            have hb2 : (at_ (lim m) (k - 1) != at_ (lim n) (k - 1)) = false := bne_eq_false_iff_eq.2 he
            clear he
            go_wp2
            go_quiet (fail)
            go_wp2
            go_roundw
            case rel => exact ⟨k - 1, by congr 1; omega, by omega, hs, ⟨_, rfl⟩⟩
            case measure => simp [intOf]; omega
          · have hb2 : (at_ (lim m) (k - 1) != at_ (lim n) (k - 1)) = true := bne_iff_ne.2 he
            by_cases hlt : at_ (lim m) (k - 1) < at_ (lim n) (k - 1)
            · have hb3 : decide (at_ (lim m) (k - 1) < at_ (lim n) (k - 1)) = true := decide_eq_true hlt
              have hc := Aside0.mk (cmpN_lt (a := m) (b := n) (by have := drop_lt_step (Lim_lim m) (Lim_lim n) hq.out (k - 1) (by omega) (by rw [show k - 1 + 1 = k by omega]; exact hd.out) hlt; rwa [val_lim, val_lim] at this))
              clear he hlt
              go_wp2
              go_quiet (fail)
              go_wp2
              go_quiet (fail)
              go_wp2
              go_ret
              exact ⟨by rw [hc.out]; rfl, Drawn0.step (Drawn0.step hw _) _⟩
            · have hb3 : decide (at_ (lim m) (k - 1) < at_ (lim n) (k - 1)) = false := decide_eq_false hlt
              have hc := Aside0.mk (cmpN_gt (a := m) (b := n) (by have := drop_lt_step (Lim_lim n) (Lim_lim m) hq.out.symm (k - 1) (by omega) (by rw [show k - 1 + 1 = k by omega]; exact hd.out.symm) (by omega); rwa [val_lim, val_lim] at this))
              clear he hlt
              go_wp2
              go_quiet (fail)
              go_wp2
              go_quiet (fail)
              go_wp2
              go_ret
              exact ⟨by rw [hc.out]; rfl, Drawn0.step (Drawn0.step hw _) _⟩
        · obtain rfl : k = 0 := by omega
          have hc := Aside0.mk (cmpN_eq (a := m) (b := n) (lim_inj (by have := hd.out; rwa [List.drop_zero, List.drop_zero] at this)))
          go_wp2
          go_ret
          exact ⟨by rw [hc.out]; rfl, ⟨_, rfl⟩⟩
    · have hc := Aside0.mk (cmpN_gt (cmp_len_lt hgt))
      have hb1 : (((lim m).length : Int) != ((lim n).length : Int)) = true := bne_iff_ne.2 (by omega)
      have hb2 : decide ((lim m).length < (lim n).length) = false := decide_eq_false (by omega)
      clear hgt
      go_enter Try.func59, Try.ntmps59
      go_wp2_with fail
      refine (trim_any _ _ _ HA.out).mono ?_
      rintro e w' ⟨u, rfl, hu, rfl⟩
      rw [← HM.out] at hu
      obtain ⟨⟨A, c, rfl, hc1, hr⟩, hl⟩ := hu
      clear hr hl hc1
      go_wp2_with fail
      refine (trim_any _ _ _ HB.out).mono ?_
      rintro e w' ⟨u, rfl, hu, rfl⟩
      rw [← HN.out] at hu
      obtain ⟨⟨A2, c2, rfl, hc2, hr⟩, hl⟩ := hu
      clear hr hl hc2
      go_wp2
      go_ret
      exact ⟨by rw [hc.out]; rfl, Drawn0.refl _⟩
  exact main _ _ rfl rfl
end Go.Proofs.Ytnjbpkopekgihaa
