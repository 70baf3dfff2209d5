/- Walks: nat.own, nat.Norm. -/
import Derived.Test.YtnjbpkopekgihaaA2
import Derived.Test.YtnjbpkopekgihaaB0
namespace Go.Proofs.Ytnjbpkopekgihaa
open Go.RowKit Go.Proofs.YtnjbpkopekgihaaW.PrintWords
set_option linter.unusedVariables false
set_option linter.unusedSimpArgs false
set_option maxHeartbeats 1000000 in
set_option maxRecDepth 100000 in
theorem own_any (v : Value) (xs : List Int) (w : World) (ha : Arg w v xs) (hb : xs.length ≤ 70368744177664) :
    Calls Try.prog 76 #[v] w fun e w' => ∃ u, e = .returned u ∧ Res w.heap.size w' u (val xs) ∧ Below w.heap.size w w' := by
  have hle := lim_val_len ha.lims
  have HA := Aside0.mk ha
  clear ha
  by_cases h0 : val xs = 0
  · have h1 : (lim (val xs)).length = 0 := lim_len_zero.2 h0
    have H1 := Aside0.mk h1
    have H0 := Aside0.mk h0
    clear h1 h0
    go_enter Try.func76, Try.ntmps76
    go_wp2_with (go_at_call 74; refine (trim_any _ _ _ HA.out).mono ?_; rintro e w' ⟨u, rfl, hu, rfl⟩; rw [lim_len_zero.1 H1.out, lim_zero] at hu; obtain ⟨⟨A, c, rfl, hc, hr⟩, hl⟩ := hu; clear hr hl hc)
    go_ret
    exact ⟨_, rfl, by rw [H0.out]; exact Res.nil _ _, Below.refl _ _⟩
  · have hp := lim_len_pos h0
    have hb0 : (((lim (val xs)).length : Int) == 0) = false := beq_eq_false_iff_ne.2 (by omega)
    have hmk := print_make (P := Try.prog) 23 58 .u32 4 Try.underlying23 info58 (by omega) (lim (val xs)).length (by omega)
    clear h0
    go_enter Try.func76, Try.ntmps76
    go_wp2_with (first | (go_at_call 74; refine (trim_any _ _ _ HA.out).mono ?_; rintro e w' ⟨u, rfl, hu, rfl⟩; obtain ⟨⟨A, c, rfl, hc, hr⟩, hl⟩ := hu; have HR := Aside0.mk hr; clear hr hl hc) | (with_reducible refine copy_all (w0 := w) w.heap.size rfl (.tmp 12) (.tmp 13) 23 23 rfl 58 .u32 Try.underlying23 size58 (.slice (some ⟨w.heap.size, 0, none⟩) (lim (val xs)).length (lim (val xs)).length) (lim (val xs)).length (List.replicate (lim (val xs)).length 0) (lim (val xs)) A c rfl rfl ?c1 ?c2 ?c3 ?c4; (case c1 => exact own_made w _ 58 .u32 _ (Nat.le_refl _) (by omega)); (case c2 => exact HR.out.below (below_alloc (Below.refl _ _) _)); (case c3 => exact below_alloc (Below.refl _ _) _); intro w1 hown hbel))
    go_ret
    exact ⟨_, rfl, ⟨hown.out⟩, hbel⟩
set_option maxHeartbeats 1000000 in
set_option maxRecDepth 100000 in
theorem norm_any (v : Value) (xs : List Int) (w : World) (ha : Arg w v xs) (hb : xs.length ≤ 70368744177664) :
    Calls Try.prog 43 #[v] w fun e w' => ∃ u, e = .returned u ∧ Res w.heap.size w' u (val xs) ∧ Below w.heap.size w w' := by
  have HA := Aside0.mk ha
  clear ha
  go_enter Try.func43, Try.ntmps43
  go_wp2_with (go_at_call 76; refine (own_any _ _ _ HA.out hb).mono ?_; rintro e w' ⟨u, rfl, hu, hB⟩; have HU := Aside0.mk hu; have HB := Aside0.mk hB; clear hu hB)
  go_ret
  exact ⟨_, rfl, HU.out, HB.out⟩
end Go.Proofs.Ytnjbpkopekgihaa
