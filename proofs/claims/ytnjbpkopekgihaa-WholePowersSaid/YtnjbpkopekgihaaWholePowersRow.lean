/- For every whole number and every int, WholePowers returns true and leaves its argument as it was: whole.Root and whole.Pow answer as the reference does (the same code, and the same normal number), or the power is beyond the bound that the law itself sets. No condition: every number and every exponent that a caller can hand over. -/
import Derived.Test.YtnjbpkopekgihaaD0
import Derived.Test.YtnjbpkopekgihaaE6
namespace Go.Proofs.Ytnjbpkopekgihaa.WholePowersRow
open Go.RowKit Go.Proofs.YtnjbpkopekgihaaW.PrintWords Go.Proofs.Ytnjbpkopekgihaa
open Go.ChangeShapes Go.WideShapes Go.ChangeAt Go.Joins
set_option linter.unusedVariables false
set_option maxRecDepth 100000 in
theorem lifted (os : Os) (started : os.Started) (H : Type) (enc : TypeId × Value → H) :
    ReturnsInHanded {} Try.checked os 4 .any (Rows.wholePowersSpec.pre6 enc Try.prog Try.f4 Rows.wholePowersRow.domain false) (Rows.wholePowersSpec.post enc Try.prog Try.f4 false true false false) := by
  refine returnsInHanded_of_change_sized (C := Try.checked) own_knob started (by kernel_rfl) Try.func4
    (ChangeSpec.witness6 (enc := enc) (C := Try.checked) false ⟨#[], #[.agg #[.bool false, .slice none 0 0], .int .i64 0], []⟩ 8 (by kernel_rfl) (by kernel_rfl) (by kernel_rfl) (by kernel_rfl)) ?_
  intro W base args ds gs before hval0 hW hcnd hsz0 _
  have hsz : (DataW.weightsEach Try.prog (Try.f4.params.toList ++ Rows.wholePowersSpec.plain.varTypes Try.prog) (ds ++ gs)).all (· ≤ reachBytes) = true := hsz0
  have hval : ∀ (j : Nat) t v, Try.f4.params[j]? = some t → args[j]? = some v → Value.okWide Try.prog W .any base t v := hval0
  have hW' := hW
  obtain ⟨p, q, hA0, hV, rfl, hfz, hnd⟩ := hW
  have hA : DataW.TrodAll enc Try.prog W 0 (fun _ => true) true Try.f4.params.toList args.toList ds p := hA0
  rw [Try.params4] at hA hval hsz
  obtain ⟨v0, v1, d0, d1, p0, p1, rfl, rfl, rfl, h0, h1⟩ := trodAll_two hA
  obtain ⟨rfl, rfl⟩ := trodVars_none hV
  have k0 := h0
  have lt0 : ∀ x ∈ p0, x.block < W.heap.size := by obtain ⟨m, hm⟩ := k0; exact DataW.trod_lt m _ _ _ hm
  obtain ⟨z, L, hx, hL⟩ := whole_open (fun _ => rfl) (hval 0 35 v0 rfl rfl) h0 hsz (j := 0) rfl rfl
  obtain ⟨n, rfl, rfl, rfl, wn⟩ := open_int Try.underlying3 (hval 1 3 v1 rfl rfl) h1
  have bn : -9223372036854775808 ≤ n ∧ n ≤ 9223372036854775807 := bounds_i64 wn
  clear hA0 hval0 hsz0 hsz
  refine (wpowers_any v0 z n L W hx (by omega) bn.1 bn.2).mono fun e W' ⟨he, bel⟩ => ?_
  subst he
  exact ⟨_, rfl, _, _, _, [], _, [], hW', trodAll_mk1 (shut_bool Try.underlying4 _), trodAll_mk2 (Below.trod laidOut (by kernel_rfl) (of_decide_eq_true (by kernel_rfl)) k0 bel lt0) (shut_int Try.underlying3 wn), rfl, bel.frame _, fun h => by cases h⟩
theorem over : Rows.wholePowersRow.holds Try.pinned (OpenSpec.ofChange Rows.wholePowersSpec) :=
  OpenClaim.holds_of_wide 4 Try.f4 rfl rfl rfl rfl rfl rfl rfl ⟨rfl, rfl, rfl, rfl, rfl⟩ rfl rfl rfl rfl rfl (by kernel_rfl) Try.func4 (by kernel_rfl)
    (of_decide_eq_true (by kernel_rfl)) (by unfold Func.isWrapper; first | (rw [if_pos (by decide +kernel)]; kernel_rfl) | (rw [if_neg (by decide +kernel)]; exact ⟨rfl, rfl⟩))
    (fun os started H enc _ => lifted os started H enc)
end Go.Proofs.Ytnjbpkopekgihaa.WholePowersRow
namespace Go.Proofs.Ytnjbpkopekgihaa
/-- The row of WholePowers. -/
theorem wholePowers_holds : Rows.WholePowersSaid := WholePowersRow.over
end Go.Proofs.Ytnjbpkopekgihaa
#print axioms Go.Proofs.Ytnjbpkopekgihaa.wholePowers_holds
