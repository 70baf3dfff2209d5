/- For every whole number, WholeRoots returns true and leaves its argument as it was: where the number is below zero Root refuses it with the code 10, and else Root gives the greatest r with r*r at most the number (whose square, and the square of r+1, stand on the two sides of it). No condition: every number that a caller can hand over. -/
import Derived.Test.YtnjbpkopekgihaaD0
import Derived.Test.YtnjbpkopekgihaaC6
namespace Go.Proofs.Ytnjbpkopekgihaa.WholeRootsRow
open Go.RowKit Go.Proofs.YtnjbpkopekgihaaW.PrintWords Go.Proofs.Ytnjbpkopekgihaa
open Go.ChangeShapes Go.WideShapes Go.ChangeAt Go.Joins
set_option linter.unusedVariables false
theorem wroots_any (x : Value) (z : Int) (L : Nat) (w : World) (hx : IArg w x z L) (hL : 2 * (L + 2) ≤ 70368744177664) :
    Calls Try.prog 5 #[x] w fun e w' => e = .returned (.bool true) ∧ Below w.heap.size w w' := by
  by_cases hz : z < 0
  · exact wroots_neg x z L w hx hz
  · exact wroots_pos x z L w hx (by omega) hL
set_option maxRecDepth 100000 in
theorem lifted (os : Os) (started : os.Started) (H : Type) (enc : TypeId × Value → H) :
    ReturnsInHanded {} Try.checked os 5 .any (Rows.wholeRootsSpec.pre6 enc Try.prog Try.f5 Rows.wholeRootsRow.domain false) (Rows.wholeRootsSpec.post enc Try.prog Try.f5 false true false false) := by
  refine returnsInHanded_of_change_sized (C := Try.checked) own_knob started (by kernel_rfl) Try.func5
    (ChangeSpec.witness6 (enc := enc) (C := Try.checked) false ⟨#[], #[.agg #[.bool false, .slice none 0 0]], []⟩ 8 (by kernel_rfl) (by kernel_rfl) (by kernel_rfl) (by kernel_rfl)) ?_
  intro W base args ds gs before hval0 hW hcnd hsz0 _
  have hsz : (DataW.weightsEach Try.prog (Try.f5.params.toList ++ Rows.wholeRootsSpec.plain.varTypes Try.prog) (ds ++ gs)).all (· ≤ reachBytes) = true := hsz0
  have hval : ∀ (j : Nat) t v, Try.f5.params[j]? = some t → args[j]? = some v → Value.okWide Try.prog W .any base t v := hval0
  have hW' := hW
  obtain ⟨p, q, hA0, hV, rfl, hfz, hnd⟩ := hW
  have hA : DataW.TrodAll enc Try.prog W 0 (fun _ => true) true Try.f5.params.toList args.toList ds p := hA0
  rw [Try.params5] at hA hval hsz
  obtain ⟨v0, d0, rfl, rfl, h0⟩ := trodAll_one hA
  obtain ⟨rfl, rfl⟩ := trodVars_none hV
  have k0 := h0
  have lt0 : ∀ x ∈ p, x.block < W.heap.size := by obtain ⟨m, hm⟩ := k0; exact DataW.trod_lt m _ _ _ hm
  obtain ⟨z, L, hx, hL⟩ := whole_open (fun _ => rfl) (hval 0 35 v0 rfl rfl) h0 hsz (j := 0) rfl rfl
  clear hA0 hval0 hsz0 hsz
  refine (wroots_any v0 z L W hx (by omega)).mono fun e W' ⟨he, bel⟩ => ?_
  subst he
  exact ⟨_, rfl, _, _, _, [], _, [], hW', trodAll_mk1 (shut_bool Try.underlying4 _), trodAll_mk1 (Below.trod laidOut (by kernel_rfl) (of_decide_eq_true (by kernel_rfl)) k0 bel lt0), rfl, bel.frame _, fun h => by cases h⟩
theorem over : Rows.wholeRootsRow.holds Try.pinned (OpenSpec.ofChange Rows.wholeRootsSpec) :=
  OpenClaim.holds_of_wide 5 Try.f5 rfl rfl rfl rfl rfl rfl rfl ⟨rfl, rfl, rfl, rfl, rfl⟩ rfl rfl rfl rfl rfl (by kernel_rfl) Try.func5 (by kernel_rfl)
    (of_decide_eq_true (by kernel_rfl)) (by unfold Func.isWrapper; first | (rw [if_pos (by decide +kernel)]; kernel_rfl) | (rw [if_neg (by decide +kernel)]; exact ⟨rfl, rfl⟩))
    (fun os started H enc _ => lifted os started H enc)
end Go.Proofs.Ytnjbpkopekgihaa.WholeRootsRow
namespace Go.Proofs.Ytnjbpkopekgihaa
/-- The row of WholeRoots. -/
theorem wholeRoots_holds : Rows.WholeRootsSaid := WholeRootsRow.over
end Go.Proofs.Ytnjbpkopekgihaa
#print axioms Go.Proofs.Ytnjbpkopekgihaa.wholeRoots_holds
