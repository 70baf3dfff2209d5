/- Arguments of a law's row, opened: a slice of limbs, a whole number. -/
import Derived.Test.YtnjbpkopekgihaaC0
import Derived.Test.YtnjbpkopekgihaaRows
import Derived.WalkKit
import Derived.ProofKit
import Derived.OpenShut
import Derived.ShutString
import Derived.ChangeOld
import Derived.Below
import Derived.SizedLaws
import Derived.Lib.SmallJoins
namespace Go.Proofs.Ytnjbpkopekgihaa
open Go.RowKit Go.Proofs.YtnjbpkopekgihaaW.PrintWords
open Go.ChangeShapes Go.WideShapes Go.ChangeAt Go.Joins
set_option linter.unusedVariables false
set_option linter.unusedSimpArgs false
theorem laidOut : laidOutB Try.prog = true := by kernel_rfl
theorem own_knob : ownKnob Try.prog.godebug = none := by kernel_rfl
theorem cells35 : Try.prog.cellsOf 35 = 2 := by kernel_rfl
/-- a slice of limbs that came in -/
theorem limbs_open {H : Type} {enc : TypeId × Value → H} {W : World} {base : Nat} {spare : Nat → Bool} {held : Bool} {fuel : Nat} {v : Value} {y : DataW H × List MemPlace} (hsp : ∀ b, spare b = true)
    (h : DataW.trod enc Try.prog W base spare held fuel 23 [v] = some y) :
    ∃ xs, Arg W v xs ∧ ∃ elems sp, (y.1 = .nil ∧ xs = []) ∨ (y.1 = .slice elems sp ∧ elems.length = xs.length) := by
  rcases open_ints Try.underlying23 Try.underlying58 (by kernel_rfl) h with ⟨hcs, hx⟩ | ⟨x, l, c, zs, hcs, _, hl, hm, hz, hx, hcell, hwz⟩
  · simp at hcs
    subst hcs
    obtain ⟨l, e, hr, hm, hw, hc⟩ := ReadsInt.ofRowC (k := .u32) (w := W) (a := none) (len := 0) (cap := 0) (zs := []) (.inl ⟨rfl, rfl, rfl, rfl⟩)
    refine ⟨[], ⟨⟨none, 0, rfl, by simp, ?_⟩, by intro x hx; cases hx⟩, [], [], .inl ⟨by rw [hx], rfl⟩⟩
    obtain rfl : l = [] := List.length_eq_zero_iff.1 e.symm
    exact hr
  · simp at hcs
    subst hcs
    rw [hsp, if_pos rfl] at hz
    obtain ⟨xs, e, hr, hm2, hw, hc⟩ := ReadsInt.ofRowC (k := .u32) (w := W) (a := some x) (len := l) (cap := c) (zs := zs) (.inr ⟨x, rfl, hl, hm, hz, hcell, hwz⟩)
    subst e
    refine ⟨xs, ⟨⟨some x, c, rfl, hc, hr⟩, fun n hn => ?_⟩, _, _, .inr ⟨by rw [hx], ?_⟩⟩
    · have := bounds_u32 (hw n hn)
      omega
    · simp [lits]; omega
set_option maxRecDepth 100000 in
/-- a whole number that came in by value -/
theorem whole_open {H : Type} {enc : TypeId × Value → H} {W : World} {base b0 : Nat} {r : Reach} {spare : Nat → Bool} {held : Bool} {v : Value} {d : DataW H} {p : List MemPlace} {ts : List TypeId} {ds : List (DataW H)} {j : Nat} (hsp : ∀ b, spare b = true)
    (hv : Value.okWide Try.prog W r b0 35 v) (h : DataW.Trod enc Try.prog W base spare held 35 v d p)
    (hsz : (DataW.weightsEach Try.prog ts ds).all (· ≤ reachBytes) = true) (ht : ts[j]? = some 35) (hd : ds[j]? = some d) :
    ∃ z L, IArg W v z L ∧ L ≤ 35184372087808 := by
  obtain ⟨c0, c1, y0, y1, m, rfl, rfl, rfl, hy0, hy1⟩ := open_agg2 Try.underlying35 (by kernel_rfl) cells35 hv h
  obtain ⟨xs, hA, elems, sp, hsl⟩ := limbs_open hsp hy1
  obtain ⟨b, e0, rfl⟩ := DataW.trod_bool Try.underlying4 hy0
  simp at e0
  subst e0
  refine ⟨zv b (val xs), xs.length, ⟨⟨b, c1, xs, rfl, hA, rfl, Nat.le_refl _⟩⟩, ?_⟩
  rcases hsl with ⟨_, rfl⟩ | ⟨hy, hl⟩
  · simp
  · have hB : Try.prog.bytesOf 58 = 4 := by kernel_rfl
    have z := List.all_eq_true.1 hsz _ (DataW.weights_mem_each ht hd ((elems.length + sp.length) * Try.prog.bytesOf 58) (by
      simp [DataW.weights, DataW.weightsEach, Try.underlying35, hy, Try.underlying23]))
    rw [hB] at z
    have z2 : (elems.length + sp.length) * 4 ≤ reachBytes := of_decide_eq_true z
    have z3 : reachBytes = 140737488351232 := rfl
    omega
end Go.Proofs.Ytnjbpkopekgihaa
