/- A stretch of a row of one's own: its cells, and what a store leaves. -/
import Derived.Test.YtnjbpkopekgihaaA2
import Derived.Test.YtnjbpkopekgihaaA11
namespace Go.Proofs.Ytnjbpkopekgihaa
open Go.RowKit Go.Proofs.YtnjbpkopekgihaaW.PrintWords
/-- block g's row, of L limbs, reads pre, then ms, then post -/
structure Mid (B g L cap : Nat) (pre post : List Int) (w : World) (ms : List Int) : Prop where
  own : w.ownsRow B 58 1 (.slice (some ⟨g, 0, none⟩) L cap) L (nums .u32 (pre ++ ms ++ post))
theorem Mid.len {B g L cap : Nat} {pre post ms : List Int} {w : World} (h : Mid B g L cap pre post w ms) : pre.length + ms.length + post.length = L := by
  have := h.own.1
  simp [nums] at this
  omega
theorem at_mid (pre ms post : List Int) (i : Nat) (h : i < ms.length) : at_ (pre ++ ms ++ post) (pre.length + i) = at_ ms i := by
  unfold at_
  rw [List.getD_eq_getElem?_getD, List.getD_eq_getElem?_getD, List.getElem?_append_left (by simp; omega), List.getElem?_append_right (by omega)]
  simp
theorem set_mid (pre ms post : List Int) (i : Nat) (x : Int) (h : i < ms.length) : (pre ++ ms ++ post).set (pre.length + i) x = pre ++ ms.set i x ++ post := by
  rw [List.set_append_left _ _ (by simp; omega), List.set_append_right _ _ (by omega)]
  simp
theorem mid_cell {B g L cap : Nat} {pre post ms : List Int} {w : World} (h : Mid B g L cap pre post w ms) (i : Nat) (hi : i < ms.length) :
    w.cell? ⟨g, pre.length + i, none⟩ = some (.int .u32 (at_ ms i)) ∧ w.frozen? ⟨g, pre.length + i, none⟩ = false := by
  have hl := h.len
  have := own_cell h.own (pre.length + i) (by omega)
  rwa [at_mid pre ms post i hi] at this
theorem mid_put {B g L cap : Nat} {pre post ms : List Int} {w0 w : World} (h : Mid B g L cap pre post w ms) (hg : w0.grownBy w (some g)) (i : Nat) (x : Int) (hi : i < ms.length) :
    Mid B g L cap pre post (w.setCell ⟨g, pre.length + i, none⟩ (.int .u32 x)) (ms.set i x) ∧ w0.grownBy (w.setCell ⟨g, pre.length + i, none⟩ (.int .u32 x)) (some g) := by
  have h2 := own_store h.own ((pre.length + i : Nat) : Int) x
  rw [Int.toNat_natCast] at h2
  refine ⟨⟨?_⟩, hg.trans h2.2⟩
  rw [← set_mid pre ms post i x hi]
  exact h2.1
theorem Mid.drawn {B g L cap : Nat} {pre post ms : List Int} {w : World} (h : Mid B g L cap pre post w ms) (n : Nat) : Mid B g L cap pre post (w.drewN n) ms := ⟨h.own⟩
theorem grown_drawn {w0 w : World} {row : Option Nat} (h : w0.grownBy w row) (n : Nat) : w0.grownBy (w.drewN n) row := ⟨h.os, h.tape, h.output, h.size, h.block⟩
theorem grown_drew {w0 w : World} {row : Option Nat} (h : w0.grownBy w row) : w0.grownBy w.drew row := ⟨h.os, h.tape, h.output, h.size, h.block⟩
theorem reads_grown {w0 w : World} {g n : Nat} {k : IntKind} {A : Option Addr} {xs : List Int} (h : ReadsInt w0 k A n xs) (hg : w0.grownBy w (some g)) (hne : ∀ ad, A = some ad → ad.block ≠ g) : ReadsInt w k A n xs :=
  ⟨h.1, h.2.1, fun hn => by
    obtain ⟨ad, e, hc⟩ := h.2.2 hn
    refine ⟨ad, e, fun j hj => hg.cell (hc j hj) ?_⟩
    have : (ad.add j).block = ad.block := by unfold Addr.add; split <;> rfl
    rw [this]
    exact fun e' => hne ad e (Option.some.inj e')⟩
end Go.Proofs.Ytnjbpkopekgihaa
