/- copy into a row of one's own, told by ownsRow. -/
import Derived.Test.YtnjbpkopekgihaaA1
import Derived.Laws.CopyOwn
namespace Go.Proofs.Ytnjbpkopekgihaa
open Go.RowKit Go.Proofs.YtnjbpkopekgihaaW.PrintWords
section
variable {P : Program} {ops : Array Oper} {rest : List Oper} {o : Oper} {a : Act} {Q : Exit → Act → World → Prop}
theorem copy_all {w0 w : World} (base : Nat) (hgd : o.guard = none) (d s : Operand) (dT sT : TypeId)
    (ho : o.op = .call { callee := .builtin .copy, args := #[d, s], argTypes := #[dT, sT] }) (e : TypeId) (k : IntKind) (hu : P.underlying dT = some (.slice e)) (hsz : (P.info? e).map (·.size) = some 1)
    (v : Value) (n : Nat) (ys zs : List Int) (A : Option Addr) (c : Nat) (hd : a.eval d = v) (hs : a.eval s = .slice A n c)
    (HO : w.ownsRow base e 1 v n (nums k ys)) (hr : ReadsInt w k A n zs) (HB : Below base w0 w)
    (h : ∀ w', Aside0 (w'.ownsRow base e 1 v n (nums k zs)) → Below base w0 w' → wpList P ops Q rest (a.put o.dst (goInt n)) w') :
    wpList P ops Q (o :: rest) a w := by
  have hzl := hr.1
  rcases HO.2 with ⟨rfl, rfl⟩ | ⟨g, cap, cur, rfl, hb, hh, hnc, hcm, hcs, htk⟩
  · refine wpList_copy_nothing hgd d s dT sT ho e hu hsz none A 0 0 0 c hd hs (by simp) ?_
    obtain rfl := List.eq_nil_of_length_eq_zero hzl
    exact h w ⟨by simpa [nums] using own_nil w base e 1⟩ HB
  · have hcl : (nums k zs).length = n := by rw [nums_length, hzl]
    refine wpList_copy_splice hgd d s dT sT ho e hu hsz (some ⟨g, 0, none⟩) A n cap n c hd hs g 0 cur.toList e (by simpa using hh) (nums k zs) (by rw [hcl]; exact (Nat.min_self n).symm) (fun hp => ?_)
      (by rw [hcl, Array.length_toList]; omega) (by intro u hu; simp only [nums, List.mem_map] at hu; obtain ⟨q, _, rfl⟩ := hu; rfl) base w0 HB hb ?_
    · obtain ⟨ad, rfl, hc⟩ := hr.2.2 (by omega)
      refine ⟨rfl, ad, rfl, fun j u hj => ?_⟩
      have hjn : j < zs.length := by
        rcases Nat.lt_or_ge j zs.length with h | h
        · exact h
        · simp [nums, List.getElem?_eq_none h] at hj
      simp [nums, List.getElem?_eq_getElem hjn] at hj
      subst hj
      rw [hc j (by omega)]
      simp [List.getD_eq_getElem?_getD, List.getElem?_eq_getElem hjn]
    · intro w' hh' hB'
      rw [hcl]
      refine h w' ⟨⟨by simp [nums, hzl], .inr ⟨g, cap, _, rfl, hb, hh'.out, hnc, hcm, ?_, ?_⟩⟩⟩ hB'
      · rw [List.size_toArray, length_splice _ _ _ (by rw [hcl, Array.length_toList]; omega), Array.length_toList, hcs]
      · simp only [splice, List.take_zero, List.nil_append, Nat.mul_one]
        rw [List.take_append_of_le_length (by rw [hcl]; omega), List.take_of_length_le (by rw [hcl]; omega)]
end
end Go.Proofs.Ytnjbpkopekgihaa
