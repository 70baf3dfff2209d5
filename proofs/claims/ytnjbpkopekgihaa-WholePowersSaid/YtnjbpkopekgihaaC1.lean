/- Walks: nat.Of, whole.Of (of what is not below 0), one. -/
import Derived.Test.YtnjbpkopekgihaaC0
namespace Go.Proofs.Ytnjbpkopekgihaa
open Go.RowKit Go.Proofs.YtnjbpkopekgihaaW.PrintWords
set_option linter.unusedVariables false
set_option linter.unusedSimpArgs false
/-- block g is a struct's: its two cells -/
structure Box (w : World) (g : Nat) (x y : Value) : Prop where
  c0 : w.cell? ⟨g, 0, none⟩ = some x
  c1 : w.cell? ⟨g, 1, none⟩ = some y
  f0 : w.frozen? ⟨g, 0, none⟩ = false
  f1 : w.frozen? ⟨g, 1, none⟩ = false
  lt : g < w.heap.size
theorem Box.new (w : World) (b : Bool) (v : Value) : Box (w.alloc (.cells #[.bool b, v] 35)) w.heap.size (.bool b) v := by
  obtain ⟨h1, h2, h3, h4⟩ := box_cells w b v
  exact ⟨h1, h2, h3, h4, by simp⟩
theorem Box.below {w w1 : World} {g : Nat} {x y : Value} (h : Box w g x y) (hb : Below w.heap.size w w1) : Box w1 g x y :=
  ⟨(hb.cell (p := ⟨g, 0, none⟩) h.lt).trans h.c0, (hb.cell (p := ⟨g, 1, none⟩) h.lt).trans h.c1, (hb.frozen (p := ⟨g, 0, none⟩) h.lt).trans h.f0, (hb.frozen (p := ⟨g, 1, none⟩) h.lt).trans h.f1, Nat.lt_of_lt_of_le h.lt hb.size⟩
set_option maxHeartbeats 2000000 in
set_option maxRecDepth 100000 in
theorem natOf_any (n : Nat) (hn : n < 4294967296) (w : World) :
    Calls Try.prog 86 #[.int .u64 (n : Int)] w fun e w' => ∃ u, e = .returned u ∧ Res w.heap.size w' u n ∧ Below w.heap.size w w' := by
  have hd : (n : Int) / 4294967296 = 0 := by omega
  have hm : (n : Int) % 4294967296 = n := by omega
  have hlit := own_lit w w.heap.size 58 .u32 [(n : Int), 0] (Nat.le_refl _) (by simp)
  have HA := Aside0.mk (own_arg hlit (by intro x hx; simp at hx; rcases hx with rfl | rfl <;> omega))
  have HV := Aside0.mk (show val [(n : Int), 0] = n by simp [val])
  clear hlit
  go_enter Try.func86, Try.ntmps86
  go_wp2_with fail
  refine (own_any _ _ _ HA.out (by simp)).mono ?_
  rintro e w1 ⟨u, rfl, hu, hb⟩
  rw [HV.out] at hu
  have HU := Aside0.mk hu
  have HB := Aside0.mk (below_then (below_alloc (Below.refl w.heap.size w) (.cells #[.int .u32 (n : Int), .int .u32 0] 58)) (by simp) hb)
  clear hu hb
  go_wp2
  go_ret
  exact ⟨u, rfl, HU.out.weaken (by simp), HB.out⟩
theorem reads_nil (w : World) : ReadsInt w .i64 none ([] : List Int).length [] := ⟨rfl, by simp, fun h => by simp at h⟩
set_option maxHeartbeats 2000000 in
set_option maxRecDepth 100000 in
theorem of_any (n : Nat) (hn : n < 4294967296) (w : World) :
    Calls Try.prog 58 #[.int .i64 (n : Int)] w fun e w' => ∃ x, e = .returned x ∧ IRes w.heap.size w' x n ∧ Below w.heap.size w w' := by
  have hc : decide ((n : Int) < 0) = false := decide_eq_false (by omega)
  have HX0 := Aside0.mk (Box.new w false (.slice none 0 0))
  have HA0 := Aside0.mk (below_alloc (Below.refl w.heap.size w) (.cells #[.bool false, .slice none 0 0] 35))
  go_enter Try.func58, Try.ntmps58
  go_wp2_with fail
  refine (natOf_any n hn _).mono ?_
  rintro e w1 ⟨u, rfl, hu, hb⟩
  have HU := Aside0.mk hu
  have HB := Aside0.mk hb
  have HX1 := Aside0.mk (HX0.out.below hb)
  have hsz := hb.size
  clear hu hb
  go_wp2_with fail
  refine (signed_any _ _ none 0 [] _ HU.out.arg (reads_nil _) (by simp) ?_).mono ?_
  · have := lim_len_le (n := n) (k := 1) (by omega); omega
  rintro e w2 ⟨x, rfl, hx, hb⟩
  rw [val_lim, show sgnd (prodL []) n = (n : Int) from rfl] at hx
  have HX2 := Aside0.mk (HX1.out.below hb)
  have HB2 := Aside0.mk (below_then (below_then HA0.out (by simp) HB.out) (by simp at hsz; omega) hb)
  have hsz2 := hb.size
  have HR := Aside0.mk hx
  obtain ⟨b, A, m, c, rfl⟩ := hx.shape
  obtain ⟨c0, c1, f0, f1, _⟩ := HX2.out
  clear hx hb
  go_wp2
  obtain ⟨g0, g1⟩ := two_stored (.bool b) (.slice A m c) c0 c1
  refine bodyPost_ret (v := .agg #[.bool b, .slice A m c]) (by simp [results, Try.results58, go_sem, g0, g1]) rfl ?_
  exact ⟨_, rfl, (ires_other (ires_other HR.out (by simp at hsz; simp; omega) _) (by simp at hsz; simp; omega) _).weaken (by simp at hsz; omega), stored_below _ _ HB2.out⟩
set_option maxHeartbeats 2000000 in
set_option maxRecDepth 100000 in
theorem one_any (w : World) :
    Calls Try.prog 22 #[] w fun e w' => ∃ x, e = .returned x ∧ IRes w.heap.size w' x 1 ∧ Below w.heap.size w w' := by
  have HX0 := Aside0.mk (Box.new w false (.slice none 0 0))
  have HA0 := Aside0.mk (below_alloc (Below.refl w.heap.size w) (.cells #[.bool false, .slice none 0 0] 35))
  go_enter Try.func22, Try.ntmps22
  go_wp2_with fail
  refine (of_any 1 (by omega) _).mono ?_
  rintro e w2 ⟨x, rfl, hx, hb⟩
  have HX2 := Aside0.mk (HX0.out.below hb)
  have HB2 := Aside0.mk (below_then HA0.out (by simp) hb)
  have hsz := hb.size
  have HR := Aside0.mk hx
  obtain ⟨b, A, m, c, rfl⟩ := hx.shape
  obtain ⟨c0, c1, f0, f1, _⟩ := HX2.out
  clear hx hb
  go_wp2
  obtain ⟨g0, g1⟩ := two_stored (.bool b) (.slice A m c) c0 c1
  refine bodyPost_ret (v := .agg #[.bool b, .slice A m c]) (by simp [results, Try.results22, go_sem, g0, g1]) rfl ?_
  exact ⟨_, rfl, (ires_other (ires_other HR.out (by simp) _) (by simp) _).weaken (by simp), stored_below _ _ HB2.out⟩
end Go.Proofs.Ytnjbpkopekgihaa
