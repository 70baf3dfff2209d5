/- Walks: whole.core, Sign, signed. -/
import Derived.Test.YtnjbpkopekgihaaA3
import Derived.Test.YtnjbpkopekgihaaB1
import Derived.Test.YtnjbpkopekgihaaA2
namespace Go.Proofs.Ytnjbpkopekgihaa
open Go.RowKit Go.Proofs.YtnjbpkopekgihaaW.PrintWords
set_option linter.unusedVariables false
set_option linter.unusedSimpArgs false
set_option maxHeartbeats 400000 in
theorem core_any (v : Value) (xs : List Int) (w : World) (ha : Arg w v xs) :
    Calls Try.prog 57 #[v] w fun e w' => ∃ A, e = .returned (.slice A (lim (val xs)).length (lim (val xs)).length) ∧ w = w' := by
  obtain ⟨⟨A, c, rfl, hc, hr⟩, hl⟩ := ha
  have hm : xs.length ≤ 9223372036854775807 := hr.2.1
  have HR := Aside0.mk hr
  clear hr
  have HL := Aside0.mk hl
  clear hl
  go_enter Try.func57, Try.ntmps57
  go_wp2
  go_loop [3] (fun n => ∃ k : Nat, n = .int .i64 k ∧ k ≤ xs.length ∧ Aside0 (val (xs.take k) = val xs)) (fun n => (intOf n).toNat)
  case atStart => exact ⟨_, rfl, Nat.le_refl _, ⟨by rw [List.take_length]⟩⟩
  case round =>
    obtain ⟨k, rfl, hk, hv⟩ := hrel
    by_cases h0 : 0 < k
    · obtain ⟨ad, rfl, hcell⟩ := reads_nat HR.out (k - 1) (by omega)
      by_cases hz : at_ xs (k - 1) = 0
      · have hb : (at_ xs (k - 1) == 0) = true := beq_iff_eq.2 hz
        have hs := Aside0.mk (trim_step xs k h0 hk hz hv.out)
        clear hz
        go_wp2
        go_round
        case rel => exact ⟨k - 1, by go_num, by omega, hs⟩
        case measure => simp [intOf]; omega
      · have hb : (at_ xs (k - 1) == 0) = false := beq_eq_false_iff_ne.2 hz
        have hs := Aside0.mk (trim_end HL.out k hk (.inr hz) hv.out)
        clear hz
        go_wp2
        go_ret
        exact ⟨⟨_, by rw [← hs.out]; rfl⟩, rfl⟩
    · have hs := Aside0.mk (trim_end HL.out k hk (.inl (by omega)) hv.out)
      go_wp2
      go_ret
      exact ⟨⟨_, by rw [← hs.out]; rfl⟩, rfl⟩
/-- a whole number by its sign's mark and its limbs -/
def zv (neg : Bool) (n : Nat) : Int := if neg then -(n : Int) else n
def sgn (z : Int) : Int := if z < 0 then -1 else if z = 0 then 0 else 1
/-- x is a whole number that reads as z, of at most L limbs -/
structure IArg (w : World) (x : Value) (z : Int) (L : Nat) : Prop where
  form : ∃ (neg : Bool) (v : Value) (xs : List Int), x = .agg #[.bool neg, v] ∧ Arg w v xs ∧ z = zv neg (val xs) ∧ xs.length ≤ L
/-- x is a whole number in new memory, normal -/
structure IRes (B : Nat) (w : World) (x : Value) (z : Int) : Prop where
  form : ∃ v, x = .agg #[.bool (decide (z < 0)), v] ∧ Res B w v z.natAbs
theorem zv_of (z : Int) : zv (decide (z < 0)) z.natAbs = z := by
  unfold zv
  by_cases h : z < 0
  · simp [h]; omega
  · simp [h]; omega
theorem IRes.arg {B : Nat} {w : World} {x : Value} {z : Int} (h : IRes B w x z) : IArg w x z (lim z.natAbs).length := by
  obtain ⟨v, rfl, hr⟩ := h.form
  exact ⟨⟨_, v, _, rfl, hr.arg, by rw [val_lim, zv_of], Nat.le_refl _⟩⟩
theorem IRes.shape {B : Nat} {w : World} {x : Value} {z : Int} (h : IRes B w x z) : ∃ (b : Bool) (A : Option Addr) (n c : Nat), x = .agg #[.bool b, .slice A n c] := by
  obtain ⟨v, rfl, hr⟩ := h.form
  obtain ⟨A, c, rfl, _⟩ := own_cap hr.own
  exact ⟨_, A, _, c, rfl⟩
theorem IRes.below {B : Nat} {w w' : World} {x : Value} {z : Int} (h : IRes B w x z) (hb : Below w.heap.size w w') : IRes B w' x z := by
  obtain ⟨v, rfl, hr⟩ := h.form
  exact ⟨v, rfl, hr.below hb⟩
theorem IRes.weaken {B B' : Nat} {w : World} {x : Value} {z : Int} (h : IRes B w x z) (hb : B' ≤ B) : IRes B' w x z := by
  obtain ⟨v, rfl, hr⟩ := h.form
  exact ⟨v, rfl, hr.weaken hb⟩
theorem IArg.below {w w' : World} {x : Value} {z : Int} {L : Nat} (h : IArg w x z L) (hb : Below w.heap.size w w') : IArg w' x z L := by
  obtain ⟨neg, v, xs, rfl, ha, hz, hl⟩ := h.form
  exact ⟨neg, v, xs, rfl, ha.below hb, hz, hl⟩
set_option maxHeartbeats 1000000 in
set_option maxRecDepth 100000 in
theorem sign_raw (neg : Bool) (v : Value) (xs : List Int) (w : World) (ha : Arg w v xs) :
    Calls Try.prog 19 #[.agg #[.bool neg, v]] w fun e w' => e = .returned (.int .i64 (sgn (zv neg (val xs)))) ∧ Below w.heap.size w w' := by
  have HA := Aside0.mk (ha.below (below_alloc (Below.refl w.heap.size w) (.cells #[.bool neg, v] 35)))
  clear ha
  have hll : True := trivial
  by_cases h0 : val xs = 0
  · have hz : ((((lim (val xs)).length : Nat) : Int) == 0) = true := beq_iff_eq.2 (by rw [h0, lim_zero]; rfl)
    have HS := Aside0.mk (show sgn (zv neg (val xs)) = 0 by rw [h0]; cases neg <;> rfl)
    clear h0
    go_enter Try.func19, Try.ntmps19
    go_wp2_with fail
    refine (core_any _ _ _ HA.out).mono ?_
    rintro e w' ⟨A, rfl, rfl⟩
    go_wp2
    go_ret
    exact ⟨by rw [HS.out]; rfl, below_alloc (Below.refl _ _) _⟩
  · have hz : ((((lim (val xs)).length : Nat) : Int) == 0) = false := beq_eq_false_iff_ne.2 (by have := lim_len_pos h0; omega)
    have HS1 := Aside0.mk (show sgn (zv true (val xs)) = -1 by simp [sgn, zv]; omega)
    have HS2 := Aside0.mk (show sgn (zv false (val xs)) = 1 by simp [sgn, zv]; omega)
    clear h0
    cases neg
    · go_enter Try.func19, Try.ntmps19
      go_wp2_with fail
      refine (core_any _ _ _ HA.out).mono ?_
      rintro e w' ⟨A, rfl, rfl⟩
      go_wp2
      go_ret
      exact ⟨by rw [HS2.out]; rfl, below_alloc (Below.refl _ _) _⟩
    · go_enter Try.func19, Try.ntmps19
      go_wp2_with fail
      refine (core_any _ _ _ HA.out).mono ?_
      rintro e w' ⟨A, rfl, rfl⟩
      go_wp2
      go_ret
      exact ⟨by rw [HS1.out]; rfl, below_alloc (Below.refl _ _) _⟩
theorem sign_any (x : Value) (z : Int) (L : Nat) (w : World) (hx : IArg w x z L) : Calls Try.prog 19 #[x] w fun e w' => e = .returned (.int .i64 (sgn z)) ∧ Below w.heap.size w w' := by
  obtain ⟨neg, v, xs, rfl, ha, rfl, hl⟩ := hx.form
  exact sign_raw neg v xs w ha
/-- the product of signs -/
def prodL (l : List Int) : Int := l.foldl (· * ·) 1
theorem prodL_snoc (l : List Int) (k : Nat) (h : k < l.length) : prodL (l.take (k + 1)) = prodL (l.take k) * at_ l k := by
  rw [take_snoc l k h, prodL, List.foldl_append]; rfl
theorem unit_mul {a b : Int} (h1 : -1 ≤ a) (h2 : a ≤ 1) (h3 : -1 ≤ b) (h4 : b ≤ 1) : -1 ≤ a * b ∧ a * b ≤ 1 := by
  have ha : a = -1 ∨ a = 0 ∨ a = 1 := by omega
  rcases ha with rfl | rfl | rfl <;> omega
theorem prodL_bd (l : List Int) (hl : ∀ x ∈ l, -1 ≤ x ∧ x ≤ 1) : ∀ k, k ≤ l.length → -1 ≤ prodL (l.take k) ∧ prodL (l.take k) ≤ 1
  | 0, _ => by simp [prodL]
  | k + 1, h => by
    rw [prodL_snoc l k (by omega)]
    obtain ⟨h1, h2⟩ := prodL_bd l hl k (by omega)
    have hm : at_ l k ∈ l := by
      unfold at_; rw [List.getD_eq_getElem?_getD, List.getElem?_eq_getElem (by omega)]; exact List.getElem_mem (by omega)
    obtain ⟨h3, h4⟩ := hl _ hm
    exact unit_mul h1 h2 h3 h4
theorem bcell {W w1 : World} (hb : Below W.heap.size W w1) : (∀ b o, b < W.heap.size → w1.cell? ⟨b, o, none⟩ = W.cell? ⟨b, o, none⟩) ∧ (∀ b o, b < W.heap.size → w1.frozen? ⟨b, o, none⟩ = W.frozen? ⟨b, o, none⟩) :=
  ⟨fun b o h => hb.cell (p := ⟨b, o, none⟩) h, fun b o h => hb.frozen (p := ⟨b, o, none⟩) h⟩
/-- a result's own block: its two cells -/
theorem box_cells (w : World) (b : Bool) (v : Value) : (w.alloc (.cells #[.bool b, v] 35)).cell? ⟨w.heap.size, 0, none⟩ = some (.bool b) ∧ (w.alloc (.cells #[.bool b, v] 35)).cell? ⟨w.heap.size, 1, none⟩ = some v ∧ (w.alloc (.cells #[.bool b, v] 35)).frozen? ⟨w.heap.size, 0, none⟩ = false ∧ (w.alloc (.cells #[.bool b, v] 35)).frozen? ⟨w.heap.size, 1, none⟩ = false := by
  have h : (w.alloc (.cells #[.bool b, v] 35)).heap[w.heap.size]? = some (.cells #[.bool b, v] 35 (0, 0)) := heap_alloc_new w _
  exact ⟨(blk_cell h 0).trans rfl, (blk_cell h 1).trans rfl, blk_frozen h 0, blk_frozen h 1⟩
/-- two cells of a block stored -/
theorem two_stored {w : World} {g : Nat} {x y : Value} (a b : Value) (h0 : w.cell? ⟨g, 0, none⟩ = some x) (h1 : w.cell? ⟨g, 1, none⟩ = some y) :
    (w.setCell ⟨g, 0, none⟩ a).cell? ⟨g, 0, none⟩ = some a ∧ ((w.setCell ⟨g, 0, none⟩ a).setCell ⟨g, 1, none⟩ b).cell? ⟨g, 1, none⟩ = some b := by
  have h2 : (w.setCell ⟨g, 0, none⟩ a).cell? ⟨g, 1, none⟩ = some y := by
    rw [World.cell?_setCell_other _ _ _ _ (by simp)]
    exact h1
  exact ⟨World.cell?_setCell_same _ _ _ h0, World.cell?_setCell_same _ _ _ h2⟩
theorem stored_below {w w1 : World} {g : Nat} (a b : Value) (h : Below g w w1) : Below g w ((w1.setCell ⟨g, 0, none⟩ a).setCell ⟨g, 1, none⟩ b) :=
  (h.setCell (Nat.le_refl _) _).setCell (Nat.le_refl _) _
theorem res_other {B : Nat} {w : World} {v : Value} {N : Nat} (h : Res B w v N) {p : Addr} (hp : p.block < B) (u : Value) : Res B (w.setCell p u) v N :=
  ⟨own_setCell h.own (fun e => by have := own_base h.own p.block e.symm; omega) u⟩
theorem ires_other {B : Nat} {w : World} {x : Value} {z : Int} (h : IRes B w x z) {p : Addr} (hp : p.block < B) (u : Value) : IRes B (w.setCell p u) x z := by
  obtain ⟨v, e, hr⟩ := h.form
  exact ⟨v, e, res_other hr hp u⟩
/-- a number of that size, below 0 if the product of the signs is -/
def sgnd (p : Int) (n : Nat) : Int := if p < 0 then -(n : Int) else n
theorem sgnd_res {B : Nat} {w : World} {v : Value} {p : Int} {n : Nat} (b : Bool) (h : Res B w v n) (hb : b = decide (p < 0 ∧ 0 < n)) : IRes B w (.agg #[.bool b, v]) (sgnd p n) := by
  subst hb
  unfold sgnd
  by_cases hp : p < 0
  · rw [if_pos hp]
    refine ⟨v, ?_, by rw [Int.natAbs_neg, Int.natAbs_natCast]; exact h⟩
    have : decide (p < 0 ∧ 0 < n) = decide (-(n : Int) < 0) := by rw [decide_eq_decide]; omega
    rw [this]
  · rw [if_neg hp]
    refine ⟨v, ?_, by rw [Int.natAbs_natCast]; exact h⟩
    have : decide (p < 0 ∧ 0 < n) = decide ((n : Int) < 0) := by rw [decide_eq_decide]; omega
    rw [this]
set_option maxHeartbeats 2000000 in
set_option maxRecDepth 100000 in
theorem signed_any (va : Value) (xs : List Int) (S : Option Addr) (cs : Nat) (ss : List Int) (w : World) (ha : Arg w va xs) (hss : ReadsInt w .i64 S ss.length ss) (hbd : ∀ x ∈ ss, -1 ≤ x ∧ x ≤ 1) (hs : xs.length ≤ 70368744177664) :
    Calls Try.prog 50 #[va, .slice S ss.length cs] w fun e w' => ∃ x, e = .returned x ∧ IRes w.heap.size w' x (sgnd (prodL ss) (val xs)) ∧ Below w.heap.size w w' := by
  have HA := Aside0.mk (ha.below (below_alloc (Below.refl w.heap.size w) (.cells #[.bool false, .slice none 0 0] 35)))
  have HSS := Aside0.mk (hss.below (below_alloc (Below.refl w.heap.size w) (.cells #[.bool false, .slice none 0 0] 35)))
  have HBD := Aside0.mk hbd
  have hm := hss.2.1
  clear ha hss hbd
  go_enter Try.func50, Try.ntmps50
  go_wp2_with fail
  refine (norm_any _ _ _ HA.out hs).mono ?_
  rintro e w1 ⟨u, rfl, hu, hb⟩
  have hsz := hb.size
  obtain ⟨hbc, hbf⟩ := bcell hb
  obtain ⟨k1, k2, k3, k4⟩ := box_cells w false (.slice none 0 0)
  have c1 := (hbc w.heap.size 0 (by simp)).trans k1
  have c2 := (hbc w.heap.size 1 (by simp)).trans k2
  have f1 := (hbf w.heap.size 0 (by simp)).trans k3
  have f2 := (hbf w.heap.size 1 (by simp)).trans k4
  have HU := Aside0.mk hu
  have HB := Aside0.mk (below_then (below_alloc (Below.refl w.heap.size w) (.cells #[.bool false, .slice none 0 0] 35)) (by simp) hb)
  have HS1 := Aside0.mk (HSS.out.below hb)
  obtain ⟨A, c, rfl, hn⟩ := own_cap hu.own
  clear hu hb hbc hbf k1 k2 k3 k4 hsz HSS
  go_wp2
  go_loop [5, 12] (fun p i => ∃ k : Nat, i = .int .i64 (k : Int) ∧ p = .int .i64 (prodL (ss.take k)) ∧ k ≤ ss.length) (fun _ i => ss.length - (intOf i).toNat)
  case atStart => exact ⟨0, rfl, rfl, Nat.zero_le _⟩
  case round =>
    obtain ⟨k, rfl, rfl, hk⟩ := hrel
    by_cases hlt : k < ss.length
    · obtain ⟨ad, rfl, hcell⟩ := reads_nat HS1.out k hlt
      obtain ⟨p1, p2⟩ := prodL_bd ss HBD.out k hk
      obtain ⟨p3, p4⟩ := prodL_bd ss HBD.out (k + 1) hlt
      rw [prodL_snoc ss k hlt] at p3 p4
      have HP := Aside0.mk (prodL_snoc ss k hlt)
      go_wp2
      go_round
      case rel => exact ⟨k + 1, by go_num, by rw [HP.out], by omega⟩
      case measure => simp [intOf]; omega
    · obtain rfl : k = ss.length := by omega
      rw [List.take_length]
      have hsB := HB.out.size
      by_cases hp : prodL ss < 0
      · have hp1 : decide (prodL ss < 0) = true := decide_eq_true hp
        by_cases hN : val xs = 0
        · have hl : decide (0 < (lim (val xs)).length) = false := decide_eq_false (by rw [hN, lim_zero]; simp)
          have HR := Aside0.mk (sgnd_res (p := prodL ss) false HU.out (by rw [hN]; simp))
          clear hp hN
          go_wp2
          obtain ⟨g0, g1⟩ := two_stored (.bool false) (.slice A (lim (val xs)).length c) c1 c2
          refine bodyPost_ret (v := .agg #[.bool false, .slice A (lim (val xs)).length c]) (by simp [results, Try.results50, go_sem, g0, g1]) rfl ?_
          exact ⟨_, rfl, (ires_other (ires_other HR.out (by simp) _) (by simp) _).weaken (by simp), stored_below _ _ HB.out⟩
        · have hl : decide (0 < (lim (val xs)).length) = true := decide_eq_true (lim_len_pos hN)
          have HR := Aside0.mk (sgnd_res (p := prodL ss) true HU.out (by simp; omega))
          clear hp hN
          go_wp2
          obtain ⟨g0, g1⟩ := two_stored (.bool true) (.slice A (lim (val xs)).length c) c1 c2
          refine bodyPost_ret (v := .agg #[.bool true, .slice A (lim (val xs)).length c]) (by simp [results, Try.results50, go_sem, g0, g1]) rfl ?_
          exact ⟨_, rfl, (ires_other (ires_other HR.out (by simp) _) (by simp) _).weaken (by simp), stored_below _ _ HB.out⟩
      · have hp1 : decide (prodL ss < 0) = false := decide_eq_false hp
        have HR := Aside0.mk (sgnd_res (p := prodL ss) false HU.out (by simp; omega))
        clear hp
        go_wp2
        obtain ⟨g0, g1⟩ := two_stored (.bool false) (.slice A (lim (val xs)).length c) c1 c2
        refine bodyPost_ret (v := .agg #[.bool false, .slice A (lim (val xs)).length c]) (by simp [results, Try.results50, go_sem, g0, g1]) rfl ?_
        exact ⟨_, rfl, (ires_other (ires_other HR.out (by simp) _) (by simp) _).weaken (by simp), stored_below _ _ HB.out⟩
end Go.Proofs.Ytnjbpkopekgihaa
