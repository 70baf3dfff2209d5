/- Slices of limbs that are read, and new rows that hold a number's limbs. -/
import Derived.Test.YtnjbpkopekgihaaWWords
import Derived.Test.YtnjbpkopekgihaaA0
import Derived.Test.YtnjbpkopekgihaaProg
namespace Go.Proofs.Ytnjbpkopekgihaa
open Go.RowKit Go.Proofs.YtnjbpkopekgihaaW.PrintWords
theorem info58 : (Try.prog.info? 58).map (fun i => (i.zero, i.size, i.bytes)) = some (some (.int .u32 0), 1, 4) := by kernel_rfl
theorem size58 : (Try.prog.info? 58).map (·.size) = some 1 := by kernel_rfl
theorem ret_int {k : IntKind} {a b : Int} (h : a = b) : Ending.returned (.int k a) = .returned (.int k b) := by rw [h]
theorem ret_two {k l : IntKind} {a a' b b' : Int} (h : a = a') (h2 : b = b') : Ending.returned (.tuple #[.int k a, .int l b]) = .returned (.tuple #[.int k a', .int l b']) := by rw [h, h2]
/-- the slice value v reads as the limbs xs -/
structure Arg (w : World) (v : Value) (xs : List Int) : Prop where
  form : ∃ A c, v = .slice A xs.length c ∧ xs.length ≤ c ∧ ReadsInt w .u32 A xs.length xs
  lims : Lim xs
theorem Arg.below {w w' : World} {v : Value} {xs : List Int} (h : Arg w v xs) (hb : Below w.heap.size w w') : Arg w' v xs := by
  obtain ⟨A, c, rfl, hc, hr⟩ := h.form
  exact ⟨⟨A, c, rfl, hc, hr.below hb⟩, h.lims⟩
theorem Arg.drawn {w : World} {v : Value} {xs : List Int} (h : Arg w v xs) (n : Nat) : Arg (w.drewN n) v xs := h.below (Drawn0.below ⟨⟨n, rfl⟩⟩)
/-- v is a new row (its block at B or above) that reads as the limbs of N -/
structure Res (B : Nat) (w : World) (v : Value) (N : Nat) : Prop where
  own : w.ownsRow B 58 1 v (lim N).length (nums .u32 (lim N))
theorem own_cap {w : World} {base n : Nat} {e : TypeId} {k : IntKind} {v : Value} {xs : List Int} (h : w.ownsRow base e 1 v n (nums k xs)) : ∃ A c, v = .slice A n c ∧ n ≤ c := by
  rcases h.2 with ⟨rfl, hn⟩ | ⟨g, cap, cur, rfl, _, _, hnc, _⟩
  · exact ⟨none, 0, by rw [hn], by omega⟩
  · exact ⟨_, cap, rfl, hnc⟩
theorem own_arg {w : World} {base n : Nat} {v : Value} {xs : List Int} (h : w.ownsRow base 58 1 v n (nums .u32 xs)) (hl : Lim xs) : Arg w v xs := by
  obtain ⟨A, c, e, hr⟩ := own_reads h
  obtain ⟨A', c', e', hc⟩ := own_cap h
  have hn : xs.length = n := hr.1
  subst hn
  rw [e] at e'
  injection e' with h1 h2 h3
  subst h1 h3
  exact ⟨⟨A, c, e, hc, hr⟩, hl⟩
theorem Res.arg {B : Nat} {w : World} {v : Value} {N : Nat} (h : Res B w v N) : Arg w v (lim N) := own_arg h.own (Lim_lim N)
theorem Res.below {B : Nat} {w w' : World} {v : Value} {N : Nat} (h : Res B w v N) (hb : Below w.heap.size w w') : Res B w' v N := ⟨pw_own_below h.own hb⟩
theorem Res.weaken {B B' : Nat} {w : World} {v : Value} {N : Nat} (h : Res B w v N) (hb : B' ≤ B) : Res B' w v N := ⟨own_weaken h.own hb⟩
theorem Res.nil (B : Nat) (w : World) : Res B w (.slice none 0 0) 0 := ⟨by rw [lim_zero]; exact own_nil w B 58 1⟩
theorem reads_nat {w : World} {k : IntKind} {A : Option Addr} {n : Nat} {xs : List Int} (h : ReadsInt w k A n xs) (i : Nat) (h1 : i < n) : ∃ ad, A = some ad ∧ w.cell? (ad.add i) = some (.int k (at_ xs i)) := by
  obtain ⟨ad, e, hc⟩ := h.2.2 (by omega)
  exact ⟨ad, e, hc _ h1⟩
theorem own_cell {W : World} {base g n cap : Nat} {xs : List Int} (h : W.ownsRow base 58 1 (.slice (some ⟨g, 0, none⟩) n cap) n (nums .u32 xs)) (i : Nat) (h1 : i < n) :
    W.cell? ⟨g, i, none⟩ = some (.int .u32 (at_ xs i)) ∧ W.frozen? ⟨g, i, none⟩ = false := own_at h (i : Int) (by omega) (by omega)
theorem own_put {w W : World} {base g n cap : Nat} {xs : List Int} (h : W.ownsRow base 58 1 (.slice (some ⟨g, 0, none⟩) n cap) n (nums .u32 xs)) (hb : Below base w W) (i : Nat) (x : Int) :
    (W.setCell ⟨g, i, none⟩ (.int .u32 x)).ownsRow base 58 1 (.slice (some ⟨g, 0, none⟩) n cap) n (nums .u32 (xs.set i x)) ∧ Below base w (W.setCell ⟨g, i, none⟩ (.int .u32 x)) := by
  have h2 := own_store h (i : Int) x
  refine ⟨h2.1, ?_⟩
  have hg : base ≤ g := own_base h g rfl
  exact hb.setCell hg _
theorem below_of_drawn {w wr : World} (h : Below w.heap.size w wr) (n : Nat) : Below (w.drewN n).heap.size (w.drewN n) wr := ⟨h.os, h.tape, h.output, h.size, h.block⟩
theorem below_drew' {B : Nat} {w W : World} (h : Below B w W) : Below B w W.drew := below_drew h
theorem arg_trim {w : World} {A : Option Addr} {c k : Nat} {xs : List Int} (h : ReadsInt w .u32 A xs.length xs) (hl : Lim xs) (hc : xs.length ≤ c) (hk : k = (lim (val xs)).length) : Arg w (.slice A k c) (lim (val xs)) := by
  subst hk
  have hle := lim_val_len hl
  have hr := ReadsInt.take_ h (lim (val xs)).length hle
  rw [← lim_val_take hl] at hr
  exact ⟨⟨A, c, rfl, by omega, hr⟩, Lim_lim _⟩
end Go.Proofs.Ytnjbpkopekgihaa
