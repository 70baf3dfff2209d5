/- Plain numbers: lists of limbs in base 2^32 (lowest first), their value, and the one normal list of a value. No program, no memory. -/
namespace Go.Proofs.Ytnjbpkopekgihaa
def val : List Int → Nat
  | [] => 0
  | x :: r => x.toNat + 4294967296 * val r
def Lim (xs : List Int) : Prop := ∀ x ∈ xs, 0 ≤ x ∧ x < 4294967296
def lim (n : Nat) : List Int := if h : n = 0 then [] else ((n % 4294967296 : Nat) : Int) :: lim (n / 4294967296)
termination_by n
decreasing_by omega
theorem lim_zero : lim 0 = [] := by rw [lim]; simp
theorem lim_pos {n : Nat} (h : n ≠ 0) : lim n = ((n % 4294967296 : Nat) : Int) :: lim (n / 4294967296) := by rw [lim]; simp [h]
theorem val_nil : val [] = 0 := rfl
theorem val_cons (x : Int) (r : List Int) : val (x :: r) = x.toNat + 4294967296 * val r := rfl
theorem Lim_nil : Lim [] := by intro x h; cases h
theorem Lim_cons {x : Int} {r : List Int} : Lim (x :: r) ↔ (0 ≤ x ∧ x < 4294967296) ∧ Lim r := by
  unfold Lim; simp
theorem val_lim (n : Nat) : val (lim n) = n := by
  induction n using Nat.strongRecOn with
  | _ n ih =>
    by_cases h : n = 0
    · subst h; rw [lim_zero]; rfl
    · rw [lim_pos h, val_cons, ih (n / 4294967296) (by omega)]; omega
theorem Lim_lim (n : Nat) : Lim (lim n) := by
  induction n using Nat.strongRecOn with
  | _ n ih =>
    by_cases h : n = 0
    · subst h; rw [lim_zero]; exact Lim_nil
    · rw [lim_pos h, Lim_cons]; exact ⟨by omega, ih (n / 4294967296) (by omega)⟩
theorem pw_succ (k : Nat) : 4294967296 ^ (k + 1) = 4294967296 * 4294967296 ^ k := by rw [Nat.pow_succ, Nat.mul_comm]
theorem pw_pos (k : Nat) : 0 < 4294967296 ^ k := Nat.pow_pos (by omega)
theorem val_lt : ∀ {xs : List Int}, Lim xs → val xs < 4294967296 ^ xs.length
  | [], _ => by simp [val]
  | x :: r, h => by
    have hx := (Lim_cons.1 h).1
    have ih := val_lt (Lim_cons.1 h).2
    rw [val_cons, List.length_cons, pw_succ]
    omega
theorem Lim_append {xs ys : List Int} (hx : Lim xs) (hy : Lim ys) : Lim (xs ++ ys) := by
  intro x h
  rcases List.mem_append.1 h with h | h
  · exact hx x h
  · exact hy x h
theorem Lim_take {xs : List Int} (h : Lim xs) (k : Nat) : Lim (xs.take k) := fun x hx => h x (List.mem_of_mem_take hx)
theorem Lim_drop {xs : List Int} (h : Lim xs) (k : Nat) : Lim (xs.drop k) := fun x hx => h x (List.mem_of_mem_drop hx)
theorem Lim_set {xs : List Int} (h : Lim xs) (k : Nat) {x : Int} (h0 : 0 ≤ x) (h1 : x < 4294967296) : Lim (xs.set k x) := by
  intro y hy
  rcases List.mem_or_eq_of_mem_set hy with hy | rfl
  · exact h y hy
  · exact ⟨h0, h1⟩
theorem Lim_replicate (k : Nat) : Lim (List.replicate k 0) := by
  intro x h
  obtain rfl := List.eq_of_mem_replicate h
  omega
theorem val_append : ∀ (xs ys : List Int), val (xs ++ ys) = val xs + 4294967296 ^ xs.length * val ys
  | [], ys => by simp [val]
  | x :: r, ys => by
    rw [List.cons_append, val_cons, val_cons, val_append r ys, List.length_cons, pw_succ, Nat.mul_add, Nat.mul_assoc]
    omega
theorem val_replicate : ∀ k : Nat, val (List.replicate k 0) = 0
  | 0 => rfl
  | k + 1 => by rw [List.replicate_succ, val_cons, val_replicate k]; rfl
/-- a limb, 0 beyond the end -/
def at_ (xs : List Int) (k : Nat) : Int := xs.getD k 0
theorem at_range {xs : List Int} (h : Lim xs) (k : Nat) : 0 ≤ at_ xs k ∧ at_ xs k < 4294967296 := by
  unfold at_
  by_cases hk : k < xs.length
  · rw [List.getD_eq_getElem?_getD, List.getElem?_eq_getElem hk]; exact h _ (List.getElem_mem hk)
  · rw [List.getD_eq_getElem?_getD, List.getElem?_eq_none (by omega)]; simp
theorem take_snoc (xs : List Int) (k : Nat) (h : k < xs.length) : xs.take (k + 1) = xs.take k ++ [at_ xs k] := by
  rw [List.take_succ_eq_append_getElem h]; simp [at_, List.getD_eq_getElem?_getD, List.getElem?_eq_getElem h]
theorem val_take_succ (xs : List Int) (k : Nat) (h : k < xs.length) : val (xs.take (k + 1)) = val (xs.take k) + 4294967296 ^ k * (at_ xs k).toNat := by
  rw [take_snoc xs k h, val_append, List.length_take, Nat.min_eq_left (by omega), val_cons, val_nil, Nat.mul_zero, Nat.add_zero]
theorem val_take_over (xs : List Int) (k : Nat) (h : xs.length ≤ k) : val (xs.take (k + 1)) = val (xs.take k) := by
  rw [List.take_of_length_le h, List.take_of_length_le (by omega)]
theorem val_take_succ' (xs : List Int) (k : Nat) : val (xs.take (k + 1)) = val (xs.take k) + 4294967296 ^ k * (at_ xs k).toNat := by
  by_cases h : k < xs.length
  · exact val_take_succ xs k h
  · rw [val_take_over xs k (by omega), at_, List.getD_eq_getElem?_getD, List.getElem?_eq_none (by omega)]; simp
theorem val_take_le (xs : List Int) (k : Nat) : val (xs.take k) ≤ val xs := by
  have h := val_append (xs.take k) (xs.drop k)
  rw [List.take_append_drop] at h
  rw [h]; omega
theorem val_split (xs : List Int) (k : Nat) (h : k ≤ xs.length) : val xs = val (xs.take k) + 4294967296 ^ k * val (xs.drop k) := by
  have e := val_append (xs.take k) (xs.drop k)
  rw [List.take_append_drop, List.length_take, Nat.min_eq_left h] at e
  exact e
theorem at_set (xs : List Int) (k j : Nat) (x : Int) (hk : k < xs.length) : at_ (xs.set k x) j = if j = k then x else at_ xs j := by
  unfold at_
  by_cases e : j = k
  · subst e; rw [if_pos rfl, List.getD_eq_getElem?_getD, List.getElem?_set_self hk]; rfl
  · rw [if_neg e, List.getD_eq_getElem?_getD, List.getElem?_set_ne (by omega), ← List.getD_eq_getElem?_getD]
theorem take_set_le (xs : List Int) (k i : Nat) (x : Int) (h : k ≤ i) : (xs.set i x).take k = xs.take k := by
  rw [List.take_set_of_le h]
theorem val_set : ∀ (xs : List Int) (k : Nat) (x : Int), k < xs.length → val (xs.set k x) + 4294967296 ^ k * (at_ xs k).toNat = val xs + 4294967296 ^ k * x.toNat
  | [], k, x, h => by simp at h
  | y :: r, 0, x, _ => by simp [val, at_]; omega
  | y :: r, k + 1, x, h => by
    have ih := val_set r k x (by simpa using h)
    rw [List.set_cons_succ, val_cons, val_cons, pw_succ, show at_ (y :: r) (k + 1) = at_ r k by simp [at_], Nat.mul_assoc, Nat.mul_assoc]
    have e1 : 4294967296 * (val (r.set k x) + 4294967296 ^ k * (at_ r k).toNat) = 4294967296 * (val r + 4294967296 ^ k * x.toNat) := by rw [ih]
    rw [Nat.mul_add, Nat.mul_add] at e1
    omega
/-- normal: no nought at the end -/
def Nrm (xs : List Int) : Prop := xs = [] ∨ at_ xs (xs.length - 1) ≠ 0
theorem lim_val_of_nrm : ∀ {xs : List Int}, Lim xs → Nrm xs → lim (val xs) = xs
  | [], _, _ => lim_zero
  | x :: r, hl, hn => by
    have hx := (Lim_cons.1 hl).1
    have hr := (Lim_cons.1 hl).2
    have hnr : Nrm r := by
      rcases r with _ | ⟨y, s⟩
      · exact .inl rfl
      · refine .inr ?_
        rcases hn with hn | hn
        · cases hn
        · simpa [at_] using hn
    have ih := lim_val_of_nrm hr hnr
    have hpos : val (x :: r) ≠ 0 := by
      rcases r with _ | ⟨y, s⟩
      · rcases hn with hn | hn
        · cases hn
        · simp [at_] at hn; rw [val_cons, val_nil]; omega
      · intro h0
        rw [val_cons] at h0
        have : val (y :: s) = 0 := by omega
        rw [this, lim_zero] at ih
        cases ih
    rw [lim_pos hpos]
    have e1 : val (x :: r) % 4294967296 = x.toNat := by rw [val_cons]; omega
    have e2 : val (x :: r) / 4294967296 = val r := by rw [val_cons]; omega
    rw [e1, e2, ih]
    have : ((x.toNat : Nat) : Int) = x := by omega
    rw [this]
theorem Nrm_lim (n : Nat) : Nrm (lim n) := by
  induction n using Nat.strongRecOn with
  | _ n ih =>
    by_cases h : n = 0
    · subst h; rw [lim_zero]; exact .inl rfl
    · refine .inr ?_
      rw [lim_pos h]
      by_cases h1 : n / 4294967296 = 0
      · rw [h1, lim_zero]; simp [at_]; omega
      · have hl : lim (n / 4294967296) ≠ [] := by rw [lim_pos h1]; simp
        rcases ih (n / 4294967296) (by omega) with hh | hh
        · exact absurd hh hl
        · have hp : 0 < (lim (n / 4294967296)).length := List.length_pos_iff.2 hl
          rw [List.length_cons, show (lim (n / 4294967296)).length + 1 - 1 = ((lim (n / 4294967296)).length - 1) + 1 by omega]
          simpa [at_] using hh
theorem nrm_ext {xs ys : List Int} (hx : Lim xs) (hy : Lim ys) (nx : Nrm xs) (ny : Nrm ys) (h : val xs = val ys) : xs = ys := by
  rw [← lim_val_of_nrm hx nx, ← lim_val_of_nrm hy ny, h]
theorem lim_inj {m n : Nat} (h : lim m = lim n) : m = n := by rw [← val_lim m, ← val_lim n, h]
theorem lim_eq_nil {n : Nat} : lim n = [] ↔ n = 0 := by
  constructor
  · intro h; rw [← val_lim n, h]; rfl
  · rintro rfl; exact lim_zero
theorem lim_len_pos {n : Nat} (h : n ≠ 0) : 0 < (lim n).length := List.length_pos_iff.2 (fun e => h (lim_eq_nil.1 e))
theorem lim_len_zero {n : Nat} : (lim n).length = 0 ↔ n = 0 := by rw [List.length_eq_zero_iff, lim_eq_nil]
theorem lim_len_lt (n : Nat) : n < 4294967296 ^ (lim n).length := by
  have h := val_lt (Lim_lim n)
  rwa [val_lim] at h
theorem lim_top (n : Nat) (h : n ≠ 0) : 4294967296 ^ ((lim n).length - 1) ≤ n := by
  have hp := lim_len_pos h
  have hs := val_split (lim n) ((lim n).length - 1) (by omega)
  have hd : (lim n).drop ((lim n).length - 1) = [at_ (lim n) ((lim n).length - 1)] := by
    rw [List.drop_eq_getElem_cons (by omega), show (lim n).length - 1 + 1 = (lim n).length by omega, List.drop_length]
    simp [at_, List.getD_eq_getElem?_getD, List.getElem?_eq_getElem (show (lim n).length - 1 < (lim n).length by omega)]
  have hr := at_range (Lim_lim n) ((lim n).length - 1)
  have hn : at_ (lim n) ((lim n).length - 1) ≠ 0 := by
    rcases Nrm_lim n with e | e
    · rw [e] at hp; simp at hp
    · exact e
  rw [val_lim, hd, val_cons, val_nil, Nat.mul_zero, Nat.add_zero] at hs
  have h1 : 1 ≤ (at_ (lim n) ((lim n).length - 1)).toNat := by omega
  have := Nat.mul_le_mul_left (4294967296 ^ ((lim n).length - 1)) h1
  omega
theorem lim_len_le {n k : Nat} (h : n < 4294967296 ^ k) : (lim n).length ≤ k := by
  by_cases h0 : n = 0
  · subst h0; rw [lim_zero]; simp
  · have ht := lim_top n h0
    have hlt : 4294967296 ^ ((lim n).length - 1) < 4294967296 ^ k := by omega
    have := (Nat.pow_lt_pow_iff_right (by omega : 1 < 4294967296)).1 hlt
    have := lim_len_pos h0
    omega
theorem lim_len_mono {m n : Nat} (h : m ≤ n) : (lim m).length ≤ (lim n).length := lim_len_le (Nat.lt_of_le_of_lt h (lim_len_lt n))
theorem lim_val_len {xs : List Int} (h : Lim xs) : (lim (val xs)).length ≤ xs.length := lim_len_le (val_lt h)
theorem lim_val_take {xs : List Int} (h : Lim xs) : lim (val xs) = xs.take (lim (val xs)).length := by
  have hl := lim_val_len h
  have hs := val_split xs (lim (val xs)).length hl
  have hlt := lim_len_lt (val xs)
  have hz : val (xs.drop (lim (val xs)).length) = 0 := by
    rcases Nat.eq_zero_or_pos (val (xs.drop (lim (val xs)).length)) with h | h
    · exact h
    · have := Nat.mul_le_mul_left (4294967296 ^ (lim (val xs)).length) h
      omega
  rw [hz, Nat.mul_zero, Nat.add_zero] at hs
  have hlen : (xs.take (lim (val xs)).length).length = (lim (val xs)).length := by rw [List.length_take]; omega
  refine (lim_val_of_nrm (Lim_take h _) ?_).symm.trans (by rw [← hs]) |>.symm
  rcases Nat.eq_zero_or_pos (lim (val xs)).length with h0 | h0
  · left; rw [h0]; simp
  · right
    rw [hlen]
    intro he
    have e1 := val_take_succ xs ((lim (val xs)).length - 1) (by omega)
    rw [show (lim (val xs)).length - 1 + 1 = (lim (val xs)).length by omega, ← hs] at e1
    have e2 : at_ (xs.take (lim (val xs)).length) ((lim (val xs)).length - 1) = at_ xs ((lim (val xs)).length - 1) := by
      unfold at_; rw [List.getD_eq_getElem?_getD, List.getElem?_take, if_pos (by omega), ← List.getD_eq_getElem?_getD]
    rw [← e2, he] at e1
    have e3 := val_lt (Lim_take h ((lim (val xs)).length - 1))
    rw [List.length_take, Nat.min_eq_left (by omega)] at e3
    have hv0 : val xs ≠ 0 := fun e => by rw [e, lim_zero] at h0; simp at h0
    have := lim_top (val xs) hv0
    simp at e1
    omega
/-- What a loop that goes down over noughts finds. -/
theorem trim_step (xs : List Int) (k : Nat) (h0 : 0 < k) (hk : k ≤ xs.length) (hz : at_ xs (k - 1) = 0) (hv : val (xs.take k) = val xs) : val (xs.take (k - 1)) = val xs := by
  have := val_take_succ xs (k - 1) (by omega)
  rw [show k - 1 + 1 = k by omega, hv, hz] at this
  simp at this
  exact this.symm
theorem trim_end {xs : List Int} (h : Lim xs) (k : Nat) (hk : k ≤ xs.length) (hz : k = 0 ∨ at_ xs (k - 1) ≠ 0) (hv : val (xs.take k) = val xs) : k = (lim (val xs)).length := by
  have hn : Nrm (xs.take k) := by
    rcases hz with rfl | hz
    · left; simp
    · by_cases h0 : k = 0
      · left; rw [h0]; simp
      · right
        rw [List.length_take, Nat.min_eq_left hk]
        unfold at_ at *
        rwa [List.getD_eq_getElem?_getD, List.getElem?_take, if_pos (by omega), ← List.getD_eq_getElem?_getD]
  have e := lim_val_of_nrm (Lim_take h k) hn
  rw [hv] at e
  rw [e, List.length_take, Nat.min_eq_left hk]
end Go.Proofs.Ytnjbpkopekgihaa
