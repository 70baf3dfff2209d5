/- Walks: nat.Shift down. -/
import Derived.Test.YtnjbpkopekgihaaA15
import Derived.Test.YtnjbpkopekgihaaB1
import Derived.RegionTactic
import Derived.BigRegion
namespace Go.Proofs.Ytnjbpkopekgihaa
open Go.RowKit Go.Proofs.YtnjbpkopekgihaaW.PrintWords
set_option linter.unusedVariables false
set_option linter.unusedSimpArgs false
set_option maxHeartbeats 4000000 in
set_option maxRecDepth 100000 in
theorem down_any (va : Value) (ps : List Int) (t : Nat) (w : World) (ha : Arg w va ps) (ht0 : 1 ≤ t) (ht1 : t ≤ 1048576) (hs : ps.length ≤ 70368744177664) :
    Calls Try.prog 41 #[va, .int .i64 (-(t : Int))] w fun e w' => ∃ u, e = .returned (.tuple #[u, .int .i64 0]) ∧ Res w.heap.size w' u (val ps / 2 ^ t) ∧ Below w.heap.size w w' := by
  obtain ⟨xs, hxs⟩ : ∃ xs, xs = lim (val ps) := ⟨_, rfl⟩
  have hll := lim_val_len ha.lims
  have hlx : Lim xs := by rw [hxs]; exact Lim_lim _
  have hxv : val xs = val ps := by rw [hxs]; exact val_lim _
  rw [← hxs] at hll
  obtain ⟨q, hq⟩ : ∃ q, q = t / 32 := ⟨_, rfl⟩
  obtain ⟨d, hd⟩ : ∃ d, d = t % 32 := ⟨_, rfl⟩
  have hq' : (t : Int) / 32 = (q : Int) := by omega
  have hd' : (t : Int) % 32 = (d : Int) := by omega
  have hd32 : d < 32 := by omega
  have hqm : q ≤ 32768 := by omega
  have HT := Aside0.mk (show t = 32 * q + d by omega)
  have HA := Aside0.mk ha
  have HXS := Aside0.mk hxs
  have HXV := Aside0.mk hxv
  have HLX := Aside0.mk hlx
  clear ha hxs hxv hlx hq hd
  by_cases hgone : xs.length ≤ q
  · have HZ := Aside0.mk (show val ps / 2 ^ t = 0 by rw [HT.out]; exact shift_gone _ _ _ (by rw [← HXS.out]; exact hgone))
    have hb : decide ((q : Int) ≥ (xs.length : Int)) = true := decide_eq_true (by omega)
    go_enter Try.func41, Try.ntmps41
    go_wp2_with fail
    refine (trim_any _ _ _ HA.out).mono ?_
    rintro e w' ⟨u, rfl, hu, rfl⟩
    rw [← HXS.out] at hu
    obtain ⟨⟨A, c, rfl, hca, hra⟩, hl⟩ := hu
    clear hra hl hca
    go_wp2
    go_ret2
    exact ⟨_, rfl, by rw [HZ.out]; exact Res.nil _ _, Below.refl _ _⟩
  · have hb : decide ((q : Int) ≥ (xs.length : Int)) = false := decide_eq_false (by omega)
    obtain ⟨us, hus⟩ : ∃ us, us = xs.drop q := ⟨_, rfl⟩
    have hlu : Lim us := by rw [hus]; exact Lim_drop HLX.out q
    have hul : us.length = xs.length - q := by rw [hus, List.length_drop]
    have huv : val us = val ps / 4294967296 ^ q := by rw [hus, val_drop_div xs HLX.out q (by omega), HXV.out]
    obtain ⟨n, hn⟩ : ∃ n, n = xs.length - q := ⟨_, rfl⟩
    rw [← hn] at hul
    have hn0 : 0 < n := by omega
    have hn1 : n ≤ 70368744177664 := by omega
    have hmk := print_make (P := Try.prog) 23 58 .u32 4 Try.underlying23 info58 (by omega) n (by omega)
    have HN := Aside0.mk hn
    have HUS := Aside0.mk hus
    have HLU := Aside0.mk hlu
    have HUL := Aside0.mk hul
    have HUV := Aside0.mk huv
    clear hus hlu hul huv hn
    go_enter Try.func41, Try.ntmps41
    go_wp2_with fail
    refine (trim_any _ _ _ HA.out).mono ?_
    rintro e w' ⟨u, rfl, hu, rfl⟩
    rw [← HXS.out] at hu
    obtain ⟨⟨A, c, rfl, hca, hra⟩, hl⟩ := hu
    obtain ⟨i0, hi0, _, hsz, _⟩ := info_parts info58
    obtain ⟨A1, hcut, hA1⟩ := print_cut (P := Try.prog) 23 58 .i64 Try.underlying23 hi0 hsz A xs.length c q (by omega)
    have HRU := Aside0.mk (hA1 w .u32 xs hca hra)
    rw [← HUS.out, ← HN.out] at HRU
    rw [← HN.out] at hcut
    clear hra hl hi0 hsz hA1
    have HD := Aside0.mk hd'
    go_wp2
    rw [HD.out]
    clear hcut
    go_loopw [57] (fun i wr => ∃ (k : Nat) (rs : List Int), i = .int .i64 (k : Int) ∧ k ≤ n ∧ Aside0 (DnInv us d n k rs) ∧ Aside0 (wr.ownsRow w.heap.size 58 1 (.slice (some ⟨w.heap.size, 0, none⟩) n n) n (nums .u32 rs)) ∧ Aside0 (Below w.heap.size w wr)) (fun i _ => n - (intOf i).toNat)
    case atStart => exact ⟨0, _, rfl, Nat.zero_le _, ⟨dn_start _ _ _⟩, ⟨own_made w _ 58 .u32 _ (Nat.le_refl _) (by omega)⟩, ⟨below_alloc (Below.refl _ _) _⟩⟩
    case round =>
      clear hmk
      obtain ⟨k, rs, rfl, hk, hinv, hown, hbel⟩ := hrel
      by_cases hlt : k < n
      · obtain ⟨ad, rfl, hcell⟩ := reads_nat (HRU.out.below hbel.out) k hlt
        obtain ⟨hc1, hc2⟩ := own_cell hown.out k hlt
        obtain ⟨a0, a1⟩ := at_range HLU.out k
        obtain ⟨b0, b1⟩ := at_range HLU.out (k + 1)
        have hmin : min d 32 = d := by omega
        have hst := Aside0.mk (dn_step hinv.out hd32 hlt HLU.out (by have := HUL.out; omega))
        by_cases hk1 : k + 1 < n
        · obtain ⟨_, e1, hcell2⟩ := reads_nat (HRU.out.below hbel.out) (k + 1) hk1
          cases e1
          have hmin2 : min (32 - d) 64 = 32 - d := by omega
          have hp1 := own_put hown.out hbel.out k (at_ us k / 2 ^ d)
          have HP1 := Aside0.mk hp1
          clear hp1
          go_wp2
          obtain ⟨w1, hw1⟩ : ∃ w1, w1 = wr.setCell ⟨w.heap.size, k, none⟩ (.int .u32 (at_ us k / 2 ^ d)) := ⟨_, rfl⟩
          have HP := Aside0.mk (show w1.ownsRow w.heap.size 58 1 (.slice (some ⟨w.heap.size, 0, none⟩) n n) n (nums .u32 (rs.set k (at_ us k / 2 ^ d))) ∧ Below w.heap.size w w1 by rw [hw1]; exact HP1.out)
          rw [← hw1]
          clear hw1 HP1 hcell hcell2 hc1 hc2 hbel hown
          obtain ⟨hc1, hc2⟩ := own_cell HP.out.1 k hlt
          have hrl : k < rs.length := by have := hinv.out.2.1; omega
          rw [at_set rs k k _ hrl, if_pos rfl] at hc1
          obtain ⟨_, e1, hcell2⟩ := reads_nat (HRU.out.below HP.out.2) (k + 1) hk1
          cases e1
          have hcell3 : w1.cell? ⟨ad.block, ad.off + (k + 1), none⟩ = some (.int .u32 (at_ us (k + 1))) := by
            have h := hcell2
            unfold Addr.add at h
            rwa [if_neg (by simp)] at h
          have hdn := or_hi' (at_ us k) (at_ us (k + 1)) d hd32 a0 a1 b0
          go_region
          go_wp2
          go_roundw
          case rel =>
            have hq := own_put HP.out.1 HP.out.2 k (dnLimb (at_ us k) (at_ us (k + 1)) d)
            rw [List.set_set] at hq
            exact ⟨k + 1, _, by go_num, by omega, hst, ⟨hq.1⟩, ⟨below_drew' hq.2⟩⟩
          case measure => simp [intOf]; omega
        · have hlast := Aside0.mk (show at_ us (k + 1) = 0 from at_over us (k + 1) (by have := HUL.out; omega))
          have hst' := Aside0.mk (show DnInv us d n (k + 1) (rs.set k (at_ us k / 2 ^ d)) by have := hst.out; rwa [hlast.out, dnLimb_zero] at this)
          clear hst
          go_wp2
          go_roundw
          case rel =>
            have hq := own_put hown.out hbel.out k (at_ us k / 2 ^ d)
            exact ⟨k + 1, _, by go_num, by omega, hst', ⟨hq.1⟩, ⟨hq.2⟩⟩
          case measure => simp [intOf]; omega
      · obtain rfl : k = n := by omega
        have hend := dn_floor hinv.out HUL.out
        have HR := Aside0.mk (own_arg hown.out hend.1)
        have HV := Aside0.mk (show val rs = val ps / 2 ^ t by rw [hend.2.1, HUV.out, HT.out, shift_split])
        have HL := Aside0.mk hend.2.2
        have hsz := hbel.out.size
        clear hend
        go_wp2_with fail
        refine (own_any _ _ _ HR.out (by have := HL.out; omega)).mono ?_
        rintro e w5 ⟨u, rfl, hu5, hb5⟩
        rw [HV.out] at hu5
        have HU5 := Aside0.mk hu5
        have HB5 := Aside0.mk hb5
        clear hu5 hb5
        go_wp2
        go_ret2
        exact ⟨u, rfl, HU5.out.weaken hsz, below_then hbel.out hsz HB5.out⟩
end Go.Proofs.Ytnjbpkopekgihaa
