/- Walks: nat.long. -/
import Derived.Test.YtnjbpkopekgihaaA14
import Derived.Test.YtnjbpkopekgihaaS0
import Derived.Test.YtnjbpkopekgihaaB8
import Derived.Test.YtnjbpkopekgihaaB9
import Derived.RegionTactic
import Derived.BigRegion
namespace Go.Proofs.Ytnjbpkopekgihaa
open Go.RowKit Go.Proofs.YtnjbpkopekgihaaW.PrintWords
set_option linter.unusedVariables false
set_option linter.unusedSimpArgs false
theorem lz32_any (x : Int) (w : World) (h0 : 0 ≤ x) (h1 : x < 4294967296) : Calls Try.prog 99 #[.int .u32 x] w fun e w' => e = .returned (.int .i64 (32 - (Lib.bitLen x.toNat : Int))) ∧ w = w' :=
  (Try.bits_LeadingZeros32 x w h0 (by omega)).mono fun e w' h => ⟨h.1, h.2.symm⟩
theorem digit_at {B g L cap : Nat} {pre post m0 vs : List Int} (w : World) (n c0 c1 : Nat) (av : Addr) (j : Nat) (hj : pre.length = j) (hmid : Mid B g L cap pre post w m0) (hm : Lim m0) (hv : Lim vs) (h0 : m0.length = n + 1) (hvl : vs.length = n) (hn : 2 ≤ n)
    (htop : 2147483648 ≤ at_ vs (n - 1)) (hq : val m0 < 4294967296 * val vs) (hrv : ReadsInt w .u32 (some av) n vs) (hne : av.block ≠ g) :
    Calls Try.prog 100 #[.slice (some ⟨g, j, none⟩) (n + 1) c0, .slice (some av) n c1] w fun e w' =>
      ∃ ms, e = .returned (.int .u32 ((val m0 / val vs : Nat) : Int)) ∧ Mid B g L cap pre post w' ms ∧ Lim ms ∧ ms.length = n + 1 ∧ val ms = val m0 % val vs ∧ w.grownBy w' (some g) := by
  subst hj
  exact digit_any w n c0 c1 av hmid hm hv h0 hvl hn htop hq hrv hne
set_option maxHeartbeats 16000000 in
set_option maxRecDepth 100000 in
theorem long_any (va vb : Value) (ps qs : List Int) (w : World) (ha : Arg w va ps) (hb : Arg w vb qs) (hnb : Nrm qs) (hbl : 2 ≤ qs.length) (hle : qs.length ≤ ps.length) (hs : ps.length + 1 ≤ 70368744177664) :
    Calls Try.prog 78 #[va, vb] w fun e w' => ∃ q r, e = .returned (.tuple #[q, r]) ∧ Res w.heap.size w' q (val ps / val qs) ∧ Res w.heap.size w' r (val ps % val qs) ∧ NeRow q r ∧ Below w.heap.size w w' := by
  have hA := ha
  have hB := hb
  obtain ⟨⟨A, ca, rfl, hca, hra⟩, hla⟩ := ha
  obtain ⟨⟨B, cb, rfl, hcb, hrb⟩, hlb⟩ := hb
  obtain ⟨n, hn⟩ : ∃ n, n = qs.length := ⟨_, rfl⟩
  obtain ⟨m, hm⟩ : ∃ m, m = ps.length := ⟨_, rfl⟩
  rw [← hn] at hbl hle hcb
  rw [← hm] at hle hs hca
  rw [← hn] at hB
  rw [← hm] at hA
  have HA := Aside0.mk hA
  have HN := Aside0.mk hn
  have HMM := Aside0.mk hm
  obtain ⟨adb, rfl, hcell⟩ := reads_nat hrb (n - 1) (by omega)
  obtain ⟨r0, r1⟩ := at_range hlb (n - 1)
  have htop0 : (at_ qs (n - 1)).toNat ≠ 0 := by have := nrm_top hlb hnb (by omega); rwa [← hn] at this
  have hup := up_bd (at_ qs (n - 1)).toNat (by omega) htop0
  have hbd := bitLen_bd (at_ qs (n - 1)).toNat (by omega) htop0
  obtain ⟨s, hsd⟩ : ∃ s, s = 32 - Lib.bitLen (at_ qs (n - 1)).toNat := ⟨_, rfl⟩
  rw [← hsd] at hup
  have HS := Aside0.mk (show (32 : Int) - (Lib.bitLen (at_ qs (n - 1)).toNat : Int) = (s : Int) by omega)
  have hs32 := hup.1
  have HUP := Aside0.mk hup
  have HB := Aside0.mk hB
  have HLA := Aside0.mk hla
  have HLB := Aside0.mk hlb
  have HNB := Aside0.mk hnb
  clear hra hla hrb hlb hnb htop0 hup hbd hsd hA hB
  rw [← hn, ← hm]
  clear hn hm
  go_enter Try.func78, Try.ntmps78
  go_wp2_with fail
  refine (lz32_any _ _ r0 r1).mono ?_
  rintro e w' ⟨rfl, rfl⟩
  rw [HS.out]
  go_wp2_with fail
  refine (moved_any _ qs s _ HB.out hs32 (by have := HN.out; omega)).mono ?_
  rintro e w1 ⟨v1, cs, rfl, hown1, hlc, hcl, hcv, hb1⟩
  have htp := moved_top HLB.out hlc HN.out.symm (by omega) (by rw [hcl, HN.out]) hcv HUP.out.2.1 HUP.out.2.2
  have hcl' : cs.length = n + 1 := by rw [hcl, HN.out]
  rw [hcl'] at hown1
  obtain ⟨gv, cv, rfl, hgv, hgv2⟩ := hown1.form (by omega)
  have hvr := (own_arg hown1 hlc).form
  obtain ⟨_, _, e1, hcv1, hvr⟩ := hvr
  injection e1 with e1 e2 e3
  subst e1 e3
  have hrv := ReadsInt.take_ hvr n (by omega)
  obtain ⟨vs, hvs⟩ : ∃ vs, vs = cs.take n := ⟨_, rfl⟩
  rw [← hvs] at hrv htp
  have hvl : vs.length = n := by rw [hvs]; simp; omega
  have hlv : Lim vs := by rw [hvs]; exact Lim_take hlc n
  have HRV := Aside0.mk hrv
  have HTP := Aside0.mk htp
  have HVL := Aside0.mk hvl
  have HLV := Aside0.mk hlv
  have HB1 := Aside0.mk hb1
  have hgv3 : gv < w1.heap.size := own_lt hown1 gv rfl
  rw [hcl'] at hcv1
  clear e2 hown1 hvr hcv hcl hcl' hlc hrv htp hvl hlv hvs hb1 hgv2
  go_wp2_with fail
  refine (moved_any _ ps s _ (HA.out.below HB1.out) hs32 (by have := HMM.out; omega)).mono ?_
  rintro e w2 ⟨v2, us0, rfl, hown2, hlu, hul, huv, hb2⟩
  have hul' : us0.length = m + 1 := by rw [hul, HMM.out]
  rw [hul'] at hown2
  obtain ⟨gu, cu, rfl, hgu, hgu2⟩ := hown2.form (by omega)
  obtain ⟨_, _, e1, hcu1⟩ := own_cap hown2
  injection e1 with e1 e2 e3
  subst e3
  have hgu3 : gu < w2.heap.size := own_lt hown2 gu rfl
  have HO2 := Aside0.mk hown2
  have HRV2 := Aside0.mk (HRV.out.below hb2)
  have HB2 := Aside0.mk (below_then HB1.out HB1.out.size hb2)
  have HLU := Aside0.mk hlu
  have HUL := Aside0.mk hul'
  have HUV := Aside0.mk huv
  have hsz1 := HB1.out.size
  have hsz2 := hb2.size
  clear hown2 hb2 HRV hlu hul huv hul' hgu2 e1
  have hmk := print_make (P := Try.prog) 23 58 .u32 4 Try.underlying23 info58 (by omega) (m + 1 - n) (by omega)
  rw [show ((m + 1 - n : Nat) : Int) = (m : Int) + 1 - n by omega] at hmk
  clear e2
  have hV0 : 0 < val vs := by
    have h1 := val_take_succ vs (n - 1) (by have := HVL.out; omega)
    have h2 := HTP.out.2.1
    have h3 := pw_pos (n - 1)
    rcases Nat.eq_zero_or_pos (val vs) with h | h
    · exfalso
      have h4 := Nat.mul_le_mul_left (4294967296 ^ (n - 1)) (show 1 ≤ (at_ vs (n - 1)).toNat by omega)
      have h5 := val_take_le vs (n - 1 + 1)
      omega
    · exact h
  have HV0 := Aside0.mk hV0
  have HVB := Aside0.mk (show val vs < 4294967296 ^ n by rw [HTP.out.1]; exact HTP.out.2.2)
  have HFF := Aside0.mk (show val us0 < 4294967296 ^ (m + 1 - n) * val vs by
    have h1 := val_lt HLA.out
    rw [← HMM.out] at h1
    have h2 : lim (val qs) = qs := lim_val_of_nrm HLB.out HNB.out
    have h3 := lim_top (val qs) (fun e => by rw [e, lim_zero] at h2; have := HN.out; rw [← h2] at this; simp at this; omega)
    rw [h2, ← HN.out] at h3
    rw [HUV.out, HTP.out.1]
    exact first_fits h1 h3 (by omega) hle)
  clear hV0
  go_wp2
  go_loopw [11] (fun i wr => ∃ (k : Nat) (us rs : List Int), i = .int .i64 ((k : Int) - 1) ∧ k ≤ m + 1 - n ∧ Aside0 (LgInv (val us0) (val vs) m n k us rs) ∧ Aside0 (wr.ownsRow w.heap.size 58 1 (.slice (some ⟨gu, 0, none⟩) (m + 1) cu) (m + 1) (nums .u32 us)) ∧ Aside0 (wr.ownsRow w2.heap.size 58 1 (.slice (some ⟨w2.heap.size, 0, none⟩) (m + 1 - n) (m + 1 - n)) (m + 1 - n) (nums .u32 rs)) ∧ Aside0 (ReadsInt wr .u32 (some ⟨gv, 0, none⟩) n vs) ∧ Aside0 (Below w.heap.size w wr)) (fun i _ => (intOf i + 1).toNat)
  case atStart =>
    exact ⟨m + 1 - n, us0, _, by congr 1; omega, Nat.le_refl _, ⟨lg_start HLU.out HUL.out rfl HFF.out⟩, ⟨(own_weaken HO2.out hsz1).alloc _⟩, ⟨own_made w2 _ 58 .u32 _ (Nat.le_refl _) (by omega)⟩, ⟨HRV2.out.below (below_alloc (Below.refl _ _) _)⟩, ⟨HB2.out.alloc HB2.out.size _⟩⟩
  case round =>
    clear hmk
    obtain ⟨k, us, rs, rfl, hk, hinv, hou, hoq, hrv, hbel⟩ := hrel
    by_cases h0 : 0 < k
    · obtain ⟨j, rfl⟩ : ∃ j, k = j + 1 := ⟨k - 1, by omega⟩
      have hjc : (((j + 1 : Nat) : Int) - 1) = (j : Int) := by omega
      rw [hjc]
      clear hjc h0
      have hul1 : us.length = m + 1 := hinv.out.2.1
      obtain ⟨pre, hpre⟩ : ∃ pre, pre = us.take j := ⟨_, rfl⟩
      obtain ⟨mid, hmid⟩ : ∃ mid, mid = (us.drop j).take (n + 1) := ⟨_, rfl⟩
      obtain ⟨post, hpost⟩ : ∃ post, post = us.drop (j + n + 1) := ⟨_, rfl⟩
      have hsp := split3 us j n (by omega)
      rw [← hpre, ← hmid, ← hpost] at hsp
      have hprel : pre.length = j := by rw [hpre, List.length_take]; omega
      have hmidl : mid.length = n + 1 := by rw [hmid, List.length_take, List.length_drop]; omega
      have hml : Lim mid := by rw [hmid]; exact Lim_take (Lim_drop hinv.out.1 _) _
      have hlm := lg_mid hinv.out (by omega) hk hle HVB.out
      rw [show j + 1 - 1 = j by omega, ← hmid] at hlm
      have HM := Aside0.mk (show Mid w.heap.size gu (m + 1) cu pre post wr mid from ⟨by rw [← hsp]; exact hou.out⟩)
      have HLM := Aside0.mk hlm
      have HML := Aside0.mk hml
      have HMIDL := Aside0.mk hmidl
      have HPREL := Aside0.mk hprel
      have HPRE := Aside0.mk hpre
      have HMID := Aside0.mk hmid
      have HPOST := Aside0.mk hpost
      clear hsp hprel hmidl hml hlm hpre hmid hpost hul1 hou
      go_wp2_with fail
      rw [show j + n + 1 - j = n + 1 by omega]
      refine (digit_at wr n _ _ _ j HPREL.out HM.out HML.out HLV.out HMIDL.out HVL.out hbl HTP.out.2.1 HLM.out.2.1 hrv.out (by simp; omega)).mono ?_
      rintro e w3 ⟨ms, rfl, hmid3, hlm3, hml3, hmv3, hgr3⟩
      have hoq3 := own_other hoq.out hgr3 (.inr (by simp [Value.ownBlock]; omega))
      have hst := Aside0.mk (lg_step hinv.out (by omega) hk hle HVB.out HV0.out hlm3 hml3 (by rw [show j + 1 - 1 = j by omega, ← HMID.out]; exact hmv3) (val mid / val vs) (by rw [show j + 1 - 1 = j by omega, ← HMID.out]))
      have hbel3 := Aside0.mk (hbel.out.grown hgr3 hbel.out.size (fun q hq => by cases hq; omega))
      have HM3 := Aside0.mk hmid3
      have HQ3 := Aside0.mk hoq3
      have HRV3 := Aside0.mk (reads_grown hrv.out hgr3 (fun ad e => by cases e; simp; omega))
      obtain ⟨hc1, hc2⟩ := own_cell hoq3 j (by omega)
      clear hmid3 hlm3 hml3 hmv3 hgr3 hoq3 hoq hbel hrv HM
      obtain ⟨d, hd⟩ : ∃ d : Int, d = ((val mid / val vs : Nat) : Int) := ⟨_, rfl⟩
      rw [← hd]
      have HD := Aside0.mk hd
      clear hd
      go_wp2
      go_roundw
      case rel =>
        have hq := own_store HQ3.out (j : Int) d
        have hst' := hst.out
        rw [show j + 1 - 1 = j by omega, ← HPRE.out, ← HPOST.out, ← HD.out] at hst'
        exact ⟨j, pre ++ ms ++ post, rs.set j d, rfl, by omega, ⟨hst'⟩, ⟨own_other HM3.out.own hq.2 (.inr (by simp [Value.ownBlock]; omega))⟩, ⟨hq.1⟩, ⟨reads_grown HRV3.out hq.2 (fun ad e => by cases e; simp; omega)⟩, ⟨hbel3.out.grown hq.2 hbel3.out.size (fun q hq => by cases hq; omega)⟩⟩
      case measure => first | (simp [intOf]; done) | (simp [intOf]; omega)
    · obtain rfl : k = 0 := by omega
      have hend := lg_end hinv.out HV0.out
      have HE := Aside0.mk hend
      obtain ⟨hul1, hul2⟩ : us.length ≤ m + 1 ∧ m + 1 ≤ us.length := by omega
      clear hend hinv h0
      have hmk := print_make (P := Try.prog) 23 58 .u32 4 Try.underlying23 info58 (by omega) n (by omega)
      obtain ⟨w4, rfl⟩ : ∃ w4 : World, w4 = wr := ⟨_, rfl⟩
      have hru := (own_arg hou.out HE.out.1).form
      obtain ⟨_, _, e1, _, hru⟩ := hru
      injection e1 with e1 e2 e3
      subst e1
      rw [← e2] at hru
      have HRU := Aside0.mk hru
      clear e2 e3 hru
      go_wp2
      go_loopw [61] (fun i wr => ∃ (k : Nat) (rr : List Int), i = .int .i64 (k : Int) ∧ k ≤ n ∧ Aside0 (DnInv us s n k rr) ∧ Aside0 (wr.ownsRow w4.heap.size 58 1 (.slice (some ⟨w4.heap.size, 0, none⟩) n n) n (nums .u32 rr)) ∧ Aside0 (Below w4.heap.size w4 wr)) (fun i _ => n - (intOf i).toNat)
      case atStart => exact ⟨0, _, rfl, Nat.zero_le _, ⟨dn_start _ _ _⟩, ⟨own_made w4 _ 58 .u32 _ (Nat.le_refl _) (by omega)⟩, ⟨below_alloc (Below.refl _ _) _⟩⟩
      case round =>
        clear hmk
        obtain ⟨k, rr, rfl, hk, hinv, hor, hb4⟩ := hrel
        by_cases hlt : k < n
        · obtain ⟨_, e1, hcu1⟩ := reads_nat (HRU.out.below hb4.out) k (by omega)
          cases e1
          obtain ⟨_, e1, hcu2⟩ := reads_nat (HRU.out.below hb4.out) (k + 1) (by omega)
          cases e1
          rw [add_plain] at hcu1 hcu2
          obtain ⟨hc1, hc2⟩ := own_cell hor.out k (by omega)
          obtain ⟨a0, a1⟩ := at_range HE.out.1 k
          obtain ⟨b0, b1⟩ := at_range HE.out.1 (k + 1)
          have hmin : min s 32 = s := by omega
          have hmin2 : min (32 - s) 64 = 32 - s := by omega
          have hdn := or_hi' (at_ us k) (at_ us (k + 1)) s hs32 a0 a1 b0
          have hst := Aside0.mk (dn_step hinv.out hs32 hlt HE.out.1 (by omega))
          go_wp2
          go_region
          go_wp2
          go_roundw
          case rel =>
            have hq := own_put hor.out hb4.out k (dnLimb (at_ us k) (at_ us (k + 1)) s)
            exact ⟨k + 1, _, by go_num, by omega, hst, ⟨hq.1⟩, ⟨below_drew' hq.2⟩⟩
          case measure => simp [intOf]; omega
        · obtain rfl : k = n := by omega
          have hmod : val us = val ps % val qs * 2 ^ s := by
            rw [HE.out.2.2.2.2.2, HUV.out, HTP.out.1, Nat.mul_mod_mul_right]
          have hdiv : val rs = val ps / val qs := by
            rw [HE.out.2.2.2.2.1, HUV.out, HTP.out.1, Nat.mul_div_mul_right _ _ (Nat.two_pow_pos s)]
          have hde := dn_end hinv.out hs32 HE.out.1 (by omega) hmod (by rw [HE.out.2.2.2.2.2]; exact Nat.lt_trans (Nat.mod_lt _ HV0.out) HVB.out) (by omega)
          have hsz4 := hbel.out.size
          have hsz5 := hb4.out.size
          have HQ := Aside0.mk (own_arg ((pw_own_below hoq.out hb4.out)) HE.out.2.2.1)
          have HR := Aside0.mk (own_arg hor.out hde.1)
          have HDV := Aside0.mk hdiv
          have HDE := Aside0.mk hde
          have HB5 := Aside0.mk (below_then hbel.out hsz4 hb4.out)
          clear hmod hdiv hde
          go_wp2_with fail
          refine (own_any _ _ _ HQ.out (by have := HE.out.2.2.2.1; omega)).mono ?_
          rintro e w5 ⟨q, rfl, hq5, hb5⟩
          have HQ5 := Aside0.mk hq5
          have HB55 := Aside0.mk hb5
          clear hq5 hb5
          go_wp2_with fail
          refine (own_any _ _ _ (HR.out.below HB55.out) (by have := HDE.out.2.2; omega)).mono ?_
          rintro e w6 ⟨r, rfl, hr6, hb6⟩
          have HR6 := Aside0.mk hr6
          have HB6 := Aside0.mk hb6
          clear hr6 hb6
          go_wp2
          go_ret2
          have h1 := HB5.out.size
          have h2 := HB55.out.size
          have h3 := HB6.out.size
          have hq := HQ5.out
          have hr := HR6.out
          rw [HDV.out] at hq
          rw [HDE.out.2.1] at hr
          exact ⟨q, r, rfl, (hq.below HB6.out).weaken h1, hr.weaken (by omega), fun b hb hb' => by have := own_lt hq.own b hb; have := own_base hr.own b hb'; omega, below_then (below_then HB5.out h1 HB55.out) (by omega) HB6.out⟩
end Go.Proofs.Ytnjbpkopekgihaa
