/- Walks: nat.digit. -/
import Derived.Test.YtnjbpkopekgihaaA12
import Derived.Test.YtnjbpkopekgihaaB3
import Derived.Deep.QuietTactic
import Derived.BigQuiet
import Derived.Deep.CutBlock
import Derived.Deep.DeepCutAuto
import Derived.Deep.RegionWith
namespace Go.Proofs.Ytnjbpkopekgihaa
open Go.RowKit Go.Proofs.YtnjbpkopekgihaaW.PrintWords
set_option linter.unusedVariables false
set_option linter.unusedSimpArgs false
set_option maxHeartbeats 16000000 in
set_option maxRecDepth 100000 in
theorem digit_any {B g L cap : Nat} {pre post m0 vs : List Int} (w : World) (n c0 c1 : Nat) (av : Addr) (hmid : Mid B g L cap pre post w m0) (hm : Lim m0) (hv : Lim vs) (h0 : m0.length = n + 1) (hvl : vs.length = n) (hn : 2 ≤ n)
    (htop : 2147483648 ≤ at_ vs (n - 1)) (hq : val m0 < 4294967296 * val vs) (hrv : ReadsInt w .u32 (some av) n vs) (hne : av.block ≠ g) :
    Calls Try.prog 100 #[.slice (some ⟨g, pre.length, none⟩) (n + 1) c0, .slice (some av) n c1] w fun e w' =>
      ∃ ms, e = .returned (.int .u32 ((val m0 / val vs : Nat) : Int)) ∧ Mid B g L cap pre post w' ms ∧ Lim ms ∧ ms.length = n + 1 ∧ val ms = val m0 % val vs ∧ w.grownBy w' (some g) := by
  have HK := Aside0.mk (mk_kn hm hv h0 hvl hn htop hq)
  have hnm : n ≤ 9223372036854775807 := hrv.2.1
  have hLm : L ≤ 9223372036854775807 := by
    rcases hmid.own.2 with ⟨h, _⟩ | ⟨_, _, _, h, _, _, h1, h2, _⟩
    · cases h
    · simp only [maxLen] at h2; omega
  have hlen := hmid.len
  obtain ⟨hca1, _⟩ := mid_cell hmid n (by omega)
  obtain ⟨hca2, _⟩ := mid_cell hmid (n - 1) (by omega)
  obtain ⟨hca3, _⟩ := mid_cell hmid (n - 2) (by omega)
  obtain ⟨_, e1, hcb2⟩ := reads_nat hrv (n - 1) (by omega)
  cases e1
  obtain ⟨_, e1, hcb3⟩ := reads_nat hrv (n - 2) (by omega)
  cases e1
  obtain ⟨r00, r01⟩ := at_range hm n
  obtain ⟨r10, r11⟩ := at_range hm (n - 1)
  obtain ⟨r20, r21⟩ := at_range hm (n - 2)
  obtain ⟨s10, s11⟩ := at_range hv (n - 1)
  obtain ⟨s20, s21⟩ := at_range hv (n - 2)
  have hor := or64_join (at_ m0 n) (at_ m0 (n - 1)) r00 r01 r10 r11
  have hgs := g_start hm hv HK.out
  have HM := Aside0.mk hmid
  have HL := Aside0.mk hm
  have HV := Aside0.mk hv
  have H0 := Aside0.mk h0
  have HVL := Aside0.mk hvl
  have HR := Aside0.mk hrv
  have hl1 : m0.length ≤ n + 1 := by omega
  have hl2 : n + 1 ≤ m0.length := by omega
  have hpl : pre.length + n + 1 ≤ L := by omega
  clear hmid hm hv h0 hvl hrv hq hlen
  go_enter Try.func100, Try.ntmps100
  go_wp2
  go_quiet (fail)
  go_wp2
  go_quiet (fail)
  go_upto_block 0 with (fail)
  go_cut [7] (fun G wc => ∃ x : Int, G = .int .u64 x ∧ 0 ≤ x ∧ x < 4294967296 ∧ Aside0 (Good m0 vs x) ∧ Drawn0 w wc)
  case first =>
    obtain ⟨hgs1, hgs2⟩ := hgs
    have HGS := Aside0.mk hgs1
    clear hgs1
    go_wp2
    go_loopw [7, 8] (fun G R wr => ∃ x y : Int, G = .int .u64 x ∧ R = .int .u64 y ∧ 0 ≤ x ∧ x ≤ 4294967297 ∧ 0 ≤ y ∧ y < 4294967296 ∧ Aside0 (GInv m0 vs n x y) ∧ Drawn0 w wr) (fun _ R _ => (4294967296 - intOf R).toNat)
    case atStart => exact ⟨_, _, rfl, rfl, HGS.out.g0, HGS.out.g1, HGS.out.r0, hgs2, HGS, Drawn0.step (Drawn0.step (Drawn0.refl _) _) _⟩
    case round =>
      clear HGS hgs2 hor
      obtain ⟨x, y, rfl, rfl, hx0, hx1, hy0, hy1, hinv, hdr⟩ := hrel
      obtain ⟨nd, rfl⟩ := hdr.out
      by_cases hbig : 4294967296 ≤ x
      · have hb1 : (x / 4294967296 != 0) = true := bne_iff_ne.2 (by omega)
        have hdec := g_dec HL.out HV.out HK.out hinv.out (.inl hbig)
        have hx2 := hdec.2
        by_cases hrest : 4294967296 ≤ y + at_ vs (n - 1)
        · have hb2 : ((y + at_ vs (n - 1)) / 4294967296 != 0) = true := bne_iff_ne.2 (by omega)
          have hgood := Aside0.mk (g_brk HL.out HV.out HK.out hinv.out hy1 (.inl hbig) hrest)
          have hgd := hgood.out.g1
          clear hdec hinv
          go_wp2
          go_quiet (fail)
          go_wp2
          go_meet
          exact ⟨x - 1, rfl, by omega, hgd, hgood, (by first | exact ⟨_, rfl⟩ | exact Drawn0.step hdr _)⟩
        · have hb2 : ((y + at_ vs (n - 1)) / 4294967296 != 0) = false := bne_eq_false_iff_eq.2 (by omega)
          have HD := Aside0.mk hdec.1
          clear hdec hinv
          go_wp2
          go_quiet (fail)
          go_wp2
          go_roundw
          case rel => exact ⟨x - 1, y + at_ vs (n - 1), rfl, rfl, by omega, by omega, by omega, by omega, HD, (by first | exact ⟨_, rfl⟩ | exact Drawn0.step hdr _)⟩
          case measure => simp [intOf]; omega
      · have hb1 : (x / 4294967296 != 0) = false := bne_eq_false_iff_eq.2 (by omega)
        have hx3 : x < 4294967296 := by omega
        obtain ⟨hp0, hp1⟩ := prod_range hx0 hx3 s20 s21
        have hor2 := or64_join y (at_ m0 (n - 2)) hy0 hy1 r20 r21
        by_cases hgt : y * 4294967296 + at_ m0 (n - 2) < x * at_ vs (n - 2)
        · have hb3 : decide (y * 4294967296 + at_ m0 (n - 2) < x * at_ vs (n - 2)) = true := decide_eq_true hgt
          have hdec := g_dec HL.out HV.out HK.out hinv.out (.inr hgt)
          have hx2 := hdec.2
          by_cases hrest : 4294967296 ≤ y + at_ vs (n - 1)
          · have hb2 : ((y + at_ vs (n - 1)) / 4294967296 != 0) = true := bne_iff_ne.2 (by omega)
            have hgood := Aside0.mk (g_brk HL.out HV.out HK.out hinv.out hy1 (.inr hgt) hrest)
            have hgd := hgood.out.g1
            clear hdec hinv
            go_wp2
            go_quiet (fail)
            go_wp2
            go_meet
            exact ⟨x - 1, rfl, by omega, hgd, hgood, (by first | exact ⟨_, rfl⟩ | exact Drawn0.step hdr _)⟩
          · have hb2 : ((y + at_ vs (n - 1)) / 4294967296 != 0) = false := bne_eq_false_iff_eq.2 (by omega)
            have HD := Aside0.mk hdec.1
            clear hdec hinv
            go_wp2
            go_quiet (fail)
            go_wp2
            go_roundw
            case rel => exact ⟨x - 1, y + at_ vs (n - 1), rfl, rfl, by omega, by omega, by omega, by omega, HD, (by first | exact ⟨_, rfl⟩ | exact Drawn0.step hdr _)⟩
            case measure => simp [intOf]; omega
        · have hb3 : decide (y * 4294967296 + at_ m0 (n - 2) < x * at_ vs (n - 2)) = false := decide_eq_false hgt
          have hgood := Aside0.mk (g_stop HL.out HV.out HK.out hinv.out hx3 (by omega))
          clear hinv
          go_wp2
          go_quiet (fail)
          go_wp2
          go_meet
          exact ⟨x, rfl, hx0, hx3, hgood, (by first | exact ⟨_, rfl⟩ | exact Drawn0.step hdr _)⟩
  case rest =>
    clear hgs hor hca1 hca2 hca3 hcb2 hcb3
    obtain ⟨G, rfl, hG0, hG1, hgood, hdr⟩ := hcut
    obtain ⟨nd, rfl⟩ := hdr.out
    go_wp2
    go_loopw [9, 10, 83] (fun bb cc i wr => ∃ (k : Nat) (b c : Int) (ms : List Int), i = .int .i64 (k : Int) ∧ bb = .int .u32 b ∧ cc = .int .u64 c ∧ k ≤ n ∧ 0 ≤ b ∧ b ≤ 1 ∧ 0 ≤ c ∧ c < 4294967296 ∧ Aside0 (DgInv n G m0 vs k b c ms) ∧ Aside0 (Mid B g L cap pre post wr ms) ∧ Aside0 (w.grownBy wr (some g))) (fun _ _ i _ => n - (intOf i).toNat)
    case atStart => exact ⟨0, 0, 0, m0, rfl, rfl, rfl, Nat.zero_le _, by omega, by omega, by omega, by omega, ⟨dg_start HL.out H0.out⟩, ⟨HM.out.drawn nd⟩, ⟨grown_drawn (World.grownBy.refl w _) nd⟩⟩
    case round =>
      obtain ⟨k, b, c, ms, rfl, rfl, rfl, hk, hb0, hb1, hc0, hc1, hinv, hmid, hgr⟩ := hrel
      have hml1 : ms.length ≤ n + 1 := by have := hinv.out.2.1; omega
      have hml2 : n + 1 ≤ ms.length := by have := hinv.out.2.1; omega
      obtain ⟨q10, q11⟩ := at_range hinv.out.1 k
      by_cases hlt : k < n
      · obtain ⟨_, e1, hcv⟩ := reads_nat (reads_grown HR.out hgr.out (fun ad e => by cases e; exact hne)) k hlt
        cases e1
        obtain ⟨hcu1, hcu2⟩ := mid_cell hmid.out k (by omega)
        obtain ⟨q20, q21⟩ := at_range HV.out k
        obtain ⟨hp0, hp1⟩ := prod_range hG0 hG1 q20 q21
        obtain ⟨hd0, hd1⟩ := dg_carry hG0 hG1 q20 q21 hc0 hc1
        obtain ⟨hbr0, hbr1⟩ := bor_range (at_ ms k) ((G * at_ vs k + c) % 4294967296) b
        have hst := Aside0.mk (dg_step hinv.out H0.out hlt HV.out hG0 hb0 hb1 hc0 _ rfl)
        have hpt := Aside0.mk (mid_put hmid.out hgr.out k ((at_ ms k - (G * at_ vs k + c) % 4294967296 - b) % 4294967296) (by omega))
        go_wp2_with (go_at_call 75; refine (sub32_any _ _ _ _ q10 q11 (by omega) (by omega) hb0 hb1).mono ?_; rintro e w' ⟨rfl, rfl⟩)
        go_roundw
        case rel => exact ⟨k + 1, _, _, _, by go_num, rfl, rfl, by omega, hbr0, hbr1, hd0, hd1, hst, ⟨hpt.out.1⟩, ⟨hpt.out.2⟩⟩
        case measure => simp [intOf]; omega
      · obtain rfl : k = n := by omega
        obtain ⟨hcu1, hcu2⟩ := mid_cell hmid.out k (by omega)
        have hend := dg_end hinv.out H0.out HVL.out hb0 hb1 hc0 hc1
        have hpt := Aside0.mk (mid_put hmid.out hgr.out k ((at_ ms k - c - b) % 4294967296) (by omega))
        obtain ⟨hbr0, hbr1⟩ := bor_range (at_ ms k) c b
        have hvlt := val_lt HV.out
        rw [HVL.out] at hvlt
        have hmlt := val_lt hend.1
        rw [hend.2.1] at hmlt
        have hfin := good_end hgood.out.ge hgood.out.lt hend.2.2 hmlt (by rw [pw_succ]; have := pw_pos k; omega) HK.out.pos (by omega)
        by_cases hbb : bor (at_ ms k) c b = 0
        · have hb2 : (bor (at_ ms k) c b == 1) = false := beq_eq_false_iff_ne.2 (by omega)
          have hres := Aside0.mk (hfin.1 (by omega))
          have hE := Aside0.mk hend
          have hGq : G.toNat = val m0 / val vs := hres.out.1
          generalize hqq : val m0 / val vs = q at hGq
          have hGm := Aside0.mk (show ((val m0 / val vs : Nat) : Int) = G by rw [hqq]; omega)
          clear hGq hqq
          clear hfin hend hbb hmlt hvlt
          go_wp2_with (go_at_call 75; refine (sub32_any _ _ _ _ q10 q11 (by omega) (by omega) hb0 hb1).mono ?_; rintro e w' ⟨rfl, rfl⟩)
          go_ret
          exact ⟨_, by rw [hGm.out]; rfl, hpt.out.1, hE.out.1, hE.out.2.1, hres.out.2, hpt.out.2⟩
        · have hb2 : (bor (at_ ms k) c b == 1) = true := beq_iff_eq.2 (by omega)
          have hres := Aside0.mk (hfin.2 (by omega))
          have hE := Aside0.mk hend
          have hGq : G.toNat = val m0 / val vs + 1 := hres.out.1
          generalize hqq : val m0 / val vs = q at hGq
          have hGm := Aside0.mk (show ((val m0 / val vs : Nat) : Int) = G - 1 by rw [hqq]; omega)
          have hG2 : 1 ≤ G := by omega
          clear hGq hqq
          have hRl := Aside0.mk (Nat.mod_lt (val m0) HK.out.pos)
          clear hfin hend hbb hmlt hvlt
          obtain ⟨m1, hm1⟩ : ∃ m1, m1 = ms.set k ((at_ ms k - c - b) % 4294967296) := ⟨_, rfl⟩
          rw [← hm1] at hpt hE hres
          clear hm1
          go_wp2_with (go_at_call 75; refine (sub32_any _ _ _ _ q10 q11 (by omega) (by omega) hb0 hb1).mono ?_; rintro e w' ⟨rfl, rfl⟩)
          clear hcu1 hcu2 hinv hmid hgr
          go_loopw [13, 131] (fun cc i wr => ∃ (j : Nat) (c : Int) (ms : List Int), i = .int .i64 (j : Int) ∧ cc = .int .u32 c ∧ j ≤ k ∧ 0 ≤ c ∧ c ≤ 1 ∧ Aside0 (AbInv k m1 vs j c ms) ∧ Aside0 (Mid B g L cap pre post wr ms) ∧ Aside0 (w.grownBy wr (some g))) (fun _ i _ => k - (intOf i).toNat)
          case atStart => exact ⟨0, 0, m1, rfl, rfl, Nat.zero_le _, by omega, by omega, ⟨ab_start hE.out.1 hE.out.2.1⟩, ⟨hpt.out.1⟩, ⟨hpt.out.2⟩⟩
          case round =>
            clear hpt
            obtain ⟨j, c, ms, rfl, rfl, hj, hc0, hc1, hinv, hmid, hgr⟩ := hrel
            have hml1 : ms.length ≤ k + 1 := by have := hinv.out.2.1; omega
            have hml2 : k + 1 ≤ ms.length := by have := hinv.out.2.1; omega
            obtain ⟨q10, q11⟩ := at_range hinv.out.1 j
            obtain ⟨hcu1, hcu2⟩ := mid_cell hmid.out j (by omega)
            by_cases hlt : j < k
            · obtain ⟨_, e1, hcv⟩ := reads_nat (reads_grown HR.out hgr.out (fun ad e => by cases e; exact hne)) j hlt
              cases e1
              obtain ⟨q20, q21⟩ := at_range HV.out j
              have hst := Aside0.mk (ab_step hinv.out hE.out.2.1 hlt HV.out hc0 _ rfl)
              go_wp2
              go_region_with (first | (go_at_call 80; refine (add32_any _ _ _ _ q10 q11 q20 q21 hc0 hc1).mono ?_; rintro e w' ⟨rfl, rfl⟩))
              all_goals
                go_wp2
                go_roundw
                case rel =>
                  have hpt := mid_put hmid.out hgr.out j ((at_ ms j + at_ vs j + c) % 4294967296) (by omega)
                  exact ⟨j + 1, _, _, by go_num, rfl, by omega, by omega, by omega, hst, ⟨⟨hpt.1.own⟩⟩, ⟨grown_drew hpt.2⟩⟩
                case measure => simp [intOf]; omega
            · obtain rfl : j = k := by omega
              have hend := Aside0.mk (ab_end hinv.out hE.out.2.1 HVL.out hc0 hc1 hres.out.2 hRl.out HV.out)
              have hpt := Aside0.mk (mid_put hmid.out hgr.out j ((at_ ms j + c) % 4294967296) (by omega))
              go_wp2
              go_ret
              exact ⟨_, by rw [hGm.out]; rfl, hpt.out.1, hend.out.1, hend.out.2.1, hend.out.2.2, hpt.out.2⟩
end Go.Proofs.Ytnjbpkopekgihaa
