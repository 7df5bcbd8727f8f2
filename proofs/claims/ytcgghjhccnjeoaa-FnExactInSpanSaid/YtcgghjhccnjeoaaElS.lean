/- Contract: the reference's elimination. Conditions stand in each theorem. -/
import Derived.Test.YtcgghjhccnjeoaaClone
import Derived.Test.YtcgghjhccnjeoaaInv
import Derived.RegionTactic
import Derived.ChangeAlike
namespace Go.Proofs.Ytcgghjhccnjeoaa
open Go.RowKit
set_option linter.unusedVariables false
set_option linter.unusedSimpArgs false

theorem fnd_start {R : List (List Int)} {k d m : Nat} (hm : R.length = m) : fndS k (R, d) = fnd R k (m - d) d := by unfold fndS; rw [hm]

set_option maxRecDepth 100000 in
set_option maxHeartbeats 4000000 in
theorem spec_l02Basis (p : Int) (L : Option Addr) (m q0 n : Nat) (vs : List (List Int)) (w : World) (hl : Lists w L m vs) (ht : TabP p n vs) (hp : primeB p = true) (hn : 0 < n) (hn2 : n ≤ 100) (hm2 : m ≤ 100) :
    Calls Try.prog 44 #[.int .i64 p, .slice L m q0] w fun e w' => ∃ K q, e = .returned (.slice K (basisN p vs).length q) ∧ (0 < m → ∃ g A c, K = some ⟨g, 0, none⟩ ∧ Tab w.heap.size w' g m n (colsS p vs n).1 A c ∧ Dst m A) ∧ Below w.heap.size w w' := by
  have HL := Lib.hid hl
  have HT := Lib.hid ht
  have HP := Lib.hid hp
  have HN := Lib.hid hl.1
  have h0 := prime_lo hp
  have h1 := prime_hi hp
  clear hl ht hp
  go_enter Try.func44, Try.ntmps44
  go_wp2_with fail
  refine (spec_l01Own2 L m q0 n vs _ HL.out (fun v hv => (HT.out v hv).1) hn (by omega)).mono ?_
  rintro e w1 ⟨K, q, rfl, hmq, hK, hb1⟩
  have HB := Lib.hid hb1
  clear hb1
  by_cases hm0 : m = 0
  · subst hm0
    have HE := Lib.hid (show (basisN p vs).length = 0 by rw [List.eq_nil_of_length_eq_zero HN.out, basisN_nil]; rfl)
    clear hK
    go_wp2_with fail
    go_loopw [6, 7] (fun dn i wr => dn = .int .i64 0 ∧ Hid (Below w.heap.size w wr)) (fun _ _ _ => 0)
    case atStart => exact ⟨rfl, HB⟩
    case round =>
      obtain ⟨rfl, HB2⟩ := hrel
      go_wp2_with fail
      go_ret
      exact ⟨_, _, by rw [HE.out]; rfl, fun h => absurd h (by omega), HB2.out⟩
  · obtain ⟨g, A0, c0, rfl, htab, hdst⟩ := hK (by omega)
    have HTB := Lib.hid htab
    have HD := Lib.hid hdst
    have hm1 : 0 < m := by omega
    clear htab hdst hK hm0
    go_wp2_with fail
    go_loopw [6, 7] (fun dn kk wr => ∃ (k d : Nat) (A : Nat → Option Addr) (c : Nat → Nat), k ≤ n ∧ d ≤ m ∧ kk = .int .i64 k ∧ dn = .int .i64 d ∧ Hid ((colsS p vs k).2 = d) ∧ Hid (Tab w.heap.size wr g m n (colsS p vs k).1 A c) ∧ Hid (Dst m A) ∧ Hid (Below w.heap.size w wr)) (fun _ kk _ => n - (intOf kk).toNat)
    case atStart => exact ⟨0, 0, A0, c0, Nat.zero_le _, Nat.zero_le _, rfl, rfl, Lib.hid rfl, HTB, HD, HB⟩
    case round =>
      clear HTB HD HB
      obtain ⟨k, d, A, c, hk, hdm, rfl, rfl, HDN, HTB, HD, HB⟩ := hrel
      obtain ⟨R, HR⟩ : ∃ R, Hid ((colsS p vs k).1 = R) := ⟨_, Lib.hid rfl⟩
      rw [HR.out] at HTB
      have HTP := Lib.hid (show TabP p n R by rw [← HR.out]; exact colsS_tab (by omega) HT.out k)
      have HLEN := Lib.hid HTB.out.len
      have c00 := HTB.out.cell 0 hm1
      by_cases hkn : k < n
      · have hknz : (k : Int) < n := by omega
        go_wp2_with fail
        go_loop [8] (fun f => ∃ t : Nat, d ≤ t ∧ t ≤ m ∧ f = .int .i64 t ∧ Hid (fnd R k (m - t) t = fnd R k (m - d) d)) (fun f => m - (intOf f).toNat)
        case atStart => exact ⟨d, Nat.le_refl _, hdm, rfl, Lib.hid rfl⟩
        case round =>
          obtain ⟨t, hdt, htm, rfl, HF⟩ := hrel
          by_cases hlt : t < m
          · obtain ⟨b, off, hAt, hbl, hcell⟩ := HTB.out.ent hlt hkn
            have ht1 := HTB.out.cell t hlt
            have htz : (t : Int) < m := by omega
            obtain ⟨x, HX⟩ : ∃ x, Hid (ent (rowAt R t) k = x) := ⟨_, Lib.hid rfl⟩
            rw [hAt] at ht1
            rw [HX.out] at hcell
            have HAT := Lib.hid hAt
            clear hAt hbl
            by_cases hx : x = 0
            · have hxb : (x == 0) = true := by rw [hx]; rfl
              have HXZ := Lib.hid hx
              clear hx
              go_wp2_with fail
              go_round
              case rel => exact ⟨t + 1, by omega, by omega, by go_num, Lib.hid (show fnd R k (m - t - 1) (t + 1) = _ from (fnd_on (HX.out.trans HXZ.out) (by omega)).symm.trans HF.out)⟩
              case measure => simp [intOf]; omega
            · have hxb : (x == 0) = false := by simpa using hx
              have HXZ := Lib.hid hx
              have hne : ((t : Int) == m) = false := by rw [beq_eq_false_iff_ne]; omega
              have HFS := Lib.hid (show fndS k (R, d) = t by rw [fnd_start HLEN.out, ← HF.out]; exact fnd_hit (fun e => HXZ.out (HX.out.symm.trans e)) (by omega))
              have hxn := numsB_ent (HTP.out.at_ (show t < R.length by rw [HLEN.out]; exact hlt)).2 (show k < (rowAt R t).length by rw [(HTP.out.at_ (show t < R.length by rw [HLEN.out]; exact hlt)).1]; exact hkn)
              rw [HX.out] at hxn
              obtain ⟨hx0, hx1⟩ := hxn
              have hx2 : 1 ≤ x := by omega
              obtain ⟨i0, i1, _, _⟩ := inv_facts HP.out hx2 hx1
              have hdm2 : d < m := by omega
              have hd1 := HTB.out.cell d hdm2
              have hf1 := HTB.out.fr t hlt
              have hbg : b ≠ g := HTB.out.ne t hlt _ HAT.out
              have hcell2 := (World.cell?_setCell_far wr ⟨g, t, none⟩ ⟨b, off + k, none⟩ (.slice (A d) n (c d)) (fun e => hbg e.symm)).trans hcell
              have HT2 := Lib.hid (HTB.out.put (q := c d) hlt (HTB.out.own d hdm2) (HTB.out.ne d hdm2))
              have HI2 := Lib.hid ((HTB.out.own t hlt).farBlk (k := t) (x := .slice (A d) n (c d)) (HTB.out.ne t hlt)).ints
              rw [HAT.out] at HI2
              have HB2 := Lib.hid (HB.out.setCell (p := ⟨g, t, none⟩) HTB.out.gB (.slice (A d) n (c d)))
              have hsz2 : (wr.setCell ⟨g, t, none⟩ (.slice (A d) n (c d))).heap.size = wr.heap.size := by simp [World.setCell]
              have hdz : (d : Int) < m := by omega
              clear hx
              go_wp2_with fail
              refine (spec_l01Inv p x _ HP.out hx2 hx1).mono ?_
              rintro e w2 ⟨rfl, rfl⟩
              go_wp2_with fail
              refine (spec_l02Scale p (invN p x) _ n _ (rowAt R t) _ HI2.out h0 h1 (HTP.out.at_ (show t < R.length by rw [HLEN.out]; exact hlt)).2 (by omega) i1 (by omega)).mono ?_
              rintro e w3 ⟨O, q3, rfl, ho3, hb3⟩
              have HT3 := Lib.hid (HT2.out.keep hb3)
              have HB3 := Lib.hid (below_then HB2.out hb3)
              have hd3 := HT3.out.cell d hdm2
              have hf3 := HT3.out.fr d hdm2
              rw [hsz2] at ho3
              have HOB := Lib.hid (show ∀ a, O = some a → wr.heap.size ≤ a.block by
                intro a ha
                obtain ⟨bo, oo, e, hB, _⟩ := ho3.2.2 hn
                rw [e] at ha
                injection ha with ha
                subst ha
                exact hB)
              have HO3 := Lib.hid ho3
              clear hb3 ho3 hd1 hf1 hcell hcell2 HI2
              have HT4 := Lib.hid (HT3.out.put (q := q3) hdm2 (HO3.out.less HB.out.size) (fun a ha e => by have h1 := HOB.out a ha; have h2 := HTB.out.glt; omega))
              have HD4 := Lib.hid (HD.out.move (f := t) hdm2 (HTB.out.blk hn) HOB.out)
              have HB4 := Lib.hid (HB3.out.setCell (p := ⟨g, d, none⟩) HTB.out.gB (.slice O n q3))
              have HSW := Lib.hid (show (R.set t (rowAt R d)).set d (scaleL p (invN p x) (rowAt R t)) = swp p k d t R by unfold swp; rw [HX.out, scaleR_eq])
              rw [HSW.out] at HT4
              clear HT2 HT3 HB2 HB3
              have HPR := Lib.hid (show colsS p vs k = (R, d) from Prod.ext HR.out HDN.out)
              obtain ⟨S, HS⟩ : ∃ S, Hid (swp p k d t R = S) := ⟨_, Lib.hid rfl⟩
              rw [HS.out] at HT4
              have HSL := Lib.hid (show S.length = m by rw [← HS.out, swp_len, HLEN.out])
              have HSP := Lib.hid (show TabP p n S by rw [← HS.out]; exact swp_tab (by omega) HTP.out (by rw [HLEN.out]; exact hdm2) (by rw [HLEN.out]; exact hlt))
              have HNX := Lib.hid (show colsS p vs (k + 1) = (clr p k d S, d + 1) by
                show stepB p k (colsS p vs k) = _
                have hlt2 : fndS k (R, d) < R.length := by rw [HFS.out, HLEN.out]; exact hlt
                rw [HPR.out, stepB_some (s := (R, d)) hlt2]
                simp only
                rw [HFS.out, HS.out])
              go_wp2_with fail
              obtain ⟨wo, hwo⟩ : ∃ wo, wo = wr := ⟨_, rfl⟩
              subst hwo
              go_loopw [10] (fun i wq => ∃ (j : Nat) (A' : Nat → Option Addr) (c' : Nat → Nat), j ≤ m ∧ i = .int .i64 j ∧ Hid (Tab w.heap.size wq g m n (clrK p k d S j) A' c') ∧ Hid (A' d = O) ∧ Hid (Dst m A') ∧ Hid (Below w.heap.size w wq)) (fun i _ => m - (intOf i).toNat)
              case atStart => exact ⟨0, _, _, Nat.zero_le _, rfl, Lib.hid (by rw [clrK_zero]; exact HT4.out), Lib.hid (upd_eq _ _ _), HD4, HB4⟩
              case round =>
                clear HT4 HD4 HB4 hd3 hf3 ht1 c00
                obtain ⟨j, A', c', hj, rfl, HTJ, HAD, HDJ, HBJ⟩ := hrel
                by_cases hjm : j < m
                · have hjz : (j : Int) < m := by omega
                  by_cases hjd : j = d
                  · have hjb : ((j : Int) != d) = false := by rw [hjd, bne_self_eq_false]
                    have HJD := Lib.hid hjd
                    clear hjd
                    go_wp2_with fail
                    go_roundw
                    case rel => exact ⟨j + 1, A', c', by omega, by go_num, Lib.hid (by rw [show clrK p k d S (j + 1) = clrK p k d S j by rw [HJD.out]; exact clrK_skip p k d S]; exact HTJ.out), HAD, HDJ, HBJ⟩
                    case measure => simp [intOf]; omega
                  · have hjb : ((j : Int) != d) = true := by rw [bne_iff_ne]; omega
                    have HJD := Lib.hid hjd
                    clear hjd
                    obtain ⟨b2, off2, hA2, hbl2, hc2⟩ := HTJ.out.ent hjm hkn
                    have hg2 := HTJ.out.cell j hjm
                    have hfr2 := HTJ.out.fr j hjm
                    have hrow : rowAt (clrK p k d S j) j = rowAt S j := clrK_at (by rw [HSL.out]; exact hjm)
                    rw [hrow] at hc2
                    rw [hA2] at hg2
                    have hb2g : b2 ≠ g := HTJ.out.ne j hjm _ hA2
                    obtain ⟨y, HY⟩ : ∃ y, Hid (ent (rowAt S j) k = y) := ⟨_, Lib.hid rfl⟩
                    rw [HY.out] at hc2
                    have hyn := numsB_ent (HSP.out.at_ (show j < S.length by rw [HSL.out]; exact hjm)).2 (show k < (rowAt S j).length by rw [(HSP.out.at_ (show j < S.length by rw [HSL.out]; exact hjm)).1]; exact hkn)
                    rw [HY.out] at hyn
                    obtain ⟨hy0, hy1⟩ := hyn
                    have HAJ := Lib.hid hA2
                    have HROW := Lib.hid hrow
                    have hs1 : IntKind.i64.wrap (p - y) = p - y := IntWalk.i64_in _ (by omega)
                    obtain ⟨z, hz⟩ : ∃ z, (p - y).tmod p = z := ⟨_, rfl⟩
                    have HZ := Lib.hid (show z = (p - y) % p by rw [← hz, Int.tmod_eq_emod_of_nonneg (by omega)])
                    have hz0 : 0 ≤ z := by rw [HZ.out]; exact Int.emod_nonneg _ (by omega)
                    have hz1 : z < p := by rw [HZ.out]; exact Int.emod_lt_of_pos _ (by omega)
                    have HIJ := Lib.hid (show Ints wr (some ⟨b2, off2, none⟩) n (rowAt S j) by have h := (HTJ.out.own j hjm).ints; rw [HAJ.out, HROW.out] at h; exact h)
                    have HID := Lib.hid (show Ints wr O n (rowAt S d) by have h := (HTJ.out.own d hdm2).ints; rw [HAD.out, clrK_d (by rw [HSL.out]; exact hdm2)] at h; exact h)
                    clear hA2 hbl2 hrow
                    go_wp2_with fail
                    go_region_with (go_at_call 71; refine (spec_l02Plus p z _ _ n _ n _ (rowAt S j) (rowAt S d) _ HIJ.out.drew HID.out.drew (Nat.le_refl _) h0 h1 (HSP.out.at_ (by rw [HSL.out]; exact hjm)).2 (HSP.out.at_ (by rw [HSL.out]; exact hdm2)).2 hz0 hz1 (by omega)).mono ?_; rintro e w5 ⟨O5, q5, rfl, ho5, hb5⟩; have hc5 := (HTJ.out.drew.keep hb5).cell j hjm; have hf5 := (HTJ.out.drew.keep hb5).fr j hjm)
                    all_goals
                      have HPL := Lib.hid (show plusL p z (rowAt S j) ((rowAt S d).take n) = plusR p (rowAt S j) (rowAt S d) (-(ent (rowAt S j) k)) by
                        have l1 := (HSP.out.at_ (show j < S.length by rw [HSL.out]; exact hjm)).1
                        have l2 := (HSP.out.at_ (show d < S.length by rw [HSL.out]; exact hdm2)).1
                        rw [List.take_of_length_le (by omega), plusR_eq (by omega)]
                        refine plusR_cong _ _ ?_
                        rw [HZ.out, HY.out, Int.emod_emod_of_dvd _ (Int.dvd_refl p), show p - y = -y + p by omega, Int.add_emod_right])
                      have HOB5 := Lib.hid (show ∀ a, O5 = some a → wr.heap.size ≤ a.block by
                        intro a ha
                        obtain ⟨bo, oo, e, hB, _⟩ := ho5.2.2 hn
                        rw [e] at ha
                        injection ha with ha
                        subst ha
                        exact hB)
                      have HTN := Lib.hid ((HTJ.out.drew.keep hb5).put (k := j) (q := q5) hjm (ho5.less HBJ.out.size) (fun a ha e => by have h1 := HOB5.out a ha; have h2 := HTJ.out.glt; omega))
                      rw [HPL.out, clrK_step (by rw [HSL.out]; exact hjm) HJD.out] at HTN
                      have HDN5 := Lib.hid (HDJ.out.fresh (k := j) (HTJ.out.blk hn) HOB5.out)
                      have HBN5 := Lib.hid ((below_then HBJ.out.drew hb5).setCell (p := ⟨g, j, none⟩) HTJ.out.gB (.slice O5 n q5))
                      have HAN := Lib.hid (show upd A' j O5 d = O from (upd_ne (fun e => HJD.out e.symm)).trans HAD.out)
                      clear ho5 hb5 hc5 hf5 hg2 hfr2 hc2 hs1 hz hb2g
                      go_wp2_with fail
                      go_roundw
                      case rel => exact ⟨j + 1, _, _, by omega, by go_num, HTN, HAN, HDN5, HBN5⟩
                      case measure => simp [intOf]; omega
                · obtain rfl : j = m := by omega
                  rw [clrK_end p k d S HSL.out] at HTJ
                  have HN1 := Lib.hid (show (colsS p vs (k + 1)).1 = clr p k d S by rw [HNX.out])
                  have HN2 := Lib.hid (show (colsS p vs (k + 1)).2 = d + 1 by rw [HNX.out])
                  rw [← HN1.out] at HTJ
                  go_wp2_with fail
                  refine ⟨⟨k + 1, d + 1, A', c', by omega, by omega, by go_num, by go_num, HN2, HTJ, HDJ, HBJ⟩, ?_⟩
                  simp [intOf]; omega
          · obtain rfl : t = m := by omega
            have heq : ((t : Int) == t) = true := by rw [beq_iff_eq]
            go_wp2_with fail
            have HFS := Lib.hid (show fndS k (R, d) = R.length by rw [fnd_start HLEN.out, ← HF.out, HLEN.out, Nat.sub_self]; rfl)
            have HPR := Lib.hid (show colsS p vs k = (R, d) from Prod.ext HR.out HDN.out)
            have HNX := Lib.hid (show colsS p vs (k + 1) = (R, d) by
              show stepB p k (colsS p vs k) = _
              rw [HPR.out, stepB_none (s := (R, d)) HFS.out])
            have HN1 := Lib.hid (show (colsS p vs (k + 1)).1 = R by rw [HNX.out])
            have HN2 := Lib.hid (show (colsS p vs (k + 1)).2 = d by rw [HNX.out])
            rw [← HN1.out] at HTB
            refine ⟨⟨k + 1, d, A, c, by omega, hdm, by go_num, rfl, HN2, HTB, HD, HB⟩, ?_⟩
            simp [intOf]; omega
      · obtain rfl : k = n := by omega
        have HBL := Lib.hid (show (basisN p vs).length = d by
          rw [basisN_len, show (rowAt vs 0).length = k from (HT.out.at_ (by rw [HN.out]; exact hm1)).1, HDN.out])
        rw [← HR.out] at HTB
        have hdq : (d : Int) ≤ q := by omega
        go_wp2_with fail
        go_ret
        exact ⟨_, q, by rw [HBL.out]; rfl, fun _ => ⟨g, A, c, rfl, HTB.out, HD.out⟩, HB.out⟩
end Go.Proofs.Ytcgghjhccnjeoaa
