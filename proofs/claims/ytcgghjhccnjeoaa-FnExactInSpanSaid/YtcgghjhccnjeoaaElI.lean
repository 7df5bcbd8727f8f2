/- Contract: the program's elimination. Conditions stand in each theorem. -/
import Derived.Test.YtcgghjhccnjeoaaElS
import Derived.Deep.DeepCutAuto
namespace Go.Proofs.Ytcgghjhccnjeoaa
open Go.RowKit
set_option linter.unusedVariables false
set_option linter.unusedSimpArgs false

theorem rowAt_take {rows : List (List Int)} {d j : Nat} (h : j < d) : rowAt (rows.take d) j = rowAt rows j := by
  unfold rowAt; rw [List.getElem?_take_of_lt h]
theorem Tab.take {B g m n d : Nat} {w : World} {rows : List (List Int)} {A : Nat → Option Addr} {c : Nat → Nat} (h : Tab B w g m n rows A c) (hd : d ≤ m) : Tab B w g d n (rows.take d) A c :=
  ⟨by rw [List.length_take, h.len]; omega, h.gB, h.glt, fun j hj => h.cell j (by omega), fun j hj => h.fr j (by omega), fun j hj => by rw [rowAt_take hj]; exact h.own j (by omega), fun j hj => h.ne j (by omega)⟩
theorem Dst.less {m d : Nat} {A : Nat → Option Addr} (h : Dst m A) (hd : d ≤ m) : Dst d A := fun i j hi hj => h i j (by omega) (by omega)
theorem set_swap {α : Type} (R : List α) (d t : Nat) (x y z : α) : ((R.set d x).set t y).set d z = (R.set t y).set d z := by
  by_cases h : d = t
  · subst h; simp
  · rw [List.set_comm _ _ h, List.set_set]
theorem clrK_same {p : Int} (hp : 0 < p) {n k d : Nat} {rows : List (List Int)} {j : Nat} (ht : TabP p n rows) (hj : j < rows.length) (h0 : ent (rowAt rows j) k = 0) : clrK p k d rows (j + 1) = clrK p k d rows j :=
  clrK_ext (clrK_len ..) fun r hr => by
    rw [clrK_get hr]
    congr 1
    by_cases h : r < j ∧ r ≠ d
    · rw [if_pos h, if_pos ⟨by omega, h.2⟩]
    · rw [if_neg h]
      by_cases h2 : r < j + 1 ∧ r ≠ d
      · obtain rfl : r = j := by omega
        rw [if_pos h2, h0, plusR_zero hp _ (ht.at_ hj).2]
      · rw [if_neg h2]

set_option maxRecDepth 100000 in
set_option maxHeartbeats 8000000 in
theorem field_basis (p : Int) (L : Option Addr) (m q0 n : Nat) (vs : List (List Int)) (w : World) (hl : Lists w L m vs) (ht : TabP p n vs) (hp : primeB p = true) (hn : 0 < n) (hn2 : n ≤ 100) (hm2 : m ≤ 100) :
    Calls Try.prog 46 #[.int .i64 p, .slice L m q0] w fun e w' => ∃ K q, e = .returned (.slice K (basisN p vs).length q) ∧ (basisN p vs).length ≤ q ∧ (0 < m → ∃ g A c, K = some ⟨g, 0, none⟩ ∧ Tab w.heap.size w' g (basisN p vs).length n (basisN p vs) A c ∧ Dst (basisN p vs).length A) ∧ Below w.heap.size w w' := by
  have HL := Lib.hid hl
  have HT := Lib.hid ht
  have HP := Lib.hid hp
  have HN := Lib.hid hl.1
  have h0 := prime_lo hp
  have h1 := prime_hi hp
  clear hl ht hp
  go_enter Try.func46, Try.ntmps46
  go_wp2_with fail
  refine (impl_cloneRows L m q0 n vs _ HL.out (fun v hv => (HT.out v hv).1) hn (by omega)).mono ?_
  rintro e w1 ⟨K, q, rfl, hmq, hK, hb1⟩
  have HB := Lib.hid hb1
  clear hb1
  by_cases hm0 : m = 0
  · subst hm0
    have HE := Lib.hid (show (basisN p vs).length = 0 by rw [List.eq_nil_of_length_eq_zero HN.out, basisN_nil]; rfl)
    clear hK
    go_wp2_with fail
    go_loopw [6, 7] (fun dn i wr => dn = .int .i64 0 ∧ Hid (Below w.heap.size w wr)) (fun _ _ _ => 0)
    case atStart => exact ⟨rfl, HB⟩
    case round =>
      obtain ⟨rfl, HB2⟩ := hrel
      go_wp2_with fail
      go_ret
      exact ⟨_, q, by rw [HE.out]; rfl, by rw [HE.out]; omega, fun h => absurd h (by omega), HB2.out⟩
  · obtain ⟨g, A0, c0, rfl, htab, hdst⟩ := hK (by omega)
    have HTB := Lib.hid htab
    have HD := Lib.hid hdst
    have hm1 : 0 < m := by omega
    have HN0 := Lib.hid (show (rowAt vs 0).length = n from (HT.out.at_ (by rw [HN.out]; exact hm1)).1)
    clear htab hdst hK hm0
    go_wp2_with fail
    go_loopw [6, 7] (fun dn kk wr => ∃ (k d : Nat) (A : Nat → Option Addr) (c : Nat → Nat), k ≤ n ∧ d ≤ m ∧ kk = .int .i64 k ∧ dn = .int .i64 d ∧ Hid ((colsS p vs k).2 = d) ∧ Hid (Tab w.heap.size wr g m n (colsS p vs k).1 A c) ∧ Hid (Dst m A) ∧ Hid (Below w.heap.size w wr)) (fun _ kk _ => n - (intOf kk).toNat)
    case atStart => exact ⟨0, 0, A0, c0, Nat.zero_le _, Nat.zero_le _, rfl, rfl, Lib.hid rfl, HTB, HD, HB⟩
    case round =>
      clear HTB HD HB
      obtain ⟨k, d, A, c, hk, hdm, rfl, rfl, HDN, HTB, HD, HB⟩ := hrel
      obtain ⟨R, HR⟩ : ∃ R, Hid ((colsS p vs k).1 = R) := ⟨_, Lib.hid rfl⟩
      rw [HR.out] at HTB
      have HTP := Lib.hid (show TabP p n R by rw [← HR.out]; exact colsS_tab (by omega) HT.out k)
      have HLEN := Lib.hid HTB.out.len
      have c00 := HTB.out.cell 0 hm1
      have hdq : (d : Int) ≤ q := by omega
      by_cases hkn : k < n
      · have hknz : (k : Int) < n := by omega
        by_cases hdm2 : d < m
        · have hdz : (d : Int) < m := by omega
          go_wp2_with fail
          go_loop [8] (fun f => ∃ t : Nat, d ≤ t ∧ t ≤ m ∧ f = .int .i64 t ∧ Hid (fnd R k (m - t) t = fnd R k (m - d) d)) (fun f => m - (intOf f).toNat)
          case atStart => exact ⟨d, Nat.le_refl _, hdm, rfl, Lib.hid rfl⟩
          case round =>
            obtain ⟨t, hdt, htm, rfl, HF⟩ := hrel
            by_cases hlt : t < m
            · obtain ⟨b, off, hAt, hbl, hcell⟩ := HTB.out.ent hlt hkn
              have ht1 := HTB.out.cell t hlt
              have htz : (t : Int) < m := by omega
              obtain ⟨x, HX⟩ : ∃ x, Hid (ent (rowAt R t) k = x) := ⟨_, Lib.hid rfl⟩
              rw [hAt] at ht1
              rw [HX.out] at hcell
              have HAT := Lib.hid hAt
              clear hAt hbl
              by_cases hx : x = 0
              · have hxb : (x == 0) = true := by rw [hx]; rfl
                have HXZ := Lib.hid hx
                clear hx
                go_wp2_with fail
                go_round
                case rel => exact ⟨t + 1, by omega, by omega, by go_num, Lib.hid (show fnd R k (m - t - 1) (t + 1) = _ from (fnd_on (HX.out.trans HXZ.out) (by omega)).symm.trans HF.out)⟩
                case measure => simp [intOf]; omega
              · have hxb : (x == 0) = false := by simpa using hx
                have HXZ := Lib.hid hx
                have hne : ((t : Int) == m) = false := by rw [beq_eq_false_iff_ne]; omega
                have HFS := Lib.hid (show fndS k (R, d) = t by rw [fnd_start HLEN.out, ← HF.out]; exact fnd_hit (fun e => HXZ.out (HX.out.symm.trans e)) (by omega))
                have hxn := numsB_ent (HTP.out.at_ (show t < R.length by rw [HLEN.out]; exact hlt)).2 (show k < (rowAt R t).length by rw [(HTP.out.at_ (show t < R.length by rw [HLEN.out]; exact hlt)).1]; exact hkn)
                rw [HX.out] at hxn
                obtain ⟨hx0, hx1⟩ := hxn
                have hx2 : 1 ≤ x := by omega
                obtain ⟨i0, i1, _, _⟩ := inv_facts HP.out hx2 hx1
                have hd1 := HTB.out.cell d hdm2
                have hf1 := HTB.out.fr t hlt
                have hfd := HTB.out.fr d hdm2
                obtain ⟨vv, hvv⟩ := cell?_setCell_some (w := wr) (p := ⟨g, d, none⟩) (x := .slice (some ⟨b, off, none⟩) n (c t)) (q := ⟨g, t, none⟩) (v := .slice (some ⟨b, off, none⟩) n (c t)) ht1
                clear hx
                go_wp2_with fail
                go_region
                have hbg : b ≠ g := HTB.out.ne t hlt _ HAT.out
                obtain ⟨W2, HW2⟩ : ∃ W2, Hid (W2 = ((wr.setCell ⟨g, d, none⟩ (.slice (some ⟨b, off, none⟩) n (c t))).setCell ⟨g, t, none⟩ (.slice (A d) n (c d))).drew) := ⟨_, Lib.hid rfl⟩
                have HT2 := Lib.hid (show Tab w.heap.size W2 g m n ((R.set d (rowAt R t)).set t (rowAt R d)) (upd (upd A d (A t)) t (A d)) (upd (upd c d (c t)) t (c d)) by
                  rw [HW2.out, ← HAT.out]
                  exact ((HTB.out.put (k := d) (q := c t) hdm2 (HTB.out.own t hlt) (HTB.out.ne t hlt)).put (k := t) (q := c d) hlt ((HTB.out.own d hdm2).farBlk (HTB.out.ne d hdm2)) (HTB.out.ne d hdm2)).drew)
                have HI2 := Lib.hid (show Ints W2 (some ⟨b, off, none⟩) n (rowAt R t) by
                  have h := (((HTB.out.own t hlt).farBlk (k := d) (x := .slice (some ⟨b, off, none⟩) n (c t)) (HTB.out.ne t hlt)).farBlk (k := t) (x := .slice (A d) n (c d)) (HTB.out.ne t hlt)).ints
                  rw [HAT.out] at h
                  rw [HW2.out]; exact h.drew)
                have HB2 := Lib.hid (show Below w.heap.size w W2 by
                  rw [HW2.out]
                  exact ((HB.out.setCell (p := ⟨g, d, none⟩) HTB.out.gB _).setCell (p := ⟨g, t, none⟩) HTB.out.gB _).drew)
                have hsz2 : W2.heap.size = wr.heap.size := by rw [HW2.out]; show ((wr.setCell ⟨g, d, none⟩ (.slice (some ⟨b, off, none⟩) n (c t))).setCell ⟨g, t, none⟩ (.slice (A d) n (c d))).heap.size = wr.heap.size; simp [World.setCell]
                have hd2 : W2.cell? ⟨g, d, none⟩ = some (.slice (some ⟨b, off, none⟩) n (c t)) := by
                  rw [HT2.out.cell d hdm2]
                  by_cases e : d = t
                  · subst e; rw [upd_eq, upd_eq, HAT.out]
                  · rw [upd_ne e, upd_ne e, upd_eq, upd_eq, HAT.out]
                have hfd2 := HT2.out.fr d hdm2
                have hcell2 : W2.cell? ⟨b, off + k, none⟩ = some (.int .i64 x) := by
                  rw [HW2.out]
                  show ((wr.setCell ⟨g, d, none⟩ (.slice (some ⟨b, off, none⟩) n (c t))).setCell ⟨g, t, none⟩ (.slice (A d) n (c d))).cell? ⟨b, off + k, none⟩ = _
                  rw [World.cell?_setCell_far _ ⟨g, t, none⟩ ⟨b, off + k, none⟩ _ (fun e => hbg e.symm), World.cell?_setCell_far _ ⟨g, d, none⟩ ⟨b, off + k, none⟩ _ (fun e => hbg e.symm)]
                  exact hcell
                rw [← HW2.out]
                clear hvv hd1 hf1 hfd hcell ht1
                have HPR := Lib.hid (show colsS p vs k = (R, d) from Prod.ext HR.out HDN.out)
                obtain ⟨S, HS⟩ : ∃ S, Hid (swp p k d t R = S) := ⟨_, Lib.hid rfl⟩
                have HSW := Lib.hid (show ((R.set d (rowAt R t)).set t (rowAt R d)).set d (scaleL p (invN p x) (rowAt R t)) = S by rw [set_swap, ← HS.out]; unfold swp; rw [HX.out, scaleR_eq])
                have HSL := Lib.hid (show S.length = m by rw [← HS.out, swp_len, HLEN.out])
                have HSP := Lib.hid (show TabP p n S by rw [← HS.out]; exact swp_tab (by omega) HTP.out (by rw [HLEN.out]; exact hdm2) (by rw [HLEN.out]; exact hlt))
                have HNX := Lib.hid (show colsS p vs (k + 1) = (clr p k d S, d + 1) by
                  show stepB p k (colsS p vs k) = _
                  have hlt2 : fndS k (R, d) < R.length := by rw [HFS.out, HLEN.out]; exact hlt
                  rw [HPR.out, stepB_some (s := (R, d)) hlt2]
                  simp only
                  rw [HFS.out, HS.out])
                have HD2 := Lib.hid (HD.out.swap hdm2 hlt)
                go_upto_region 11 with fail
                go_cut [] (fun wx => ∃ (A5 : Nat → Option Addr) (c5 : Nat → Nat), Hid (Tab w.heap.size wx g m n S A5 c5) ∧ Hid (Dst m A5) ∧ Hid (Below w.heap.size w wx))
                case first =>
                  go_region_with (first | (go_at_call 63; refine (impl_inv p x _ HP.out hx0 hx1).mono ?_; rintro e w' ⟨rfl, rfl⟩) | (go_at_call 73; refine (field_scaled p (invN p x) _ n _ (rowAt R t) _ (HI2.out.drew) h0 h1 (HTP.out.at_ (show t < R.length by rw [HLEN.out]; exact hlt)).2 (by omega) (by omega) (by omega)).mono ?_; rintro e w3 ⟨O, q3, rfl, ho3, hb3⟩; have hd3 := (HT2.out.drew.keep hb3).cell d hdm2; have hf3 := (HT2.out.drew.keep hb3).fr d hdm2))
                  all_goals
                    go_wp2_with fail
                    go_meet
                    have hOB : ∀ a, O = some a → wr.heap.size ≤ a.block := by
                      intro a ha
                      obtain ⟨bo, oo, e, hB, _⟩ := ho3.2.2 hn
                      rw [e] at ha
                      injection ha with ha
                      subst ha
                      have h9 : W2.heap.size ≤ bo := hB
                      show wr.heap.size ≤ bo
                      omega
                    have HT5 := (HT2.out.drew.keep hb3).put (k := d) (q := q3) hdm2 (ho3.less (show w.heap.size ≤ W2.heap.size from HB2.out.size)) (fun a ha e => by have h1 := hOB a ha; have h2 := HTB.out.glt; omega)
                    rw [HSW.out] at HT5
                    exact ⟨_, _, Lib.hid HT5, Lib.hid (HD2.out.fresh (N := wr.heap.size) (k := d) (by rw [← hsz2]; exact HT2.out.blk hn) hOB), Lib.hid ((below_then HB2.out.drew hb3).setCell (p := ⟨g, d, none⟩) HTB.out.gB _)⟩
                case rest =>
                  obtain ⟨A5, c5, HT5, HD5, HB5⟩ := hcut
                  obtain ⟨wo, hwo⟩ : ∃ wo, wo = wr := ⟨_, rfl⟩
                  subst hwo
                  go_wp2_with fail
                  go_loopw [86] (fun i wr => ∃ (j : Nat) (A' : Nat → Option Addr) (c' : Nat → Nat), j ≤ m ∧ i = .int .i64 j ∧ Hid (Tab w.heap.size wr g m n (clrK p k d S j) A' c') ∧ Hid (Dst m A') ∧ Hid (Below w.heap.size w wr)) (fun i _ => m - (intOf i).toNat)
                  case atStart => exact ⟨0, _, _, Nat.zero_le _, rfl, Lib.hid (by rw [clrK_zero]; exact HT5.out), HD5, HB5⟩
                  case round =>
                    obtain ⟨j, A', c', hj, rfl, HTJ, HDJ, HBJ⟩ := hrel
                    by_cases hjm : j < m
                    · have hjz : (j : Int) < m := by omega
                      by_cases hjd : j = d
                      · have hjb : ((j : Int) != d) = false := by rw [hjd, bne_self_eq_false]
                        have HJD := Lib.hid hjd
                        clear hjd
                        go_wp2_with fail
                        go_roundw
                        case rel => exact ⟨j + 1, A', c', by omega, by go_num, Lib.hid (by rw [show clrK p k d S (j + 1) = clrK p k d S j by rw [HJD.out]; exact clrK_skip p k d S]; exact HTJ.out), HDJ, HBJ⟩
                        case measure => simp [intOf]; omega
                      · have hjb : ((j : Int) != d) = true := by rw [bne_iff_ne]; omega
                        have HJD := Lib.hid hjd
                        clear hjd
                        obtain ⟨b2, off2, hA2, hbl2, hc2⟩ := HTJ.out.ent hjm hkn
                        have hg2 := HTJ.out.cell j hjm
                        have hfr2 := HTJ.out.fr j hjm
                        have hrow : rowAt (clrK p k d S j) j = rowAt S j := clrK_at (by rw [HSL.out]; exact hjm)
                        rw [hrow] at hc2
                        rw [hA2] at hg2
                        obtain ⟨y, HY⟩ : ∃ y, Hid (ent (rowAt S j) k = y) := ⟨_, Lib.hid rfl⟩
                        rw [HY.out] at hc2
                        have HAJ := Lib.hid hA2
                        have HROW := Lib.hid hrow
                        clear hA2 hbl2 hrow
                        by_cases hy : y = 0
                        · have hyb : (y == 0) = true := by rw [hy]; rfl
                          have hyb2 : (y != 0) = false := by rw [hy]; rfl
                          have HYZ := Lib.hid hy
                          clear hy
                          go_wp2_with fail
                          go_roundw
                          case rel => exact ⟨j + 1, A', c', by omega, by go_num, Lib.hid (by rw [clrK_same (by omega) HSP.out (by rw [HSL.out]; exact hjm) (HY.out.trans HYZ.out)]; exact HTJ.out), HDJ, HBJ⟩
                          case measure => simp [intOf]; omega
                        · have hyb : (y == 0) = false := by simpa using hy
                          have hyb2 : (y != 0) = true := by simpa using hy
                          have hyn := numsB_ent (HSP.out.at_ (show j < S.length by rw [HSL.out]; exact hjm)).2 (show k < (rowAt S j).length by rw [(HSP.out.at_ (show j < S.length by rw [HSL.out]; exact hjm)).1]; exact hkn)
                          rw [HY.out] at hyn
                          obtain ⟨hy0, hy1⟩ := hyn
                          have hs1 : IntKind.i64.wrap (-y) = -y := IntWalk.i64_in _ (by omega)
                          have HIJ := Lib.hid (show Ints wr (some ⟨b2, off2, none⟩) n (rowAt S j) by have h := (HTJ.out.own j hjm).ints; rw [HAJ.out, HROW.out] at h; exact h)
                          have HID := Lib.hid (show Ints wr (A' d) n (rowAt S d) by have h := (HTJ.out.own d hdm2).ints; rw [clrK_d (by rw [HSL.out]; exact hdm2)] at h; exact h)
                          have hgd := HTJ.out.cell d hdm2
                          clear hy
                          go_wp2_with fail
                          go_region_with (go_at_call 74; refine (field_plus p (-y) _ _ n _ n _ (rowAt S j) (rowAt S d) _ HIJ.out.drew HID.out.drew (Nat.le_refl _) h0 h1 (HSP.out.at_ (by rw [HSL.out]; exact hjm)).2 (HSP.out.at_ (by rw [HSL.out]; exact hdm2)).2 (by omega) (by omega) (by omega)).mono ?_; rintro e w5 ⟨O5, q5, rfl, ho5, hb5⟩; have hc5 := (HTJ.out.drew.keep hb5).cell j hjm; have hf5 := (HTJ.out.drew.keep hb5).fr j hjm)
                          all_goals
                            have HPL := Lib.hid (show plusL p (-y) (rowAt S j) ((rowAt S d).take n) = plusR p (rowAt S j) (rowAt S d) (-(ent (rowAt S j) k)) by
                              have l1 := (HSP.out.at_ (show j < S.length by rw [HSL.out]; exact hjm)).1
                              have l2 := (HSP.out.at_ (show d < S.length by rw [HSL.out]; exact hdm2)).1
                              rw [List.take_of_length_le (by omega), plusR_eq (by omega), HY.out])
                            have HOB5 := Lib.hid (show ∀ a, O5 = some a → wr.heap.size ≤ a.block by
                              intro a ha
                              obtain ⟨bo, oo, e, hB, _⟩ := ho5.2.2 hn
                              rw [e] at ha
                              injection ha with ha
                              subst ha
                              exact hB)
                            have HTN := Lib.hid ((HTJ.out.drew.keep hb5).put (k := j) (q := q5) hjm (ho5.less HBJ.out.size) (fun a ha e => by have h1 := HOB5.out a ha; have h2 := HTJ.out.glt; omega))
                            rw [HPL.out, clrK_step (by rw [HSL.out]; exact hjm) HJD.out] at HTN
                            have HDN5 := Lib.hid (HDJ.out.fresh (k := j) (HTJ.out.blk hn) HOB5.out)
                            have HBN5 := Lib.hid ((below_then HBJ.out.drew hb5).setCell (p := ⟨g, j, none⟩) HTJ.out.gB (.slice O5 n q5))
                            clear ho5 hb5 hc5 hf5 hg2 hfr2 hc2 hs1 hgd
                            go_wp2_with fail
                            go_roundw
                            case rel => exact ⟨j + 1, _, _, by omega, by go_num, HTN, HDN5, HBN5⟩
                            case measure => simp [intOf]; omega
                    · obtain rfl : j = m := by omega
                      rw [clrK_end p k d S HSL.out] at HTJ
                      have HN1 := Lib.hid (show (colsS p vs (k + 1)).1 = clr p k d S by rw [HNX.out])
                      have HN2 := Lib.hid (show (colsS p vs (k + 1)).2 = d + 1 by rw [HNX.out])
                      rw [← HN1.out] at HTJ
                      go_wp2_with fail
                      refine ⟨⟨k + 1, d + 1, A', c', by omega, by omega, by go_num, by go_num, HN2, HTJ, HDJ, HBJ⟩, ?_⟩
                      simp [intOf]; omega
            · obtain rfl : t = m := by omega
              have heq : ((t : Int) == t) = true := by rw [beq_iff_eq]
              go_wp2_with fail
              have HFS := Lib.hid (show fndS k (R, d) = R.length by rw [fnd_start HLEN.out, ← HF.out, HLEN.out, Nat.sub_self]; rfl)
              have HPR := Lib.hid (show colsS p vs k = (R, d) from Prod.ext HR.out HDN.out)
              have HNX := Lib.hid (show colsS p vs (k + 1) = (R, d) by
                show stepB p k (colsS p vs k) = _
                rw [HPR.out, stepB_none (s := (R, d)) HFS.out])
              have HN1 := Lib.hid (show (colsS p vs (k + 1)).1 = R by rw [HNX.out])
              have HN2 := Lib.hid (show (colsS p vs (k + 1)).2 = d by rw [HNX.out])
              rw [← HN1.out] at HTB
              refine ⟨⟨k + 1, d, A, c, by omega, hdm, by go_num, rfl, HN2, HTB, HD, HB⟩, ?_⟩
              simp [intOf]; omega
        · obtain rfl : d = m := by omega
          have HBE := Lib.hid (show basisN p vs = R.take d by rw [basisN_end HN0.out hk (.inr (HDN.out.trans HN.out.symm)), HR.out, HDN.out])
          have HBL := Lib.hid (show (basisN p vs).length = d by rw [HBE.out, List.length_take, HLEN.out]; omega)
          go_wp2_with fail
          go_ret
          exact ⟨_, q, by rw [HBL.out]; rfl, by rw [HBL.out]; omega, fun _ => ⟨g, A, c, rfl, by rw [HBL.out, HBE.out]; exact HTB.out.take (Nat.le_refl _), by rw [HBL.out]; exact HD.out⟩, HB.out⟩
      · obtain rfl : k = n := by omega
        have HBE := Lib.hid (show basisN p vs = R.take d by rw [basisN_end HN0.out hk (.inl rfl), HR.out, HDN.out])
        have HBL := Lib.hid (show (basisN p vs).length = d by rw [HBE.out, List.length_take, HLEN.out]; omega)
        go_wp2_with fail
        go_ret
        exact ⟨_, q, by rw [HBL.out]; rfl, by rw [HBL.out]; omega, fun _ => ⟨g, A, c, rfl, by rw [HBL.out, HBE.out]; exact HTB.out.take hdm, by rw [HBL.out]; exact HD.out.less hdm⟩, HB.out⟩
end Go.Proofs.Ytcgghjhccnjeoaa
