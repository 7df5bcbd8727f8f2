/- Contracts: the reference's solving of a system, as its test of a span uses it. Conditions stand in each theorem. -/
import Derived.Test.YtcgghjhccnjeoaaTurn
import Derived.Deep.RegionHeld3
import Derived.Deep.DeepCutAuto
namespace Go.Proofs.Ytcgghjhccnjeoaa
open Go.RowKit
set_option linter.unusedVariables false
set_option linter.unusedSimpArgs false

theorem augL_get {n k : Nat} {vs : List (List Int)} {v : List Int} (h : k < n) : (augL n vs v)[k]? = some ((vs.map fun r => ent r k) ++ [ent v k]) := by
  unfold augL; rw [List.getElem?_map, List.getElem?_range h]; rfl

set_option maxHeartbeats 4000000 in
theorem spec_l02Solve (p : Int) (L B : Option Addr) (m n q0 c : Nat) (list : List (List Int)) (v : List Int) (w : World) (hl : Lists w L n (turnL n list)) (hv : Ints w B n v) (ht : TabP p n list) (hlen : list.length = m) (hnum : numsB p v = true) (hp : primeB p = true) (hn : 0 < n) (hn2 : n ≤ 16) (hm : 0 < m) (hm2 : m ≤ 16) :
    Calls Try.prog 50 #[.int .i64 p, .slice L n q0, .slice B n c] w fun e w' => ∃ A' n' c', e = .returned (.tuple #[.slice A' n' c', .bool (inspB p list v)]) ∧ Below w.heap.size w w' := by
  have h0 := prime_lo hp
  have HL := Lib.hid hl
  have HX := Lib.hid hv
  have HP := Lib.hid hp
  have HN := Lib.hid hlen
  have HIA := Lib.hid (insp_aug hp (by omega) ht hv.1 hnum)
  rw [hlen] at HIA
  have HTA := Lib.hid (augL_tab (by omega) ht hnum)
  rw [hlen] at HTA
  have HAL := Lib.hid (augL_len n list v)
  have HA0 := Lib.hid (show (rowAt (augL n list v) 0).length = m + 1 from (HTA.out.at_ (by rw [HAL.out]; exact hn)).1)
  obtain ⟨pv, hpv, hfl⟩ := basis_leads hp HTA.out (Or.inr HA0.out)
  have HPV := Lib.hid hpv
  have HFL := Lib.hid (hfl m (Nat.lt_succ_self _))
  have hdn := basisN_le p (augL n list v)
  rw [HAL.out] at hdn
  have HE : Hid (basisN p (augL n list v) = (colsS p (augL n list v) (m + 1)).1.take (basisN p (augL n list v)).length) := Lib.hid (by
    have e := basisN_len p (augL n list v)
    rw [HA0.out] at e
    rw [e]
    exact basisN_end HA0.out (Nat.le_refl _) (Or.inl rfl))
  obtain ⟨R, HRR⟩ : ∃ R, Hid (basisN p (augL n list v) = R) := ⟨_, Lib.hid rfl⟩
  rw [HRR.out] at hdn HE HPV HFL
  obtain ⟨d, HD⟩ : ∃ d, Hid (R.length = d) := ⟨_, Lib.hid rfl⟩
  rw [HD.out] at hdn HE HPV HFL
  clear hl hv ht hlen hnum hp hpv hfl
  obtain ⟨i0, hi0, hz0, hz1, hz2⟩ := info_parts int_info
  obtain ⟨j0, hj0, hy0, hy1, hy2⟩ := info_parts rows_info
  have hmk := run_make_row' (P := Try.prog) 29 2 (.int .i64 0) 8 Try.underlying29 int_info rfl .i64 .i64 m (by omega) (by omega)
  obtain ⟨b0, off0, u0, B0, nn, c0, rfl, hv0, hcell0, hints0⟩ := HL.out.at_ hn
  have hu0 : u0 = list.map fun r => ent r 0 := by
    rw [turnL_get hn] at hv0
    injection hv0 with hv0
    exact hv0.symm
  obtain rfl : nn = m := by rw [← hints0.1, hu0, List.length_map]; exact HN.out
  rw [Nat.add_zero] at hcell0
  have HC0 := Lib.hid hcell0
  clear hcell0 hints0 hv0 hu0
  obtain ⟨bx, offx, rfl, hbx, hcx⟩ := HX.out.2.2 hn
  have HCX := Lib.hid hcx
  clear hcx
  go_enter Try.func50, Try.ntmps50
  go_wp2
  go_loopw [8, 9] (fun o i wr => ∃ (k : Nat) (cs : List Value), k ≤ n ∧ i = .int .i64 k ∧ Hid (RowsC w.heap.size wr 29 o k ((augL n list v).take k) cs) ∧ Hid (Below w.heap.size w wr)) (fun _ i _ => n - (intOf i).toNat)
  case atStart => exact ⟨0, [], Nat.zero_le _, rfl, Lib.hid (RowsC.empty w 29 _ _ rfl (Nat.le_refl _)), Lib.hid (below_alloc _ _)⟩
  case round =>
    obtain ⟨k, cs, hk, rfl, HR, HB⟩ := hrel
    obtain ⟨u, hu⟩ : ∃ u, u = wr := ⟨_, rfl⟩
    subst hu
    by_cases hlt : k < n
    · have hklt : (k : Int) < n := by omega
      obtain ⟨b, off, y, C, n1, c1, e1, hyk, hcell, hints⟩ := (HL.out.keep HB.out).at_ hlt
      injection e1 with e1
      injection e1 with e1 e2
      subst e1 e2
      rw [turnL_get hlt] at hyk
      injection hyk with hyk
      subst hyk
      obtain rfl : n1 = nn := by rw [← hints.1, List.length_map]; exact HN.out
      have HI := Lib.hid hints
      obtain ⟨x, HXK⟩ : ∃ x, Hid (ent v k = x) := ⟨_, Lib.hid rfl⟩
      have hck2 := keep_cell HB.out (HCX.out k (ent v k) (ent_get (by rw [HX.out.1]; exact hlt)))
      rw [HXK.out] at hck2
      have HS := Lib.hid (take_snoc' (augL_get (vs := list) (v := v) hlt))
      rw [HXK.out] at HS
      have hsz := HB.out.size
      clear hints
      have hb0 : b0 < w.heap.size := by obtain ⟨_, _, e, h, _⟩ := HL.out.2.2 hn; injection e with e; injection e with e; omega
      go_wp2_with fail
      go_region_held3 (fun w' => w'.cell? ⟨b0, off0 + k, none⟩ = some (.slice C n1 c1) ∧ w'.cell? ⟨bx, offx + k, none⟩ = some (.int .i64 x) ∧ Below w.heap.size w w')
        (first
          | exact ⟨hcell, hck2, HB.out.drew⟩
          | (go_split_ands; exact ⟨‹_›, ‹_›, ‹_›⟩)
          | (go_split_ands; exact ⟨cell_grown (own_keep (hbq.alloc (by have := hbq.size; omega) _) HR.out.own) hgrow2 ‹_› hb0, cell_grown (own_keep (hbq.alloc (by have := hbq.size; omega) _) HR.out.own) hgrow2 ‹_› hbx, below_own (own_keep (hbq.alloc (by have := hbq.size; omega) _) HR.out.own) hgrow2 ‹_› (Nat.le_refl _) (by have := hbq.size; simp; omega)⟩)
          | (go_split_ands; exact ⟨cell_grown (hoz.alloc _) hgrow1 ‹_› (by simp; omega), cell_grown (hoz.alloc _) hgrow1 ‹_› (by simp; omega), below_own (hoz.alloc _) hgrow1 ‹_› (by simp; omega) (by have := hbz.size; simp at this; simp; omega)⟩)
          | (go_split_ands; exact ⟨cell_grown hoz hgrow1 ‹_› (by simp; omega), cell_grown hoz hgrow1 ‹_› (by simp; omega), below_own hoz hgrow1 ‹_› (by simp; omega) (by have := hbz.size; simp at this; omega)⟩)
          | (go_split_ands; exact ⟨keep_cell hbz ‹_›, keep_cell hbz ‹_›, below_then ‹_› hbz⟩)
          | (go_split_ands; exact ⟨keep_cell (below_alloc _ _) ‹_›, keep_cell (below_alloc _ _) ‹_›, below_then ‹_› (below_alloc _ _)⟩)
          | go_keep)
        (first
          | (go_at_call 69; refine (row_OwnR _ n1 _ _ _ (HI.out.keep (by first | exact (Below.refl _ _).drew | exact (Below.refl _ _).drew.alloc (Nat.le_refl _) _)) hm (by omega)).mono ?_; rintro e vz ⟨D, q1, rfl, hoz, hbz⟩)
          | (refine step_append_lies _ (by rfl) _ _ _ (by rfl) _ 2 i0 _ 1 8 Try.underlying29 hi0 hz0 hz1 hz2 rfl (by omega) (.slice D n1 q1) n1 _ (by rfl) (hoz.alloc _) ⟨vz.heap.size, 0, none⟩ 1 1 [.int .i64 x] (by rfl) (by rfl) (cell_one_new _ _ _) (by simp [Value.oneCell']) (by omega) (by unfold maxLen; omega) (by omega) (by have := hbz.size; simp at this; simp; omega) (vz.heap.size + 1) (by simp) ?_; intro g1 cap1 w1 hown1 hgrow1 hat1 hlt1; have hbq : Below u.heap.size u w1 := below_own (hoz.alloc _) hgrow1 ((below_then (Below.refl u.heap.size u).drew hbz).alloc (by have := hbz.size; simpa using this) _) (by simp) (by have := hbz.size; simp at this; simp; omega))
          | (refine step_append_lies _ (by rfl) _ _ _ (by rfl) _ 2 i0 _ 1 8 Try.underlying29 hi0 hz0 hz1 hz2 rfl (by omega) (.slice D n1 q1) n1 _ (by rfl) hoz ⟨u.heap.size, 0, none⟩ 1 1 [.int .i64 x] (by rfl) (by rfl) (fun j y hj => keep_cell hbz (cell_one_new _ _ _ j y hj)) (by simp [Value.oneCell']) (by omega) (by unfold maxLen; omega) (by omega) (by have := hbz.size; simp at this; simp; omega) vz.heap.size rfl ?_; intro g1 cap1 w1 hown1 hgrow1 hat1 hlt1; have hbq : Below u.heap.size u w1 := below_own hoz hgrow1 (below_then ((Below.refl u.heap.size u).drew.alloc (Nat.le_refl _) _) hbz) (by simp) (by have := hbz.size; simp at this; omega))
          | (refine step_append_lies _ (by rfl) _ _ _ (by rfl) w.heap.size 29 j0 _ 1 24 Try.underlying22 hj0 hy0 hy1 hy2 rfl (by omega) u8 k cs (by rfl) (own_keep (hbq.alloc (by have := hbq.size; omega) _) HR.out.own) ⟨w1.heap.size, 0, none⟩ 1 1 [.slice (some ⟨g1, 0, none⟩) (n1 + 1) cap1] (by rfl) (by rfl) (cell_one_new _ _ _) (by simp [Value.oneCell']) (by omega) (by unfold maxLen; omega) (by omega) (by have := hbq.size; simp; omega) (w1.heap.size + 1) (by simp) ?_; intro g2 cap2 w2 hown2 hgrow2 hat2 hlt2))
      all_goals
        rename_i hh
        obtain ⟨_, _, hbw⟩ := hh
        have HB3 := Lib.hid hbw
        have hsu := hbq.size
        have hro := hown1
        rw [show (List.map (Value.int .i64) (List.map (fun r => ent r k) list) ++ [Value.int .i64 x]) = ((List.map (fun r => ent r k) list) ++ [x]).map (Value.int .i64) by rw [List.map_append]; rfl] at hro
        obtain ⟨C4, q4, e4, ho4, hq4, hq5⟩ := Own.of_own2 hro
        injection e4 with e4 _ e5
        subst e4 e5
        have hg1 : u.heap.size ≤ g1 ∧ g1 < w1.heap.size := ⟨by have := (hown1.lt g1 (by simp [Value.ownBlock])).1; (try simp at this); omega, hlt1⟩
        have HPU := Lib.hid (RowsC.push ((HR.out.keep hbq).keep (below_alloc _ _)) ((ho4.less (B' := w.heap.size) (by (try simp); omega)).keep (below_alloc _ _)) hq4 hq5 (fun a ha => by
            injection ha with ha
            subst ha
            refine ⟨fun e => ?_, by simp; omega⟩
            have h1 := (HR.out.own.lt _ e).2
            simp at h1
            omega) (fun a ha j b m d hj => by
            injection ha with ha
            subst ha
            have h1 := HR.out.block j b m d hj
            show b.block ≠ g1
            omega) hgrow2 hown2 (by
            rcases hat2 with e | e
            · exact .inl e
            · exact .inr ⟨g2, rfl, by rw [e]; simp⟩))
        clear hbw hown1 hgrow1 hat1 hlt1 hown2 hgrow2 hat2 hlt2 hro ho4 hq4 hq5 hoz hbz hbq hg1 hcell hck2
        go_wp2
        go_roundw
        case rel => exact ⟨k + 1, _, by omega, by go_num, Lib.hid (by rw [HS.out]; exact HPU.out), HB3⟩
        case measure => simp [intOf]; omega
    · obtain rfl : k = n := by omega
      have HVT := Lib.hid (show (augL k list v).take k = augL k list v from List.take_of_length_le (by rw [HAL.out]; exact Nat.le_refl _))
      rw [HVT.out] at HR
      obtain ⟨K, q, rfl, hlists⟩ := HR.out.lists (by omega)
      have HLi := Lib.hid hlists
      clear hlists
      go_wp2_with fail
      refine (spec_l02Basis p K k q (nn + 1) (augL k list v) _ HLi.out HTA.out HP.out (by omega) (by omega) (by omega)).mono ?_
      rw [HRR.out, HD.out]
      rintro e w2 ⟨K2, q2, rfl, htab, hb⟩
      obtain ⟨g, A, c2, rfl, h1, h2⟩ := htab hn
      have h3 := h1.take hdn
      rw [← HE.out] at h3
      have HTB := Lib.hid h3
      have HB2 := Lib.hid (below_then HB.out hb)
      have hcell0 := keep_cell HB2.out HC0.out
      clear htab hb h1 h2 h3
      obtain ⟨N1, HN1⟩ : ∃ N1, Hid (nn + 1 = N1) := ⟨_, Lib.hid rfl⟩
      rw [HN1.out] at HTB HPV
      have hN1 : nn < N1 := by have := HN1.out; omega
      have hN2 : N1 ≤ 17 := by have := HN1.out; omega
      go_wp2
      go_loopw [12] (fun i wr => ∃ (t : Nat) (f : Nat → Value), t ≤ d ∧ i = .int .i64 t ∧ Hid (wr.rowIs w2.heap.size 2 nn f) ∧ Hid (∀ j, j < t → pv j ≠ nn) ∧ Hid (Below w2.heap.size w2 wr)) (fun i _ => d - (intOf i).toNat)
      case atStart => exact ⟨0, _, Nat.zero_le _, rfl, Lib.hid (World.rowIs_made w2 (.int .i64 0) nn 2), Lib.hid (fun j hj => absurd hj (Nat.not_lt_zero _)), Lib.hid (below_alloc _ _)⟩
      case round =>
        clear hcell0
        obtain ⟨t, f, htd, rfl, HF, HNO, HBK⟩ := hrel
        by_cases htl : t < d
        · have hT := HTB.out.keep HBK.out
          have hcg := hT.cell t htl
          obtain ⟨b3, off3, hA3, hbl3, hcell3⟩ := hT.ent htl hN1
          have ho3 := (hT.own t htl).ints
          rw [hA3] at hcg ho3
          have HI := Lib.hid ho3
          obtain ⟨hp1, hp2⟩ := HPV.out t htl
          have HLD := Lib.hid hp2
          obtain ⟨y, HY⟩ : ∃ y, Hid (ent (rowAt R t) nn = y) := ⟨_, Lib.hid rfl⟩
          rw [HY.out] at hcell3
          have htz : (t : Int) < d := by omega
          obtain ⟨z, HZ⟩ : ∃ z, Hid (pv t = z) := ⟨_, Lib.hid rfl⟩
          rw [HZ.out] at hp1 HLD
          have hzi : (z : Int) < N1 := by omega
          clear hT ho3 hA3 hbl3 hp2
          by_cases hzn : z = nn
          · have hz1 : ((z : Int) == nn) = true := by rw [hzn, beq_self_eq_true]
            have HR0 := Lib.hid (show inspB p list v = false by
              have h := HFL.out.2 ⟨t, htl, HZ.out.trans hzn⟩
              rw [HIA.out] at h
              simpa using h)
            clear hzn
            go_wp2_with fail
            refine (spec_l02First _ N1 _ z (rowAt R t) _ HI.out HLD.out hp1 (by omega)).mono ?_
            rintro e v3 ⟨rfl, rfl⟩
            go_wp2_with fail
            go_ret2
            exact ⟨_, _, _, by rw [HR0.out]; rfl, below_then HB2.out HBK.out⟩
          · have hz1 : ((z : Int) == nn) = false := by rw [beq_eq_false_iff_ne]; omega
            have hzm : z < nn := by have := HN1.out; omega
            have hzz : (z : Int) < nn := by omega
            have hco := HF.out.cell hzm
            have hfo := HF.out.frozen z
            have hNO2 := Lib.hid (show ∀ j, j < t + 1 → pv j ≠ nn from fun j hj => by
              by_cases e : j = t
              · subst e; rw [HZ.out]; exact hzn
              · exact HNO.out j (by omega))
            have hnz : (nn : Int) < N1 := by omega
            clear hzn
            go_wp2_with fail
            refine (spec_l02First _ N1 _ z (rowAt R t) _ HI.out HLD.out hp1 (by omega)).mono ?_
            rintro e v3 ⟨rfl, rfl⟩
            go_wp2
            go_roundw
            case rel => exact ⟨t + 1, _, by omega, by go_num, Lib.hid (HF.out.set z _), hNO2, Lib.hid (HBK.out.setCell (Nat.le_refl _) _)⟩
            case measure => simp [intOf]; omega
        · obtain rfl : t = d := by omega
          have HR1 := Lib.hid (show inspB p list v = true by
            cases e : inspB p list v with
            | true => rfl
            | false =>
              exfalso
              have h := HIA.out
              rw [e] at h
              obtain ⟨i, hi, hpi⟩ := HFL.out.1 h
              exact HNO.out i hi hpi)
          go_wp2
          go_ret2
          exact ⟨_, _, _, by rw [HR1.out]; rfl, below_then HB2.out HBK.out⟩
end Go.Proofs.Ytcgghjhccnjeoaa
