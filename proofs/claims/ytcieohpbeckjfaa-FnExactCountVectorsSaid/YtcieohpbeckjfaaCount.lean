/- Contracts: how many vectors have a norm. Conditions stand in each theorem. -/
import Derived.Test.YtcieohpbeckjfaaCountP
import Derived.Test.YtcieohpbeckjfaaBlade
import Derived.Test.YtcieohpbeckjfaaVec
import Derived.RegionTactic
import Derived.ChangeAlike
namespace Go.Proofs.Ytcieohpbeckjfaa
open Go.RowKit
set_option linter.unusedVariables false
set_option linter.unusedSimpArgs false

theorem make_sm {m : Nat} (hm : m ≤ 1000) (w : World) : (Instr.makeSlice 22 (.int .i64 m) (.int .i64 m)).run Try.prog w = .ok (.slice (some ⟨w.heap.size, 0, none⟩) m m) (w.alloc (.cells (madeCells #[.int .i64 0] m) 2)) :=
  run_make_row' (P := Try.prog) 22 2 (.int .i64 0) 8 Try.underlying22 int_info rfl .i64 .i64 m (by omega) (by omega) w
theorem made_at (w : World) {n k : Nat} (hk : k < n) (hn : n ≤ 1000) : (w.alloc (.cells (madeCells #[.int .i64 0] n) 2)).cell? ⟨w.heap.size, k, none⟩ = some (.int .i64 0) ∧ (w.alloc (.cells (madeCells #[.int .i64 0] n) 2)).frozen? ⟨w.heap.size, k, none⟩ = false := by
  have hz := own_zeros w n (by unfold maxLen; omega) _ rfl 2 0 (Nat.zero_le _)
  obtain ⟨b', off', e', hd1, hd2, hcl, hfz⟩ := hz.2.2 (by omega)
  injection e' with e'
  injection e' with e1' e2'
  subst e1' e2'
  have h1 := hcl k 0 (by rw [List.getElem?_replicate, if_pos hk])
  have h2 := hfz k hk
  rw [Nat.zero_add] at h1 h2
  exact ⟨h1, h2⟩
theorem own_first (w : World) {n B : Nat} (hn0 : 0 < n) (hn : n ≤ 1000) (hB : B ≤ w.heap.size) : Own B (w.alloc (.cells ((madeCells #[.int .i64 0] n).setIfInBounds 0 (.int .i64 1)) 2)) (some ⟨w.heap.size, 0, none⟩) n ((List.replicate n 0).set 0 1) := by
  have h := (own_zeros w n (by unfold maxLen; omega) _ rfl 2 B hB).set_ (j := 0) hn0 1
  rw [World.setCell_alloc_at _ _ _ _ _ rfl] at h
  exact h
theorem num_is {p n j : Int} {w : World} (h0 : 1 ≤ p) (h1 : p ≤ 13) (h : n % p = j) : Calls Try.prog 58 #[.int .i64 p, .int .i64 n] w fun e w' => e = .returned (.int .i64 j) ∧ w = w' := by
  have h2 := impl_num p n w h0 h1
  rw [h] at h2
  exact h2
theorem sq_bounds {x P : Nat} {s : Int} (hx : x < P) (hP : P ≤ 13) (h0 : 0 ≤ s) (h1 : s < P) : 0 ≤ (x : Int) * x ∧ (x : Int) * x ≤ 144 ∧ 0 ≤ (x : Int) * x * s ∧ (x : Int) * x * s ≤ 1728 ∧ 0 ≤ (x : Int) * x % P ∧ (x : Int) * x % P ≤ 12 ∧ 0 ≤ (x : Int) * x % P * s ∧ (x : Int) * x % P * s ≤ 144 := by
  have a0 : 0 ≤ (x : Int) * x := Int.mul_nonneg (by omega) (by omega)
  have a1 : (x : Int) * x ≤ 12 * 12 := Int.mul_le_mul (by omega) (by omega) (by omega) (by decide)
  have b0 : 0 ≤ (x : Int) * x * s := Int.mul_nonneg a0 h0
  have b1 : (x : Int) * x * s ≤ 144 * 12 := Int.mul_le_mul (by omega) (by omega) h0 (by decide)
  have c0 := Int.emod_nonneg ((x : Int) * x) (show (P : Int) ≠ 0 by omega)
  have c1 := Int.emod_lt_of_pos ((x : Int) * x) (show (0 : Int) < P by omega)
  have d0 : 0 ≤ (x : Int) * x % P * s := Int.mul_nonneg c0 h0
  have d1 : (x : Int) * x % P * s ≤ 12 * 12 := Int.mul_le_mul (by omega) (by omega) h0 (by decide)
  exact ⟨a0, by omega, b0, by omega, c0, by omega, d0, by omega⟩

set_option maxHeartbeats 4000000 in
theorem spec_l03Counts (A : Option Addr) (n c P : Nat) (xs : List Int) (w : World) (hx : Ints w A n xs) (hP1 : 3 ≤ P) (hP2 : P ≤ 13) (hn6 : n ≤ 6) (hnum : numsB (P : Nat) xs = true) :
    Calls Try.prog 57 #[.agg #[.int .i64 (P : Nat), .slice A n c]] w fun e w' => ∃ b, e = .returned (.slice (some ⟨b, 0, none⟩) P P) ∧ Own w.heap.size w' (some ⟨b, 0, none⟩) P (cntS P xs n) ∧ Below w.heap.size w w' := by
  have HX := Lib.hid hx
  have HN := Lib.hid hx.1
  have HNU := Lib.hid hnum
  clear hx hnum
  have hmk := make_sm (show P ≤ 1000 by omega)
  have hPi : (0 : Int) < P := by omega
  have H2 := Lib.hid (show Below w.heap.size w (w.alloc (.cells #[.int .i64 (P : Nat), .slice A n c] 27)) from (Below.refl _ _).alloc (Nat.le_refl _) _)
  have HF := Lib.hid (own_first (w.alloc (.cells #[.int .i64 (P : Nat), .slice A n c] 27)) (n := P) (B := w.heap.size + 1) (by omega) (by omega) (by simp))
  have hm0 := (made_at (w.alloc (.cells #[.int .i64 (P : Nat), .slice A n c] 27)) (n := P) (k := 0) (by omega) (by omega)).1
  have hm1 := (made_at (w.alloc (.cells #[.int .i64 (P : Nat), .slice A n c] 27)) (n := P) (k := 0) (by omega) (by omega)).2
  go_enter Try.func57, Try.ntmps57
  have c0 : (w.alloc (.cells #[.int .i64 (P : Nat), .slice A n c] 27)).cell? ⟨w.heap.size, 0, none⟩ = some (.int .i64 (P : Nat)) := by simp [go_sem]
  have c1 : (w.alloc (.cells #[.int .i64 (P : Nat), .slice A n c] 27)).cell? ⟨w.heap.size, 1, none⟩ = some (.slice A n c) := by simp [go_sem]
  have HW := Lib.hid (Below.refl (w.alloc (.cells #[.int .i64 (P : Nat), .slice A n c] 27)).heap.size (w.alloc (.cells #[.int .i64 (P : Nat), .slice A n c] 27)))
  have hsz0 : (w.alloc (.cells #[.int .i64 (P : Nat), .slice A n c] 27)).heap.size = w.heap.size + 1 := by simp
  rw [hsz0] at hm0 hm1
  clear hsz0
  go_wp2
  go_loopw [3, 4] (fun m i wr => ∃ k b : Nat, k ≤ n ∧ i = .int .i64 k ∧ m = .slice (some ⟨b, 0, none⟩) P P ∧ Own (w.heap.size + 1) wr (some ⟨b, 0, none⟩) P (cntS P xs k) ∧ wr.cell? ⟨w.heap.size, 0, none⟩ = some (.int .i64 (P : Nat)) ∧ wr.cell? ⟨w.heap.size, 1, none⟩ = some (.slice A n c) ∧ Below w.heap.size w wr) (fun _ i _ => n - (intOf i).toNat)
  case atStart => exact ⟨0, w.heap.size + 1, Nat.zero_le _, rfl, rfl, by simpa [cntS] using HF.out, keep_cell (below_alloc _ _) c0, keep_cell (below_alloc _ _) c1, H2.out.alloc H2.out.size _⟩
  case round =>
    clear c0 c1 HW
    obtain ⟨k, b, hk, rfl, rfl, hown, c0, c1, hbel⟩ := hrel
    have HM := Lib.hid hown
    have HB := Lib.hid hbel
    have hszw := hbel.size
    have hw1 : w.heap.size + 1 ≤ wr.heap.size := World.block_lt_of_cell? _ _ c0
    clear hown hbel
    by_cases hlt : k < n
    rotate_left
    · obtain rfl : k = n := by omega
      go_wp2
      go_ret
      exact ⟨_, rfl, HM.out.less (by omega), HB.out⟩
    obtain ⟨bs, os, s, rfl, hbs, hsk, hsc⟩ := (HX.out.keep HB.out).at_ hlt
    obtain ⟨hs0, hs1⟩ := numB_true (numsB_at HNU.out hsk)
    have HSQ := Lib.hid (show xs.getD k 0 = s by rw [List.getD_eq_getElem?_getD, hsk]; rfl)
    have hkn : (k : Int) < n := by omega
    have hk0 : (0 : Int) ≤ k := by omega
    clear hsk hbs
    obtain ⟨wo, rfl⟩ : ∃ wo : World, wo = wr := ⟨_, rfl⟩
    have HWB := Lib.hid (Below.refl wo.heap.size wo)
    have n0 := keep_cell (below_alloc wo (.cells (madeCells #[.int .i64 0] P) 2)) c0
    have n1 := keep_cell (below_alloc wo (.cells (madeCells #[.int .i64 0] P) 2)) c1
    have HZ := Lib.hid (own_zeros wo P (by unfold maxLen; omega) _ rfl 2 wo.heap.size (Nat.le_refl _))
    go_wp2
    go_loopw [6] (fun i2 wq => ∃ q : Nat, q ≤ P ∧ i2 = .int .i64 q ∧ Own wo.heap.size wq (some ⟨wo.heap.size, 0, none⟩) P (cntO P s (cntS P xs k) q) ∧ Below wo.heap.size wo wq) (fun i2 _ => P - (intOf i2).toNat)
    case atStart => exact ⟨0, Nat.zero_le _, rfl, HZ.out, below_alloc _ _⟩
    case round =>
      obtain ⟨q, hq, rfl, hown, hbel⟩ := hrel
      have HO1 := Lib.hid hown
      have HB1 := Lib.hid hbel
      have d0 := keep_cell hbel c0
      have d1 := keep_cell hbel c1
      clear hown hbel
      by_cases hltc : q < P
      rotate_left
      · obtain rfl : q = P := by omega
        go_wp2
        go_roundw
        case rel => exact ⟨k + 1, wo.heap.size, by omega, by go_num, rfl, by
          show Own _ _ _ _ (cntO q (xs.getD k 0) (cntS q xs k) q)
          rw [HSQ.out]; exact HO1.out.less hw1, d0, d1, below_then HB.out HB1.out⟩
        case measure => simp [intOf]; omega
      go_wp2
      go_loopw [7] (fun i3 wq => ∃ x : Nat, x ≤ P ∧ i3 = .int .i64 x ∧ Own wo.heap.size wq (some ⟨wo.heap.size, 0, none⟩) P (cntI P s ((cntS P xs k).getD q 0) q (cntO P s (cntS P xs k) q) x) ∧ Below wo.heap.size wo wq) (fun i3 _ => P - (intOf i3).toNat)
      case atStart => exact ⟨0, Nat.zero_le _, rfl, HO1.out, HB1.out⟩
      case round =>
        obtain ⟨x, hx, rfl, hown, hbel⟩ := hrel
        have HO2 := Lib.hid hown
        have HB2 := Lib.hid hbel
        have f0 := keep_cell hbel c0
        have f1 := keep_cell hbel c1
        clear hown hbel
        by_cases hltx : x < P
        rotate_left
        · obtain rfl : x = P := by omega
          go_wp2
          go_roundw
          case rel => exact ⟨q + 1, by omega, by go_num, HO2.out, HB2.out⟩
          case measure => simp [intOf]; omega
        have hxP : (x : Int) < P := by omega
        have hcP : (q : Int) < P := by omega
        have k0 : (0 : Int) ≤ x := by omega
        have k1 : (0 : Int) ≤ q := by omega
        obtain ⟨a0, a1, a2, a3, a4, a5, a6, a7⟩ := sq_bounds hltx hP2 hs0 hs1
        obtain ⟨⟨v0, v1⟩, u0, u1⟩ := cnt_bounds (sqs := xs) (sq := s) hP2 (show k ≤ 5 by omega) hltc hltx (idxN P q x s)
        obtain ⟨u, HU⟩ : ∃ u, Hid ((cntI P s ((cntS P xs k).getD q 0) q (cntO P s (cntS P xs k) q) x).getD (idxN P q x s) 0 = u) := ⟨_, Lib.hid rfl⟩
        rw [HU.out] at u0 u1
        obtain ⟨v, HV⟩ : ∃ v, Hid ((cntS P xs k).getD q 0 = v) := ⟨_, Lib.hid rfl⟩
        rw [HV.out] at v0 v1 HO2 HU
        obtain ⟨j, HJ⟩ : ∃ j, Hid (idxN P q x s = j) := ⟨_, Lib.hid rfl⟩
        have hjP : j < P := by rw [← HJ.out]; exact idxN_lt (by omega)
        have hji : (j : Int) < P := by omega
        have hj0 : (0 : Int) ≤ j := by omega
        rw [HJ.out] at HU
        have hlen2 : (cntI P s v q (cntO P s (cntS P xs k) q) x).length = P := by rw [cntI_len, cntO_len]
        have hget : (cntI P s v q (cntO P s (cntS P xs k) q) x)[j]? = some u := by
          have e : (cntI P s v q (cntO P s (cntS P xs k) q) x)[j]? = some ((cntI P s v q (cntO P s (cntS P xs k) q) x)[j]'(by omega)) := List.getElem?_eq_getElem _
          rw [e, ← HU.out, List.getD_eq_getElem?_getD, e]; rfl
        have HGET := Lib.hid hget
        obtain ⟨b', off', e', hd1, hd2, hcl, hfz⟩ := HO2.out.2.2 (by omega)
        injection e' with e'
        injection e' with e1' e2'
        subst e1' e2'
        have hcell := hcl j u hget
        have hfr := hfz j hjP
        simp only [Nat.zero_add] at hcell hfr
        clear hcl hfz hget hlen2
        have mc := (HM.out.keep HB2.out).2.2 (by omega)
        obtain ⟨mb, mo, me, _, _, mcl, _⟩ := mc
        injection me with me
        injection me with me1 me2
        subst me1 me2
        have mcell := mcl q v (by
          have e : (cntS P xs k)[q]? = some ((cntS P xs k)[q]'(by rw [cntS_len]; omega)) := List.getElem?_eq_getElem _
          rw [e, ← HV.out, List.getD_eq_getElem?_getD, e]; rfl)
        simp only [Nat.zero_add] at mcell
        clear mcl
        have scell := keep_cell (below_then HWB.out HB2.out) hsc
        have e1 : IntKind.i64.wrap ((x : Int) * x) = (x : Int) * x := IntWalk.i64_in _ (by omega)
        have e2 : ((x : Int) * x).tmod P = (x : Int) * x % P := Int.tmod_eq_emod_of_nonneg (by omega)
        have e3 : IntKind.i64.wrap ((x : Int) * x % P * s) = (x : Int) * x % P * s := IntWalk.i64_in _ (by omega)
        have e4 : IntKind.i64.wrap ((q : Int) + (x : Int) * x % P * s) = (q : Int) + (x : Int) * x % P * s := IntWalk.i64_in _ (by omega)
        have e5 : ((q : Int) + (x : Int) * x % P * s).tmod P = ((q : Int) + (x : Int) * x % P * s) % P := Int.tmod_eq_emod_of_nonneg (by omega)
        have e6 : ((q : Int) + (x : Int) * x % P * s) % P = (j : Int) := by rw [idxN_eq2 (by omega), HJ.out]
        have e7 : IntKind.i64.wrap (u + v) = u + v := IntWalk.i64_in _ (by omega)
        have z1 : ¬ (P : Int) = 0 := by omega
        have z2 : ((P : Int) == 0) = false := by simp; omega
        go_wp2_with fail
        go_quiet (fail)
        clear e1 e2 e3 e4 e5 e6
        go_wp2_with fail
        go_region
        all_goals
          clear e7 z1 z2
          go_wp2
          go_roundw
          case rel =>
            refine ⟨x + 1, by omega, by go_num, ?_, (below_drewN HB2.out _).drew.setCell (Nat.le_refl _) _⟩
            have h := HO2.out.set_ (j := j) hjP (u + v)
            simp only [Nat.zero_add] at h
            show Own _ _ _ _ ((cntI P s ((cntS P xs k).getD q 0) q (cntO P s (cntS P xs k) q) x).set (idxN P q x s) ((cntI P s ((cntS P xs k).getD q 0) q (cntO P s (cntS P xs k) q) x).getD (idxN P q x s) 0 + (cntS P xs k).getD q 0))
            rw [HV.out, HJ.out, HU.out]
            exact h
          case measure => simp [intOf]; omega

theorem in_is_ (n lo hi : Int) (b : Bool) (w : World) (h : rangeB n lo hi = b) : Calls Try.prog 56 #[.int .i64 n, .int .i64 lo, .int .i64 hi] w fun e w' => e = .returned (.bool b) ∧ w = w' := by
  have h1 := spec_l01In n lo hi w
  rw [h] at h1
  exact h1
theorem cnt_get {P n j : Nat} {xs : List Int} (h : j < P) : (cntS P xs n)[j]? = some ((cntS P xs n).getD j 0) := by
  have e : (cntS P xs n)[j]? = some ((cntS P xs n)[j]'(by rw [cntS_len]; exact h)) := List.getElem?_eq_getElem _
  rw [List.getD_eq_getElem?_getD, e]; rfl

set_option maxHeartbeats 4000000 in
theorem spec_CountVectors (p : Int) (A : Option Addr) (n c : Nat) (xs : List Int) (cc : Int) (w : World) (hx : Ints w A n xs) :
    Calls Try.prog 28 #[.agg #[.int .i64 p, .slice A n c], .int .i64 cc] w fun e w' => e = .returned (.tuple #[.int .i64 (cvV p xs cc), .int .i64 (cvC p xs cc)]) ∧ Below w.heap.size w w' := by
  have HX := Lib.hid hx
  have hm := hx.2.1
  have HN := Lib.hid hx.1
  clear hx
  unfold maxLen at hm
  have H2 := Lib.hid (show Below w.heap.size w (w.alloc (.cells #[.int .i64 p, .slice A n c] 27)) from (Below.refl _ _).alloc (Nat.le_refl _) _)
  cases hs : spaceB p xs with
  | false =>
    have HS := Lib.hid hs
    have HC := Lib.hid (show cvC p xs cc = 1 by unfold cvC; rw [if_neg (by rw [hs]; simp)])
    have HV := Lib.hid (show cvV p xs cc = 0 by unfold cvV; rw [if_neg (by rw [HC.out]; omega)])
    rw [HV.out, HC.out]
    clear hs
    go_enter Try.func28, Try.ntmps28
    have c0 : (w.alloc (.cells #[.int .i64 p, .slice A n c] 27)).cell? ⟨w.heap.size, 0, none⟩ = some (.int .i64 p) := by simp [go_sem]
    have c1 : (w.alloc (.cells #[.int .i64 p, .slice A n c] 27)).cell? ⟨w.heap.size, 1, none⟩ = some (.slice A n c) := by simp [go_sem]
    have HW := Lib.hid (Below.refl (w.alloc (.cells #[.int .i64 p, .slice A n c] 27)).heap.size (w.alloc (.cells #[.int .i64 p, .slice A n c] 27)))
    go_wp2_with fail
    refine (spec_l03Is _ _ _ _ xs _ (HX.out.keep (H2.out.trans (HW.out.mono H2.out.size)))).mono ?_
    rw [HS.out]
    rintro e v ⟨rfl, hb⟩
    replace c0 := keep_cell hb c0
    replace c1 := keep_cell hb c1
    replace HW := Lib.hid (below_then HW.out hb)
    clear hb
    go_wp2_with fail
    go_ret2
    exact ⟨rfl, (H2.out.trans (HW.out.mono H2.out.size))⟩
  | true =>
    obtain ⟨hp, hl0, hl1, hn⟩ := spaceB_true hs
    rw [HN.out] at hl0 hl1
    have h0 := prime_lo hp
    have h1 := prime_hi hp
    have HS := Lib.hid hs
    have HNU0 := Lib.hid hn
    clear hp hn
    cases hk : numB p cc with
    | false =>
      have HK := Lib.hid (show rangeB cc 0 (p - 1) = false by rw [rangeB_num]; exact hk)
      have HK2 := Lib.hid (show numsB p [cc] = false by unfold numsB; simp [hk])
      have HC := Lib.hid (show cvC p xs cc = 2 by unfold cvC; rw [if_pos hs, hk]; rfl)
      have HV := Lib.hid (show cvV p xs cc = 0 by unfold cvV; rw [if_neg (by rw [HC.out]; omega)])
      rw [HV.out, HC.out]
      clear hs hk
      go_enter Try.func28, Try.ntmps28
      have c0 : (w.alloc (.cells #[.int .i64 p, .slice A n c] 27)).cell? ⟨w.heap.size, 0, none⟩ = some (.int .i64 p) := by simp [go_sem]
      have c1 : (w.alloc (.cells #[.int .i64 p, .slice A n c] 27)).cell? ⟨w.heap.size, 1, none⟩ = some (.slice A n c) := by simp [go_sem]
      have HW := Lib.hid (Below.refl (w.alloc (.cells #[.int .i64 p, .slice A n c] 27)).heap.size (w.alloc (.cells #[.int .i64 p, .slice A n c] 27)))
      go_wp2_with fail
      refine (spec_l03Is _ _ _ _ xs _ (HX.out.keep (H2.out.trans (HW.out.mono H2.out.size)))).mono ?_
      rw [HS.out]
      rintro e v ⟨rfl, hb⟩
      replace c0 := keep_cell hb c0
      replace c1 := keep_cell hb c1
      replace HW := Lib.hid (below_then HW.out hb)
      clear hb
      go_wp2_with fail
      refine (in_is_ _ _ _ false _ HK.out).mono ?_
      rintro e _v ⟨rfl, rfl⟩
      go_wp2_with fail
      go_ret2
      exact ⟨rfl, (H2.out.trans (HW.out.mono H2.out.size))⟩
    | true =>
      obtain ⟨P, rfl⟩ : ∃ P : Nat, p = P := ⟨p.toNat, by omega⟩
      obtain ⟨hc0, hc1⟩ := numB_true hk
      obtain ⟨cj, rfl⟩ : ∃ j : Nat, cc = j := ⟨cc.toNat, by omega⟩
      have hP1 : 3 ≤ P := by omega
      have hP2 : P ≤ 13 := by omega
      have HK := Lib.hid (show rangeB (cj : Int) 0 ((P : Int) - 1) = true by rw [rangeB_num]; exact hk)
      have HK2 := Lib.hid (show numsB (P : Int) [(cj : Int)] = true by unfold numsB; simp [hk])
      have HC := Lib.hid (show cvC (P : Int) xs cj = 0 by unfold cvC; rw [if_pos hs, hk]; rfl)
      have HV := Lib.hid (show cvV (P : Int) xs cj = (cntS P xs n).getD cj 0 by unfold cvV; rw [if_pos HC.out, HN.out]; simp)
      rw [HV.out, HC.out]
      clear hs hk
      go_enter Try.func28, Try.ntmps28
      have c0 : (w.alloc (.cells #[.int .i64 (P : Nat), .slice A n c] 27)).cell? ⟨w.heap.size, 0, none⟩ = some (.int .i64 (P : Nat)) := by simp [go_sem]
      have c1 : (w.alloc (.cells #[.int .i64 (P : Nat), .slice A n c] 27)).cell? ⟨w.heap.size, 1, none⟩ = some (.slice A n c) := by simp [go_sem]
      have HW := Lib.hid (Below.refl (w.alloc (.cells #[.int .i64 (P : Nat), .slice A n c] 27)).heap.size (w.alloc (.cells #[.int .i64 (P : Nat), .slice A n c] 27)))
      go_wp2_with fail
      refine (spec_l03Is _ _ _ _ xs _ (HX.out.keep (H2.out.trans (HW.out.mono H2.out.size)))).mono ?_
      rw [HS.out]
      rintro e v ⟨rfl, hb⟩
      replace c0 := keep_cell hb c0
      replace c1 := keep_cell hb c1
      replace HW := Lib.hid (below_then HW.out hb)
      clear hb
      go_wp2_with fail
      refine (in_is_ _ _ _ true _ HK.out).mono ?_
      rintro e _v ⟨rfl, rfl⟩
      go_wp2_with fail
      refine (spec_l03Counts _ n _ P xs _ (HX.out.keep (H2.out.trans (HW.out.mono H2.out.size))) hP1 hP2 hl1 HNU0.out).mono ?_
      rintro e v3 ⟨tb, rfl, ho, hb⟩
      replace c0 := keep_cell hb c0
      replace c1 := keep_cell hb c1
      replace HW := Lib.hid (below_then HW.out hb)
      clear hb
      obtain ⟨mb, mo, me, _, _, mcl, _⟩ := ho.2.2 (by omega)
      injection me with me
      injection me with me1 me2
      subst me1 me2
      have mcell := mcl cj _ (cnt_get (show cj < P by omega))
      simp only [Nat.zero_add] at mcell
      clear mcl
      obtain ⟨vv, HVV⟩ : ∃ v, Hid ((cntS P xs n).getD cj 0 = v) := ⟨_, Lib.hid rfl⟩
      rw [HVV.out] at mcell
      clear ho
      go_wp2_with fail
      go_ret2
      exact ⟨by rw [HVV.out]; rfl, (H2.out.trans (HW.out.mono H2.out.size))⟩

set_option maxHeartbeats 4000000 in
theorem impl_CountVectors (p : Int) (A : Option Addr) (n c : Nat) (xs : List Int) (cc : Int) (w : World) (hx : Ints w A n xs) :
    Calls Try.prog 29 #[.agg #[.int .i64 p, .slice A n c], .int .i64 cc] w fun e w' => e = .returned (.tuple #[.int .i64 (cvV p xs cc), .int .i64 (cvC p xs cc)]) ∧ Below w.heap.size w w' := by
  have HX := Lib.hid hx
  have hm := hx.2.1
  have HN := Lib.hid hx.1
  clear hx
  unfold maxLen at hm
  have H2 := Lib.hid (show Below w.heap.size w (w.alloc (.cells #[.int .i64 p, .slice A n c] 27)) from (Below.refl _ _).alloc (Nat.le_refl _) _)
  cases hs : spaceB p xs with
  | false =>
    have HS := Lib.hid hs
    have HC := Lib.hid (show cvC p xs cc = 1 by unfold cvC; rw [if_neg (by rw [hs]; simp)])
    have HV := Lib.hid (show cvV p xs cc = 0 by unfold cvV; rw [if_neg (by rw [HC.out]; omega)])
    rw [HV.out, HC.out]
    clear hs
    go_enter Try.func29, Try.ntmps29
    have c0 : (w.alloc (.cells #[.int .i64 p, .slice A n c] 27)).cell? ⟨w.heap.size, 0, none⟩ = some (.int .i64 p) := by simp [go_sem]
    have c1 : (w.alloc (.cells #[.int .i64 p, .slice A n c] 27)).cell? ⟨w.heap.size, 1, none⟩ = some (.slice A n c) := by simp [go_sem]
    have HW := Lib.hid (Below.refl (w.alloc (.cells #[.int .i64 p, .slice A n c] 27)).heap.size (w.alloc (.cells #[.int .i64 p, .slice A n c] 27)))
    go_wp2_with fail
    refine (impl_IsSpace _ _ _ _ xs _ (HX.out.keep (H2.out.trans (HW.out.mono H2.out.size)))).mono ?_
    rw [HS.out]
    rintro e v ⟨rfl, hb⟩
    replace c0 := keep_cell hb c0
    replace c1 := keep_cell hb c1
    replace HW := Lib.hid (below_then HW.out hb)
    clear hb
    go_wp2_with fail
    go_ret2
    exact ⟨rfl, (H2.out.trans (HW.out.mono H2.out.size))⟩
  | true =>
    obtain ⟨hp, hl0, hl1, hn⟩ := spaceB_true hs
    rw [HN.out] at hl0 hl1
    have h0 := prime_lo hp
    have h1 := prime_hi hp
    have HS := Lib.hid hs
    have HNU0 := Lib.hid hn
    clear hp hn
    cases hk : numB p cc with
    | false =>
      have HK := Lib.hid (show rangeB cc 0 (p - 1) = false by rw [rangeB_num]; exact hk)
      have HK2 := Lib.hid (show numsB p [cc] = false by unfold numsB; simp [hk])
      have HC := Lib.hid (show cvC p xs cc = 2 by unfold cvC; rw [if_pos hs, hk]; rfl)
      have HV := Lib.hid (show cvV p xs cc = 0 by unfold cvV; rw [if_neg (by rw [HC.out]; omega)])
      rw [HV.out, HC.out]
      clear hs hk
      go_enter Try.func29, Try.ntmps29
      have c0 : (w.alloc (.cells #[.int .i64 p, .slice A n c] 27)).cell? ⟨w.heap.size, 0, none⟩ = some (.int .i64 p) := by simp [go_sem]
      have c1 : (w.alloc (.cells #[.int .i64 p, .slice A n c] 27)).cell? ⟨w.heap.size, 1, none⟩ = some (.slice A n c) := by simp [go_sem]
      have HW := Lib.hid (Below.refl (w.alloc (.cells #[.int .i64 p, .slice A n c] 27)).heap.size (w.alloc (.cells #[.int .i64 p, .slice A n c] 27)))
      go_wp2_with fail
      refine (impl_IsSpace _ _ _ _ xs _ (HX.out.keep (H2.out.trans (HW.out.mono H2.out.size)))).mono ?_
      rw [HS.out]
      rintro e v ⟨rfl, hb⟩
      replace c0 := keep_cell hb c0
      replace c1 := keep_cell hb c1
      replace HW := Lib.hid (below_then HW.out hb)
      clear hb
      go_wp2_with fail
      refine (Space_field _ _ _ _ _).mono ?_
      rintro e v1 ⟨rfl, hb⟩
      replace c0 := keep_cell hb c0
      replace c1 := keep_cell hb c1
      replace HW := Lib.hid (below_then HW.out hb)
      clear hb
      go_wp2_with fail
      refine (impl_is _ _ _ _ [cc] _ (by omega) (by omega) (Ints.mk1 _ _ _)).mono ?_
      rw [HK2.out]
      rintro e _v ⟨rfl, rfl⟩
      have hb := (Below.refl v1.heap.size v1).alloc (Nat.le_refl _) (.cells #[.int .i64 cc] 2)
      replace c0 := keep_cell hb c0
      replace c1 := keep_cell hb c1
      replace HW := Lib.hid (below_then HW.out hb)
      clear hb
      go_wp2_with fail
      go_ret2
      exact ⟨rfl, (H2.out.trans (HW.out.mono H2.out.size))⟩
    | true =>
      obtain ⟨P, rfl⟩ : ∃ P : Nat, p = P := ⟨p.toNat, by omega⟩
      obtain ⟨hc0, hc1⟩ := numB_true hk
      obtain ⟨cj, rfl⟩ : ∃ j : Nat, cc = j := ⟨cc.toNat, by omega⟩
      have hP1 : 3 ≤ P := by omega
      have hP2 : P ≤ 13 := by omega
      have HK := Lib.hid (show rangeB (cj : Int) 0 ((P : Int) - 1) = true by rw [rangeB_num]; exact hk)
      have HK2 := Lib.hid (show numsB (P : Int) [(cj : Int)] = true by unfold numsB; simp [hk])
      have HC := Lib.hid (show cvC (P : Int) xs cj = 0 by unfold cvC; rw [if_pos hs, hk]; rfl)
      have HV := Lib.hid (show cvV (P : Int) xs cj = (cntS P xs n).getD cj 0 by unfold cvV; rw [if_pos HC.out, HN.out]; simp)
      rw [HV.out, HC.out]
      clear hs hk
      go_enter Try.func29, Try.ntmps29
      have c0 : (w.alloc (.cells #[.int .i64 (P : Nat), .slice A n c] 27)).cell? ⟨w.heap.size, 0, none⟩ = some (.int .i64 (P : Nat)) := by simp [go_sem]
      have c1 : (w.alloc (.cells #[.int .i64 (P : Nat), .slice A n c] 27)).cell? ⟨w.heap.size, 1, none⟩ = some (.slice A n c) := by simp [go_sem]
      have HW := Lib.hid (Below.refl (w.alloc (.cells #[.int .i64 (P : Nat), .slice A n c] 27)).heap.size (w.alloc (.cells #[.int .i64 (P : Nat), .slice A n c] 27)))
      go_wp2_with fail
      refine (impl_IsSpace _ _ _ _ xs _ (HX.out.keep (H2.out.trans (HW.out.mono H2.out.size)))).mono ?_
      rw [HS.out]
      rintro e v ⟨rfl, hb⟩
      replace c0 := keep_cell hb c0
      replace c1 := keep_cell hb c1
      replace HW := Lib.hid (below_then HW.out hb)
      clear hb
      go_wp2_with fail
      refine (Space_field _ _ _ _ _).mono ?_
      rintro e v1 ⟨rfl, hb⟩
      replace c0 := keep_cell hb c0
      replace c1 := keep_cell hb c1
      replace HW := Lib.hid (below_then HW.out hb)
      clear hb
      go_wp2_with fail
      refine (impl_is _ _ _ _ [(cj : Int)] _ (by omega) (by omega) (Ints.mk1 _ _ _)).mono ?_
      rw [HK2.out]
      rintro e _v ⟨rfl, rfl⟩
      have hb := (Below.refl v1.heap.size v1).alloc (Nat.le_refl _) (.cells #[.int .i64 cj] 2)
      replace c0 := keep_cell hb c0
      replace c1 := keep_cell hb c1
      replace HW := Lib.hid (below_then HW.out hb)
      clear hb
      have HBW := Lib.hid (H2.out.trans (HW.out.mono H2.out.size))
      have hsW : w.heap.size + 1 ≤ (v1.alloc (.cells #[.int .i64 (cj : Int)] 2)).heap.size := World.block_lt_of_cell? _ _ c0
      generalize (v1.alloc (.cells #[.int .i64 (cj : Int)] 2)) = W at *
      have HNU := HNU0
      have hn6 : n ≤ 6 := hl1
      have hmk := make_sm (show P ≤ 1000 by omega)
      have hPi : (0 : Int) < P := by omega
      have HF := Lib.hid (own_first W (n := P) (B := w.heap.size + 1) (by omega) (by omega) hsW)
      have hm0 := (made_at W (n := P) (k := 0) (by omega) (by omega)).1
      have hm1 := (made_at W (n := P) (k := 0) (by omega) (by omega)).2
      have n0 := keep_cell (below_alloc W (.cells ((madeCells #[.int .i64 0] P).setIfInBounds 0 (.int .i64 1)) 2)) c0
      have n1 := keep_cell (below_alloc W (.cells ((madeCells #[.int .i64 0] P).setIfInBounds 0 (.int .i64 1)) 2)) c1
      go_wp2
      clear n0 n1
      go_loopw [6, 30] (fun m i wr => ∃ k b : Nat, k ≤ n ∧ i = .int .i64 k ∧ m = .slice (some ⟨b, 0, none⟩) P P ∧ Own (w.heap.size + 1) wr (some ⟨b, 0, none⟩) P (cntS P xs k) ∧ wr.cell? ⟨w.heap.size, 0, none⟩ = some (.int .i64 (P : Nat)) ∧ wr.cell? ⟨w.heap.size, 1, none⟩ = some (.slice A n c) ∧ Below w.heap.size w wr) (fun _ i _ => n - (intOf i).toNat)
      case atStart => exact ⟨0, W.heap.size, Nat.zero_le _, rfl, rfl, by simpa [cntS] using HF.out, keep_cell (below_alloc _ _) c0, keep_cell (below_alloc _ _) c1, HBW.out.alloc HBW.out.size _⟩
      case round =>
        clear c0 c1 HW
        obtain ⟨k, b, hk, rfl, rfl, hown, c0, c1, hbel⟩ := hrel
        have HM := Lib.hid hown
        have HB := Lib.hid hbel
        have hszw := hbel.size
        have hw1 : w.heap.size + 1 ≤ wr.heap.size := World.block_lt_of_cell? _ _ c0
        clear hown hbel
        by_cases hlt : k < n
        rotate_left
        · obtain rfl : k = n := by omega
          obtain ⟨mb, mo, me, _, _, mcl, _⟩ := HM.out.2.2 (by omega)
          injection me with me
          injection me with me1 me2
          subst me1 me2
          have mcell := mcl cj _ (cnt_get (show cj < P by omega))
          simp only [Nat.zero_add] at mcell
          clear mcl
          obtain ⟨vv, HVV⟩ : ∃ v, Hid ((cntS P xs k).getD cj 0 = v) := ⟨_, Lib.hid rfl⟩
          rw [HVV.out] at mcell
          go_wp2_with fail
          go_ret2
          exact ⟨by first | (rw [HVV.out]; rfl) | (rw [← HVV.out]; rfl), HB.out⟩
        obtain ⟨bs, os, s, rfl, hbs, hsk, hsc⟩ := (HX.out.keep HB.out).at_ hlt
        obtain ⟨hs0, hs1⟩ := numB_true (numsB_at HNU.out hsk)
        have HSQ := Lib.hid (show xs.getD k 0 = s by rw [List.getD_eq_getElem?_getD, hsk]; rfl)
        have hkn : (k : Int) < n := by omega
        have hk0 : (0 : Int) ≤ k := by omega
        clear hsk hbs
        obtain ⟨wo, rfl⟩ : ∃ wo : World, wo = wr := ⟨_, rfl⟩
        have HWB := Lib.hid (Below.refl wo.heap.size wo)
        have n0 := keep_cell (below_alloc wo (.cells (madeCells #[.int .i64 0] P) 2)) c0
        have n1 := keep_cell (below_alloc wo (.cells (madeCells #[.int .i64 0] P) 2)) c1
        have HZ := Lib.hid (own_zeros wo P (by unfold maxLen; omega) _ rfl 2 wo.heap.size (Nat.le_refl _))
        go_wp2
        go_loopw [39] (fun i2 wq => ∃ q : Nat, q ≤ P ∧ i2 = .int .i64 q ∧ Own wo.heap.size wq (some ⟨wo.heap.size, 0, none⟩) P (cntO P s (cntS P xs k) q) ∧ Below wo.heap.size wo wq) (fun i2 _ => P - (intOf i2).toNat)
        case atStart => exact ⟨0, Nat.zero_le _, rfl, HZ.out, below_alloc _ _⟩
        case round =>
          obtain ⟨q, hq, rfl, hown, hbel⟩ := hrel
          have HO1 := Lib.hid hown
          have HB1 := Lib.hid hbel
          have d0 := keep_cell hbel c0
          have d1 := keep_cell hbel c1
          clear hown hbel
          by_cases hltc : q < P
          rotate_left
          · obtain rfl : q = P := by omega
            go_wp2
            go_roundw
            case rel => exact ⟨k + 1, wo.heap.size, by omega, by go_num, rfl, by
              show Own _ _ _ _ (cntO q (xs.getD k 0) (cntS q xs k) q)
              rw [HSQ.out]; exact HO1.out.less hw1, d0, d1, below_then HB.out HB1.out⟩
            case measure => simp [intOf]; omega
          have hcP0 : (q : Int) < P := by omega
          have hq0 : (0 : Int) ≤ q := by omega
          obtain ⟨v, HV0⟩ : ∃ v, Hid ((cntS P xs k).getD q 0 = v) := ⟨_, Lib.hid rfl⟩
          have mc := (HM.out.keep HB1.out).2.2 (by omega)
          obtain ⟨mb, mo, me, _, _, mcl, _⟩ := mc
          injection me with me
          injection me with me1 me2
          subst me1 me2
          have mcell := mcl q v (by
            have e : (cntS P xs k)[q]? = some ((cntS P xs k)[q]'(by rw [cntS_len]; omega)) := List.getElem?_eq_getElem _
            rw [e, ← HV0.out, List.getD_eq_getElem?_getD, e]; rfl)
          simp only [Nat.zero_add] at mcell
          clear mcl
          go_wp2
          go_loopw [46] (fun i3 wq => ∃ x : Nat, x ≤ P ∧ i3 = .int .i64 x ∧ Own wo.heap.size wq (some ⟨wo.heap.size, 0, none⟩) P (cntI P s ((cntS P xs k).getD q 0) q (cntO P s (cntS P xs k) q) x) ∧ Below wo.heap.size wo wq) (fun i3 _ => P - (intOf i3).toNat)
          case atStart => exact ⟨0, Nat.zero_le _, rfl, HO1.out, HB1.out⟩
          case round =>
            obtain ⟨x, hx, rfl, hown, hbel⟩ := hrel
            have HO2 := Lib.hid hown
            have HB2 := Lib.hid hbel
            have f0 := keep_cell hbel c0
            have f1 := keep_cell hbel c1
            clear hown hbel
            by_cases hltx : x < P
            rotate_left
            · obtain rfl : x = P := by omega
              go_wp2
              go_roundw
              case rel => exact ⟨q + 1, by omega, by go_num, HO2.out, HB2.out⟩
              case measure => simp [intOf]; omega
            have hxP : (x : Int) < P := by omega
            have hcP : (q : Int) < P := by omega
            have k0 : (0 : Int) ≤ x := by omega
            have k1 : (0 : Int) ≤ q := by omega
            obtain ⟨a0, a1, a2, a3, a4, a5, a6, a7⟩ := sq_bounds hltx hP2 hs0 hs1
            obtain ⟨⟨v0, v1⟩, u0, u1⟩ := cnt_bounds (sqs := xs) (sq := s) hP2 (show k ≤ 5 by omega) hltc hltx (idxN P q x s)
            obtain ⟨u, HU⟩ : ∃ u, Hid ((cntI P s ((cntS P xs k).getD q 0) q (cntO P s (cntS P xs k) q) x).getD (idxN P q x s) 0 = u) := ⟨_, Lib.hid rfl⟩
            rw [HU.out] at u0 u1
            have HV := HV0
            rw [HV.out] at v0 v1 HO2 HU
            obtain ⟨j, HJ⟩ : ∃ j, Hid (idxN P q x s = j) := ⟨_, Lib.hid rfl⟩
            have hjP : j < P := by rw [← HJ.out]; exact idxN_lt (by omega)
            have hji : (j : Int) < P := by omega
            have hj0 : (0 : Int) ≤ j := by omega
            rw [HJ.out] at HU
            have HE := Lib.hid ((idxN_eq (P := P) (c := q) (x := x) (sq := s) (by omega)).trans (by rw [HJ.out]))
            go_wp2_with fail
            refine (Space_field _ _ _ _ _).mono ?_
            rintro e wz ⟨rfl, hb⟩
            replace HB2 := Lib.hid (below_then HB2.out hb)
            replace HO2 := Lib.hid (HO2.out.keep hb)
            clear hb
            have hlen2 : (cntI P s v q (cntO P s (cntS P xs k) q) x).length = P := by rw [cntI_len, cntO_len]
            have hget : (cntI P s v q (cntO P s (cntS P xs k) q) x)[j]? = some u := by
              have e : (cntI P s v q (cntO P s (cntS P xs k) q) x)[j]? = some ((cntI P s v q (cntO P s (cntS P xs k) q) x)[j]'(by omega)) := List.getElem?_eq_getElem _
              rw [e, ← HU.out, List.getD_eq_getElem?_getD, e]; rfl
            have HGET := Lib.hid hget
            obtain ⟨b', off', e', hd1, hd2, hcl, hfz⟩ := HO2.out.2.2 (by omega)
            injection e' with e'
            injection e' with e1' e2'
            subst e1' e2'
            have hcell := hcl j u hget
            have hfr := hfz j hjP
            simp only [Nat.zero_add] at hcell hfr
            clear hcl hfz hget hlen2
            go_wp2_with (go_at_call 58; refine (num_is (by omega) (by omega) HE.out).mono ?_; rintro e w' ⟨rfl, rfl⟩)
            go_roundw
            case rel =>
              refine ⟨x + 1, by omega, by go_num, ?_, HB2.out.setCell (Nat.le_refl _) _⟩
              have h := HO2.out.set_ (j := j) hjP (u + v)
              simp only [Nat.zero_add] at h
              show Own _ _ _ _ ((cntI P s ((cntS P xs k).getD q 0) q (cntO P s (cntS P xs k) q) x).set (idxN P q x s) ((cntI P s ((cntS P xs k).getD q 0) q (cntO P s (cntS P xs k) q) x).getD (idxN P q x s) 0 + (cntS P xs k).getD q 0))
              rw [HV.out, HJ.out, HU.out]
              exact h
            case measure => simp [intOf]; omega

end Go.Proofs.Ytcieohpbeckjfaa
