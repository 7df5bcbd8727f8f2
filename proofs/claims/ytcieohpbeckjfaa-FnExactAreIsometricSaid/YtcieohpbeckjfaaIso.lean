/- Contracts: isometric spaces. Conditions stand in each theorem. -/
import Derived.Test.YtcieohpbeckjfaaIsoP
import Derived.Test.YtcieohpbeckjfaaWitt
import Derived.RegionTactic
import Derived.ChangeAlike
import Derived.BigQuiet
namespace Go.Proofs.Ytcieohpbeckjfaa
open Go.RowKit
set_option linter.unusedVariables false
set_option linter.unusedSimpArgs false

theorem iso_num {p n j : Int} {w : World} (h0 : 1 ≤ p) (h1 : p ≤ 13) (h : n % p = j) : Calls Try.prog 58 #[.int .i64 p, .int .i64 n] w fun e w' => e = .returned (.int .i64 j) ∧ w = w' := by
  have h2 := impl_num p n w h0 h1
  rw [h] at h2
  exact h2
theorem iso_root {p n : Int} {b : Bool} {w : World} (h0 : 3 ≤ p) (h1 : p ≤ 13) (h : okB (rootN p n) = b) : Calls Try.prog 68 #[.int .i64 p, .int .i64 n] w fun e w' => e = .returned (.bool b) ∧ w = w' := by
  have h2 := impl_isSquare p n w h0 h1
  rw [h] at h2
  exact h2

set_option maxHeartbeats 4000000 in
theorem spec_l03Isometric (p q : Int) (A : Option Addr) (n c : Nat) (xs : List Int) (B : Option Addr) (m d : Nat) (ys : List Int) (w : World) (hx : Ints w A n xs) (hy : Ints w B m ys) (hs : spaceB p xs = true) (ht : spaceB q ys = true) :
    Calls Try.prog 69 #[.agg #[.int .i64 p, .slice A n c], .agg #[.int .i64 q, .slice B m d]] w fun e w' => e = .returned (.bool (isoB p q xs ys)) ∧ Below w.heap.size w w' := by
  have HX := Lib.hid hx
  have hm1 := hx.2.1
  have HN := Lib.hid hx.1
  have HY := Lib.hid hy
  have hm2 := hy.2.1
  have HM := Lib.hid hy.1
  clear hx hy
  unfold maxLen at hm1 hm2
  have H2 := Lib.hid (show Below w.heap.size w ((w.alloc (.cells #[.int .i64 p, .slice A n c] 27)).alloc (.cells #[.int .i64 q, .slice B m d] 27)) from ((Below.refl _ _).alloc (Nat.le_refl _) _).alloc (by simp) _)
  obtain ⟨hp, hl0, hl1, hn⟩ := spaceB_true hs
  obtain ⟨hp2, hl2, hl3, hn2⟩ := spaceB_true ht
  rw [HN.out] at hl0 hl1
  rw [HM.out] at hl2 hl3
  have h0 := prime_lo hp
  have h1 := prime_hi hp
  have h2 := prime_lo hp2
  have h3 := prime_hi hp2
  have HNU := Lib.hid hn
  have HNV := Lib.hid hn2
  clear hp hp2 hn hn2 hs ht
  by_cases hpq : p = q
  rotate_left
  · have HV := Lib.hid (isoB_p (xs := xs) (ys := ys) hpq)
    rw [HV.out]
    have hpb : (p != q) = true := by simp; exact hpq
    go_enter Try.func69, Try.ntmps69
    have c0 : ((w.alloc (.cells #[.int .i64 p, .slice A n c] 27)).alloc (.cells #[.int .i64 q, .slice B m d] 27)).cell? ⟨w.heap.size, 0, none⟩ = some (.int .i64 p) := by simp [go_sem]
    have c1 : ((w.alloc (.cells #[.int .i64 p, .slice A n c] 27)).alloc (.cells #[.int .i64 q, .slice B m d] 27)).cell? ⟨w.heap.size, 1, none⟩ = some (.slice A n c) := by simp [go_sem]
    have e0 : ((w.alloc (.cells #[.int .i64 p, .slice A n c] 27)).alloc (.cells #[.int .i64 q, .slice B m d] 27)).cell? ⟨w.heap.size + 1, 0, none⟩ = some (.int .i64 q) := by simp [go_sem]
    have e1 : ((w.alloc (.cells #[.int .i64 p, .slice A n c] 27)).alloc (.cells #[.int .i64 q, .slice B m d] 27)).cell? ⟨w.heap.size + 1, 1, none⟩ = some (.slice B m d) := by simp [go_sem]
    have HW := Lib.hid (Below.refl ((w.alloc (.cells #[.int .i64 p, .slice A n c] 27)).alloc (.cells #[.int .i64 q, .slice B m d] 27)).heap.size ((w.alloc (.cells #[.int .i64 p, .slice A n c] 27)).alloc (.cells #[.int .i64 q, .slice B m d] 27)))
    go_wp2_with fail
    go_ret
    exact ⟨ret_bool (by first | rfl | simp), (H2.out.trans (HW.out.mono H2.out.size))⟩
  obtain rfl : p = q := hpq
  by_cases hnm : n = m
  rotate_left
  · have HV := Lib.hid (isoB_n (p := p) (q := p) (xs := xs) (ys := ys) (by rw [HN.out, HM.out]; exact hnm))
    rw [HV.out]
    have hnb : ((n : Int) != m) = true := by simp; omega
    go_enter Try.func69, Try.ntmps69
    have c0 : ((w.alloc (.cells #[.int .i64 p, .slice A n c] 27)).alloc (.cells #[.int .i64 p, .slice B m d] 27)).cell? ⟨w.heap.size, 0, none⟩ = some (.int .i64 p) := by simp [go_sem]
    have c1 : ((w.alloc (.cells #[.int .i64 p, .slice A n c] 27)).alloc (.cells #[.int .i64 p, .slice B m d] 27)).cell? ⟨w.heap.size, 1, none⟩ = some (.slice A n c) := by simp [go_sem]
    have e0 : ((w.alloc (.cells #[.int .i64 p, .slice A n c] 27)).alloc (.cells #[.int .i64 p, .slice B m d] 27)).cell? ⟨w.heap.size + 1, 0, none⟩ = some (.int .i64 p) := by simp [go_sem]
    have e1 : ((w.alloc (.cells #[.int .i64 p, .slice A n c] 27)).alloc (.cells #[.int .i64 p, .slice B m d] 27)).cell? ⟨w.heap.size + 1, 1, none⟩ = some (.slice B m d) := by simp [go_sem]
    have HW := Lib.hid (Below.refl ((w.alloc (.cells #[.int .i64 p, .slice A n c] 27)).alloc (.cells #[.int .i64 p, .slice B m d] 27)).heap.size ((w.alloc (.cells #[.int .i64 p, .slice A n c] 27)).alloc (.cells #[.int .i64 p, .slice B m d] 27)))
    go_wp2_with fail
    go_ret
    exact ⟨ret_bool (by first | rfl | simp), (H2.out.trans (HW.out.mono H2.out.size))⟩
  obtain rfl : n = m := hnm
  go_enter Try.func69, Try.ntmps69
  have c0 : ((w.alloc (.cells #[.int .i64 p, .slice A n c] 27)).alloc (.cells #[.int .i64 p, .slice B n d] 27)).cell? ⟨w.heap.size, 0, none⟩ = some (.int .i64 p) := by simp [go_sem]
  have c1 : ((w.alloc (.cells #[.int .i64 p, .slice A n c] 27)).alloc (.cells #[.int .i64 p, .slice B n d] 27)).cell? ⟨w.heap.size, 1, none⟩ = some (.slice A n c) := by simp [go_sem]
  have e0 : ((w.alloc (.cells #[.int .i64 p, .slice A n c] 27)).alloc (.cells #[.int .i64 p, .slice B n d] 27)).cell? ⟨w.heap.size + 1, 0, none⟩ = some (.int .i64 p) := by simp [go_sem]
  have e1 : ((w.alloc (.cells #[.int .i64 p, .slice A n c] 27)).alloc (.cells #[.int .i64 p, .slice B n d] 27)).cell? ⟨w.heap.size + 1, 1, none⟩ = some (.slice B n d) := by simp [go_sem]
  have HW := Lib.hid (Below.refl ((w.alloc (.cells #[.int .i64 p, .slice A n c] 27)).alloc (.cells #[.int .i64 p, .slice B n d] 27)).heap.size ((w.alloc (.cells #[.int .i64 p, .slice A n c] 27)).alloc (.cells #[.int .i64 p, .slice B n d] 27)))
  go_wp2
  go_loopw [5, 6, 7, 8] (fun u5 u6 u7 i wr => ∃ k : Nat, ∃ q : Int, ∃ zl zr : Nat, k ≤ n ∧ i = .int .i64 k ∧ u5 = .int .i64 q ∧ Hid (isoP p xs ys k = q) ∧ u6 = .int .i64 zl ∧ Hid (zersN xs k = zl) ∧ u7 = .int .i64 zr ∧ Hid (zersN ys k = zr) ∧ wr.cell? ⟨w.heap.size, 0, none⟩ = some (.int .i64 p) ∧ wr.cell? ⟨w.heap.size, 1, none⟩ = some (.slice A n c) ∧ wr.cell? ⟨w.heap.size + 1, 0, none⟩ = some (.int .i64 p) ∧ wr.cell? ⟨w.heap.size + 1, 1, none⟩ = some (.slice B n d) ∧ Below ((w.alloc (.cells #[.int .i64 p, .slice A n c] 27)).alloc (.cells #[.int .i64 p, .slice B n d] 27)).heap.size ((w.alloc (.cells #[.int .i64 p, .slice A n c] 27)).alloc (.cells #[.int .i64 p, .slice B n d] 27)) wr) (fun _ _ _ i _ => n - (intOf i).toNat)
  case atStart => exact ⟨0, 1, 0, 0, Nat.zero_le _, rfl, rfl, Lib.hid rfl, rfl, Lib.hid rfl, rfl, Lib.hid rfl, c0, c1, e0, e1, HW.out⟩
  case round =>
    clear c0 c1 e0 e1 HW
    obtain ⟨k, q, zl, zr, hk, rfl, rfl, HQ, rfl, HZL, rfl, HZR, c0, c1, e0, e1, hb0⟩ := hrel
    have HW := Lib.hid hb0
    clear hb0
    have hz0 := zersN_le xs k
    have hz1 := zersN_le ys k
    rw [HZL.out] at hz0
    rw [HZR.out] at hz1
    have hq := isoP_range (show 2 ≤ p by omega) xs ys k
    rw [HQ.out] at hq
    obtain ⟨hq0, hq1⟩ := hq
    by_cases hlt : k < n
    · obtain ⟨bs, os, s, rfl, hbs, hsk, hsc⟩ := (HX.out.keep (H2.out.trans (HW.out.mono H2.out.size))).at_ hlt
      obtain ⟨bt, ot, t, rfl, hbt, htk, htc⟩ := (HY.out.keep (H2.out.trans (HW.out.mono H2.out.size))).at_ hlt
      obtain ⟨hs0, hs1⟩ := numB_true (numsB_at HNU.out hsk)
      obtain ⟨ht0, ht1⟩ := numB_true (numsB_at HNV.out htk)
      have HSX := Lib.hid (show xs.getD k 0 = s by rw [List.getD_eq_getElem?_getD, hsk]; rfl)
      have HSY := Lib.hid (show ys.getD k 0 = t by rw [List.getD_eq_getElem?_getD, htk]; rfl)
      have hkn : (k : Int) < n := by omega
      have hk0 : (0 : Int) ≤ k := by omega
      clear hsk htk hbs hbt
      cases hsz : decide (s = 0) with
      | true =>
        have hse := of_decide_eq_true hsz
        have HQ1 := Lib.hid (show stpI p q s = q from if_pos hse)
        have HZ1 := Lib.hid (show zerI s = 1 from if_pos hse)
        cases htz : decide (t = 0) with
        | true =>
          have hte := of_decide_eq_true htz
          have HQ2 := Lib.hid (show isoP p xs ys (k + 1) = q by rw [isoP, HQ.out, HSX.out, HSY.out, HQ1.out]; exact if_pos hte)
          have HZ2 := Lib.hid (show zerI t = 1 from if_pos hte)
          clear hsz htz
          have hse2 : (s == 0) = true := by simp; exact hse
          have hte2 : (t == 0) = true := by simp; exact hte
          go_wp2_with fail

          go_roundw
          case rel => exact ⟨k + 1, q, zl + 1, zr + 1, by omega, by go_num, rfl, HQ2, by go_num, Lib.hid (by rw [zersN, HZL.out, HSX.out, HZ1.out]; try rfl), by go_num, Lib.hid (by rw [zersN, HZR.out, HSY.out, HZ2.out]), c0, c1, e0, e1, (by first | exact HW.out | exact below_drewN HW.out _ | exact below_drewN (below_drewN HW.out _) _)⟩
          case measure => simp [intOf]; omega
        | false =>
          have hte := of_decide_eq_false htz
          obtain ⟨g0, g1⟩ := prod_facts h0 h1 hq0 hq1 ht0 ht1
          have em2 := Int.emod_nonneg (q * t) (show p ≠ 0 by omega)
          have em3 := Int.emod_lt_of_pos (q * t) (show (0 : Int) < p by omega)
          have et2 : (q * t).tmod p = q * t % p := Int.tmod_eq_emod_of_nonneg (by omega)
          have ew2 : IntKind.i64.wrap (q * t) = q * t := IntWalk.i64_in _ (by omega)
          have HQ2 := Lib.hid (show isoP p xs ys (k + 1) = q * t % p by rw [isoP, HQ.out, HSX.out, HSY.out, HQ1.out]; exact if_neg hte)
          have HZ2 := Lib.hid (show zerI t = 0 from if_neg hte)
          clear hsz htz
          have hse2 : (s == 0) = true := by simp; exact hse
          have hte2 : (t == 0) = false := by simp; exact hte
          go_wp2_with fail
          go_quiet (fail)
          go_wp2_with fail

          go_roundw
          case rel => exact ⟨k + 1, q * t % p, zl + 1, zr, by omega, by go_num, (by first | rfl | simp), HQ2, by go_num, Lib.hid (by rw [zersN, HZL.out, HSX.out, HZ1.out]; try rfl), (by first | rfl | go_num), Lib.hid (by rw [zersN, HZR.out, HSY.out, HZ2.out]; try rfl), c0, c1, e0, e1, (by first | exact HW.out | exact below_drewN HW.out _ | exact below_drewN (below_drewN HW.out _) _)⟩
          case measure => simp [intOf]; omega
      | false =>
        have hse := of_decide_eq_false hsz
        obtain ⟨f0, f1⟩ := prod_facts h0 h1 hq0 hq1 hs0 hs1
        have em0 := Int.emod_nonneg (q * s) (show p ≠ 0 by omega)
        have em1 := Int.emod_lt_of_pos (q * s) (show (0 : Int) < p by omega)
        have et : (q * s).tmod p = q * s % p := Int.tmod_eq_emod_of_nonneg (by omega)
        have ew : IntKind.i64.wrap (q * s) = q * s := IntWalk.i64_in _ (by omega)
        obtain ⟨y, HYQ⟩ : ∃ y, Hid (q * s % p = y) := ⟨_, Lib.hid rfl⟩
        rw [HYQ.out] at em0 em1 et
        have HQ1 := Lib.hid (show stpI p q s = y by unfold stpI; rw [if_neg hse]; exact HYQ.out)
        have HZ1 := Lib.hid (show zerI s = 0 from if_neg hse)
        cases htz : decide (t = 0) with
        | true =>
          have hte := of_decide_eq_true htz
          have HQ2 := Lib.hid (show isoP p xs ys (k + 1) = y by rw [isoP, HQ.out, HSX.out, HSY.out, HQ1.out]; exact if_pos hte)
          have HZ2 := Lib.hid (show zerI t = 1 from if_pos hte)
          clear hsz htz
          have hse2 : (s == 0) = false := by simp; exact hse
          have hte2 : (t == 0) = true := by simp; exact hte
          go_wp2_with fail
          go_quiet (fail)
          go_wp2_with fail

          go_roundw
          case rel => exact ⟨k + 1, y, zl, zr + 1, by omega, by go_num, rfl, HQ2, by go_num, Lib.hid (by rw [zersN, HZL.out, HSX.out, HZ1.out]; try rfl), by go_num, Lib.hid (by rw [zersN, HZR.out, HSY.out, HZ2.out]), c0, c1, e0, e1, (by first | exact HW.out | exact below_drewN HW.out _ | exact below_drewN (below_drewN HW.out _) _)⟩
          case measure => simp [intOf]; omega
        | false =>
          have hte := of_decide_eq_false htz
          obtain ⟨g0, g1⟩ := prod_facts h0 h1 em0 em1 ht0 ht1
          have em2 := Int.emod_nonneg (y * t) (show p ≠ 0 by omega)
          have em3 := Int.emod_lt_of_pos (y * t) (show (0 : Int) < p by omega)
          have et2 : (y * t).tmod p = y * t % p := Int.tmod_eq_emod_of_nonneg (by omega)
          have ew2 : IntKind.i64.wrap (y * t) = y * t := IntWalk.i64_in _ (by omega)
          have HQ2 := Lib.hid (show isoP p xs ys (k + 1) = y * t % p by rw [isoP, HQ.out, HSX.out, HSY.out, HQ1.out]; exact if_neg hte)
          have HZ2 := Lib.hid (show zerI t = 0 from if_neg hte)
          clear hsz htz
          have hse2 : (s == 0) = false := by simp; exact hse
          have hte2 : (t == 0) = false := by simp; exact hte
          go_wp2_with fail
          go_quiet (fail)
          go_wp2_with fail
          go_quiet (fail)
          go_wp2_with fail

          go_roundw
          case rel => exact ⟨k + 1, y * t % p, zl, zr, by omega, by go_num, (by first | rfl | simp), HQ2, by go_num, Lib.hid (by rw [zersN, HZL.out, HSX.out, HZ1.out]; try rfl), (by first | rfl | go_num), Lib.hid (by rw [zersN, HZR.out, HSY.out, HZ2.out]; try rfl), c0, c1, e0, e1, (by first | exact HW.out | exact below_drewN HW.out _ | exact below_drewN (below_drewN HW.out _) _)⟩
          case measure => simp [intOf]; omega
    · obtain rfl : n = k := by omega
      by_cases hz : zl = zr
      · have HV := Lib.hid (isoB_y (p := p) HN.out HM.out (by rw [HZL.out, HZR.out]; exact hz))
        subst hz
        go_wp2_with (go_at_call 86; refine (spec_l01Root _ _ _ h0 h1).mono ?_; rintro e w' ⟨rfl, rfl⟩)
        go_ret
        exact ⟨ret_bool (by rw [HV.out, HQ.out]; rfl), (H2.out.trans (HW.out.mono H2.out.size))⟩
      · have HV := Lib.hid (isoB_z (p := p) HN.out HM.out (by rw [HZL.out, HZR.out]; exact hz))
        have hzb : ((zl : Int) == zr) = false := by simp; omega
        go_wp2_with fail
        go_ret
        exact ⟨ret_bool (by rw [HV.out]), (H2.out.trans (HW.out.mono H2.out.size))⟩

def isoC (p q : Int) (xs ys : List Int) : Int := if spaceB p xs = true ∧ spaceB q ys = true then 0 else 1
def isoV (p q : Int) (xs ys : List Int) : Bool := if spaceB p xs = true ∧ spaceB q ys = true then isoB p q xs ys else false

set_option maxHeartbeats 1000000 in
theorem spec_AreIsometric (p q : Int) (A : Option Addr) (n c : Nat) (xs : List Int) (B : Option Addr) (m d : Nat) (ys : List Int) (w : World) (hx : Ints w A n xs) (hy : Ints w B m ys) :
    Calls Try.prog 38 #[.agg #[.int .i64 p, .slice A n c], .agg #[.int .i64 q, .slice B m d]] w fun e w' => e = .returned (.tuple #[.bool (isoV p q xs ys), .int .i64 (isoC p q xs ys)]) ∧ Below w.heap.size w w' := by
  have HX := Lib.hid hx
  have hm1 := hx.2.1
  have HN := Lib.hid hx.1
  have HY := Lib.hid hy
  have hm2 := hy.2.1
  have HM := Lib.hid hy.1
  clear hx hy
  unfold maxLen at hm1 hm2
  have H2 := Lib.hid (show Below w.heap.size w ((w.alloc (.cells #[.int .i64 p, .slice A n c] 27)).alloc (.cells #[.int .i64 q, .slice B m d] 27)) from ((Below.refl _ _).alloc (Nat.le_refl _) _).alloc (by simp) _)
  cases hs : spaceB p xs with
  | false =>
    have HC := Lib.hid (show isoC p q xs ys = 1 from if_neg fun h => by simp [hs] at h)
    have HV := Lib.hid (show isoV p q xs ys = false from if_neg fun h => by simp [hs] at h)
    have HS := Lib.hid hs
    rw [HC.out, HV.out]
    clear hs
    go_enter Try.func38, Try.ntmps38
    have c0 : ((w.alloc (.cells #[.int .i64 p, .slice A n c] 27)).alloc (.cells #[.int .i64 q, .slice B m d] 27)).cell? ⟨w.heap.size, 0, none⟩ = some (.int .i64 p) := by simp [go_sem]
    have c1 : ((w.alloc (.cells #[.int .i64 p, .slice A n c] 27)).alloc (.cells #[.int .i64 q, .slice B m d] 27)).cell? ⟨w.heap.size, 1, none⟩ = some (.slice A n c) := by simp [go_sem]
    have e0 : ((w.alloc (.cells #[.int .i64 p, .slice A n c] 27)).alloc (.cells #[.int .i64 q, .slice B m d] 27)).cell? ⟨w.heap.size + 1, 0, none⟩ = some (.int .i64 q) := by simp [go_sem]
    have e1 : ((w.alloc (.cells #[.int .i64 p, .slice A n c] 27)).alloc (.cells #[.int .i64 q, .slice B m d] 27)).cell? ⟨w.heap.size + 1, 1, none⟩ = some (.slice B m d) := by simp [go_sem]
    have HW := Lib.hid (Below.refl ((w.alloc (.cells #[.int .i64 p, .slice A n c] 27)).alloc (.cells #[.int .i64 q, .slice B m d] 27)).heap.size ((w.alloc (.cells #[.int .i64 p, .slice A n c] 27)).alloc (.cells #[.int .i64 q, .slice B m d] 27)))
    go_wp2_with fail
    refine (spec_l03Is _ _ _ _ xs _ (HX.out.keep (H2.out.trans (HW.out.mono H2.out.size)))).mono ?_
    rw [HS.out]
    rintro e v ⟨rfl, hb⟩
    replace c0 := keep_cell hb c0
    replace c1 := keep_cell hb c1
    replace e0 := keep_cell hb e0
    replace e1 := keep_cell hb e1
    replace HW := Lib.hid (below_then HW.out hb)
    clear hb
    go_wp2_with fail
    go_ret2
    exact ⟨rfl, (H2.out.trans (HW.out.mono H2.out.size))⟩
  | true =>
    cases ht : spaceB q ys with
    | false =>
      have HC := Lib.hid (show isoC p q xs ys = 1 from if_neg fun h => by simp [ht] at h)
      have HV := Lib.hid (show isoV p q xs ys = false from if_neg fun h => by simp [ht] at h)
      have HS := Lib.hid hs
      have HT := Lib.hid ht
      rw [HC.out, HV.out]
      clear hs ht
      go_enter Try.func38, Try.ntmps38
      have c0 : ((w.alloc (.cells #[.int .i64 p, .slice A n c] 27)).alloc (.cells #[.int .i64 q, .slice B m d] 27)).cell? ⟨w.heap.size, 0, none⟩ = some (.int .i64 p) := by simp [go_sem]
      have c1 : ((w.alloc (.cells #[.int .i64 p, .slice A n c] 27)).alloc (.cells #[.int .i64 q, .slice B m d] 27)).cell? ⟨w.heap.size, 1, none⟩ = some (.slice A n c) := by simp [go_sem]
      have e0 : ((w.alloc (.cells #[.int .i64 p, .slice A n c] 27)).alloc (.cells #[.int .i64 q, .slice B m d] 27)).cell? ⟨w.heap.size + 1, 0, none⟩ = some (.int .i64 q) := by simp [go_sem]
      have e1 : ((w.alloc (.cells #[.int .i64 p, .slice A n c] 27)).alloc (.cells #[.int .i64 q, .slice B m d] 27)).cell? ⟨w.heap.size + 1, 1, none⟩ = some (.slice B m d) := by simp [go_sem]
      have HW := Lib.hid (Below.refl ((w.alloc (.cells #[.int .i64 p, .slice A n c] 27)).alloc (.cells #[.int .i64 q, .slice B m d] 27)).heap.size ((w.alloc (.cells #[.int .i64 p, .slice A n c] 27)).alloc (.cells #[.int .i64 q, .slice B m d] 27)))
      go_wp2_with fail
      refine (spec_l03Is _ _ _ _ xs _ (HX.out.keep (H2.out.trans (HW.out.mono H2.out.size)))).mono ?_
      rw [HS.out]
      rintro e v ⟨rfl, hb⟩
      replace c0 := keep_cell hb c0
      replace c1 := keep_cell hb c1
      replace e0 := keep_cell hb e0
      replace e1 := keep_cell hb e1
      replace HW := Lib.hid (below_then HW.out hb)
      clear hb
      go_wp2_with fail
      refine (spec_l03Is _ _ _ _ ys _ (HY.out.keep (H2.out.trans (HW.out.mono H2.out.size)))).mono ?_
      rw [HT.out]
      rintro e v ⟨rfl, hb⟩
      replace c0 := keep_cell hb c0
      replace c1 := keep_cell hb c1
      replace e0 := keep_cell hb e0
      replace e1 := keep_cell hb e1
      replace HW := Lib.hid (below_then HW.out hb)
      clear hb
      go_wp2_with fail
      go_ret2
      exact ⟨rfl, (H2.out.trans (HW.out.mono H2.out.size))⟩
    | true =>
      have HC := Lib.hid (show isoC p q xs ys = 0 from if_pos ⟨hs, ht⟩)
      have HV := Lib.hid (show isoV p q xs ys = isoB p q xs ys from if_pos ⟨hs, ht⟩)
      have HS := Lib.hid hs
      have HT := Lib.hid ht
      rw [HC.out, HV.out]
      clear hs ht
      go_enter Try.func38, Try.ntmps38
      have c0 : ((w.alloc (.cells #[.int .i64 p, .slice A n c] 27)).alloc (.cells #[.int .i64 q, .slice B m d] 27)).cell? ⟨w.heap.size, 0, none⟩ = some (.int .i64 p) := by simp [go_sem]
      have c1 : ((w.alloc (.cells #[.int .i64 p, .slice A n c] 27)).alloc (.cells #[.int .i64 q, .slice B m d] 27)).cell? ⟨w.heap.size, 1, none⟩ = some (.slice A n c) := by simp [go_sem]
      have e0 : ((w.alloc (.cells #[.int .i64 p, .slice A n c] 27)).alloc (.cells #[.int .i64 q, .slice B m d] 27)).cell? ⟨w.heap.size + 1, 0, none⟩ = some (.int .i64 q) := by simp [go_sem]
      have e1 : ((w.alloc (.cells #[.int .i64 p, .slice A n c] 27)).alloc (.cells #[.int .i64 q, .slice B m d] 27)).cell? ⟨w.heap.size + 1, 1, none⟩ = some (.slice B m d) := by simp [go_sem]
      have HW := Lib.hid (Below.refl ((w.alloc (.cells #[.int .i64 p, .slice A n c] 27)).alloc (.cells #[.int .i64 q, .slice B m d] 27)).heap.size ((w.alloc (.cells #[.int .i64 p, .slice A n c] 27)).alloc (.cells #[.int .i64 q, .slice B m d] 27)))
      go_wp2_with fail
      refine (spec_l03Is _ _ _ _ xs _ (HX.out.keep (H2.out.trans (HW.out.mono H2.out.size)))).mono ?_
      rw [HS.out]
      rintro e v ⟨rfl, hb⟩
      replace c0 := keep_cell hb c0
      replace c1 := keep_cell hb c1
      replace e0 := keep_cell hb e0
      replace e1 := keep_cell hb e1
      replace HW := Lib.hid (below_then HW.out hb)
      clear hb
      go_wp2_with fail
      refine (spec_l03Is _ _ _ _ ys _ (HY.out.keep (H2.out.trans (HW.out.mono H2.out.size)))).mono ?_
      rw [HT.out]
      rintro e v ⟨rfl, hb⟩
      replace c0 := keep_cell hb c0
      replace c1 := keep_cell hb c1
      replace e0 := keep_cell hb e0
      replace e1 := keep_cell hb e1
      replace HW := Lib.hid (below_then HW.out hb)
      clear hb
      go_wp2_with fail
      refine (spec_l03Isometric _ _ _ _ _ xs _ _ _ ys _ (HX.out.keep (H2.out.trans (HW.out.mono H2.out.size))) (HY.out.keep (H2.out.trans (HW.out.mono H2.out.size))) HS.out HT.out).mono ?_
      rintro e v ⟨rfl, hb⟩
      replace c0 := keep_cell hb c0
      replace c1 := keep_cell hb c1
      replace e0 := keep_cell hb e0
      replace e1 := keep_cell hb e1
      replace HW := Lib.hid (below_then HW.out hb)
      clear hb
      go_wp2_with fail
      go_ret2
      exact ⟨rfl, (H2.out.trans (HW.out.mono H2.out.size))⟩

end Go.Proofs.Ytcieohpbeckjfaa
