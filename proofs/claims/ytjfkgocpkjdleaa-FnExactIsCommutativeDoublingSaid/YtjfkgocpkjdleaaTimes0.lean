/- Contracts: sums, multiples and conjugates of elements. Conditions stand in each theorem. -/
import Derived.Test.YtjfkgocpkjdleaaTimesP
import Derived.Test.YtjfkgocpkjdleaaGrid
namespace Go.Proofs.Ytjfkgocpkjdleaa
open Go.RowKit
set_option linter.unusedVariables false
set_option linter.unusedSimpArgs false

theorem Own.of_own2 {w : World} {base n : Nat} {e : TypeId} {v : Value} {xs : List Int} (h : w.ownsRow base e 1 v n (xs.map (Value.int .i64))) : ∃ A c, v = .slice A n c ∧ Own base w A n xs ∧ n ≤ c ∧ c ≤ maxLen := by
  obtain ⟨A, c, e1, h1⟩ := Own.of_own h
  refine ⟨A, c, e1, h1, ?_⟩
  rcases h.2 with ⟨e2, h0⟩ | ⟨g, cap, cur, e2, hg, hh, hn, hc, hs, ht⟩
  · rw [e1] at e2
    injection e2 with _ e3 e4
    rw [e4, h0]
    exact ⟨Nat.le_refl _, Nat.zero_le _⟩
  · rw [e1] at e2
    injection e2 with _ _ e4
    rw [e4]
    exact ⟨hn, hc⟩

theorem field_plusR (p k0 : Int) (A B : Option Addr) (n c m d : Nat) (xs ys : List Int) (w : World) (hx : Ints w A n xs) (hy : Ints w B m ys) (hnm : n ≤ m) (h0 : 3 ≤ p) (h1 : p ≤ 13) (hn : numsB p xs = true) (hn2 : numsB p ys = true) (hk0 : -13 ≤ k0) (hk1 : k0 ≤ 13) (hlen : n ≤ 1000) :
    Calls Try.prog 85 #[.int .i64 p, .slice A n c, .slice B m d, .int .i64 k0] w fun e w' => ∃ o, e = .returned o ∧ w'.ownsRow w.heap.size 2 1 o n ((plusL p k0 xs (ys.take n)).map (Value.int .i64)) ∧ Below w.heap.size w w' := by
  have HX := Lib.hid hx
  have HN1 := Lib.hid hn
  clear hx hn
  have HY := Lib.hid hy
  have HN2 := Lib.hid hn2
  have hm2 := hy.2.1
  unfold maxLen at hm2
  clear hy hn2
  obtain ⟨i0, hi0, hz0, hz1, hz2⟩ := info_parts int_info
  go_enter Try.func85, Try.ntmps85
  go_wp2
  go_loopw [9, 15] (fun o i wr => ∃ k : Nat, k ≤ n ∧ i = .int .i64 k ∧ wr.ownsRow w.heap.size 2 1 o k ((plusL p k0 (xs.take k) (ys.take k)).map (Value.int .i64)) ∧ Below w.heap.size w wr) (fun _ i _ => n - (intOf i).toNat)
  case atStart => exact ⟨0, Nat.zero_le _, rfl, own_empty _ _ _ _ rfl (Nat.le_refl _), below_alloc _ _⟩
  case round =>
    obtain ⟨k, hk, rfl, hown, hbel⟩ := hrel
    have HO := Lib.hid hown
    have HB := Lib.hid hbel
    have hsz := hbel.size
    clear hown hbel
    by_cases hlt : k < n
    · obtain ⟨b1, off1, x, rfl, hb1, hxk, hck1⟩ := (HX.out.keep HB.out).at_ hlt
      obtain ⟨hx0, hx1⟩ := numB_true (numsB_at HN1.out hxk)
      have HK1 := Lib.hid hxk
      obtain ⟨b2, off2, y, rfl, hb2, hyk, hck2⟩ := (HY.out.keep HB.out).at_ (show k < m by omega)
      obtain ⟨hy0, hy1⟩ := numB_true (numsB_at HN2.out hyk)
      have HK2 := Lib.hid hyk
      have hkm : (k : Int) < m := by omega
      have hb2' : b2 < w.heap.size := by obtain ⟨bb, oo, ee, hh, _⟩ := HY.out.2.2 (show 0 < m by omega); simp at ee; omega
      clear hyk hb2
      have hkn : (k : Int) < n := by omega
      have hb1' : b1 < w.heap.size := by obtain ⟨bb, oo, ee, hh, _⟩ := HX.out.2.2 (show 0 < n by omega); simp at ee; omega
      clear hxk hb1
      obtain ⟨m0, m1⟩ := mul_bounds2 hk0 hk1 hy0 (show y ≤ 12 by omega)
      go_wp2_with (first | (go_at_call 78; refine (impl_num _ _ _ (by omega) (by omega)).mono ?_; rintro e w' ⟨rfl, rfl⟩) | (at_builtin; refine wpList_append_own _ rfl _ _ 22 rfl w.heap.size 2 i0 _ 1 8 Try.underlying22 hi0 hz0 hz1 hz2 rfl (by omega) u9 k _ rfl (HO.out.alloc _) ⟨wr.heap.size, 0, none⟩ 1 1 [.int .i64 ((x + k0 * y) % p)] rfl rfl (cell_one_new _ _ _) (by simp [Value.oneCell']) (by unfold maxLen; omega) (by omega) (by simp; omega) ?_; intro v' w1 hown1 hgrow _))
      have HO1 := Lib.hid hown1
      have HB1 := Lib.hid (below_own (HO.out.alloc _) hgrow (HB.out.alloc hsz _) (Nat.le_refl _) (by simp; omega))
      clear hown1 hgrow
      go_wp2
      go_roundw
      case rel => exact ⟨k + 1, by omega, by go_num, by rw [plusL_step HK1.out HK2.out, List.map_append]; exact HO1.out, HB1.out⟩
      case measure => simp [intOf]; omega
    · obtain rfl : k = n := by omega
      go_wp2
      go_ret
      refine ⟨_, rfl, ?_, HB.out⟩
      have h := HO.out
      rw [List.take_of_length_le (l := xs) (by have := HX.out.1; omega)] at h
      exact h

theorem field_scaledR (p k0 : Int) (A : Option Addr) (n c : Nat) (xs : List Int) (w : World) (hx : Ints w A n xs) (h0 : 3 ≤ p) (h1 : p ≤ 13) (hn : numsB p xs = true) (hk0 : -13 ≤ k0) (hk1 : k0 ≤ 13) (hlen : n ≤ 1000) :
    Calls Try.prog 80 #[.int .i64 p, .slice A n c, .int .i64 k0] w fun e w' => ∃ o, e = .returned o ∧ w'.ownsRow w.heap.size 2 1 o n ((scaleL p k0 xs).map (Value.int .i64)) ∧ Below w.heap.size w w' := by
  have HX := Lib.hid hx
  have HN1 := Lib.hid hn
  clear hx hn
  obtain ⟨i0, hi0, hz0, hz1, hz2⟩ := info_parts int_info
  go_enter Try.func80, Try.ntmps80
  go_wp2
  go_loopw [7, 13] (fun o i wr => ∃ k : Nat, k ≤ n ∧ i = .int .i64 k ∧ wr.ownsRow w.heap.size 2 1 o k ((scaleL p k0 (xs.take k)).map (Value.int .i64)) ∧ Below w.heap.size w wr) (fun _ i _ => n - (intOf i).toNat)
  case atStart => exact ⟨0, Nat.zero_le _, rfl, own_empty _ _ _ _ rfl (Nat.le_refl _), below_alloc _ _⟩
  case round =>
    obtain ⟨k, hk, rfl, hown, hbel⟩ := hrel
    have HO := Lib.hid hown
    have HB := Lib.hid hbel
    have hsz := hbel.size
    clear hown hbel
    by_cases hlt : k < n
    · obtain ⟨b1, off1, x, rfl, hb1, hxk, hck1⟩ := (HX.out.keep HB.out).at_ hlt
      obtain ⟨hx0, hx1⟩ := numB_true (numsB_at HN1.out hxk)
      have HK1 := Lib.hid hxk
      have hkn : (k : Int) < n := by omega
      have hb1' : b1 < w.heap.size := by obtain ⟨bb, oo, ee, hh, _⟩ := HX.out.2.2 (show 0 < n by omega); simp at ee; omega
      clear hxk hb1
      obtain ⟨m0, m1⟩ := mul_bounds2 hk0 hk1 hx0 (show x ≤ 12 by omega)
      rw [Int.mul_comm] at m0 m1
      go_wp2_with (first | (go_at_call 78; refine (impl_num _ _ _ (by omega) (by omega)).mono ?_; rintro e w' ⟨rfl, rfl⟩) | (at_builtin; refine wpList_append_own _ rfl _ _ 22 rfl w.heap.size 2 i0 _ 1 8 Try.underlying22 hi0 hz0 hz1 hz2 rfl (by omega) u7 k _ rfl (HO.out.alloc _) ⟨wr.heap.size, 0, none⟩ 1 1 [.int .i64 (x * k0 % p)] rfl rfl (cell_one_new _ _ _) (by simp [Value.oneCell']) (by unfold maxLen; omega) (by omega) (by simp; omega) ?_; intro v' w1 hown1 hgrow _))
      have HO1 := Lib.hid hown1
      have HB1 := Lib.hid (below_own (HO.out.alloc _) hgrow (HB.out.alloc hsz _) (Nat.le_refl _) (by simp; omega))
      clear hown1 hgrow
      go_wp2
      go_roundw
      case rel => exact ⟨k + 1, by omega, by go_num, by rw [scaleL_step HK1.out, List.map_append]; exact HO1.out, HB1.out⟩
      case measure => simp [intOf]; omega
    · obtain rfl : k = n := by omega
      go_wp2
      go_ret
      refine ⟨_, rfl, ?_, HB.out⟩
      have h := HO.out
      rw [List.take_of_length_le (by have := HX.out.1; omega)] at h
      exact h

theorem spec_l11Add (p : Int) (A B : Option Addr) (n c m d : Nat) (xs ys : List Int) (w : World) (hx : Ints w A n xs) (hy : Ints w B m ys) (hnm : n ≤ m) (h0 : 3 ≤ p) (h1 : p ≤ 13) (hn : numsB p xs = true) (hn2 : numsB p ys = true) (hlen : n ≤ 1000) :
    Calls Try.prog 84 #[.int .i64 p, .slice A n c, .slice B m d] w fun e w' => ∃ o, e = .returned o ∧ w'.ownsRow w.heap.size 2 1 o n ((plusL p 1 xs (ys.take n)).map (Value.int .i64)) ∧ Below w.heap.size w w' := by
  have HX := Lib.hid hx
  have HN1 := Lib.hid hn
  clear hx hn
  have HY := Lib.hid hy
  have HN2 := Lib.hid hn2
  have hm2 := hy.2.1
  unfold maxLen at hm2
  clear hy hn2
  obtain ⟨i0, hi0, hz0, hz1, hz2⟩ := info_parts int_info
  go_enter Try.func84, Try.ntmps84
  go_wp2
  go_loopw [7, 8] (fun o i wr => ∃ k : Nat, k ≤ n ∧ i = .int .i64 k ∧ wr.ownsRow w.heap.size 2 1 o k ((plusL p 1 (xs.take k) (ys.take k)).map (Value.int .i64)) ∧ Below w.heap.size w wr) (fun _ i _ => n - (intOf i).toNat)
  case atStart => exact ⟨0, Nat.zero_le _, rfl, own_empty _ _ _ _ rfl (Nat.le_refl _), below_alloc _ _⟩
  case round =>
    obtain ⟨k, hk, rfl, hown, hbel⟩ := hrel
    have HO := Lib.hid hown
    have HB := Lib.hid hbel
    have hsz := hbel.size
    clear hown hbel
    by_cases hlt : k < n
    · obtain ⟨b1, off1, x, rfl, hb1, hxk, hck1⟩ := (HX.out.keep HB.out).at_ hlt
      obtain ⟨hx0, hx1⟩ := numB_true (numsB_at HN1.out hxk)
      have HK1 := Lib.hid hxk
      obtain ⟨b2, off2, y, rfl, hb2, hyk, hck2⟩ := (HY.out.keep HB.out).at_ (show k < m by omega)
      obtain ⟨hy0, hy1⟩ := numB_true (numsB_at HN2.out hyk)
      have HK2 := Lib.hid hyk
      have hkm : (k : Int) < m := by omega
      have hb2' : b2 < w.heap.size := by obtain ⟨bb, oo, ee, hh, _⟩ := HY.out.2.2 (show 0 < m by omega); simp at ee; omega
      clear hyk hb2
      have hkn : (k : Int) < n := by omega
      have hb1' : b1 < w.heap.size := by obtain ⟨bb, oo, ee, hh, _⟩ := HX.out.2.2 (show 0 < n by omega); simp at ee; omega
      clear hxk hb1
      have e2 : IntKind.i64.wrap (x + y) = x + y := IntWalk.i64_in _ (by omega)
      go_wp2_with fail
      go_region_held3 (fun w' => w'.cell? ⟨b1, off1 + k, none⟩ = some (.int .i64 x) ∧ w'.cell? ⟨b2, off2 + k, none⟩ = some (.int .i64 y) ∧ Below w.heap.size w w')
        (first
          | exact ⟨hck1, hck2, HB.out.drew⟩
          | (go_split_ands; exact ⟨‹_›, ‹_›, ‹_›⟩)
          | (go_split_ands; exact ⟨cell_grown hoz hgrow ‹_› (by simp; omega), cell_grown hoz hgrow ‹_› (by simp; omega), below_own hoz hgrow ‹_› (Nat.le_refl _) (by simp; omega)⟩)
          | (go_split_ands; exact ⟨keep_cell (below_alloc _ _) ‹_›, keep_cell (below_alloc _ _) ‹_›, below_then ‹_› (below_alloc _ _)⟩)
          | go_keep)
        (first
          | (go_at_call 55; refine (spec_l01Mod _ _ _ (by omega) (by omega)).mono ?_; rintro e w' ⟨rfl, rfl⟩)
          | (have hoz := (HO.out.drew).alloc (.cells #[.int .i64 ((x + y) % p)] 2); refine step_append_lies _ (by rfl) _ _ _ (by rfl) w.heap.size 2 i0 _ 1 8 Try.underlying22 hi0 hz0 hz1 hz2 rfl (by omega) u7 k _ (by rfl) hoz ⟨wr.heap.size, 0, none⟩ 1 1 [.int .i64 ((x + y) % p)] (by rfl) (by rfl) (cell_one_new _ _ _) (by simp [Value.oneCell']) (by omega) (by unfold maxLen; omega) (by omega) (by simp; omega) (wr.heap.size + 1) (by simp) ?_; intro gg cap w1 hown1 hgrow hat hlt1))
      rename_i hh
      obtain ⟨_, _, hbw⟩ := hh
      clear e2
      have HO1 := Lib.hid hown1
      have HB1 := Lib.hid hbw
      clear hown1 hgrow hat hlt1 hoz hbw
      go_wp2
      go_roundw
      case rel => exact ⟨k + 1, by omega, by go_num, by rw [plusL_step HK1.out HK2.out, List.map_append, Int.one_mul]; exact HO1.out, HB1.out⟩
      case measure => simp [intOf]; omega
    · obtain rfl : k = n := by omega
      go_wp2
      go_ret
      refine ⟨_, rfl, ?_, HB.out⟩
      have h := HO.out
      rw [List.take_of_length_le (l := xs) (by have := HX.out.1; omega)] at h
      exact h

theorem spec_l11Scale (p k0 : Int) (A : Option Addr) (n c : Nat) (xs : List Int) (w : World) (hx : Ints w A n xs) (h0 : 3 ≤ p) (h1 : p ≤ 13) (hn : numsB p xs = true) (hk0 : 0 ≤ k0) (hk1 : k0 < p) (hlen : n ≤ 1000) :
    Calls Try.prog 79 #[.int .i64 p, .int .i64 k0, .slice A n c] w fun e w' => ∃ o, e = .returned o ∧ w'.ownsRow w.heap.size 2 1 o n ((scaleL p k0 xs).map (Value.int .i64)) ∧ Below w.heap.size w w' := by
  have HX := Lib.hid hx
  have HN1 := Lib.hid hn
  clear hx hn
  obtain ⟨i0, hi0, hz0, hz1, hz2⟩ := info_parts int_info
  go_enter Try.func79, Try.ntmps79
  go_wp2
  go_loopw [7, 8] (fun o i wr => ∃ k : Nat, k ≤ n ∧ i = .int .i64 k ∧ wr.ownsRow w.heap.size 2 1 o k ((scaleL p k0 (xs.take k)).map (Value.int .i64)) ∧ Below w.heap.size w wr) (fun _ i _ => n - (intOf i).toNat)
  case atStart => exact ⟨0, Nat.zero_le _, rfl, own_empty _ _ _ _ rfl (Nat.le_refl _), below_alloc _ _⟩
  case round =>
    obtain ⟨k, hk, rfl, hown, hbel⟩ := hrel
    have HO := Lib.hid hown
    have HB := Lib.hid hbel
    have hsz := hbel.size
    clear hown hbel
    by_cases hlt : k < n
    · obtain ⟨b1, off1, x, rfl, hb1, hxk, hck1⟩ := (HX.out.keep HB.out).at_ hlt
      obtain ⟨hx0, hx1⟩ := numB_true (numsB_at HN1.out hxk)
      have HK1 := Lib.hid hxk
      have hkn : (k : Int) < n := by omega
      have hb1' : b1 < w.heap.size := by obtain ⟨bb, oo, ee, hh, _⟩ := HX.out.2.2 (show 0 < n by omega); simp at ee; omega
      clear hxk hb1
      obtain ⟨m0, m1⟩ := mul_bounds (a := k0) (b := x) (p := p) hk0 hk1 hx0 hx1 h1
      go_wp2_with (first | (go_at_call 55; refine (spec_l01Mod _ _ _ (by omega) (by omega)).mono ?_; rintro e w' ⟨rfl, rfl⟩) | (at_builtin; refine wpList_append_own _ rfl _ _ 22 rfl w.heap.size 2 i0 _ 1 8 Try.underlying22 hi0 hz0 hz1 hz2 rfl (by omega) u7 k _ rfl (HO.out.alloc _) ⟨wr.heap.size, 0, none⟩ 1 1 [.int .i64 (k0 * x % p)] rfl rfl (cell_one_new _ _ _) (by simp [Value.oneCell']) (by unfold maxLen; omega) (by omega) (by simp; omega) ?_; intro v' w1 hown1 hgrow _))
      have HO1 := Lib.hid hown1
      have HB1 := Lib.hid (below_own (HO.out.alloc _) hgrow (HB.out.alloc hsz _) (Nat.le_refl _) (by simp; omega))
      clear hown1 hgrow
      go_wp2
      go_roundw
      case rel => exact ⟨k + 1, by omega, by go_num, by rw [scaleL_step HK1.out, List.map_append, Int.mul_comm]; exact HO1.out, HB1.out⟩
      case measure => simp [intOf]; omega
    · obtain rfl : k = n := by omega
      go_wp2
      go_ret
      refine ⟨_, rfl, ?_, HB.out⟩
      have h := HO.out
      rw [List.take_of_length_le (by have := HX.out.1; omega)] at h
      exact h


theorem spec_l11Star (p : Int) (A : Option Addr) (n c : Nat) (xs : List Int) (w : World) (hx : Ints w A n xs) (h0 : 3 ≤ p) (h1 : p ≤ 13) (hn : numsB p xs = true) (hn0 : 0 < n) (hlen : n ≤ 1000) :
    Calls Try.prog 64 #[.int .i64 p, .slice A n c] w fun e w' => ∃ C q, e = .returned (.slice C n q) ∧ n ≤ q ∧ q ≤ maxLen ∧ Own w.heap.size w' C n (conjL p xs) ∧ Below w.heap.size w w' := by
  have HX := Lib.hid hx
  have HN1 := Lib.hid hn
  clear hx hn
  obtain ⟨b1, off1, x, rfl, hb1, hxk, hck1⟩ := HX.out.at_ hn0
  simp only [Nat.add_zero] at hck1
  have HG := Lib.hid (show xs.getD 0 0 = x by rw [List.getD_eq_getElem?_getD, hxk]; rfl)
  have hkn : (0 : Int) < n := by omega
  clear hxk hb1
  go_enter Try.func64, Try.ntmps64
  go_wp2_with fail
  refine (spec_l11Scale p (p - 1) _ _ _ xs _ HX.out h0 h1 HN1.out (by omega) (by omega) (by omega)).mono ?_
  rintro e v ⟨o, rfl, hor, hb⟩
  obtain ⟨C, q, rfl, ho, hq1, hq2⟩ := Own.of_own2 hor
  clear hor
  rw [scale_neg] at ho
  have HB := Lib.hid hb
  replace hck1 := keep_cell hb hck1
  obtain ⟨b', off', rfl, hd1, hd2, hcl, hfz⟩ := ho.2.2 hn0
  have HO := Lib.hid ho
  obtain ⟨z, hz⟩ : ∃ z, (scaleL p (-1) xs)[0]? = some z := ⟨_, List.getElem?_eq_getElem (by rw [scaleL_len, HX.out.1]; exact hn0)⟩
  have hcell := hcl 0 z hz
  have hfr := hfz 0 hn0
  simp only [Nat.add_zero] at hcell hfr
  clear hcl hfz hz ho hb
  go_wp2
  go_ret
  refine ⟨_, _, rfl, hq1, hq2, ?_, HB.out.setCell hd1 _⟩
  have h := HO.out.set_ (j := 0) hn0 x
  rw [← HG.out] at h
  simpa only [Nat.add_zero, HG.out, conjL] using h

theorem field_conjugate (p : Int) (A : Option Addr) (n c : Nat) (xs : List Int) (w : World) (hx : Ints w A n xs) (h0 : 3 ≤ p) (h1 : p ≤ 13) (hn : numsB p xs = true) (hn0 : 0 < n) (hlen : n ≤ 1000) :
    Calls Try.prog 65 #[.int .i64 p, .slice A n c] w fun e w' => ∃ C q, e = .returned (.slice C n q) ∧ n ≤ q ∧ q ≤ maxLen ∧ Own w.heap.size w' C n (conjL p xs) ∧ Below w.heap.size w w' := by
  have HX := Lib.hid hx
  have HN1 := Lib.hid hn
  clear hx hn
  obtain ⟨b1, off1, x, rfl, hb1, hxk, hck1⟩ := HX.out.at_ hn0
  simp only [Nat.add_zero] at hck1
  have HG := Lib.hid (show xs.getD 0 0 = x by rw [List.getD_eq_getElem?_getD, hxk]; rfl)
  have hkn : (0 : Int) < n := by omega
  clear hxk hb1
  go_enter Try.func65, Try.ntmps65
  go_wp2_with fail
  refine (field_scaledR p (-1) _ _ _ xs _ HX.out h0 h1 HN1.out (by omega) (by omega) (by omega)).mono ?_
  rintro e v ⟨o, rfl, hor, hb⟩
  obtain ⟨C, q, rfl, ho, hq1, hq2⟩ := Own.of_own2 hor
  clear hor
  have _htok : True := trivial
  have HB := Lib.hid hb
  replace hck1 := keep_cell hb hck1
  obtain ⟨b', off', rfl, hd1, hd2, hcl, hfz⟩ := ho.2.2 hn0
  have HO := Lib.hid ho
  obtain ⟨z, hz⟩ : ∃ z, (scaleL p (-1) xs)[0]? = some z := ⟨_, List.getElem?_eq_getElem (by rw [scaleL_len, HX.out.1]; exact hn0)⟩
  have hcell := hcl 0 z hz
  have hfr := hfz 0 hn0
  simp only [Nat.add_zero] at hcell hfr
  clear hcl hfz hz ho hb
  go_wp2
  go_ret
  refine ⟨_, _, rfl, hq1, hq2, ?_, HB.out.setCell hd1 _⟩
  have h := HO.out.set_ (j := 0) hn0 x
  rw [← HG.out] at h
  simpa only [Nat.add_zero, HG.out, conjL] using h

end Go.Proofs.Ytjfkgocpkjdleaa
