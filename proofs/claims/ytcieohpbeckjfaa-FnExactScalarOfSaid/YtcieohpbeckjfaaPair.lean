/- Contracts: the scalar part, products and norms of vectors. Conditions stand in each theorem. -/
import Derived.Test.YtcieohpbeckjfaaLists
import Derived.Test.YtcieohpbeckjfaaDot
namespace Go.Proofs.Ytcieohpbeckjfaa
open Go.RowKit
set_option linter.unusedVariables false

def scaV (p : Int) (xs ys : List Int) : Int := okOr (codeS p xs (2 ^ xs.length) [ys]) (ys.getD 0 0)

theorem spec_ScalarOf (p : Int) (A B : Option Addr) (n c m d : Nat) (xs ys : List Int) (w : World) (hx : Ints w A n xs) (hy : Ints w B m ys) :
    Calls Try.prog 30 #[.agg #[.int .i64 p, .slice A n c], .slice B m d] w fun e w' => e = .returned (.tuple #[.int .i64 (scaV p xs ys), .int .i64 (codeS p xs (2 ^ xs.length) [ys])]) ∧ Below w.heap.size w w' := by
  have HX := Lib.hid hx
  have hm := hx.2.1
  have HN := Lib.hid hx.1
  clear hx
  unfold maxLen at hm
  have H2 := Lib.hid (show Below w.heap.size w (w.alloc (.cells #[.int .i64 p, .slice A n c] 27)) from (Below.refl _ _).alloc (Nat.le_refl _) _)
  have HY := Lib.hid hy
  have hm2 := hy.2.1
  have HM := Lib.hid hy.1
  clear hy
  unfold maxLen at hm2
  by_cases hcz : codeS p xs (2 ^ n) [ys] = 0
  · obtain ⟨hsp, hall⟩ := codeS_zero hcz
    obtain ⟨hp, hl0, hl1, hn⟩ := spaceB_true hsp
    have hall2 : lstB p (2 ^ n) ys = true := by simpa using hall
    obtain ⟨hlen, hnum⟩ := lstB_true hall2
    have h1m : 0 < m := by have := HM.out; have := Nat.one_le_two_pow (n := n); omega
    have HC := Lib.hid (show codeS p xs (2 ^ xs.length) [ys] = 0 by rw [HN.out]; exact hcz)
    obtain ⟨b, off, y, hB, hb1, hyk, hcell⟩ := HY.out.at_ h1m
    have HV := Lib.hid (show scaV p xs ys = y by unfold scaV; rw [HC.out]; simp [okOr, List.getD, hyk])
    rw [HV.out, HC.out]
    have HZ := Lib.hid hcz
    have hcell1 := keep_cell H2.out hcell
    simp only [Nat.add_zero] at hcell1
    have HBe := Lib.hid hB
    clear hcz hsp hall hp hn hall2 hlen hnum hcell hyk hB
    go_enter Try.func30, Try.ntmps30
    have c0 : (w.alloc (.cells #[.int .i64 p, .slice A n c] 27)).cell? ⟨w.heap.size, 0, none⟩ = some (.int .i64 p) := by simp [go_sem]
    have c1 : (w.alloc (.cells #[.int .i64 p, .slice A n c] 27)).cell? ⟨w.heap.size, 1, none⟩ = some (.slice A n c) := by simp [go_sem]
    have HW := Lib.hid (Below.refl (w.alloc (.cells #[.int .i64 p, .slice A n c] 27)).heap.size (w.alloc (.cells #[.int .i64 p, .slice A n c] 27)))
    have hb : Below (w.alloc (.cells #[.int .i64 p, .slice A n c] 27)).heap.size (w.alloc (.cells #[.int .i64 p, .slice A n c] 27)) ((w.alloc (.cells #[.int .i64 p, .slice A n c] 27)).alloc (.cells #[.slice B m d] 22)) := (Below.refl _ _).alloc (Nat.le_refl _) _
    go_wp2_with fail
    refine (spec_l04Code p A _ n c 1 _ xs [ys] _ (HX.out.keep (H2.out.trans (hb.mono H2.out.size))) (Lists.mk1 _ _ (by simp) (HY.out.keep H2.out))).mono ?_
    rw [HZ.out]
    rintro e v ⟨rfl, hv⟩
    replace hcell1 := keep_cell (below_then hb hv) hcell1
    have hpos : (0 : Int) < m := by omega
    replace HW := Lib.hid (below_then (below_then HW.out hb) hv)
    clear hb hv c0 c1
    obtain rfl := HBe.out
    go_wp2
    go_ret2
    exact ⟨rfl, (H2.out.trans (HW.out.mono H2.out.size))⟩
  · have HC := Lib.hid (show codeS p xs (2 ^ xs.length) [ys] = codeS p xs (2 ^ n) [ys] by rw [HN.out])
    have HV := Lib.hid (show scaV p xs ys = 0 by unfold scaV; rw [HC.out]; simp [okOr, hcz])
    rw [HV.out, HC.out]
    go_enter Try.func30, Try.ntmps30
    have c0 : (w.alloc (.cells #[.int .i64 p, .slice A n c] 27)).cell? ⟨w.heap.size, 0, none⟩ = some (.int .i64 p) := by simp [go_sem]
    have c1 : (w.alloc (.cells #[.int .i64 p, .slice A n c] 27)).cell? ⟨w.heap.size, 1, none⟩ = some (.slice A n c) := by simp [go_sem]
    have HW := Lib.hid (Below.refl (w.alloc (.cells #[.int .i64 p, .slice A n c] 27)).heap.size (w.alloc (.cells #[.int .i64 p, .slice A n c] 27)))
    have hb : Below (w.alloc (.cells #[.int .i64 p, .slice A n c] 27)).heap.size (w.alloc (.cells #[.int .i64 p, .slice A n c] 27)) ((w.alloc (.cells #[.int .i64 p, .slice A n c] 27)).alloc (.cells #[.slice B m d] 22)) := (Below.refl _ _).alloc (Nat.le_refl _) _
    go_wp2_with fail
    refine (spec_l04Code p A _ n c 1 _ xs [ys] _ (HX.out.keep (H2.out.trans (hb.mono H2.out.size))) (Lists.mk1 _ _ (by simp) (HY.out.keep H2.out))).mono ?_
    rintro e v ⟨rfl, hv⟩
    replace HW := Lib.hid (below_then (below_then HW.out hb) hv)
    clear hb hv c0 c1
    go_wp2
    go_ret2
    exact ⟨rfl, (H2.out.trans (HW.out.mono H2.out.size))⟩

theorem impl_ScalarOf (p : Int) (A B : Option Addr) (n c m d : Nat) (xs ys : List Int) (w : World) (hx : Ints w A n xs) (hy : Ints w B m ys) :
    Calls Try.prog 31 #[.agg #[.int .i64 p, .slice A n c], .slice B m d] w fun e w' => e = .returned (.tuple #[.int .i64 (scaV p xs ys), .int .i64 (codeS p xs (2 ^ xs.length) [ys])]) ∧ Below w.heap.size w w' := by
  have HX := Lib.hid hx
  have hm := hx.2.1
  have HN := Lib.hid hx.1
  clear hx
  unfold maxLen at hm
  have H2 := Lib.hid (show Below w.heap.size w (w.alloc (.cells #[.int .i64 p, .slice A n c] 27)) from (Below.refl _ _).alloc (Nat.le_refl _) _)
  have HY := Lib.hid hy
  have hm2 := hy.2.1
  have HM := Lib.hid hy.1
  clear hy
  unfold maxLen at hm2
  by_cases hcz : codeS p xs (2 ^ n) [ys] = 0
  · obtain ⟨hsp, hall⟩ := codeS_zero hcz
    obtain ⟨hp, hl0, hl1, hn⟩ := spaceB_true hsp
    have hall2 : lstB p (2 ^ n) ys = true := by simpa using hall
    obtain ⟨hlen, hnum⟩ := lstB_true hall2
    have h1m : 0 < m := by have := HM.out; have := Nat.one_le_two_pow (n := n); omega
    have HC := Lib.hid (show codeS p xs (2 ^ xs.length) [ys] = 0 by rw [HN.out]; exact hcz)
    obtain ⟨b, off, y, hB, hb1, hyk, hcell⟩ := HY.out.at_ h1m
    have HV := Lib.hid (show scaV p xs ys = y by unfold scaV; rw [HC.out]; simp [okOr, List.getD, hyk])
    rw [HV.out, HC.out]
    have HZ := Lib.hid hcz
    have hcell1 := keep_cell H2.out hcell
    simp only [Nat.add_zero] at hcell1
    have HBe := Lib.hid hB
    clear hcz hsp hall hp hn hall2 hlen hnum hcell hyk hB
    go_enter Try.func31, Try.ntmps31
    have c0 : (w.alloc (.cells #[.int .i64 p, .slice A n c] 27)).cell? ⟨w.heap.size, 0, none⟩ = some (.int .i64 p) := by simp [go_sem]
    have c1 : (w.alloc (.cells #[.int .i64 p, .slice A n c] 27)).cell? ⟨w.heap.size, 1, none⟩ = some (.slice A n c) := by simp [go_sem]
    have HW := Lib.hid (Below.refl (w.alloc (.cells #[.int .i64 p, .slice A n c] 27)).heap.size (w.alloc (.cells #[.int .i64 p, .slice A n c] 27)))
    have hb : Below (w.alloc (.cells #[.int .i64 p, .slice A n c] 27)).heap.size (w.alloc (.cells #[.int .i64 p, .slice A n c] 27)) ((w.alloc (.cells #[.int .i64 p, .slice A n c] 27)).alloc (.cells #[.slice B m d] 22)) := (Below.refl _ _).alloc (Nat.le_refl _) _
    go_wp2_with fail
    refine (impl_checkMultis p A _ n c 1 _ xs [ys] _ (HX.out.keep (H2.out.trans (hb.mono H2.out.size))) (Lists.mk1 _ _ (by simp) (HY.out.keep H2.out))).mono ?_
    rw [HZ.out]
    rintro e v ⟨rfl, hv⟩
    replace hcell1 := keep_cell (below_then hb hv) hcell1
    have hpos : (0 : Int) < m := by omega
    replace HW := Lib.hid (below_then (below_then HW.out hb) hv)
    clear hb hv c0 c1
    obtain rfl := HBe.out
    go_wp2
    go_ret2
    exact ⟨rfl, (H2.out.trans (HW.out.mono H2.out.size))⟩
  · have HC := Lib.hid (show codeS p xs (2 ^ xs.length) [ys] = codeS p xs (2 ^ n) [ys] by rw [HN.out])
    have HV := Lib.hid (show scaV p xs ys = 0 by unfold scaV; rw [HC.out]; simp [okOr, hcz])
    rw [HV.out, HC.out]
    go_enter Try.func31, Try.ntmps31
    have c0 : (w.alloc (.cells #[.int .i64 p, .slice A n c] 27)).cell? ⟨w.heap.size, 0, none⟩ = some (.int .i64 p) := by simp [go_sem]
    have c1 : (w.alloc (.cells #[.int .i64 p, .slice A n c] 27)).cell? ⟨w.heap.size, 1, none⟩ = some (.slice A n c) := by simp [go_sem]
    have HW := Lib.hid (Below.refl (w.alloc (.cells #[.int .i64 p, .slice A n c] 27)).heap.size (w.alloc (.cells #[.int .i64 p, .slice A n c] 27)))
    have hb : Below (w.alloc (.cells #[.int .i64 p, .slice A n c] 27)).heap.size (w.alloc (.cells #[.int .i64 p, .slice A n c] 27)) ((w.alloc (.cells #[.int .i64 p, .slice A n c] 27)).alloc (.cells #[.slice B m d] 22)) := (Below.refl _ _).alloc (Nat.le_refl _) _
    go_wp2_with fail
    refine (impl_checkMultis p A _ n c 1 _ xs [ys] _ (HX.out.keep (H2.out.trans (hb.mono H2.out.size))) (Lists.mk1 _ _ (by simp) (HY.out.keep H2.out))).mono ?_
    rintro e v ⟨rfl, hv⟩
    replace HW := Lib.hid (below_then (below_then HW.out hb) hv)
    clear hb hv c0 c1
    go_wp2
    go_ret2
    exact ⟨rfl, (H2.out.trans (HW.out.mono H2.out.size))⟩

end Go.Proofs.Ytcieohpbeckjfaa
