/- Contracts: a doubling as an argument: copy, compare, mark, size, the test, the codes. Conditions stand in each theorem. -/
import Derived.Test.YtjfkgocpkjdleaaSpace2
import Derived.Test.YtjfkgocpkjdleaaMark
import Derived.Test.YtjfkgocpkjdleaaLists
namespace Go.Proofs.Ytjfkgocpkjdleaa
open Go.RowKit
set_option linter.unusedVariables false
set_option linter.unusedSimpArgs false

def stepsB (p : Int) (st : List Int) : Bool := st.all fun s => rangeB s 1 (p - 1)
def dblB (p : Int) (st : List Int) : Bool := primeB p && decide (st.length ≤ 4) && stepsB p st
theorem stepsB_nums {p : Int} {st : List Int} (h : stepsB p st = true) : numsB p st = true := List.all_eq_true.2 fun x hx => by
  have := rangeB_true (List.all_eq_true.1 h x hx)
  exact numB_iff.2 (by omega)
theorem stepsB_pos {p : Int} {st : List Int} (h : stepsB p st = true) : st.contains 0 = false := by
  cases e : st.contains 0 with
  | false => rfl
  | true =>
    have := rangeB_true (List.all_eq_true.1 h 0 (List.contains_iff_mem.1 e))
    omega
theorem stepsB_no {p : Int} {st : List Int} (h : stepsB p st = false) : numsB p st = false ∨ (numsB p st = true ∧ st.contains 0 = true) := by
  cases e : numsB p st with
  | false => exact .inl rfl
  | true =>
    right
    refine ⟨rfl, ?_⟩
    cases e2 : st.contains 0 with
    | true => rfl
    | false =>
      have : stepsB p st = true := List.all_eq_true.2 fun x hx => by
        have h1 := numB_true (List.all_eq_true.1 e x hx)
        have h2 : x ≠ 0 := fun e3 => by subst e3; rw [List.contains_iff_mem.2 hx] at e2; cases e2
        simp [rangeB]; omega
      rw [this] at h; cases h
theorem steps_step {p x : Int} {st : List Int} {k : Nat} (hk : st[k]? = some x) (h : stepsB p (st.take k) = true) (hx : rangeB x 1 (p - 1) = true) : stepsB p (st.take (k + 1)) = true := by
  rw [take_snoc hk]; unfold stepsB at *; rw [List.all_append, h]; simpa using hx
theorem steps_bad {p x : Int} {st : List Int} {k : Nat} (hk : st[k]? = some x) (h : rangeB x 1 (p - 1) = false) : stepsB p st = false := by
  cases e : stepsB p st with
  | false => rfl
  | true => have := List.all_eq_true.1 e x (List.mem_of_getElem? hk); have h2 : rangeB x 1 (p - 1) = true := this; rw [h] at h2; cases h2
theorem dblB_true {p : Int} {st : List Int} (h : dblB p st = true) : primeB p = true ∧ 0 ≤ st.length ∧ st.length ≤ 4 ∧ stepsB p st = true := by
  simp only [dblB, Bool.and_eq_true, decide_eq_true_eq] at h
  exact ⟨h.1.1, Nat.zero_le _, h.1.2, h.2⟩
theorem dblB_cases (p : Int) (st : List Int) :
    (dblB p st = true ∧ primeB p = true ∧ st.length ≤ 4 ∧ stepsB p st = true) ∨
    (dblB p st = false ∧ primeB p = false) ∨
    (dblB p st = false ∧ primeB p = true ∧ 5 ≤ st.length) ∨
    (dblB p st = false ∧ primeB p = true ∧ st.length ≤ 4 ∧ stepsB p st = false) := by
  cases h1 : primeB p with
  | false => right; left; exact ⟨by simp [dblB, h1], rfl⟩
  | true =>
    by_cases h2 : st.length ≤ 4
    · cases h3 : stepsB p st with
      | true => left; exact ⟨by simp [dblB, h1, h2, h3], rfl, h2, rfl⟩
      | false => right; right; right; exact ⟨by simp [dblB, h3], rfl, h2, rfl⟩
    · right; right; left
      exact ⟨by simp [dblB, h2], rfl, by omega⟩
/-- the code of a doubling and of lists of N numbers -/
def codeD (p : Int) (st : List Int) (n : Nat) (vs : List (List Int)) : Int := if dblB p st then (if vs.all (lstB p n) then 0 else 2) else 1
theorem codeD_zero {p : Int} {sq : List Int} {n : Nat} {vs : List (List Int)} (h : codeD p sq n vs = 0) : dblB p sq = true ∧ vs.all (lstB p n) = true := by
  unfold codeD at h
  cases h1 : dblB p sq with
  | false => simp [h1] at h
  | true => cases h2 : vs.all (lstB p n) with
    | false => simp [h1, h2] at h
    | true => exact ⟨rfl, rfl⟩

theorem laws_szDoubling (p : Int) (A : Option Addr) (n c : Nat) (left : Int) (w : World) (hn : n ≤ maxLen) (h0 : 0 ≤ left) (h1 : left ≤ 1048576) :
    Calls Try.prog 14 #[.agg #[.int .i64 p, .slice A n c], .int .i64 left] w fun e w' => e = .returned (.int .i64 (if left - n < 0 then -1 else left - n)) ∧ Below w.heap.size w w' := by
  by_cases h : left - n < 0
  · have HE := Lib.hid (show (if left - (n : Int) < 0 then (-1 : Int) else left - n) = -1 by rw [if_pos h])
    rw [HE.out]
    go_enter Try.func14, Try.ntmps14
    go_wp2_with fail
    refine (laws_szInt64S _ _ _ _ _ hn (by omega) (by omega)).mono ?_
    rw [HE.out]
    rintro e w' ⟨rfl, rfl⟩
    go_wp2
    go_ret
    exact ⟨rfl, (Below.refl _ _).alloc (Nat.le_refl _) _⟩
  · have HE := Lib.hid (show (if left - (n : Int) < 0 then (-1 : Int) else left - n) = left - n by rw [if_neg h])
    rw [HE.out]
    have h2 : 0 ≤ left - n := by omega
    go_enter Try.func14, Try.ntmps14
    go_wp2_with fail
    refine (laws_szInt64S _ _ _ _ _ hn (by omega) (by omega)).mono ?_
    rw [HE.out]
    rintro e w' ⟨rfl, rfl⟩
    go_wp2
    go_ret
    exact ⟨rfl, (Below.refl _ _).alloc (Nat.le_refl _) _⟩

theorem laws_szDoubling_ok (p : Int) (A : Option Addr) (n c : Nat) (left : Int) (w : World) (h0 : (n : Int) ≤ left) (h1 : left ≤ 1048576) :
    Calls Try.prog 14 #[.agg #[.int .i64 p, .slice A n c], .int .i64 left] w fun e w' => e = .returned (.int .i64 (left - n)) ∧ Below w.heap.size w w' := by
  have h := laws_szDoubling p A n c left w (by unfold maxLen; omega) (by omega) h1
  rw [if_neg (by omega)] at h
  exact h

theorem laws_szDoubling_no (p : Int) (A : Option Addr) (n c : Nat) (left : Int) (w : World) (hn : n ≤ maxLen) (h0 : 0 ≤ left) (h1 : left ≤ 1048576) (h2 : left < n) :
    Calls Try.prog 14 #[.agg #[.int .i64 p, .slice A n c], .int .i64 left] w fun e w' => e = .returned (.int .i64 (-1)) ∧ Below w.heap.size w w' := by
  have h := laws_szDoubling p A n c left w hn h0 h1
  rw [if_pos (by omega)] at h
  exact h

theorem laws_toDoubling (p : Int) (A : Option Addr) (n c : Nat) (xs : List Int) (w : World) (hx : Ints w A n xs) (hn : n * 8 ≤ 281474976710656) :
    Calls Try.prog 16 #[.agg #[.int .i64 p, .slice A n c]] w fun e w' => ∃ b, e = .returned (.agg #[.int .i64 p, .slice (some ⟨b, 0, none⟩) n n]) ∧ Own w.heap.size w' (some ⟨b, 0, none⟩) n xs ∧ Below w.heap.size w w' := by
  have HX := Lib.hid hx
  clear hx
  go_enter Try.func16, Try.ntmps16
  go_wp2_with fail
  refine (laws_toInt64S _ _ _ xs _ (HX.out.keep ((((Below.refl _ _).alloc (Nat.le_refl _) _).alloc (by simp) _).alloc (by simp; omega) _)) hn).mono ?_
  rintro e w1 ⟨b, rfl, ho, hb⟩
  have k10 : w1.cell? ⟨w.heap.size + 1, 0, none⟩ = some (.int .i64 0) := by rw [hb.cell (p := ⟨w.heap.size + 1, 0, none⟩) (by simp)]; simp [go_sem]
  have k11 : w1.cell? ⟨w.heap.size + 1, 1, none⟩ = some (.slice none 0 0) := by rw [hb.cell (p := ⟨w.heap.size + 1, 1, none⟩) (by simp)]; simp [go_sem]
  have k20 : w1.cell? ⟨w.heap.size + 2, 0, none⟩ = some (.int .i64 p) := by rw [hb.cell (p := ⟨w.heap.size + 2, 0, none⟩) (by simp)]; simp [go_sem]
  have k21 : w1.cell? ⟨w.heap.size + 2, 1, none⟩ = some (.slice none 0 0) := by rw [hb.cell (p := ⟨w.heap.size + 2, 1, none⟩) (by simp)]; simp [go_sem]
  have f10 : w1.frozen? ⟨w.heap.size + 1, 0, none⟩ = false := by rw [hb.frozen (p := ⟨w.heap.size + 1, 0, none⟩) (by simp)]; simp [go_sem]
  have f11 : w1.frozen? ⟨w.heap.size + 1, 1, none⟩ = false := by rw [hb.frozen (p := ⟨w.heap.size + 1, 1, none⟩) (by simp)]; simp [go_sem]
  have f21 : w1.frozen? ⟨w.heap.size + 2, 1, none⟩ = false := by rw [hb.frozen (p := ⟨w.heap.size + 2, 1, none⟩) (by simp)]; simp [go_sem]
  have hz : w.heap.size + 3 ≤ w1.heap.size := by have := hb.size; simp at this; omega
  have HB := Lib.hid hb
  have HO := Lib.hid ho
  clear hb ho
  go_wp2
  refine bodyPost_ret (v := .agg #[.int .i64 p, .slice (some ⟨b, 0, none⟩) n n]) (by simp [results, Try.results16, go_sem, k10, k11]) rfl ⟨b, rfl, ?_, ?_⟩
  · exact (((HO.out.setFar (by simp) _).setFar (by simp) _).setFar (by simp) _).less (by simp; omega)
  · exact ((((((Below.refl _ _).alloc (Nat.le_refl _) _).alloc (by simp) _).alloc (by simp; omega) _).trans (HB.out.mono (by simp; omega))).setCell (by simp; omega) _ |>.setCell (by simp) _).setCell (by simp) _

theorem laws_eqDoubling (p : Int) (A B : Option Addr) (n c d : Nat) (xs : List Int) (w : World) (hx : Ints w A n xs) (hy : Ints w B n xs) :
    Calls Try.prog 18 #[.agg #[.int .i64 p, .slice A n c], .agg #[.int .i64 p, .slice B n d]] w fun e w' => e = .returned (.bool true) ∧ Below w.heap.size w w' := by
  have HX := Lib.hid hx
  have HY := Lib.hid hy
  clear hx hy
  have h2 : Below w.heap.size w ((w.alloc (.cells #[.int .i64 p, .slice A n c] 27)).alloc (.cells #[.int .i64 p, .slice B n d] 27)) := ((Below.refl _ _).alloc (Nat.le_refl _) _).alloc (by simp) _
  have H2 := Lib.hid h2
  clear h2
  go_enter Try.func18, Try.ntmps18
  go_wp2_with fail
  refine (laws_eqInt64S _ _ _ _ _ _ xs xs _ (HX.out.keep H2.out) (HY.out.keep H2.out)).mono ?_
  rintro e w1 ⟨rfl, hb⟩
  have t1 : decide (xs = xs) = true := decide_eq_true rfl
  have HB := Lib.hid hb
  clear hb
  go_wp2
  go_ret
  exact ⟨rfl, H2.out.trans (HB.out.mono H2.out.size)⟩

theorem laws_markDoubling (p : Int) (A : Option Addr) (n c : Nat) (xs : List Int) (k0 : Int) (lo hi : Nat) (w : World) (hx : OwnIn lo hi w A n xs) (hk0 : 0 ≤ k0) (hk1 : k0 ≤ 1000000000) (hn : n ≤ 1000000000) :
    Calls Try.prog 24 #[.agg #[.int .i64 p, .slice A n c], .int .i64 k0] w fun e w' => e = .returned (.int .i64 (k0 + n)) ∧ Touch lo hi w w' := by
  have HX := Lib.hid hx
  clear hx
  go_enter Try.func24, Try.ntmps24
  go_wp2_with fail
  refine (laws_markInt64S _ _ _ xs _ lo hi _ (HX.out.keep ((Below.refl _ _).alloc (Nat.le_refl _) _)) hk0 hk1 hn).mono ?_
  rintro e v ⟨rfl, _, ht⟩
  go_wp2_with fail
  go_ret
  exact ⟨rfl, (Touch.of_below ((Below.refl _ _).alloc (Nat.le_refl _) _)).trans ht⟩

theorem Doubling_field (p : Int) (A : Option Addr) (n c : Nat) (w : World) : Calls Try.prog 47 #[.agg #[.int .i64 p, .slice A n c]] w fun e w' => e = .returned (.int .i64 p) ∧ Below w.heap.size w w' := by
  go_enter Try.func47, Try.ntmps47
  go_wp2
  go_ret
  exact ⟨rfl, (Below.refl _ _).alloc (Nat.le_refl _) _⟩

theorem l01In_is (n lo hi : Int) (b : Bool) (w : World) (h : rangeB n lo hi = b) : Calls Try.prog 71 #[.int .i64 n, .int .i64 lo, .int .i64 hi] w fun e w' => e = .returned (.bool b) ∧ w = w' := by
  have h1 := spec_l01In n lo hi w
  rw [h] at h1
  exact h1
theorem Contains0_is (A : Option Addr) (n c : Nat) (xs : List Int) (w : World) (b : Bool) (hx : Ints w A n xs) (h : xs.contains 0 = b) :
    Calls Try.prog 49 #[.slice A n c, .int .i64 0] w fun e w' => e = .returned (.bool b) ∧ w = w' := by
  have h1 := slices_Contains0 A n c xs w hx
  rw [h] at h1
  exact h1
theorem is_is (p : Int) (A : Option Addr) (n c : Nat) (xs : List Int) (w : World) (b : Bool) (h0 : 1 ≤ p) (h1 : p ≤ 13) (hx : Ints w A n xs) (h : numsB p xs = b) :
    Calls Try.prog 48 #[.int .i64 p, .slice A n c] w fun e w' => e = .returned (.bool b) ∧ w = w' := by
  have h2 := impl_is p A n c xs w h0 h1 hx
  rw [h] at h2
  exact h2

theorem spec_l11Is (p : Int) (A : Option Addr) (n c : Nat) (xs : List Int) (w : World) (hx : Ints w A n xs) :
    Calls Try.prog 45 #[.agg #[.int .i64 p, .slice A n c]] w fun e w' => e = .returned (.bool (dblB p xs)) ∧ Below w.heap.size w w' := by
  have HX := Lib.hid hx
  have hm := hx.2.1
  have HN := Lib.hid hx.1
  clear hx
  unfold maxLen at hm
  have H2 := Lib.hid (show Below w.heap.size w (w.alloc (.cells #[.int .i64 p, .slice A n c] 27)) from (Below.refl _ _).alloc (Nat.le_refl _) _)
  rcases dblB_cases p xs with ⟨hs, hp, hl, hn⟩ | ⟨hs, hp⟩ | ⟨hs, hp, hl⟩ | ⟨hs, hp, hl, hn⟩
  rotate_left
  · rw [hs]
    clear hs
    go_enter Try.func45, Try.ntmps45
    have c0 : (w.alloc (.cells #[.int .i64 p, .slice A n c] 27)).cell? ⟨w.heap.size, 0, none⟩ = some (.int .i64 p) := by simp [go_sem]
    have c1 : (w.alloc (.cells #[.int .i64 p, .slice A n c] 27)).cell? ⟨w.heap.size, 1, none⟩ = some (.slice A n c) := by simp [go_sem]
    have HW := Lib.hid (Below.refl (w.alloc (.cells #[.int .i64 p, .slice A n c] 27)).heap.size (w.alloc (.cells #[.int .i64 p, .slice A n c] 27)))
    go_wp2_with (go_at_call 70; refine (spec_l01Prime _ _).mono ?_; rintro e w' ⟨rfl, rfl⟩)
    go_ret
    exact ⟨rfl, H2.out⟩
  · rw [hs]
    rw [HN.out] at hl
    clear hs
    go_enter Try.func45, Try.ntmps45
    have c0 : (w.alloc (.cells #[.int .i64 p, .slice A n c] 27)).cell? ⟨w.heap.size, 0, none⟩ = some (.int .i64 p) := by simp [go_sem]
    have c1 : (w.alloc (.cells #[.int .i64 p, .slice A n c] 27)).cell? ⟨w.heap.size, 1, none⟩ = some (.slice A n c) := by simp [go_sem]
    have HW := Lib.hid (Below.refl (w.alloc (.cells #[.int .i64 p, .slice A n c] 27)).heap.size (w.alloc (.cells #[.int .i64 p, .slice A n c] 27)))
    go_wp2_with (go_at_call 70; refine (spec_l01Prime _ _).mono ?_; rintro e w' ⟨rfl, rfl⟩)
    go_ret
    exact ⟨rfl, H2.out⟩
  all_goals
    rw [hs]
    rw [HN.out] at hl
    have h0 := prime_lo hp
    have h1 := prime_hi hp
    have HS := Lib.hid hn
    clear hs hn
    go_enter Try.func45, Try.ntmps45
    have c0 : (w.alloc (.cells #[.int .i64 p, .slice A n c] 27)).cell? ⟨w.heap.size, 0, none⟩ = some (.int .i64 p) := by simp [go_sem]
    have c1 : (w.alloc (.cells #[.int .i64 p, .slice A n c] 27)).cell? ⟨w.heap.size, 1, none⟩ = some (.slice A n c) := by simp [go_sem]
    have HW := Lib.hid (Below.refl (w.alloc (.cells #[.int .i64 p, .slice A n c] 27)).heap.size (w.alloc (.cells #[.int .i64 p, .slice A n c] 27)))
    go_wp2_with (go_at_call 70; refine (spec_l01Prime _ _).mono ?_; rintro e w' ⟨rfl, rfl⟩)
    go_loopw [3] (fun i wr => ∃ k : Nat, k ≤ n ∧ i = .int .i64 k ∧ stepsB p (xs.take k) = true ∧ Below (w.alloc (.cells #[.int .i64 p, .slice A n c] 27)).heap.size (w.alloc (.cells #[.int .i64 p, .slice A n c] 27)) wr) (fun i _ => n - (intOf i).toNat)
    case atStart => exact ⟨0, Nat.zero_le _, rfl, rfl, HW.out⟩
    case round =>
      obtain ⟨k, hk, rfl, hall, hbel⟩ := hrel
      have HA := Lib.hid hall
      have HB := Lib.hid hbel
      have e0 := keep_cell hbel c0
      have e1 := keep_cell hbel c1
      clear hall hbel c0 c1 HW
      by_cases hlt : k < n
      · obtain ⟨b, off, x, rfl, hb, hxk, hck⟩ := (HX.out.keep (H2.out.trans (HB.out.mono H2.out.size))).at_ hlt
        have HK := Lib.hid hxk
        have k0 : (0 : Int) ≤ k := by omega
        have k1 : (k : Int) < n := by omega
        have f1 : IntKind.i64.wrap (p - 1) = p - 1 := IntWalk.i64_in _ (by omega)
        clear hxk hb
        cases hr : rangeB x 1 (p - 1) with
        | true =>
          have HR := Lib.hid hr
          clear hr
          go_wp2_with fail
          go_quiet ((go_at_call 71; exact quiet_left (l01In_is _ _ _ true _ HR.out)))
          clear f1
          go_wp2
          go_roundw
          case rel => exact ⟨k + 1, by omega, by go_num, steps_step HK.out HA.out HR.out, below_drewN HB.out _⟩
          case measure => simp [intOf]; omega
        | false =>
          have HR := Lib.hid hr
          have HBD := Lib.hid (steps_bad HK.out hr)
          clear hr
          go_wp2_with fail
          go_quiet ((go_at_call 71; exact quiet_left (l01In_is _ _ _ false _ HR.out)))
          clear f1
          go_wp2
          go_ret
          first | exact ⟨rfl, below_drewN (H2.out.trans (HB.out.mono H2.out.size)) _⟩ | (have h := HS.out; rw [HBD.out] at h; cases h)
      · obtain rfl : k = n := by omega
        go_wp2
        go_ret
        first | exact ⟨rfl, H2.out.trans (HB.out.mono H2.out.size)⟩ | (have h := HA.out; rw [List.take_of_length_le (by have := HN.out; omega), HS.out] at h; cases h)

theorem spec_IsDoubling (p : Int) (A : Option Addr) (n c : Nat) (xs : List Int) (w : World) (hx : Ints w A n xs) :
    Calls Try.prog 15 #[.agg #[.int .i64 p, .slice A n c]] w fun e w' => e = .returned (.bool (dblB p xs)) ∧ Below w.heap.size w w' := by
  have HX := Lib.hid hx
  clear hx
  have H2 := Lib.hid (show Below w.heap.size w (w.alloc (.cells #[.int .i64 p, .slice A n c] 27)) from (Below.refl _ _).alloc (Nat.le_refl _) _)
  go_enter Try.func15, Try.ntmps15
  go_wp2_with (go_at_call 45; refine (spec_l11Is _ _ _ _ xs _ (HX.out.keep H2.out)).mono ?_; rintro e w1 ⟨rfl, hb⟩)
  go_ret
  exact ⟨rfl, below_then H2.out hb⟩

set_option maxHeartbeats 2000000 in
theorem impl_IsDoubling (p : Int) (A : Option Addr) (n c : Nat) (xs : List Int) (w : World) (hx : Ints w A n xs) :
    Calls Try.prog 17 #[.agg #[.int .i64 p, .slice A n c]] w fun e w' => e = .returned (.bool (dblB p xs)) ∧ Below w.heap.size w w' := by
  have HX := Lib.hid hx
  have hm := hx.2.1
  have HN := Lib.hid hx.1
  clear hx
  unfold maxLen at hm
  have H2 := Lib.hid (show Below w.heap.size w (w.alloc (.cells #[.int .i64 p, .slice A n c] 27)) from (Below.refl _ _).alloc (Nat.le_refl _) _)
  rcases dblB_cases p xs with ⟨hs, hp, hl, hn⟩ | ⟨hs, hp⟩ | ⟨hs, hp, hl⟩ | ⟨hs, hp, hl, hn⟩
  · rw [hs]
    rw [HN.out] at hl
    have h0 := prime_lo hp
    have h1 := prime_hi hp
    have hnum := stepsB_nums hn
    have hpos := stepsB_pos hn
    have hl4 : (n : Int) ≤ 4 := by omega
    have HM := Lib.hid hnum
    have HP := Lib.hid hpos
    clear hs hn hnum hpos
    go_enter Try.func17, Try.ntmps17
    go_wp2_with fail
    first | (go_region_held3 (fun w' => w'.cell? ⟨w.heap.size, 0, none⟩ = some (.int .i64 p) ∧ w'.cell? ⟨w.heap.size, 1, none⟩ = some (.slice A n c) ∧ Below w.heap.size w w')
      (first
        | (refine ⟨?_, ?_, H2.out.drew⟩ <;> simp [go_sem])
        | (go_split_ands; exact ⟨keep_cell hbf ‹_›, keep_cell hbf ‹_›, Below.trans ‹Below w.heap.size w _› (hbf.mono (Below.size ‹Below w.heap.size w _›))⟩)
        | go_keep)
      (first
          | (go_at_call 46; refine (impl_IsPrime _ _).mono ?_; rintro e w' ⟨rfl, rfl⟩)
          | (go_at_call 47; refine (Doubling_field _ _ _ _ _).mono ?_; rintro e w1 ⟨rfl, hbf⟩)
          | (go_at_call 48; refine (is_is _ _ _ _ xs _ _ (by omega) (by omega) (HX.out.keep (by go_split_ands; assumption)) HM.out).mono ?_; rintro e w' ⟨rfl, rfl⟩)
          | (go_at_call 49; refine (Contains0_is _ _ _ xs _ _ (HX.out.keep (by go_split_ands; assumption)) HP.out).mono ?_; rintro e w' ⟨rfl, rfl⟩))) | fail
    go_split_ands
    go_wp2
    go_ret
    exact ⟨rfl, ‹Below w.heap.size w _›⟩
  · rw [hs]
    clear hs
    go_enter Try.func17, Try.ntmps17
    go_wp2_with fail
    go_quiet ((go_at_call 46; exact quiet_left (impl_IsPrime _ _)))
    go_wp2
    go_ret
    exact ⟨rfl, below_drewN H2.out _⟩
  · rw [hs]
    rw [HN.out] at hl
    have hl4 : decide ((n : Int) ≤ 4) = false := by simp; omega
    clear hs hl
    go_enter Try.func17, Try.ntmps17
    go_wp2_with fail
    go_quiet ((go_at_call 46; exact quiet_left (impl_IsPrime _ _)))
    go_wp2
    go_ret
    exact ⟨rfl, below_drewN H2.out _⟩
  · rw [hs]
    rw [HN.out] at hl
    have h0 := prime_lo hp
    have h1 := prime_hi hp
    have hl4 : (n : Int) ≤ 4 := by omega
    clear hs
    rcases stepsB_no hn with hnum | ⟨hnum, hpos⟩
    · have HM := Lib.hid hnum
      clear hn hnum
      go_enter Try.func17, Try.ntmps17
      go_wp2_with fail
      refine wp_region_held_drew (S := (fun w' => w'.cell? ⟨w.heap.size, 0, none⟩ = some (.int .i64 p) ∧ w'.cell? ⟨w.heap.size, 1, none⟩ = some (.slice A n c) ∧ Below w.heap.size w w')) (by kernel_rfl) ?_ (fun hHeld0 => ?_)
      · (refine ⟨?_, ?_, H2.out.drew⟩ <;> simp [go_sem])
      refine wpAnyH_take (i := 0) (oi := ({ dst := some 3, op := Op.fieldAddr 27 (Operand.tmp 1) 0, type := 0, pos := "l11_doubling.go:13", after := #[], guard := none } : Oper)) (v := ?_) rfl (by kernel_rfl) (by kernel_rfl) (by kernel_rfl) (fun _ _ _ h => h) (Or.inl ⟨by rfl, ?_⟩) (by assumption) ?_
      rotate_left
      · (intro w hSw; (try dsimp only at hSw); go_simp; (try with_reducible rfl))
      try simp only [Act.put, List.setIfInBounds_toArray, List.set_cons_zero, List.set_cons_succ]
      refine wpAnyH_take (i := 1) (oi := ({ dst := some 4, op := Op.load 2 (Operand.tmp 3), type := 2, pos := "l11_doubling.go:13", after := #[{ on := 0, ground := Ground.data }], guard := none } : Oper)) (v := ?_) rfl (by kernel_rfl) (by kernel_rfl) (by kernel_rfl) (fun _ _ _ h => h) (Or.inl ⟨by rfl, ?_⟩) (by assumption) ?_
      rotate_left
      · (intro w hSw; (try dsimp only at hSw); go_simp; (try with_reducible rfl))
      try simp only [Act.put, List.setIfInBounds_toArray, List.set_cons_zero, List.set_cons_succ]
      refine wpAnyH_ready (rs := [2]) (by kernel_rfl) (by simp) ?_
      refine AllReadyH.cons (o := ({ dst := some 5, op := Op.call { callee := Callee.value (Operand.func 46), args := #[Operand.tmp 4], argTypes := #[2] }, type := 4, pos := "l11_doubling.go:13", after := #[{ on := 1, ground := Ground.data }], guard := none } : Oper)) rfl (fun K hK => ?_) AllReadyH.nil
      go_simp
      go_at_call 46; refine (impl_IsPrime _ _).mono ?_; rintro e w' ⟨rfl, rfl⟩
      (try go_wp2_with fail)
      refine hK.out _ _ ?_ (fun hHeld1 => ?_)
      · (try dsimp only)
        (first | assumption | (go_split_ands; exact ⟨‹_›, ‹_›, ‹_›⟩) | (go_split_ands; exact ⟨keep_cell hbf ‹_›, keep_cell hbf ‹_›, Below.trans ‹Below w.heap.size w _› (hbf.mono (Below.size ‹Below w.heap.size w _›))⟩))
      clear hK K hHeld0
      try simp only [Act.put, List.setIfInBounds_toArray, List.set_cons_zero, List.set_cons_succ]
      refine wpAnyH_take (i := 3) (oi := ({ dst := some 6, op := Op.move (Operand.tmp 5), type := 4, pos := "l11_doubling.go:13", after := #[{ on := 2, ground := Ground.data }, { on := 2, ground := Ground.chain }], guard := none } : Oper)) (v := ?_) rfl (by kernel_rfl) (by kernel_rfl) (by kernel_rfl) (fun _ _ _ h => h) (Or.inl ⟨by rfl, ?_⟩) (by assumption) ?_
      rotate_left
      · (intro w hSw; (try dsimp only at hSw); go_simp; (try with_reducible rfl))
      try simp only [Act.put, List.setIfInBounds_toArray, List.set_cons_zero, List.set_cons_succ]
      refine wpAnyH_take (i := 4) (oi := ({ dst := some 7, op := Op.fieldAddr 27 (Operand.tmp 1) 1, type := 0, pos := "l11_doubling.go:13", after := #[{ on := 3, ground := Ground.guard }], guard := some (3, true) } : Oper)) (v := ?_) rfl (by kernel_rfl) (by kernel_rfl) (by kernel_rfl) (fun _ _ _ h => h) (Or.inl ⟨by rfl, ?_⟩) (by assumption) ?_
      rotate_left
      · (intro w hSw; (try dsimp only at hSw); go_simp; (try with_reducible rfl))
      try simp only [Act.put, List.setIfInBounds_toArray, List.set_cons_zero, List.set_cons_succ]
      refine wpAnyH_take (i := 5) (oi := ({ dst := some 8, op := Op.load 22 (Operand.tmp 7), type := 22, pos := "l11_doubling.go:13", after := #[{ on := 4, ground := Ground.data }, { on := 3, ground := Ground.guard }], guard := some (3, true) } : Oper)) (v := ?_) rfl (by kernel_rfl) (by kernel_rfl) (by kernel_rfl) (fun _ _ _ h => h) (Or.inl ⟨by rfl, ?_⟩) (by assumption) ?_
      rotate_left
      · (intro w hSw; (try dsimp only at hSw); go_simp; (try with_reducible rfl))
      try simp only [Act.put, List.setIfInBounds_toArray, List.set_cons_zero, List.set_cons_succ]
      refine wpAnyH_take (i := 6) (oi := ({ dst := some 9, op := Op.call { callee := Callee.builtin Builtin.len, args := #[Operand.tmp 8], argTypes := #[22] }, type := 3, pos := "l11_doubling.go:13", after := #[{ on := 5, ground := Ground.data }, { on := 3, ground := Ground.guard }], guard := some (3, true) } : Oper)) (v := ?_) rfl (by kernel_rfl) (by kernel_rfl) (by kernel_rfl) (fun _ _ _ h => h) (Or.inl ⟨by rfl, ?_⟩) (by assumption) ?_
      rotate_left
      · (intro w hSw; (try dsimp only at hSw); go_simp; (try with_reducible rfl))
      try simp only [Act.put, List.setIfInBounds_toArray, List.set_cons_zero, List.set_cons_succ]
      refine wpAnyH_take (i := 7) (oi := ({ dst := some 10, op := Op.binOp BinOp.leq 3 (Operand.tmp 9) (Operand.const (Value.int IntKind.i64 4)) 3, type := 4, pos := "l11_doubling.go:13", after := #[{ on := 6, ground := Ground.data }, { on := 3, ground := Ground.guard }], guard := some (3, true) } : Oper)) (v := ?_) rfl (by kernel_rfl) (by kernel_rfl) (by kernel_rfl) (fun _ _ _ h => h) (Or.inl ⟨by rfl, ?_⟩) (by assumption) ?_
      rotate_left
      · (intro w hSw; (try dsimp only at hSw); go_simp; (try with_reducible rfl))
      try simp only [Act.put, List.setIfInBounds_toArray, List.set_cons_zero, List.set_cons_succ]
      refine wpAnyH_take (i := 8) (oi := ({ dst := some 11, op := Op.pick (Operand.tmp 6) (Operand.tmp 10) (Operand.const (Value.bool false)), type := 4, pos := "l11_doubling.go:13", after := #[{ on := 3, ground := Ground.data }, { on := 7, ground := Ground.data }], guard := none } : Oper)) (v := ?_) rfl (by kernel_rfl) (by kernel_rfl) (by kernel_rfl) (fun _ _ _ h => h) (Or.inl ⟨by rfl, ?_⟩) (by assumption) ?_
      rotate_left
      · (intro w hSw; (try dsimp only at hSw); go_simp; (try with_reducible rfl))
      try simp only [Act.put, List.setIfInBounds_toArray, List.set_cons_zero, List.set_cons_succ]
      refine wpAnyH_take (i := 9) (oi := ({ dst := some 12, op := Op.move (Operand.tmp 11), type := 4, pos := "l11_doubling.go:13", after := #[{ on := 8, ground := Ground.data }, { on := 3, ground := Ground.chain }], guard := none } : Oper)) (v := ?_) rfl (by kernel_rfl) (by kernel_rfl) (by kernel_rfl) (fun _ _ _ h => h) (Or.inl ⟨by rfl, ?_⟩) (by assumption) ?_
      rotate_left
      · (intro w hSw; (try dsimp only at hSw); go_simp; (try with_reducible rfl))
      try simp only [Act.put, List.setIfInBounds_toArray, List.set_cons_zero, List.set_cons_succ]
      refine wpAnyH_take (i := 10) (oi := ({ dst := some 13, op := Op.load 27 (Operand.tmp 1), type := 27, pos := "l11_doubling.go:13", after := #[{ on := 9, ground := Ground.guard }], guard := some (9, true) } : Oper)) (v := ?_) rfl (by kernel_rfl) (by kernel_rfl) (by kernel_rfl) (fun _ _ _ h => h) (Or.inl ⟨by rfl, ?_⟩) (by assumption) ?_
      rotate_left
      · (intro w hSw; (try dsimp only at hSw); go_simp; (try with_reducible rfl))
      try simp only [Act.put, List.setIfInBounds_toArray, List.set_cons_zero, List.set_cons_succ]
      refine wpAnyH_take (i := 12) (oi := ({ dst := some 15, op := Op.fieldAddr 27 (Operand.tmp 1) 1, type := 0, pos := "l11_doubling.go:13", after := #[{ on := 9, ground := Ground.guard }], guard := some (9, true) } : Oper)) (v := ?_) rfl (by kernel_rfl) (by kernel_rfl) (by kernel_rfl) (fun _ _ _ h => h) (Or.inl ⟨by rfl, ?_⟩) (by assumption) ?_
      rotate_left
      · (intro w hSw; (try dsimp only at hSw); go_simp; (try with_reducible rfl))
      try simp only [Act.put, List.setIfInBounds_toArray, List.set_cons_zero, List.set_cons_succ]
      refine wpAnyH_take (i := 13) (oi := ({ dst := some 16, op := Op.load 22 (Operand.tmp 15), type := 22, pos := "l11_doubling.go:13", after := #[{ on := 12, ground := Ground.data }, { on := 9, ground := Ground.guard }], guard := some (9, true) } : Oper)) (v := ?_) rfl (by kernel_rfl) (by kernel_rfl) (by kernel_rfl) (fun _ _ _ h => h) (Or.inl ⟨by rfl, ?_⟩) (by assumption) ?_
      rotate_left
      · (intro w hSw; (try dsimp only at hSw); go_simp; (try with_reducible rfl))
      try simp only [Act.put, List.setIfInBounds_toArray, List.set_cons_zero, List.set_cons_succ]
      refine wpAnyH_ready (rs := [11]) (by kernel_rfl) (by simp) ?_
      refine AllReadyH.cons (o := ({ dst := some 14, op := Op.call { callee := Callee.value (Operand.func 47), args := #[Operand.tmp 13], argTypes := #[27] }, type := 47, pos := "l11_doubling.go:13", after := #[{ on := 10, ground := Ground.data }, { on := 9, ground := Ground.chain }, { on := 9, ground := Ground.guard }], guard := some (9, true) } : Oper)) rfl (fun K hK => ?_) AllReadyH.nil
      go_simp
      go_at_call 47; refine (Doubling_field _ _ _ _ _).mono ?_; rintro e w1 ⟨rfl, hbf⟩
      (try go_wp2_with fail)
      refine hK.out _ _ ?_ (fun hHeld2 => ?_)
      · (try dsimp only)
        (first | assumption | (go_split_ands; exact ⟨‹_›, ‹_›, ‹_›⟩) | (go_split_ands; exact ⟨keep_cell hbf ‹_›, keep_cell hbf ‹_›, Below.trans ‹Below w.heap.size w _› (hbf.mono (Below.size ‹Below w.heap.size w _›))⟩))
      clear hK K hHeld1
      try simp only [Act.put, List.setIfInBounds_toArray, List.set_cons_zero, List.set_cons_succ]
      refine wpAnyH_ready (rs := [14]) (by kernel_rfl) (by simp) ?_
      refine AllReadyH.cons (o := ({ dst := some 17, op := Op.call { callee := Callee.value (Operand.func 48), args := #[Operand.tmp 14, Operand.tmp 16], argTypes := #[47, 22] }, type := 4, pos := "l11_doubling.go:13", after := #[{ on := 11, ground := Ground.data }, { on := 13, ground := Ground.data }, { on := 11, ground := Ground.chain }, { on := 9, ground := Ground.guard }], guard := some (9, true) } : Oper)) rfl (fun K hK => ?_) AllReadyH.nil
      go_simp
      go_at_call 48; refine (is_is _ _ _ _ xs _ _ (by omega) (by omega) (HX.out.keep (by go_split_ands; assumption)) HM.out).mono ?_; rintro e w' ⟨rfl, rfl⟩
      (try go_wp2_with fail)
      refine hK.out _ _ ?_ (fun hHeld3 => ?_)
      · (try dsimp only)
        (first | assumption | (go_split_ands; exact ⟨‹_›, ‹_›, ‹_›⟩) | (go_split_ands; exact ⟨keep_cell hbf ‹_›, keep_cell hbf ‹_›, Below.trans ‹Below w.heap.size w _› (hbf.mono (Below.size ‹Below w.heap.size w _›))⟩))
      clear hK K hHeld2
      try simp only [Act.put, List.setIfInBounds_toArray, List.set_cons_zero, List.set_cons_succ]
      refine wpAnyH_take (i := 15) (oi := ({ dst := some 18, op := Op.pick (Operand.tmp 12) (Operand.tmp 17) (Operand.const (Value.bool false)), type := 4, pos := "l11_doubling.go:13", after := #[{ on := 9, ground := Ground.data }, { on := 14, ground := Ground.data }], guard := none } : Oper)) (v := ?_) rfl (by kernel_rfl) (by kernel_rfl) (by kernel_rfl) (fun _ _ _ h => h) (Or.inl ⟨by rfl, ?_⟩) (by assumption) ?_
      rotate_left
      · (intro w hSw; (try dsimp only at hSw); go_simp; (try with_reducible rfl))
      try simp only [Act.put, List.setIfInBounds_toArray, List.set_cons_zero, List.set_cons_succ]
      refine wpAnyH_take (i := 16) (oi := ({ dst := some 19, op := Op.move (Operand.tmp 18), type := 4, pos := "l11_doubling.go:13", after := #[{ on := 15, ground := Ground.data }, { on := 14, ground := Ground.chain }], guard := none } : Oper)) (v := ?_) rfl (by kernel_rfl) (by kernel_rfl) (by kernel_rfl) (fun _ _ _ h => h) (Or.inl ⟨by rfl, ?_⟩) (by assumption) ?_
      rotate_left
      · (intro w hSw; (try dsimp only at hSw); go_simp; (try with_reducible rfl))
      try simp only [Act.put, List.setIfInBounds_toArray, List.set_cons_zero, List.set_cons_succ]
      refine wpAnyH_take (i := 17) (oi := ({ dst := some 20, op := Op.fieldAddr 27 (Operand.tmp 1) 1, type := 0, pos := "l11_doubling.go:13", after := #[{ on := 16, ground := Ground.guard }], guard := some (16, true) } : Oper)) (v := undef) rfl (by kernel_rfl) (by kernel_rfl) (by kernel_rfl) (fun _ _ _ h => h) (Or.inr ⟨by rfl, rfl⟩) (by assumption) ?_
      try simp only [Act.put, List.setIfInBounds_toArray, List.set_cons_zero, List.set_cons_succ]
      refine wpAnyH_take (i := 18) (oi := ({ dst := some 21, op := Op.load 22 (Operand.tmp 20), type := 22, pos := "l11_doubling.go:13", after := #[{ on := 17, ground := Ground.data }, { on := 16, ground := Ground.guard }], guard := some (16, true) } : Oper)) (v := undef) rfl (by kernel_rfl) (by kernel_rfl) (by kernel_rfl) (fun _ _ _ h => h) (Or.inr ⟨by rfl, rfl⟩) (by assumption) ?_
      try simp only [Act.put, List.setIfInBounds_toArray, List.set_cons_zero, List.set_cons_succ]
      refine wpAnyH_take (i := 19) (oi := ({ dst := some 22, op := Op.call { callee := Callee.value (Operand.func 49), args := #[Operand.tmp 21, Operand.const (Value.int IntKind.i64 0)], argTypes := #[22, 2] }, type := 4, pos := "l11_doubling.go:13", after := #[{ on := 18, ground := Ground.data }, { on := 16, ground := Ground.chain }, { on := 16, ground := Ground.guard }], guard := some (16, true) } : Oper)) (v := undef) rfl (by kernel_rfl) (by kernel_rfl) (by kernel_rfl) (fun _ _ _ h => h) (Or.inr ⟨by rfl, rfl⟩) (by assumption) ?_
      try simp only [Act.put, List.setIfInBounds_toArray, List.set_cons_zero, List.set_cons_succ]
      refine wpAnyH_take (i := 20) (oi := ({ dst := some 23, op := Op.unOp UnOp.not 4 (Operand.tmp 22), type := 4, pos := "l11_doubling.go:13", after := #[{ on := 19, ground := Ground.data }, { on := 16, ground := Ground.guard }], guard := some (16, true) } : Oper)) (v := undef) rfl (by kernel_rfl) (by kernel_rfl) (by kernel_rfl) (fun _ _ _ h => h) (Or.inr ⟨by rfl, rfl⟩) (by assumption) ?_
      try simp only [Act.put, List.setIfInBounds_toArray, List.set_cons_zero, List.set_cons_succ]
      refine wpAnyH_take (i := 21) (oi := ({ dst := some 24, op := Op.pick (Operand.tmp 19) (Operand.tmp 23) (Operand.const (Value.bool false)), type := 4, pos := "l11_doubling.go:13", after := #[{ on := 16, ground := Ground.data }, { on := 20, ground := Ground.data }], guard := none } : Oper)) (v := ?_) rfl (by kernel_rfl) (by kernel_rfl) (by kernel_rfl) (fun _ _ _ h => h) (Or.inl ⟨by rfl, ?_⟩) (by assumption) ?_
      rotate_left
      · (intro w hSw; (try dsimp only at hSw); go_simp; (try with_reducible rfl))
      try simp only [Act.put, List.setIfInBounds_toArray, List.set_cons_zero, List.set_cons_succ]
      refine wpAnyH_take (i := 22) (oi := ({ dst := some 2, op := Op.assign (Operand.tmp 24), type := 4, pos := "l11_doubling.go:13", after := #[{ on := 21, ground := Ground.data }, { on := 19, ground := Ground.chain }, { on := 0, ground := Ground.phase }, { on := 1, ground := Ground.phase }, { on := 2, ground := Ground.phase }, { on := 3, ground := Ground.phase }, { on := 4, ground := Ground.phase }, { on := 5, ground := Ground.phase }, { on := 6, ground := Ground.phase }, { on := 7, ground := Ground.phase }, { on := 8, ground := Ground.phase }, { on := 9, ground := Ground.phase }, { on := 10, ground := Ground.phase }, { on := 11, ground := Ground.phase }, { on := 12, ground := Ground.phase }, { on := 13, ground := Ground.phase }, { on := 14, ground := Ground.phase }, { on := 15, ground := Ground.phase }, { on := 16, ground := Ground.phase }, { on := 17, ground := Ground.phase }, { on := 18, ground := Ground.phase }, { on := 19, ground := Ground.phase }, { on := 20, ground := Ground.phase }, { on := 21, ground := Ground.phase }], guard := none } : Oper)) (v := ?_) rfl (by kernel_rfl) (by kernel_rfl) (by kernel_rfl) (fun _ _ _ h => h) (Or.inl ⟨by rfl, ?_⟩) (by assumption) ?_
      rotate_left
      · (intro w hSw; (try dsimp only at hSw); go_simp; (try with_reducible rfl))
      try simp only [Act.put, List.setIfInBounds_toArray, List.set_cons_zero, List.set_cons_succ]
      refine wpAnyH_done (by kernel_rfl) ?_ _
      obtain ⟨_, _, hbl⟩ := hHeld3
      go_wp2
      go_ret
      exact ⟨rfl, hbl⟩
    · have HM := Lib.hid hnum
      have HP := Lib.hid hpos
      clear hn hnum hpos
      go_enter Try.func17, Try.ntmps17
      go_wp2_with fail
      first | (go_region_held3 (fun w' => w'.cell? ⟨w.heap.size, 0, none⟩ = some (.int .i64 p) ∧ w'.cell? ⟨w.heap.size, 1, none⟩ = some (.slice A n c) ∧ Below w.heap.size w w')
        (first
          | (refine ⟨?_, ?_, H2.out.drew⟩ <;> simp [go_sem])
          | (go_split_ands; exact ⟨keep_cell hbf ‹_›, keep_cell hbf ‹_›, Below.trans ‹Below w.heap.size w _› (hbf.mono (Below.size ‹Below w.heap.size w _›))⟩)
          | go_keep)
        (first
            | (go_at_call 46; refine (impl_IsPrime _ _).mono ?_; rintro e w' ⟨rfl, rfl⟩)
            | (go_at_call 47; refine (Doubling_field _ _ _ _ _).mono ?_; rintro e w1 ⟨rfl, hbf⟩)
            | (go_at_call 48; refine (is_is _ _ _ _ xs _ _ (by omega) (by omega) (HX.out.keep (by go_split_ands; assumption)) HM.out).mono ?_; rintro e w' ⟨rfl, rfl⟩)
            | (go_at_call 49; refine (Contains0_is _ _ _ xs _ _ (HX.out.keep (by go_split_ands; assumption)) HP.out).mono ?_; rintro e w' ⟨rfl, rfl⟩))) | fail
      go_split_ands
      go_wp2
      go_ret
      exact ⟨rfl, ‹Below w.heap.size w _›⟩

end Go.Proofs.Ytjfkgocpkjdleaa
