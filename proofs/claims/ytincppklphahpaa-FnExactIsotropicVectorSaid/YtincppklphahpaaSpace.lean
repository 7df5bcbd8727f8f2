/- Contracts: a space as an argument: copy, compare, size, the test. Conditions stand in each theorem. -/
import Derived.Test.YtincppklphahpaaMem
import Derived.Test.YtincppklphahpaaCode
import Derived.Test.YtincppklphahpaaSpaceP
import Derived.Deep.RegionHeld3
import Derived.Lib.SmallJoins
namespace Go.Proofs.Ytincppklphahpaa
open Go.RowKit
set_option linter.unusedVariables false

theorem quiet_add_left {P : Program} {f : FuncId} {args : Array Value} {w : World} {a n : Nat} {v : Value}
    (h : Calls P f args (w.drewN (a + n)) fun e w' => e = .returned v ∧ w.drewN (a + n) = w') :
    Calls P f args (w.drewN (a + n)) fun e w'' => e = .returned v ∧ ∃ m, w'' = w.drewN (a + m) :=
  h.mono fun _ _ ⟨he, hm⟩ => ⟨he, n, hm.symm⟩
theorem quiet_left {P : Program} {f : FuncId} {args : Array Value} {w : World} {n : Nat} {v : Value}
    (h : Calls P f args (w.drewN n) fun e w' => e = .returned v ∧ w.drewN n = w') : Calls P f args (w.drewN n) fun e w'' => e = .returned v ∧ ∃ m, w'' = w.drewN m :=
  h.mono fun _ _ ⟨he, hm⟩ => ⟨he, n, hm.symm⟩

theorem laws_szInt64S (A : Option Addr) (n c : Nat) (left : Int) (w : World) (hn : n ≤ maxLen) (h0 : -1 ≤ left) (h1 : left ≤ 1048576) :
    Calls Try.prog 44 #[.slice A n c, .int .i64 left] w fun e w' => e = .returned (.int .i64 (if left - n < 0 then -1 else left - n)) ∧ w = w' := by
  unfold maxLen at hn
  by_cases h : left - n < 0
  · rw [if_pos h]
    go_enter Try.func44, Try.ntmps44
    go_wp2
    go_ret
    exact ⟨rfl, rfl⟩
  · rw [if_neg h]
    go_enter Try.func44, Try.ntmps44
    go_wp2
    go_ret
    exact ⟨rfl, rfl⟩

theorem laws_szSpace (p : Int) (A : Option Addr) (n c : Nat) (left : Int) (w : World) (hn : n ≤ maxLen) (h0 : 0 ≤ left) (h1 : left ≤ 1048576) :
    Calls Try.prog 14 #[.agg #[.int .i64 p, .slice A n c], .int .i64 left] w fun e w' => e = .returned (.int .i64 (if left - n < 0 then -1 else left - n)) ∧ Below w.heap.size w w' := by
  by_cases h : left - n < 0
  · have HE := Lib.hid (show (if left - (n : Int) < 0 then (-1 : Int) else left - n) = -1 by rw [if_pos h])
    rw [HE.out]
    go_enter Try.func14, Try.ntmps14
    go_wp2_with fail
    refine (laws_szInt64S _ _ _ _ _ hn (by omega) (by omega)).mono ?_
    rw [HE.out]
    rintro e w' ⟨rfl, rfl⟩
    go_wp2
    go_ret
    exact ⟨rfl, (Below.refl _ _).alloc (Nat.le_refl _) _⟩
  · have HE := Lib.hid (show (if left - (n : Int) < 0 then (-1 : Int) else left - n) = left - n by rw [if_neg h])
    rw [HE.out]
    have h2 : 0 ≤ left - n := by omega
    go_enter Try.func14, Try.ntmps14
    go_wp2_with fail
    refine (laws_szInt64S _ _ _ _ _ hn (by omega) (by omega)).mono ?_
    rw [HE.out]
    rintro e w' ⟨rfl, rfl⟩
    go_wp2
    go_ret
    exact ⟨rfl, (Below.refl _ _).alloc (Nat.le_refl _) _⟩

theorem laws_szSpace_ok (p : Int) (A : Option Addr) (n c : Nat) (left : Int) (w : World) (h0 : (n : Int) ≤ left) (h1 : left ≤ 1048576) :
    Calls Try.prog 14 #[.agg #[.int .i64 p, .slice A n c], .int .i64 left] w fun e w' => e = .returned (.int .i64 (left - n)) ∧ Below w.heap.size w w' := by
  have h := laws_szSpace p A n c left w (by unfold maxLen; omega) (by omega) h1
  rw [if_neg (by omega)] at h
  exact h

theorem laws_szSpace_no (p : Int) (A : Option Addr) (n c : Nat) (left : Int) (w : World) (hn : n ≤ maxLen) (h0 : 0 ≤ left) (h1 : left ≤ 1048576) (h2 : left < n) :
    Calls Try.prog 14 #[.agg #[.int .i64 p, .slice A n c], .int .i64 left] w fun e w' => e = .returned (.int .i64 (-1)) ∧ Below w.heap.size w w' := by
  have h := laws_szSpace p A n c left w hn h0 h1
  rw [if_pos (by omega)] at h
  exact h

theorem laws_toSpace (p : Int) (A : Option Addr) (n c : Nat) (xs : List Int) (w : World) (hx : Ints w A n xs) (hn : n * 8 ≤ 281474976710656) :
    Calls Try.prog 16 #[.agg #[.int .i64 p, .slice A n c]] w fun e w' => ∃ b, e = .returned (.agg #[.int .i64 p, .slice (some ⟨b, 0, none⟩) n n]) ∧ Own w.heap.size w' (some ⟨b, 0, none⟩) n xs ∧ Below w.heap.size w w' := by
  have HX := Lib.hid hx
  clear hx
  go_enter Try.func16, Try.ntmps16
  go_wp2_with fail
  refine (laws_toInt64S _ _ _ xs _ (HX.out.keep ((((Below.refl _ _).alloc (Nat.le_refl _) _).alloc (by simp) _).alloc (by simp; omega) _)) hn).mono ?_
  rintro e w1 ⟨b, rfl, ho, hb⟩
  have k10 : w1.cell? ⟨w.heap.size + 1, 0, none⟩ = some (.int .i64 0) := by rw [hb.cell (p := ⟨w.heap.size + 1, 0, none⟩) (by simp)]; simp [go_sem]
  have k11 : w1.cell? ⟨w.heap.size + 1, 1, none⟩ = some (.slice none 0 0) := by rw [hb.cell (p := ⟨w.heap.size + 1, 1, none⟩) (by simp)]; simp [go_sem]
  have k20 : w1.cell? ⟨w.heap.size + 2, 0, none⟩ = some (.int .i64 p) := by rw [hb.cell (p := ⟨w.heap.size + 2, 0, none⟩) (by simp)]; simp [go_sem]
  have k21 : w1.cell? ⟨w.heap.size + 2, 1, none⟩ = some (.slice none 0 0) := by rw [hb.cell (p := ⟨w.heap.size + 2, 1, none⟩) (by simp)]; simp [go_sem]
  have f10 : w1.frozen? ⟨w.heap.size + 1, 0, none⟩ = false := by rw [hb.frozen (p := ⟨w.heap.size + 1, 0, none⟩) (by simp)]; simp [go_sem]
  have f11 : w1.frozen? ⟨w.heap.size + 1, 1, none⟩ = false := by rw [hb.frozen (p := ⟨w.heap.size + 1, 1, none⟩) (by simp)]; simp [go_sem]
  have f21 : w1.frozen? ⟨w.heap.size + 2, 1, none⟩ = false := by rw [hb.frozen (p := ⟨w.heap.size + 2, 1, none⟩) (by simp)]; simp [go_sem]
  have hz : w.heap.size + 3 ≤ w1.heap.size := by have := hb.size; simp at this; omega
  have HB := Lib.hid hb
  have HO := Lib.hid ho
  clear hb ho
  go_wp2
  refine bodyPost_ret (v := .agg #[.int .i64 p, .slice (some ⟨b, 0, none⟩) n n]) (by simp [results, Try.results16, go_sem, k10, k11]) rfl ⟨b, rfl, ?_, ?_⟩
  · exact (((HO.out.setFar (by simp) _).setFar (by simp) _).setFar (by simp) _).less (by simp; omega)
  · exact ((((((Below.refl _ _).alloc (Nat.le_refl _) _).alloc (by simp) _).alloc (by simp; omega) _).trans (HB.out.mono (by simp; omega))).setCell (by simp; omega) _ |>.setCell (by simp) _).setCell (by simp) _

theorem laws_eqSpace (p : Int) (A B : Option Addr) (n c d : Nat) (xs : List Int) (w : World) (hx : Ints w A n xs) (hy : Ints w B n xs) :
    Calls Try.prog 19 #[.agg #[.int .i64 p, .slice A n c], .agg #[.int .i64 p, .slice B n d]] w fun e w' => e = .returned (.bool true) ∧ Below w.heap.size w w' := by
  have HX := Lib.hid hx
  have HY := Lib.hid hy
  clear hx hy
  have h2 : Below w.heap.size w ((w.alloc (.cells #[.int .i64 p, .slice A n c] 28)).alloc (.cells #[.int .i64 p, .slice B n d] 28)) := ((Below.refl _ _).alloc (Nat.le_refl _) _).alloc (by simp) _
  have H2 := Lib.hid h2
  clear h2
  go_enter Try.func19, Try.ntmps19
  go_wp2_with fail
  refine (laws_eqInt64S _ _ _ _ _ _ xs xs _ (HX.out.keep H2.out) (HY.out.keep H2.out)).mono ?_
  rintro e w1 ⟨rfl, hb⟩
  have t1 : decide (xs = xs) = true := decide_eq_true rfl
  have HB := Lib.hid hb
  clear hb
  go_wp2
  go_ret
  exact ⟨rfl, H2.out.trans (HB.out.mono H2.out.size)⟩

theorem spec_l03Is (p : Int) (A : Option Addr) (n c : Nat) (xs : List Int) (w : World) (hx : Ints w A n xs) :
    Calls Try.prog 45 #[.agg #[.int .i64 p, .slice A n c]] w fun e w' => e = .returned (.bool (spaceB p xs)) ∧ Below w.heap.size w w' := by
  have HX := Lib.hid hx
  have hm := hx.2.1
  have HN := Lib.hid hx.1
  clear hx
  unfold maxLen at hm
  have h2 : Below w.heap.size w (w.alloc (.cells #[.int .i64 p, .slice A n c] 28)) := (Below.refl _ _).alloc (Nat.le_refl _) _
  have H2 := Lib.hid h2
  clear h2
  rcases spaceB_cases p xs with ⟨hs, hp, hl0, hl1, hn⟩ | ⟨hs, hp⟩ | ⟨hs, hp, hl⟩ | ⟨hs, hp, hl0, hl1, hn⟩
  · rw [hs]
    rw [HN.out] at hl0 hl1
    have h0 := prime_lo hp
    have h1 := prime_hi hp
    have hr : rangeB n 1 6 = true := by simp [rangeB]; omega
    clear hs
    go_enter Try.func45, Try.ntmps45
    go_wp2_with (first | (go_at_call 84; refine (spec_l01Prime _ _).mono ?_; rintro e w' ⟨rfl, rfl⟩) | (go_at_call 49; refine (spec_l01In _ _ _ _).mono ?_; rintro e w' ⟨rfl, rfl⟩) | (go_at_call 85; refine (spec_l01Numbers _ _ _ _ xs _ (by omega) (by omega) (HX.out.keep H2.out)).mono ?_; rintro e w' ⟨rfl, rfl⟩))
    go_ret
    exact ⟨rfl, H2.out⟩
  · rw [hs]
    clear hs
    go_enter Try.func45, Try.ntmps45
    go_wp2_with (go_at_call 84; refine (spec_l01Prime _ _).mono ?_; rintro e w' ⟨rfl, rfl⟩)
    go_ret
    exact ⟨rfl, H2.out⟩
  · rw [hs]
    rw [HN.out] at hl
    have hr : rangeB n 1 6 = false := by simp [rangeB]; omega
    clear hs hl
    go_enter Try.func45, Try.ntmps45
    go_wp2_with (first | (go_at_call 84; refine (spec_l01Prime _ _).mono ?_; rintro e w' ⟨rfl, rfl⟩) | (go_at_call 49; refine (spec_l01In _ _ _ _).mono ?_; rintro e w' ⟨rfl, rfl⟩))
    go_ret
    exact ⟨rfl, H2.out⟩
  · rw [hs]
    rw [HN.out] at hl0 hl1
    have h0 := prime_lo hp
    have h1 := prime_hi hp
    have hr : rangeB n 1 6 = true := by simp [rangeB]; omega
    clear hs
    go_enter Try.func45, Try.ntmps45
    go_wp2_with (first | (go_at_call 84; refine (spec_l01Prime _ _).mono ?_; rintro e w' ⟨rfl, rfl⟩) | (go_at_call 49; refine (spec_l01In _ _ _ _).mono ?_; rintro e w' ⟨rfl, rfl⟩) | (go_at_call 85; refine (spec_l01Numbers _ _ _ _ xs _ (by omega) (by omega) (HX.out.keep H2.out)).mono ?_; rintro e w' ⟨rfl, rfl⟩))
    go_ret
    exact ⟨rfl, H2.out⟩

theorem impl_length (A : Option Addr) (n c : Nat) (w : World) (hn : n ≤ maxLen) : Calls Try.prog 87 #[.slice A n c] w fun e w' => e = .returned (.int .i64 n) ∧ w = w' := by
  unfold maxLen at hn
  go_enter Try.func87, Try.ntmps87
  go_wp2
  go_ret
  exact ⟨rfl, rfl⟩

theorem Space_field (p : Int) (A : Option Addr) (n c : Nat) (w : World) : Calls Try.prog 62 #[.agg #[.int .i64 p, .slice A n c]] w fun e w' => e = .returned (.int .i64 p) ∧ Below w.heap.size w w' := by
  go_enter Try.func62, Try.ntmps62
  go_wp2
  go_ret
  exact ⟨rfl, (Below.refl _ _).alloc (Nat.le_refl _) _⟩

theorem Space_dim (p : Int) (A : Option Addr) (n c : Nat) (w : World) : Calls Try.prog 53 #[.agg #[.int .i64 p, .slice A n c]] w fun e w' => e = .returned (.int .i64 n) ∧ Below w.heap.size w w' := by
  go_enter Try.func53, Try.ntmps53
  go_wp2
  go_ret
  exact ⟨rfl, (Below.refl _ _).alloc (Nat.le_refl _) _⟩

theorem impl_IsSpace (p : Int) (A : Option Addr) (n c : Nat) (xs : List Int) (w : World) (hx : Ints w A n xs) :
    Calls Try.prog 47 #[.agg #[.int .i64 p, .slice A n c]] w fun e w' => e = .returned (.bool (spaceB p xs)) ∧ Below w.heap.size w w' := by
  have HX := Lib.hid hx
  have hm := hx.2.1
  have HN := Lib.hid hx.1
  clear hx
  have h2 : Below w.heap.size w (w.alloc (.cells #[.int .i64 p, .slice A n c] 28)) := (Below.refl _ _).alloc (Nat.le_refl _) _
  have H2 := Lib.hid h2
  clear h2
  rcases spaceB_cases p xs with ⟨hs, hp, hl0, hl1, hn⟩ | ⟨hs, hp⟩ | ⟨hs, hp, hl⟩ | ⟨hs, hp, hl0, hl1, hn⟩
  · rw [hs]
    rw [HN.out] at hl0 hl1
    have h0 := prime_lo hp
    have h1 := prime_hi hp
    have hr : rangeB n 1 6 = true := by simp [rangeB]; omega
    clear hs
    go_enter Try.func47, Try.ntmps47
    go_wp2_with fail
    go_region_held3 (fun w' => w'.cell? ⟨w.heap.size, 0, none⟩ = some (.int .i64 p) ∧ w'.cell? ⟨w.heap.size, 1, none⟩ = some (.slice A n c) ∧ Below w.heap.size w w')
      (first
        | (refine ⟨?_, ?_, H2.out.drew⟩ <;> simp [go_sem])
        | (go_split_ands; exact ⟨keep_cell hbf ‹_›, keep_cell hbf ‹_›, Below.trans ‹Below w.heap.size w _› (hbf.mono (Below.size ‹Below w.heap.size w _›))⟩)
        | go_keep)
      (first
        | (go_at_call 86; refine (impl_IsPrime _ _).mono ?_; rintro e w' ⟨rfl, rfl⟩)
        | (go_at_call 87; refine (impl_length _ _ _ _ (by unfold maxLen; omega)).mono ?_; rintro e w' ⟨rfl, rfl⟩)
        | (go_at_call 52; refine (impl_inRange _ _ _ _).mono ?_; rintro e w' ⟨rfl, rfl⟩)
        | (go_at_call 62; refine (Space_field _ _ _ _ _).mono ?_; rintro e w1 ⟨rfl, hbf⟩)
        | (go_at_call 65; refine (impl_is _ _ _ _ xs _ (by omega) (by omega) (HX.out.keep (by go_split_ands; assumption))).mono ?_; rintro e w' ⟨rfl, rfl⟩))
    go_split_ands
    go_wp2
    go_ret
    exact ⟨rfl, ‹Below w.heap.size w _›⟩
  · rw [hs]
    clear hs
    go_enter Try.func47, Try.ntmps47
    go_wp2_with fail
    go_quiet ((go_at_call 86; exact quiet_left (impl_IsPrime _ _)))
    go_wp2
    go_ret
    exact ⟨rfl, below_drewN H2.out _⟩
  · rw [hs]
    rw [HN.out] at hl
    unfold maxLen at hm
    have hr : rangeB n 1 6 = false := by simp [rangeB]; omega
    clear hl
    clear hs
    go_enter Try.func47, Try.ntmps47
    go_wp2_with fail
    go_quiet ((first | (go_at_call 86; exact quiet_left (impl_IsPrime _ _)) | (go_at_call 87; exact quiet_left (impl_length _ _ _ _ (by unfold maxLen; omega))) | (go_at_call 52; exact quiet_left (impl_inRange _ _ _ _))))
    go_wp2
    go_ret
    exact ⟨rfl, below_drewN H2.out _⟩
  · rw [hs]
    rw [HN.out] at hl0 hl1
    have h0 := prime_lo hp
    have h1 := prime_hi hp
    have hr : rangeB n 1 6 = true := by simp [rangeB]; omega
    clear hs
    go_enter Try.func47, Try.ntmps47
    go_wp2_with fail
    go_region_held3 (fun w' => w'.cell? ⟨w.heap.size, 0, none⟩ = some (.int .i64 p) ∧ w'.cell? ⟨w.heap.size, 1, none⟩ = some (.slice A n c) ∧ Below w.heap.size w w')
      (first
        | (refine ⟨?_, ?_, H2.out.drew⟩ <;> simp [go_sem])
        | (go_split_ands; exact ⟨keep_cell hbf ‹_›, keep_cell hbf ‹_›, Below.trans ‹Below w.heap.size w _› (hbf.mono (Below.size ‹Below w.heap.size w _›))⟩)
        | go_keep)
      (first
        | (go_at_call 86; refine (impl_IsPrime _ _).mono ?_; rintro e w' ⟨rfl, rfl⟩)
        | (go_at_call 87; refine (impl_length _ _ _ _ (by unfold maxLen; omega)).mono ?_; rintro e w' ⟨rfl, rfl⟩)
        | (go_at_call 52; refine (impl_inRange _ _ _ _).mono ?_; rintro e w' ⟨rfl, rfl⟩)
        | (go_at_call 62; refine (Space_field _ _ _ _ _).mono ?_; rintro e w1 ⟨rfl, hbf⟩)
        | (go_at_call 65; refine (impl_is _ _ _ _ xs _ (by omega) (by omega) (HX.out.keep (by go_split_ands; assumption))).mono ?_; rintro e w' ⟨rfl, rfl⟩))
    go_split_ands
    go_wp2
    go_ret
    exact ⟨rfl, ‹Below w.heap.size w _›⟩

end Go.Proofs.Ytincppklphahpaa
