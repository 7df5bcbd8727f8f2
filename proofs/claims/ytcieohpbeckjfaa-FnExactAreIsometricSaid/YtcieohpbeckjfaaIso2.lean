/- Contracts: isometric spaces, the program. Conditions stand in each theorem. -/
import Derived.Test.YtcieohpbeckjfaaIso
namespace Go.Proofs.Ytcieohpbeckjfaa
open Go.RowKit
set_option linter.unusedVariables false
set_option linter.unusedSimpArgs false

theorem checkSpaces_1 (p : Int) (A : Option Addr) (n c : Nat) (xs : List Int) (w : World) (hx : Ints w A n xs) :
    Calls Try.prog 89 #[.agg #[.int .i64 p, .slice A n c]] w fun e w' => e = .returned (.bool (!spaceB p xs)) ∧ Below w.heap.size w w' := by
  have HX := Lib.hid hx
  have hm := hx.2.1
  have HN := Lib.hid hx.1
  clear hx
  unfold maxLen at hm
  have H2 := Lib.hid (show Below w.heap.size w (w.alloc (.cells #[.int .i64 p, .slice A n c] 27)) from (Below.refl _ _).alloc (Nat.le_refl _) _)
  cases hs : spaceB p xs with
  | true =>
    have HS := Lib.hid hs
    go_enter Try.func89, Try.ntmps89
    have c0 : (w.alloc (.cells #[.int .i64 p, .slice A n c] 27)).cell? ⟨w.heap.size, 0, none⟩ = some (.int .i64 p) := by simp [go_sem]
    have c1 : (w.alloc (.cells #[.int .i64 p, .slice A n c] 27)).cell? ⟨w.heap.size, 1, none⟩ = some (.slice A n c) := by simp [go_sem]
    have HW := Lib.hid (Below.refl (w.alloc (.cells #[.int .i64 p, .slice A n c] 27)).heap.size (w.alloc (.cells #[.int .i64 p, .slice A n c] 27)))
    go_wp2_with fail
    refine (impl_IsSpace _ _ _ _ xs _ (HX.out.keep (H2.out.trans (HW.out.mono H2.out.size)))).mono ?_
    rw [HS.out]
    rintro e v ⟨rfl, hb⟩
    replace c0 := keep_cell hb c0
    replace c1 := keep_cell hb c1
    replace HW := Lib.hid (below_then HW.out hb)
    clear hb
    go_wp2_with fail
    go_ret
    exact ⟨rfl, (H2.out.trans (HW.out.mono H2.out.size))⟩
  | false =>
    have HS := Lib.hid hs
    go_enter Try.func89, Try.ntmps89
    have c0 : (w.alloc (.cells #[.int .i64 p, .slice A n c] 27)).cell? ⟨w.heap.size, 0, none⟩ = some (.int .i64 p) := by simp [go_sem]
    have c1 : (w.alloc (.cells #[.int .i64 p, .slice A n c] 27)).cell? ⟨w.heap.size, 1, none⟩ = some (.slice A n c) := by simp [go_sem]
    have HW := Lib.hid (Below.refl (w.alloc (.cells #[.int .i64 p, .slice A n c] 27)).heap.size (w.alloc (.cells #[.int .i64 p, .slice A n c] 27)))
    go_wp2_with fail
    refine (impl_IsSpace _ _ _ _ xs _ (HX.out.keep (H2.out.trans (HW.out.mono H2.out.size)))).mono ?_
    rw [HS.out]
    rintro e v ⟨rfl, hb⟩
    replace c0 := keep_cell hb c0
    replace c1 := keep_cell hb c1
    replace HW := Lib.hid (below_then HW.out hb)
    clear hb
    go_wp2_with fail
    go_ret
    exact ⟨rfl, (H2.out.trans (HW.out.mono H2.out.size))⟩

theorem IndexFunc_checkSpaces (p q : Int) (A : Option Addr) (n c : Nat) (xs : List Int) (B : Option Addr) (m d : Nat) (ys : List Int) (w : World) (hx : Ints w A n xs) (hy : Ints w B m ys) (b : Nat) (f0 : w.cell? ⟨b, 0, none⟩ = some (.int .i64 p)) (f1 : w.cell? ⟨b, 1, none⟩ = some (.slice A n c)) (f2 : w.cell? ⟨b, 2, none⟩ = some (.int .i64 q)) (f3 : w.cell? ⟨b, 3, none⟩ = some (.slice B m d)) :
    Calls Try.prog 94 #[.slice (some ⟨b, 0, none⟩) 2 2, .func (.func 89) #[] #[]] w fun e w' => ∃ r : Int, e = .returned (.int .i64 r) ∧ ((0 ≤ r ∧ r ≤ 1 ∧ (spaceB p xs = false ∨ spaceB q ys = false)) ∨ (r = -1 ∧ spaceB p xs = true ∧ spaceB q ys = true)) ∧ Below w.heap.size w w' := by
  have HX := Lib.hid hx
  have HY := Lib.hid hy
  have hm1 := hx.2.1
  have hm2 := hy.2.1
  unfold maxLen at hm1 hm2
  clear hx hy
  go_enter Try.func94, Try.ntmps94
  go_wp2
  go_loopw [8] (fun i wr => ∃ k : Nat, k ≤ 2 ∧ i = .int .i64 k ∧ ((1 ≤ k → spaceB p xs = true) ∧ (2 ≤ k → spaceB q ys = true)) ∧ Below w.heap.size w wr) (fun i _ => 2 - (intOf i).toNat)
  case atStart => exact ⟨0, by omega, rfl, ⟨fun h => by omega, fun h => by omega⟩, Below.refl _ _⟩
  case round =>
    obtain ⟨k, hk, rfl, hall, hbel⟩ := hrel
    have HA := Lib.hid hall
    have HB := Lib.hid hbel
    replace f0 := keep_cell hbel f0
    replace f1 := keep_cell hbel f1
    replace f2 := keep_cell hbel f2
    replace f3 := keep_cell hbel f3
    clear hall hbel
    obtain rfl | rfl | rfl : k = 0 ∨ k = 1 ∨ k = 2 := by omega
    · have HT2 := Lib.hid (show spaceB p xs = true ∨ spaceB p xs = false by cases spaceB p xs <;> simp)
      rcases HT2.out with hv | hv
      · have HV := Lib.hid hv
        clear hv
        go_wp2_with fail
        refine (checkSpaces_1 _ _ _ _ _ _ (HX.out.keep HB.out)).mono ?_
        rw [HV.out]
        rintro e v ⟨rfl, hb⟩
        replace HB := Lib.hid (below_then HB.out hb)
        clear hb
        go_wp2_with fail
        go_roundw
        case rel => exact ⟨1, by omega, rfl, ⟨fun _ => HV.out, fun h => by omega⟩, HB.out⟩
        case measure => simp [intOf]
      · have HV := Lib.hid hv
        clear hv
        go_wp2_with fail
        refine (checkSpaces_1 _ _ _ _ _ _ (HX.out.keep HB.out)).mono ?_
        rw [HV.out]
        rintro e v ⟨rfl, hb⟩
        replace HB := Lib.hid (below_then HB.out hb)
        clear hb
        go_wp2_with fail
        go_ret
        exact ⟨0, rfl, Or.inl ⟨by omega, by omega, Or.inl HV.out⟩, HB.out⟩
    · have HT2 := Lib.hid (show spaceB q ys = true ∨ spaceB q ys = false by cases spaceB q ys <;> simp)
      rcases HT2.out with hv | hv
      · have HV := Lib.hid hv
        clear hv
        go_wp2_with fail
        refine (checkSpaces_1 _ _ _ _ _ _ (HY.out.keep HB.out)).mono ?_
        rw [HV.out]
        rintro e v ⟨rfl, hb⟩
        replace HB := Lib.hid (below_then HB.out hb)
        clear hb
        go_wp2_with fail
        go_roundw
        case rel => exact ⟨2, by omega, rfl, ⟨fun _ => HA.out.1 (by omega), fun _ => HV.out⟩, HB.out⟩
        case measure => simp [intOf]
      · have HV := Lib.hid hv
        clear hv
        go_wp2_with fail
        refine (checkSpaces_1 _ _ _ _ _ _ (HY.out.keep HB.out)).mono ?_
        rw [HV.out]
        rintro e v ⟨rfl, hb⟩
        replace HB := Lib.hid (below_then HB.out hb)
        clear hb
        go_wp2_with fail
        go_ret
        exact ⟨1, rfl, Or.inl ⟨by omega, by omega, Or.inr HV.out⟩, HB.out⟩
    · go_wp2
      go_ret
      exact ⟨-1, rfl, Or.inr ⟨rfl, HA.out.1 (by omega), HA.out.2 (by omega)⟩, HB.out⟩

theorem isoC_no {p q : Int} {xs ys : List Int} (h : spaceB p xs = false ∨ spaceB q ys = false) : isoC p q xs ys = 1 := if_neg fun e => by rcases h with h | h <;> simp [h] at e
theorem isoV_no {p q : Int} {xs ys : List Int} (h : spaceB p xs = false ∨ spaceB q ys = false) : isoV p q xs ys = false := if_neg fun e => by rcases h with h | h <;> simp [h] at e

theorem impl_checkSpaces (p q : Int) (A : Option Addr) (n c : Nat) (xs : List Int) (B : Option Addr) (m d : Nat) (ys : List Int) (w : World) (hx : Ints w A n xs) (hy : Ints w B m ys) (b : Nat) (f0 : w.cell? ⟨b, 0, none⟩ = some (.int .i64 p)) (f1 : w.cell? ⟨b, 1, none⟩ = some (.slice A n c)) (f2 : w.cell? ⟨b, 2, none⟩ = some (.int .i64 q)) (f3 : w.cell? ⟨b, 3, none⟩ = some (.slice B m d)) :
    Calls Try.prog 70 #[.slice (some ⟨b, 0, none⟩) 2 2] w fun e w' => e = .returned (.int .i64 (isoC p q xs ys)) ∧ Below w.heap.size w w' := by
  have HX := Lib.hid hx
  have HY := Lib.hid hy
  clear hx hy
  refine Calls.mono (R := fun e w' => ∃ r : Int, ((0 ≤ r ∧ r ≤ 1 ∧ (spaceB p xs = false ∨ spaceB q ys = false)) ∨ (r = -1 ∧ spaceB p xs = true ∧ spaceB q ys = true)) ∧ e = .returned (.int .i64 (if 0 ≤ r then 1 else 0)) ∧ Below w.heap.size w w') ?_ ?_
  · have HCF : Hid (Calls Try.prog 88 #[.slice (some ⟨b, 0, none⟩) 2 2, .func (.func 89) #[] #[]] w fun e w' => ∃ r : Int, ((0 ≤ r ∧ r ≤ 1 ∧ (spaceB p xs = false ∨ spaceB q ys = false)) ∨ (r = -1 ∧ spaceB p xs = true ∧ spaceB q ys = true)) ∧ e = .returned (.bool (decide (0 ≤ r))) ∧ Below w.heap.size w w') := by
      apply Lib.hid
      go_enter Try.func88, Try.ntmps88
      go_wp2_with fail
      refine (IndexFunc_checkSpaces p q A n c xs B m d ys _ HX.out HY.out b f0 f1 f2 f3).mono ?_
      rintro e v ⟨r, rfl, hr, hb⟩
      have HR := Lib.hid hr
      have hr1 : r ≤ 1 := by omega
      have hr2 : -1 ≤ r := by omega
      clear hr
      go_wp2
      go_ret
      exact ⟨r, HR.out, ret_bool (by first | rfl | simp), hb⟩
    go_enter Try.func70, Try.ntmps70
    go_wp2_with fail
    refine HCF.out.mono ?_
    rintro e v ⟨r, hr, rfl, hb⟩
    have HR := Lib.hid hr
    by_cases h : 0 ≤ r
    · clear hr
      go_wp2
      go_ret
      exact ⟨r, HR.out, by rw [if_pos (by omega)]; rfl, hb⟩
    · clear hr
      go_wp2
      go_ret
      exact ⟨r, HR.out, by rw [if_neg (by omega)]; rfl, hb⟩
  · rintro e v ⟨r, hr, rfl, hb⟩
    refine ⟨?_, hb⟩
    rcases hr with ⟨h0, _, h⟩ | ⟨h0, h1, h2⟩
    · rw [if_pos h0, isoC_no h]
    · rw [if_neg (by omega)]
      exact congrArg (fun z => Ending.returned (Value.int .i64 z)) (show (0 : Int) = isoC p q xs ys from (if_pos ⟨h1, h2⟩).symm)

set_option maxHeartbeats 4000000 in
theorem impl_isometric (p q : Int) (A : Option Addr) (n c : Nat) (xs : List Int) (B : Option Addr) (m d : Nat) (ys : List Int) (w : World) (hx : Ints w A n xs) (hy : Ints w B m ys) (hs : spaceB p xs = true) (ht : spaceB q ys = true) :
    Calls Try.prog 71 #[.agg #[.int .i64 p, .slice A n c], .agg #[.int .i64 q, .slice B m d]] w fun e w' => e = .returned (.bool (isoB p q xs ys)) ∧ Below w.heap.size w w' := by
  have HX := Lib.hid hx
  have hm1 := hx.2.1
  have HN := Lib.hid hx.1
  have HY := Lib.hid hy
  have hm2 := hy.2.1
  have HM := Lib.hid hy.1
  clear hx hy
  unfold maxLen at hm1 hm2
  have H2 := Lib.hid (show Below w.heap.size w ((w.alloc (.cells #[.int .i64 p, .slice A n c] 27)).alloc (.cells #[.int .i64 q, .slice B m d] 27)) from ((Below.refl _ _).alloc (Nat.le_refl _) _).alloc (by simp) _)
  obtain ⟨hp, hl0, hl1, hn⟩ := spaceB_true hs
  obtain ⟨hp2, hl2, hl3, hn2⟩ := spaceB_true ht
  rw [HN.out] at hl0 hl1
  rw [HM.out] at hl2 hl3
  have h0 := prime_lo hp
  have h1 := prime_hi hp
  have h2 := prime_lo hp2
  have h3 := prime_hi hp2
  have HNU := Lib.hid hn
  have HNV := Lib.hid hn2
  clear hp hp2 hn hn2 hs ht
  by_cases hpq : p = q
  rotate_left
  · have HV := Lib.hid (isoB_p (xs := xs) (ys := ys) hpq)
    rw [HV.out]
    have hpb : (p != q) = true := by simp; exact hpq
    go_enter Try.func71, Try.ntmps71
    have c0 : ((w.alloc (.cells #[.int .i64 p, .slice A n c] 27)).alloc (.cells #[.int .i64 q, .slice B m d] 27)).cell? ⟨w.heap.size, 0, none⟩ = some (.int .i64 p) := by simp [go_sem]
    have c1 : ((w.alloc (.cells #[.int .i64 p, .slice A n c] 27)).alloc (.cells #[.int .i64 q, .slice B m d] 27)).cell? ⟨w.heap.size, 1, none⟩ = some (.slice A n c) := by simp [go_sem]
    have e0 : ((w.alloc (.cells #[.int .i64 p, .slice A n c] 27)).alloc (.cells #[.int .i64 q, .slice B m d] 27)).cell? ⟨w.heap.size + 1, 0, none⟩ = some (.int .i64 q) := by simp [go_sem]
    have e1 : ((w.alloc (.cells #[.int .i64 p, .slice A n c] 27)).alloc (.cells #[.int .i64 q, .slice B m d] 27)).cell? ⟨w.heap.size + 1, 1, none⟩ = some (.slice B m d) := by simp [go_sem]
    have HW := Lib.hid (Below.refl ((w.alloc (.cells #[.int .i64 p, .slice A n c] 27)).alloc (.cells #[.int .i64 q, .slice B m d] 27)).heap.size ((w.alloc (.cells #[.int .i64 p, .slice A n c] 27)).alloc (.cells #[.int .i64 q, .slice B m d] 27)))
    go_wp2_with fail
    refine wp_region_held_drew (S := (fun w' => w'.cell? ⟨w.heap.size, 0, none⟩ = some (.int .i64 p) ∧ w'.cell? ⟨w.heap.size, 1, none⟩ = some (.slice A n c) ∧ w'.cell? ⟨w.heap.size + 1, 0, none⟩ = some (.int .i64 q) ∧ w'.cell? ⟨w.heap.size + 1, 1, none⟩ = some (.slice B m d) ∧ Below ((w.alloc (.cells #[.int .i64 p, .slice A n c] 27)).alloc (.cells #[.int .i64 q, .slice B m d] 27)).heap.size ((w.alloc (.cells #[.int .i64 p, .slice A n c] 27)).alloc (.cells #[.int .i64 q, .slice B m d] 27)) w')) (by kernel_rfl) ?_ (fun hHeld0 => ?_)
    · exact ⟨c0, c1, e0, e1, HW.out.drew⟩
    refine wpAnyH_take (i := 0) (oi := ({ dst := some 10, op := Op.fieldAddr 27 (Operand.tmp 2) 0, type := 0, pos := "l03_spaces.go:211", after := #[], guard := none } : Oper)) (v := ?_) rfl (by kernel_rfl) (by kernel_rfl) (by kernel_rfl) (fun _ _ _ h => h) (Or.inl ⟨by rfl, ?_⟩) (by assumption) ?_
    rotate_left
    · (intro w hSw; (try dsimp only at hSw); go_simp; (try with_reducible rfl))
    try simp only [Act.put, List.setIfInBounds_toArray, List.set_cons_zero, List.set_cons_succ]
    refine wpAnyH_take (i := 1) (oi := ({ dst := some 11, op := Op.load 2 (Operand.tmp 10), type := 2, pos := "l03_spaces.go:211", after := #[{ on := 0, ground := Ground.data }], guard := none } : Oper)) (v := ?_) rfl (by kernel_rfl) (by kernel_rfl) (by kernel_rfl) (fun _ _ _ h => h) (Or.inl ⟨by rfl, ?_⟩) (by assumption) ?_
    rotate_left
    · (intro w hSw; (try dsimp only at hSw); go_simp; (try with_reducible rfl))
    try simp only [Act.put, List.setIfInBounds_toArray, List.set_cons_zero, List.set_cons_succ]
    refine wpAnyH_take (i := 2) (oi := ({ dst := some 12, op := Op.fieldAddr 27 (Operand.tmp 3) 0, type := 0, pos := "l03_spaces.go:211", after := #[], guard := none } : Oper)) (v := ?_) rfl (by kernel_rfl) (by kernel_rfl) (by kernel_rfl) (fun _ _ _ h => h) (Or.inl ⟨by rfl, ?_⟩) (by assumption) ?_
    rotate_left
    · (intro w hSw; (try dsimp only at hSw); go_simp; (try with_reducible rfl))
    try simp only [Act.put, List.setIfInBounds_toArray, List.set_cons_zero, List.set_cons_succ]
    refine wpAnyH_take (i := 3) (oi := ({ dst := some 13, op := Op.load 2 (Operand.tmp 12), type := 2, pos := "l03_spaces.go:211", after := #[{ on := 2, ground := Ground.data }], guard := none } : Oper)) (v := ?_) rfl (by kernel_rfl) (by kernel_rfl) (by kernel_rfl) (fun _ _ _ h => h) (Or.inl ⟨by rfl, ?_⟩) (by assumption) ?_
    rotate_left
    · (intro w hSw; (try dsimp only at hSw); go_simp; (try with_reducible rfl))
    try simp only [Act.put, List.setIfInBounds_toArray, List.set_cons_zero, List.set_cons_succ]
    refine wpAnyH_take (i := 4) (oi := ({ dst := some 14, op := Op.binOp BinOp.neq 2 (Operand.tmp 11) (Operand.tmp 13) 2, type := 4, pos := "l03_spaces.go:211", after := #[{ on := 1, ground := Ground.data }, { on := 3, ground := Ground.data }], guard := none } : Oper)) (v := ?_) rfl (by kernel_rfl) (by kernel_rfl) (by kernel_rfl) (fun _ _ _ h => h) (Or.inl ⟨by rfl, ?_⟩) (by assumption) ?_
    rotate_left
    · (intro w hSw; (try dsimp only at hSw); go_simp; (try with_reducible rfl))
    try simp only [Act.put, List.setIfInBounds_toArray, List.set_cons_zero, List.set_cons_succ]
    refine wpAnyH_take (i := 5) (oi := ({ dst := some 15, op := Op.move (Operand.tmp 14), type := 4, pos := "l03_spaces.go:211", after := #[{ on := 4, ground := Ground.data }], guard := none } : Oper)) (v := ?_) rfl (by kernel_rfl) (by kernel_rfl) (by kernel_rfl) (fun _ _ _ h => h) (Or.inl ⟨by rfl, ?_⟩) (by assumption) ?_
    rotate_left
    · (intro w hSw; (try dsimp only at hSw); go_simp; (try with_reducible rfl))
    try simp only [Act.put, List.setIfInBounds_toArray, List.set_cons_zero, List.set_cons_succ]
    refine wpAnyH_take (i := 6) (oi := ({ dst := some 16, op := Op.load 27 (Operand.tmp 2), type := 27, pos := "l03_spaces.go:211", after := #[{ on := 5, ground := Ground.guard }], guard := some (5, false) } : Oper)) (v := undef) rfl (by kernel_rfl) (by kernel_rfl) (by kernel_rfl) (fun _ _ _ h => h) (Or.inr ⟨by rfl, rfl⟩) (by assumption) ?_
    try simp only [Act.put, List.setIfInBounds_toArray, List.set_cons_zero, List.set_cons_succ]
    refine wpAnyH_take (i := 7) (oi := ({ dst := some 17, op := Op.call { callee := Callee.value (Operand.func 67), args := #[Operand.tmp 16], argTypes := #[27] }, type := 3, pos := "l03_spaces.go:211", after := #[{ on := 6, ground := Ground.data }, { on := 5, ground := Ground.chain }, { on := 5, ground := Ground.guard }], guard := some (5, false) } : Oper)) (v := undef) rfl (by kernel_rfl) (by kernel_rfl) (by kernel_rfl) (fun _ _ _ h => h) (Or.inr ⟨by rfl, rfl⟩) (by assumption) ?_
    try simp only [Act.put, List.setIfInBounds_toArray, List.set_cons_zero, List.set_cons_succ]
    refine wpAnyH_take (i := 8) (oi := ({ dst := some 18, op := Op.load 27 (Operand.tmp 3), type := 27, pos := "l03_spaces.go:211", after := #[{ on := 5, ground := Ground.guard }], guard := some (5, false) } : Oper)) (v := undef) rfl (by kernel_rfl) (by kernel_rfl) (by kernel_rfl) (fun _ _ _ h => h) (Or.inr ⟨by rfl, rfl⟩) (by assumption) ?_
    try simp only [Act.put, List.setIfInBounds_toArray, List.set_cons_zero, List.set_cons_succ]
    refine wpAnyH_take (i := 9) (oi := ({ dst := some 19, op := Op.call { callee := Callee.value (Operand.func 67), args := #[Operand.tmp 18], argTypes := #[27] }, type := 3, pos := "l03_spaces.go:211", after := #[{ on := 8, ground := Ground.data }, { on := 7, ground := Ground.chain }, { on := 5, ground := Ground.guard }], guard := some (5, false) } : Oper)) (v := undef) rfl (by kernel_rfl) (by kernel_rfl) (by kernel_rfl) (fun _ _ _ h => h) (Or.inr ⟨by rfl, rfl⟩) (by assumption) ?_
    try simp only [Act.put, List.setIfInBounds_toArray, List.set_cons_zero, List.set_cons_succ]
    refine wpAnyH_take (i := 10) (oi := ({ dst := some 20, op := Op.binOp BinOp.neq 3 (Operand.tmp 17) (Operand.tmp 19) 3, type := 4, pos := "l03_spaces.go:211", after := #[{ on := 7, ground := Ground.data }, { on := 9, ground := Ground.data }, { on := 5, ground := Ground.guard }], guard := some (5, false) } : Oper)) (v := undef) rfl (by kernel_rfl) (by kernel_rfl) (by kernel_rfl) (fun _ _ _ h => h) (Or.inr ⟨by rfl, rfl⟩) (by assumption) ?_
    try simp only [Act.put, List.setIfInBounds_toArray, List.set_cons_zero, List.set_cons_succ]
    refine wpAnyH_take (i := 11) (oi := ({ dst := some 21, op := Op.pick (Operand.tmp 15) (Operand.const (Value.bool true)) (Operand.tmp 20), type := 4, pos := "l03_spaces.go:211", after := #[{ on := 5, ground := Ground.data }, { on := 10, ground := Ground.data }], guard := none } : Oper)) (v := ?_) rfl (by kernel_rfl) (by kernel_rfl) (by kernel_rfl) (fun _ _ _ h => h) (Or.inl ⟨by rfl, ?_⟩) (by assumption) ?_
    rotate_left
    · (intro w hSw; (try dsimp only at hSw); go_simp; (try with_reducible rfl))
    try simp only [Act.put, List.setIfInBounds_toArray, List.set_cons_zero, List.set_cons_succ]
    refine wpAnyH_done (by kernel_rfl) ?_ _
    clear c0 c1 e0 e1
    obtain ⟨c0, c1, e0, e1, hbw⟩ := hHeld0
    replace HW := Lib.hid hbw
    clear hbw
    go_wp2_with fail
    go_ret
    exact ⟨ret_bool (by first | rfl | simp), (H2.out.trans (HW.out.mono H2.out.size))⟩
  obtain rfl : p = q := hpq
  by_cases hnm : n = m
  rotate_left
  · have HV := Lib.hid (isoB_n (p := p) (q := p) (xs := xs) (ys := ys) (by rw [HN.out, HM.out]; exact hnm))
    rw [HV.out]
    have hnb : ((n : Int) != m) = true := by simp; omega
    go_enter Try.func71, Try.ntmps71
    have c0 : ((w.alloc (.cells #[.int .i64 p, .slice A n c] 27)).alloc (.cells #[.int .i64 p, .slice B m d] 27)).cell? ⟨w.heap.size, 0, none⟩ = some (.int .i64 p) := by simp [go_sem]
    have c1 : ((w.alloc (.cells #[.int .i64 p, .slice A n c] 27)).alloc (.cells #[.int .i64 p, .slice B m d] 27)).cell? ⟨w.heap.size, 1, none⟩ = some (.slice A n c) := by simp [go_sem]
    have e0 : ((w.alloc (.cells #[.int .i64 p, .slice A n c] 27)).alloc (.cells #[.int .i64 p, .slice B m d] 27)).cell? ⟨w.heap.size + 1, 0, none⟩ = some (.int .i64 p) := by simp [go_sem]
    have e1 : ((w.alloc (.cells #[.int .i64 p, .slice A n c] 27)).alloc (.cells #[.int .i64 p, .slice B m d] 27)).cell? ⟨w.heap.size + 1, 1, none⟩ = some (.slice B m d) := by simp [go_sem]
    have HW := Lib.hid (Below.refl ((w.alloc (.cells #[.int .i64 p, .slice A n c] 27)).alloc (.cells #[.int .i64 p, .slice B m d] 27)).heap.size ((w.alloc (.cells #[.int .i64 p, .slice A n c] 27)).alloc (.cells #[.int .i64 p, .slice B m d] 27)))
    go_wp2_with fail
    refine wp_region_held_drew (S := (fun w' => w'.cell? ⟨w.heap.size, 0, none⟩ = some (.int .i64 p) ∧ w'.cell? ⟨w.heap.size, 1, none⟩ = some (.slice A n c) ∧ w'.cell? ⟨w.heap.size + 1, 0, none⟩ = some (.int .i64 p) ∧ w'.cell? ⟨w.heap.size + 1, 1, none⟩ = some (.slice B m d) ∧ Below ((w.alloc (.cells #[.int .i64 p, .slice A n c] 27)).alloc (.cells #[.int .i64 p, .slice B m d] 27)).heap.size ((w.alloc (.cells #[.int .i64 p, .slice A n c] 27)).alloc (.cells #[.int .i64 p, .slice B m d] 27)) w')) (by kernel_rfl) ?_ (fun hHeld0 => ?_)
    · exact ⟨c0, c1, e0, e1, HW.out.drew⟩
    refine wpAnyH_take (i := 0) (oi := ({ dst := some 10, op := Op.fieldAddr 27 (Operand.tmp 2) 0, type := 0, pos := "l03_spaces.go:211", after := #[], guard := none } : Oper)) (v := ?_) rfl (by kernel_rfl) (by kernel_rfl) (by kernel_rfl) (fun _ _ _ h => h) (Or.inl ⟨by rfl, ?_⟩) (by assumption) ?_
    rotate_left
    · (intro w hSw; (try dsimp only at hSw); go_simp; (try with_reducible rfl))
    try simp only [Act.put, List.setIfInBounds_toArray, List.set_cons_zero, List.set_cons_succ]
    refine wpAnyH_take (i := 1) (oi := ({ dst := some 11, op := Op.load 2 (Operand.tmp 10), type := 2, pos := "l03_spaces.go:211", after := #[{ on := 0, ground := Ground.data }], guard := none } : Oper)) (v := ?_) rfl (by kernel_rfl) (by kernel_rfl) (by kernel_rfl) (fun _ _ _ h => h) (Or.inl ⟨by rfl, ?_⟩) (by assumption) ?_
    rotate_left
    · (intro w hSw; (try dsimp only at hSw); go_simp; (try with_reducible rfl))
    try simp only [Act.put, List.setIfInBounds_toArray, List.set_cons_zero, List.set_cons_succ]
    refine wpAnyH_take (i := 2) (oi := ({ dst := some 12, op := Op.fieldAddr 27 (Operand.tmp 3) 0, type := 0, pos := "l03_spaces.go:211", after := #[], guard := none } : Oper)) (v := ?_) rfl (by kernel_rfl) (by kernel_rfl) (by kernel_rfl) (fun _ _ _ h => h) (Or.inl ⟨by rfl, ?_⟩) (by assumption) ?_
    rotate_left
    · (intro w hSw; (try dsimp only at hSw); go_simp; (try with_reducible rfl))
    try simp only [Act.put, List.setIfInBounds_toArray, List.set_cons_zero, List.set_cons_succ]
    refine wpAnyH_take (i := 3) (oi := ({ dst := some 13, op := Op.load 2 (Operand.tmp 12), type := 2, pos := "l03_spaces.go:211", after := #[{ on := 2, ground := Ground.data }], guard := none } : Oper)) (v := ?_) rfl (by kernel_rfl) (by kernel_rfl) (by kernel_rfl) (fun _ _ _ h => h) (Or.inl ⟨by rfl, ?_⟩) (by assumption) ?_
    rotate_left
    · (intro w hSw; (try dsimp only at hSw); go_simp; (try with_reducible rfl))
    try simp only [Act.put, List.setIfInBounds_toArray, List.set_cons_zero, List.set_cons_succ]
    refine wpAnyH_take (i := 4) (oi := ({ dst := some 14, op := Op.binOp BinOp.neq 2 (Operand.tmp 11) (Operand.tmp 13) 2, type := 4, pos := "l03_spaces.go:211", after := #[{ on := 1, ground := Ground.data }, { on := 3, ground := Ground.data }], guard := none } : Oper)) (v := ?_) rfl (by kernel_rfl) (by kernel_rfl) (by kernel_rfl) (fun _ _ _ h => h) (Or.inl ⟨by rfl, ?_⟩) (by assumption) ?_
    rotate_left
    · (intro w hSw; (try dsimp only at hSw); go_simp; (try with_reducible rfl))
    try simp only [Act.put, List.setIfInBounds_toArray, List.set_cons_zero, List.set_cons_succ]
    refine wpAnyH_take (i := 5) (oi := ({ dst := some 15, op := Op.move (Operand.tmp 14), type := 4, pos := "l03_spaces.go:211", after := #[{ on := 4, ground := Ground.data }], guard := none } : Oper)) (v := ?_) rfl (by kernel_rfl) (by kernel_rfl) (by kernel_rfl) (fun _ _ _ h => h) (Or.inl ⟨by rfl, ?_⟩) (by assumption) ?_
    rotate_left
    · (intro w hSw; (try dsimp only at hSw); go_simp; (try with_reducible rfl))
    try simp only [Act.put, List.setIfInBounds_toArray, List.set_cons_zero, List.set_cons_succ]
    refine wpAnyH_take (i := 6) (oi := ({ dst := some 16, op := Op.load 27 (Operand.tmp 2), type := 27, pos := "l03_spaces.go:211", after := #[{ on := 5, ground := Ground.guard }], guard := some (5, false) } : Oper)) (v := ?_) rfl (by kernel_rfl) (by kernel_rfl) (by kernel_rfl) (fun _ _ _ h => h) (Or.inl ⟨by rfl, ?_⟩) (by assumption) ?_
    rotate_left
    · (intro w hSw; (try dsimp only at hSw); go_simp; (try with_reducible rfl))
    try simp only [Act.put, List.setIfInBounds_toArray, List.set_cons_zero, List.set_cons_succ]
    refine wpAnyH_take (i := 8) (oi := ({ dst := some 18, op := Op.load 27 (Operand.tmp 3), type := 27, pos := "l03_spaces.go:211", after := #[{ on := 5, ground := Ground.guard }], guard := some (5, false) } : Oper)) (v := ?_) rfl (by kernel_rfl) (by kernel_rfl) (by kernel_rfl) (fun _ _ _ h => h) (Or.inl ⟨by rfl, ?_⟩) (by assumption) ?_
    rotate_left
    · (intro w hSw; (try dsimp only at hSw); go_simp; (try with_reducible rfl))
    try simp only [Act.put, List.setIfInBounds_toArray, List.set_cons_zero, List.set_cons_succ]
    refine wpAnyH_ready (rs := [7]) (by kernel_rfl) (by simp) ?_
    refine AllReadyH.cons (o := ({ dst := some 17, op := Op.call { callee := Callee.value (Operand.func 67), args := #[Operand.tmp 16], argTypes := #[27] }, type := 3, pos := "l03_spaces.go:211", after := #[{ on := 6, ground := Ground.data }, { on := 5, ground := Ground.chain }, { on := 5, ground := Ground.guard }], guard := some (5, false) } : Oper)) rfl (fun K hK => ?_) AllReadyH.nil
    go_simp
    go_at_call 67; refine (Space_dim _ _ _ _ _).mono ?_; rintro e vz ⟨rfl, hbz⟩
    (try go_wp2_with fail)
    refine hK.out _ _ ?_ (fun hHeld1 => ?_)
    · (try dsimp only)
      exact ⟨keep_cell hbz hHeld0.1, keep_cell hbz hHeld0.2.1, keep_cell hbz hHeld0.2.2.1, keep_cell hbz hHeld0.2.2.2.1, below_then hHeld0.2.2.2.2 hbz⟩
    clear hK K hHeld0
    try simp only [Act.put, List.setIfInBounds_toArray, List.set_cons_zero, List.set_cons_succ]
    refine wpAnyH_ready (rs := [9]) (by kernel_rfl) (by simp) ?_
    refine AllReadyH.cons (o := ({ dst := some 19, op := Op.call { callee := Callee.value (Operand.func 67), args := #[Operand.tmp 18], argTypes := #[27] }, type := 3, pos := "l03_spaces.go:211", after := #[{ on := 8, ground := Ground.data }, { on := 7, ground := Ground.chain }, { on := 5, ground := Ground.guard }], guard := some (5, false) } : Oper)) rfl (fun K hK => ?_) AllReadyH.nil
    go_simp
    go_at_call 67; refine (Space_dim _ _ _ _ _).mono ?_; rintro e vz ⟨rfl, hbz⟩
    (try go_wp2_with fail)
    refine hK.out _ _ ?_ (fun hHeld2 => ?_)
    · (try dsimp only)
      exact ⟨keep_cell hbz hHeld1.1, keep_cell hbz hHeld1.2.1, keep_cell hbz hHeld1.2.2.1, keep_cell hbz hHeld1.2.2.2.1, below_then hHeld1.2.2.2.2 hbz⟩
    clear hK K hHeld1
    try simp only [Act.put, List.setIfInBounds_toArray, List.set_cons_zero, List.set_cons_succ]
    refine wpAnyH_take (i := 10) (oi := ({ dst := some 20, op := Op.binOp BinOp.neq 3 (Operand.tmp 17) (Operand.tmp 19) 3, type := 4, pos := "l03_spaces.go:211", after := #[{ on := 7, ground := Ground.data }, { on := 9, ground := Ground.data }, { on := 5, ground := Ground.guard }], guard := some (5, false) } : Oper)) (v := ?_) rfl (by kernel_rfl) (by kernel_rfl) (by kernel_rfl) (fun _ _ _ h => h) (Or.inl ⟨by rfl, ?_⟩) (by assumption) ?_
    rotate_left
    · (intro w hSw; (try dsimp only at hSw); go_simp; (try with_reducible rfl))
    try simp only [Act.put, List.setIfInBounds_toArray, List.set_cons_zero, List.set_cons_succ]
    refine wpAnyH_take (i := 11) (oi := ({ dst := some 21, op := Op.pick (Operand.tmp 15) (Operand.const (Value.bool true)) (Operand.tmp 20), type := 4, pos := "l03_spaces.go:211", after := #[{ on := 5, ground := Ground.data }, { on := 10, ground := Ground.data }], guard := none } : Oper)) (v := ?_) rfl (by kernel_rfl) (by kernel_rfl) (by kernel_rfl) (fun _ _ _ h => h) (Or.inl ⟨by rfl, ?_⟩) (by assumption) ?_
    rotate_left
    · (intro w hSw; (try dsimp only at hSw); go_simp; (try with_reducible rfl))
    try simp only [Act.put, List.setIfInBounds_toArray, List.set_cons_zero, List.set_cons_succ]
    refine wpAnyH_done (by kernel_rfl) ?_ _
    clear c0 c1 e0 e1
    obtain ⟨c0, c1, e0, e1, hbw⟩ := hHeld2
    replace HW := Lib.hid hbw
    clear hbw
    go_wp2_with fail
    go_ret
    exact ⟨ret_bool (by first | rfl | simp), (H2.out.trans (HW.out.mono H2.out.size))⟩
  obtain rfl : n = m := hnm
  go_enter Try.func71, Try.ntmps71
  have c0 : ((w.alloc (.cells #[.int .i64 p, .slice A n c] 27)).alloc (.cells #[.int .i64 p, .slice B n d] 27)).cell? ⟨w.heap.size, 0, none⟩ = some (.int .i64 p) := by simp [go_sem]
  have c1 : ((w.alloc (.cells #[.int .i64 p, .slice A n c] 27)).alloc (.cells #[.int .i64 p, .slice B n d] 27)).cell? ⟨w.heap.size, 1, none⟩ = some (.slice A n c) := by simp [go_sem]
  have e0 : ((w.alloc (.cells #[.int .i64 p, .slice A n c] 27)).alloc (.cells #[.int .i64 p, .slice B n d] 27)).cell? ⟨w.heap.size + 1, 0, none⟩ = some (.int .i64 p) := by simp [go_sem]
  have e1 : ((w.alloc (.cells #[.int .i64 p, .slice A n c] 27)).alloc (.cells #[.int .i64 p, .slice B n d] 27)).cell? ⟨w.heap.size + 1, 1, none⟩ = some (.slice B n d) := by simp [go_sem]
  have HW := Lib.hid (Below.refl ((w.alloc (.cells #[.int .i64 p, .slice A n c] 27)).alloc (.cells #[.int .i64 p, .slice B n d] 27)).heap.size ((w.alloc (.cells #[.int .i64 p, .slice A n c] 27)).alloc (.cells #[.int .i64 p, .slice B n d] 27)))
  go_wp2_with fail
  refine wp_region_held_drew (S := (fun w' => w'.cell? ⟨w.heap.size, 0, none⟩ = some (.int .i64 p) ∧ w'.cell? ⟨w.heap.size, 1, none⟩ = some (.slice A n c) ∧ w'.cell? ⟨w.heap.size + 1, 0, none⟩ = some (.int .i64 p) ∧ w'.cell? ⟨w.heap.size + 1, 1, none⟩ = some (.slice B n d) ∧ Below ((w.alloc (.cells #[.int .i64 p, .slice A n c] 27)).alloc (.cells #[.int .i64 p, .slice B n d] 27)).heap.size ((w.alloc (.cells #[.int .i64 p, .slice A n c] 27)).alloc (.cells #[.int .i64 p, .slice B n d] 27)) w')) (by kernel_rfl) ?_ (fun hHeld0 => ?_)
  · exact ⟨c0, c1, e0, e1, HW.out.drew⟩
  refine wpAnyH_take (i := 0) (oi := ({ dst := some 10, op := Op.fieldAddr 27 (Operand.tmp 2) 0, type := 0, pos := "l03_spaces.go:211", after := #[], guard := none } : Oper)) (v := ?_) rfl (by kernel_rfl) (by kernel_rfl) (by kernel_rfl) (fun _ _ _ h => h) (Or.inl ⟨by rfl, ?_⟩) (by assumption) ?_
  rotate_left
  · (intro w hSw; (try dsimp only at hSw); go_simp; (try with_reducible rfl))
  try simp only [Act.put, List.setIfInBounds_toArray, List.set_cons_zero, List.set_cons_succ]
  refine wpAnyH_take (i := 1) (oi := ({ dst := some 11, op := Op.load 2 (Operand.tmp 10), type := 2, pos := "l03_spaces.go:211", after := #[{ on := 0, ground := Ground.data }], guard := none } : Oper)) (v := ?_) rfl (by kernel_rfl) (by kernel_rfl) (by kernel_rfl) (fun _ _ _ h => h) (Or.inl ⟨by rfl, ?_⟩) (by assumption) ?_
  rotate_left
  · (intro w hSw; (try dsimp only at hSw); go_simp; (try with_reducible rfl))
  try simp only [Act.put, List.setIfInBounds_toArray, List.set_cons_zero, List.set_cons_succ]
  refine wpAnyH_take (i := 2) (oi := ({ dst := some 12, op := Op.fieldAddr 27 (Operand.tmp 3) 0, type := 0, pos := "l03_spaces.go:211", after := #[], guard := none } : Oper)) (v := ?_) rfl (by kernel_rfl) (by kernel_rfl) (by kernel_rfl) (fun _ _ _ h => h) (Or.inl ⟨by rfl, ?_⟩) (by assumption) ?_
  rotate_left
  · (intro w hSw; (try dsimp only at hSw); go_simp; (try with_reducible rfl))
  try simp only [Act.put, List.setIfInBounds_toArray, List.set_cons_zero, List.set_cons_succ]
  refine wpAnyH_take (i := 3) (oi := ({ dst := some 13, op := Op.load 2 (Operand.tmp 12), type := 2, pos := "l03_spaces.go:211", after := #[{ on := 2, ground := Ground.data }], guard := none } : Oper)) (v := ?_) rfl (by kernel_rfl) (by kernel_rfl) (by kernel_rfl) (fun _ _ _ h => h) (Or.inl ⟨by rfl, ?_⟩) (by assumption) ?_
  rotate_left
  · (intro w hSw; (try dsimp only at hSw); go_simp; (try with_reducible rfl))
  try simp only [Act.put, List.setIfInBounds_toArray, List.set_cons_zero, List.set_cons_succ]
  refine wpAnyH_take (i := 4) (oi := ({ dst := some 14, op := Op.binOp BinOp.neq 2 (Operand.tmp 11) (Operand.tmp 13) 2, type := 4, pos := "l03_spaces.go:211", after := #[{ on := 1, ground := Ground.data }, { on := 3, ground := Ground.data }], guard := none } : Oper)) (v := ?_) rfl (by kernel_rfl) (by kernel_rfl) (by kernel_rfl) (fun _ _ _ h => h) (Or.inl ⟨by rfl, ?_⟩) (by assumption) ?_
  rotate_left
  · (intro w hSw; (try dsimp only at hSw); go_simp; (try with_reducible rfl))
  try simp only [Act.put, List.setIfInBounds_toArray, List.set_cons_zero, List.set_cons_succ]
  refine wpAnyH_take (i := 5) (oi := ({ dst := some 15, op := Op.move (Operand.tmp 14), type := 4, pos := "l03_spaces.go:211", after := #[{ on := 4, ground := Ground.data }], guard := none } : Oper)) (v := ?_) rfl (by kernel_rfl) (by kernel_rfl) (by kernel_rfl) (fun _ _ _ h => h) (Or.inl ⟨by rfl, ?_⟩) (by assumption) ?_
  rotate_left
  · (intro w hSw; (try dsimp only at hSw); go_simp; (try with_reducible rfl))
  try simp only [Act.put, List.setIfInBounds_toArray, List.set_cons_zero, List.set_cons_succ]
  refine wpAnyH_take (i := 6) (oi := ({ dst := some 16, op := Op.load 27 (Operand.tmp 2), type := 27, pos := "l03_spaces.go:211", after := #[{ on := 5, ground := Ground.guard }], guard := some (5, false) } : Oper)) (v := ?_) rfl (by kernel_rfl) (by kernel_rfl) (by kernel_rfl) (fun _ _ _ h => h) (Or.inl ⟨by rfl, ?_⟩) (by assumption) ?_
  rotate_left
  · (intro w hSw; (try dsimp only at hSw); go_simp; (try with_reducible rfl))
  try simp only [Act.put, List.setIfInBounds_toArray, List.set_cons_zero, List.set_cons_succ]
  refine wpAnyH_take (i := 8) (oi := ({ dst := some 18, op := Op.load 27 (Operand.tmp 3), type := 27, pos := "l03_spaces.go:211", after := #[{ on := 5, ground := Ground.guard }], guard := some (5, false) } : Oper)) (v := ?_) rfl (by kernel_rfl) (by kernel_rfl) (by kernel_rfl) (fun _ _ _ h => h) (Or.inl ⟨by rfl, ?_⟩) (by assumption) ?_
  rotate_left
  · (intro w hSw; (try dsimp only at hSw); go_simp; (try with_reducible rfl))
  try simp only [Act.put, List.setIfInBounds_toArray, List.set_cons_zero, List.set_cons_succ]
  refine wpAnyH_ready (rs := [7]) (by kernel_rfl) (by simp) ?_
  refine AllReadyH.cons (o := ({ dst := some 17, op := Op.call { callee := Callee.value (Operand.func 67), args := #[Operand.tmp 16], argTypes := #[27] }, type := 3, pos := "l03_spaces.go:211", after := #[{ on := 6, ground := Ground.data }, { on := 5, ground := Ground.chain }, { on := 5, ground := Ground.guard }], guard := some (5, false) } : Oper)) rfl (fun K hK => ?_) AllReadyH.nil
  go_simp
  go_at_call 67; refine (Space_dim _ _ _ _ _).mono ?_; rintro e vz ⟨rfl, hbz⟩
  (try go_wp2_with fail)
  refine hK.out _ _ ?_ (fun hHeld1 => ?_)
  · (try dsimp only)
    exact ⟨keep_cell hbz hHeld0.1, keep_cell hbz hHeld0.2.1, keep_cell hbz hHeld0.2.2.1, keep_cell hbz hHeld0.2.2.2.1, below_then hHeld0.2.2.2.2 hbz⟩
  clear hK K hHeld0
  try simp only [Act.put, List.setIfInBounds_toArray, List.set_cons_zero, List.set_cons_succ]
  refine wpAnyH_ready (rs := [9]) (by kernel_rfl) (by simp) ?_
  refine AllReadyH.cons (o := ({ dst := some 19, op := Op.call { callee := Callee.value (Operand.func 67), args := #[Operand.tmp 18], argTypes := #[27] }, type := 3, pos := "l03_spaces.go:211", after := #[{ on := 8, ground := Ground.data }, { on := 7, ground := Ground.chain }, { on := 5, ground := Ground.guard }], guard := some (5, false) } : Oper)) rfl (fun K hK => ?_) AllReadyH.nil
  go_simp
  go_at_call 67; refine (Space_dim _ _ _ _ _).mono ?_; rintro e vz ⟨rfl, hbz⟩
  (try go_wp2_with fail)
  refine hK.out _ _ ?_ (fun hHeld2 => ?_)
  · (try dsimp only)
    exact ⟨keep_cell hbz hHeld1.1, keep_cell hbz hHeld1.2.1, keep_cell hbz hHeld1.2.2.1, keep_cell hbz hHeld1.2.2.2.1, below_then hHeld1.2.2.2.2 hbz⟩
  clear hK K hHeld1
  try simp only [Act.put, List.setIfInBounds_toArray, List.set_cons_zero, List.set_cons_succ]
  refine wpAnyH_take (i := 10) (oi := ({ dst := some 20, op := Op.binOp BinOp.neq 3 (Operand.tmp 17) (Operand.tmp 19) 3, type := 4, pos := "l03_spaces.go:211", after := #[{ on := 7, ground := Ground.data }, { on := 9, ground := Ground.data }, { on := 5, ground := Ground.guard }], guard := some (5, false) } : Oper)) (v := ?_) rfl (by kernel_rfl) (by kernel_rfl) (by kernel_rfl) (fun _ _ _ h => h) (Or.inl ⟨by rfl, ?_⟩) (by assumption) ?_
  rotate_left
  · (intro w hSw; (try dsimp only at hSw); go_simp; (try with_reducible rfl))
  try simp only [Act.put, List.setIfInBounds_toArray, List.set_cons_zero, List.set_cons_succ]
  refine wpAnyH_take (i := 11) (oi := ({ dst := some 21, op := Op.pick (Operand.tmp 15) (Operand.const (Value.bool true)) (Operand.tmp 20), type := 4, pos := "l03_spaces.go:211", after := #[{ on := 5, ground := Ground.data }, { on := 10, ground := Ground.data }], guard := none } : Oper)) (v := ?_) rfl (by kernel_rfl) (by kernel_rfl) (by kernel_rfl) (fun _ _ _ h => h) (Or.inl ⟨by rfl, ?_⟩) (by assumption) ?_
  rotate_left
  · (intro w hSw; (try dsimp only at hSw); go_simp; (try with_reducible rfl))
  try simp only [Act.put, List.setIfInBounds_toArray, List.set_cons_zero, List.set_cons_succ]
  refine wpAnyH_done (by kernel_rfl) ?_ _
  clear c0 c1 e0 e1
  obtain ⟨c0, c1, e0, e1, hbw⟩ := hHeld2
  replace HW := Lib.hid hbw
  clear hbw
  have hnn : ((n : Int) != n) = false := by simp
  go_wp2
  go_loopw [5, 6, 25] (fun u5 u6 i wr => ∃ k : Nat, ∃ z q : Int, k ≤ n ∧ i = .int .i64 k ∧ u5 = .int .i64 z ∧ Hid (z = (zersN xs k : Int) - zersN ys k) ∧ u6 = .int .i64 q ∧ Hid (isoP p xs ys k = q) ∧ wr.cell? ⟨w.heap.size, 0, none⟩ = some (.int .i64 p) ∧ wr.cell? ⟨w.heap.size, 1, none⟩ = some (.slice A n c) ∧ wr.cell? ⟨w.heap.size + 1, 0, none⟩ = some (.int .i64 p) ∧ wr.cell? ⟨w.heap.size + 1, 1, none⟩ = some (.slice B n d) ∧ Below ((w.alloc (.cells #[.int .i64 p, .slice A n c] 27)).alloc (.cells #[.int .i64 p, .slice B n d] 27)).heap.size ((w.alloc (.cells #[.int .i64 p, .slice A n c] 27)).alloc (.cells #[.int .i64 p, .slice B n d] 27)) wr) (fun _ _ i _ => n - (intOf i).toNat)
  case atStart => exact ⟨0, 0, 1, Nat.zero_le _, rfl, rfl, Lib.hid rfl, rfl, Lib.hid rfl, c0, c1, e0, e1, HW.out⟩
  case round =>
    clear c0 c1 e0 e1 HW
    obtain ⟨k, z, q, hk, rfl, rfl, HZ, rfl, HQ, c0, c1, e0, e1, hb0⟩ := hrel
    have HW := Lib.hid hb0
    clear hb0
    have hz0 := zersN_le xs k
    have hz1 := zersN_le ys k
    have hzz := HZ.out
    have hzl : -6 ≤ z := by omega
    have hzh : z ≤ 6 := by omega
    have hq := isoP_range (show 2 ≤ p by omega) xs ys k
    rw [HQ.out] at hq
    obtain ⟨hq0, hq1⟩ := hq
    by_cases hlt : k < n
    rotate_left
    · obtain rfl : n = k := by omega
      cases hz : decide (zersN xs n = zersN ys n) with
      | true =>
        have hz' := of_decide_eq_true hz
        have HV := Lib.hid (isoB_y (p := p) HN.out HM.out hz')
        have hz00 : z = 0 := by omega
        clear hz hz' hzz hz0 hz1
        subst hz00
        go_wp2_with fail
        refine (Space_field _ _ _ _ _).mono ?_
        rintro e v ⟨rfl, hb⟩
        replace c0 := keep_cell hb c0
        replace c1 := keep_cell hb c1
        replace e0 := keep_cell hb e0
        replace e1 := keep_cell hb e1
        replace HW := Lib.hid (below_then HW.out hb)
        clear hb

        go_wp2_with (go_at_call 68; refine (iso_root h0 h1 rfl).mono ?_; rintro e w' ⟨rfl, rfl⟩)
        go_ret
        exact ⟨ret_bool (by rw [HV.out, HQ.out]), (H2.out.trans (HW.out.mono H2.out.size))⟩
      | false =>
        have hz' := of_decide_eq_false hz
        have HV := Lib.hid (isoB_z (p := p) HN.out HM.out hz')
        have hzb : (z == 0) = false := by simp; omega
        clear hz hz' hzz hz0 hz1
        go_wp2_with fail
        go_ret
        exact ⟨ret_bool (by rw [HV.out]), (H2.out.trans (HW.out.mono H2.out.size))⟩
    obtain ⟨bs, os, s, rfl, hbs, hsk, hsc⟩ := (HX.out.keep (H2.out.trans (HW.out.mono H2.out.size))).at_ hlt
    obtain ⟨bt, ot, t, rfl, hbt, htk, htc⟩ := (HY.out.keep (H2.out.trans (HW.out.mono H2.out.size))).at_ hlt
    obtain ⟨hs0, hs1⟩ := numB_true (numsB_at HNU.out hsk)
    obtain ⟨ht0, ht1⟩ := numB_true (numsB_at HNV.out htk)
    have HSX := Lib.hid (show xs.getD k 0 = s by rw [List.getD_eq_getElem?_getD, hsk]; rfl)
    have HSY := Lib.hid (show ys.getD k 0 = t by rw [List.getD_eq_getElem?_getD, htk]; rfl)
    have hkn : (k : Int) < n := by omega
    have hk0 : (0 : Int) ≤ k := by omega
    clear hsk htk hbs hbt
    clear hzz hz0 hz1
    have i0 : ∀ w, (Instr.index 73 (.agg #[.int .i64 s, .int .i64 t]) (.int .i64 0)).run Try.prog w = .ok (.int .i64 s) w := fun _ => by kernel_rfl
    have i1 : ∀ w, (Instr.index 73 (.agg #[.int .i64 s, .int .i64 t]) (.int .i64 1)).run Try.prog w = .ok (.int .i64 t) w := fun _ => by kernel_rfl
    go_wp2_with fail
    go_quiet (fail)
    go_wp2_with fail
    go_loopw [5, 6, 39] (fun u5 u6 i wr => ∃ j : Nat, ∃ r z2 q2 : Int, (j = 0 ∧ r = 0 ∨ j = 1 ∧ r = 1 ∨ j = 2 ∧ r = 2) ∧ i = .int .i64 r ∧ u5 = .int .i64 z2 ∧ Hid (z2 = z + (if 1 ≤ j then (zerI s : Int) else 0) - (if 2 ≤ j then (zerI t : Int) else 0)) ∧ u6 = .int .i64 q2 ∧ Hid (qII p q s t j = q2) ∧ 0 ≤ q2 ∧ q2 < p ∧ wr.cell? ⟨w.heap.size, 0, none⟩ = some (.int .i64 p) ∧ wr.cell? ⟨w.heap.size, 1, none⟩ = some (.slice (some ⟨bs, os, none⟩) n c) ∧ wr.cell? ⟨w.heap.size + 1, 0, none⟩ = some (.int .i64 p) ∧ wr.cell? ⟨w.heap.size + 1, 1, none⟩ = some (.slice (some ⟨bt, ot, none⟩) n d) ∧ Below ((w.alloc (.cells #[.int .i64 p, .slice (some ⟨bs, os, none⟩) n c] 27)).alloc (.cells #[.int .i64 p, .slice (some ⟨bt, ot, none⟩) n d] 27)).heap.size ((w.alloc (.cells #[.int .i64 p, .slice (some ⟨bs, os, none⟩) n c] 27)).alloc (.cells #[.int .i64 p, .slice (some ⟨bt, ot, none⟩) n d] 27)) wr) (fun _ _ i _ => 2 - (intOf i).toNat)
    case atStart => exact ⟨0, 0, z, q, by omega, rfl, rfl, Lib.hid (by simp), rfl, Lib.hid rfl, hq0, hq1, (by first | exact c0 | (simp only [World.cell?_drewN]; exact c0)), (by first | exact c1 | (simp only [World.cell?_drewN]; exact c1)), (by first | exact e0 | (simp only [World.cell?_drewN]; exact e0)), (by first | exact e1 | (simp only [World.cell?_drewN]; exact e1)), (by first | exact HW.out | exact below_drewN HW.out _)⟩
    case round =>
      clear c0 c1 e0 e1 HW hsc htc
      obtain ⟨j, r, z2, q2, hj, rfl, rfl, HZ2, rfl, HQ2, g0, g1, c0, c1, e0, e1, hb0⟩ := hrel
      have HW := Lib.hid hb0
      clear hb0
      have hzb : -8 ≤ z2 ∧ z2 ≤ 8 := by
        have a := HZ2.out
        have a1 := zerI_le s
        have a2 := zerI_le t
        split at a <;> split at a <;> omega
      obtain ⟨hzb0, hzb1⟩ := hzb
      obtain ⟨rfl, rfl⟩ | ⟨rfl, rfl⟩ | ⟨rfl, rfl⟩ := hj
      · cases hvz : decide (s = 0) with
        | true =>
          have hve := of_decide_eq_true hvz
          have hvb : (s == 0) = true := by simp; exact hve
          have HQ3 := Lib.hid (show qII p q s t 1 = q2 from (if_pos hve).trans HQ2.out)
          have HZ3 := Lib.hid (show zerI s = 1 from if_pos hve)
          clear hvz hve
          go_wp2_with fail
          go_roundw
          case rel => exact ⟨1, 1, z2 + 1, q2, by omega, rfl, (by first | rfl | go_num), Lib.hid (by have a := HZ2.out; rw [HZ3.out]; simp at a ⊢; omega), rfl, HQ3, g0, g1, c0, c1, e0, e1, HW.out⟩
          case measure => simp [intOf]
        | false =>
          have hve := of_decide_eq_false hvz
          have hvb : (s == 0) = false := by simp; exact hve
          obtain ⟨y, HYQ⟩ : ∃ y, Hid (q2 * s % p = y) := ⟨_, Lib.hid rfl⟩
          have HQ3 := Lib.hid (show qII p q s t 1 = y by
            have a := HQ2.out
            rw [← HYQ.out, ← a]
            exact if_neg hve)
          have HZ3 := Lib.hid (show zerI s = 0 from if_neg hve)
          obtain ⟨y0, y1⟩ := prod_facts h0 h1 g0 g1 hs0 hs1
          have em0 := Int.emod_nonneg (q2 * s) (show p ≠ 0 by omega)
          have em1 := Int.emod_lt_of_pos (q2 * s) (show (0 : Int) < p by omega)
          rw [HYQ.out] at em0 em1
          clear hvz
          go_wp2_with fail
          refine (Space_field _ _ _ _ _).mono ?_
          rintro e v ⟨rfl, hb⟩
          replace c0 := keep_cell hb c0
          replace c1 := keep_cell hb c1
          replace e0 := keep_cell hb e0
          replace e1 := keep_cell hb e1
          replace HW := Lib.hid (below_then HW.out hb)
          clear hb

          go_wp2_with (go_at_call 58; refine (iso_num (by omega) (by omega) HYQ.out).mono ?_; rintro e w' ⟨rfl, rfl⟩)
          go_roundw
          case rel => exact ⟨1, 1, z2, y, by omega, rfl, rfl, Lib.hid (by have a := HZ2.out; rw [HZ3.out]; simp at a ⊢; omega), rfl, HQ3, em0, em1, c0, c1, e0, e1, HW.out⟩
          case measure => simp [intOf]
      · cases hvz : decide (t = 0) with
        | true =>
          have hve := of_decide_eq_true hvz
          have hvb : (t == 0) = true := by simp; exact hve
          have HQ3 := Lib.hid (show qII p q s t 2 = q2 from (if_pos hve).trans HQ2.out)
          have HZ3 := Lib.hid (show zerI t = 1 from if_pos hve)
          clear hvz hve
          go_wp2_with fail
          go_roundw
          case rel => exact ⟨2, 2, z2 - 1, q2, by omega, rfl, (by first | rfl | go_num), Lib.hid (by have a := HZ2.out; rw [HZ3.out]; simp at a ⊢; omega), rfl, HQ3, g0, g1, c0, c1, e0, e1, HW.out⟩
          case measure => simp [intOf]
        | false =>
          have hve := of_decide_eq_false hvz
          have hvb : (t == 0) = false := by simp; exact hve
          obtain ⟨y, HYQ⟩ : ∃ y, Hid (q2 * t % p = y) := ⟨_, Lib.hid rfl⟩
          have HQ3 := Lib.hid (show qII p q s t 2 = y by
            have a := HQ2.out
            rw [← HYQ.out, ← a]
            exact if_neg hve)
          have HZ3 := Lib.hid (show zerI t = 0 from if_neg hve)
          obtain ⟨y0, y1⟩ := prod_facts h0 h1 g0 g1 ht0 ht1
          have em0 := Int.emod_nonneg (q2 * t) (show p ≠ 0 by omega)
          have em1 := Int.emod_lt_of_pos (q2 * t) (show (0 : Int) < p by omega)
          rw [HYQ.out] at em0 em1
          clear hvz
          go_wp2_with fail
          refine (Space_field _ _ _ _ _).mono ?_
          rintro e v ⟨rfl, hb⟩
          replace c0 := keep_cell hb c0
          replace c1 := keep_cell hb c1
          replace e0 := keep_cell hb e0
          replace e1 := keep_cell hb e1
          replace HW := Lib.hid (below_then HW.out hb)
          clear hb

          go_wp2_with (go_at_call 58; refine (iso_num (by omega) (by omega) HYQ.out).mono ?_; rintro e w' ⟨rfl, rfl⟩)
          go_roundw
          case rel => exact ⟨2, 2, z2, y, by omega, rfl, rfl, Lib.hid (by have a := HZ2.out; rw [HZ3.out]; simp at a ⊢; omega), rfl, HQ3, em0, em1, c0, c1, e0, e1, HW.out⟩
          case measure => simp [intOf]
      · go_wp2_with fail
        go_roundw
        case rel => exact ⟨k + 1, z2, q2, by omega, by go_num, rfl, Lib.hid (by
          have a := HZ2.out
          have b := HZ.out
          rw [zersN, zersN, HSX.out, HSY.out]
          simp at a
          omega), rfl, Lib.hid (by rw [isoP, HQ.out, HSX.out, HSY.out]; exact HQ2.out), c0, c1, e0, e1, HW.out⟩
        case measure => simp [intOf]; omega

set_option maxHeartbeats 1000000 in
theorem impl_AreIsometric (p q : Int) (A : Option Addr) (n c : Nat) (xs : List Int) (B : Option Addr) (m d : Nat) (ys : List Int) (w : World) (hx : Ints w A n xs) (hy : Ints w B m ys) :
    Calls Try.prog 39 #[.agg #[.int .i64 p, .slice A n c], .agg #[.int .i64 q, .slice B m d]] w fun e w' => e = .returned (.tuple #[.bool (isoV p q xs ys), .int .i64 (isoC p q xs ys)]) ∧ Below w.heap.size w w' := by
  have HX := Lib.hid hx
  have hm1 := hx.2.1
  have HN := Lib.hid hx.1
  have HY := Lib.hid hy
  have hm2 := hy.2.1
  have HM := Lib.hid hy.1
  clear hx hy
  unfold maxLen at hm1 hm2
  have H2 := Lib.hid (show Below w.heap.size w ((w.alloc (.cells #[.int .i64 p, .slice A n c] 27)).alloc (.cells #[.int .i64 q, .slice B m d] 27)) from ((Below.refl _ _).alloc (Nat.le_refl _) _).alloc (by simp) _)
  by_cases hst : spaceB p xs = true ∧ spaceB q ys = true
  · have HC := Lib.hid (show isoC p q xs ys = 0 from if_pos hst)
    have HV := Lib.hid (show isoV p q xs ys = isoB p q xs ys from if_pos hst)
    have HS := Lib.hid hst.1
    have HT := Lib.hid hst.2
    rw [HC.out, HV.out]
    clear hst
    go_enter Try.func39, Try.ntmps39
    have c0 : ((w.alloc (.cells #[.int .i64 p, .slice A n c] 27)).alloc (.cells #[.int .i64 q, .slice B m d] 27)).cell? ⟨w.heap.size, 0, none⟩ = some (.int .i64 p) := by simp [go_sem]
    have c1 : ((w.alloc (.cells #[.int .i64 p, .slice A n c] 27)).alloc (.cells #[.int .i64 q, .slice B m d] 27)).cell? ⟨w.heap.size, 1, none⟩ = some (.slice A n c) := by simp [go_sem]
    have e0 : ((w.alloc (.cells #[.int .i64 p, .slice A n c] 27)).alloc (.cells #[.int .i64 q, .slice B m d] 27)).cell? ⟨w.heap.size + 1, 0, none⟩ = some (.int .i64 q) := by simp [go_sem]
    have e1 : ((w.alloc (.cells #[.int .i64 p, .slice A n c] 27)).alloc (.cells #[.int .i64 q, .slice B m d] 27)).cell? ⟨w.heap.size + 1, 1, none⟩ = some (.slice B m d) := by simp [go_sem]
    have HW := Lib.hid (Below.refl ((w.alloc (.cells #[.int .i64 p, .slice A n c] 27)).alloc (.cells #[.int .i64 q, .slice B m d] 27)).heap.size ((w.alloc (.cells #[.int .i64 p, .slice A n c] 27)).alloc (.cells #[.int .i64 q, .slice B m d] 27)))
    go_wp2_with fail
    have hb := (Below.refl ((w.alloc (.cells #[.int .i64 p, .slice A n c] 27)).alloc (.cells #[.int .i64 q, .slice B m d] 27)).heap.size ((w.alloc (.cells #[.int .i64 p, .slice A n c] 27)).alloc (.cells #[.int .i64 q, .slice B m d] 27))).alloc (Nat.le_refl _) (.cells #[.int .i64 p, .slice A n c, .int .i64 q, .slice B m d] 27)
    have f0 : (((w.alloc (.cells #[.int .i64 p, .slice A n c] 27)).alloc (.cells #[.int .i64 q, .slice B m d] 27)).alloc (.cells #[.int .i64 p, .slice A n c, .int .i64 q, .slice B m d] 27)).cell? ⟨w.heap.size + 1 + 1, 0, none⟩ = some (.int .i64 p) := by simp [go_sem]
    have f1 : (((w.alloc (.cells #[.int .i64 p, .slice A n c] 27)).alloc (.cells #[.int .i64 q, .slice B m d] 27)).alloc (.cells #[.int .i64 p, .slice A n c, .int .i64 q, .slice B m d] 27)).cell? ⟨w.heap.size + 1 + 1, 1, none⟩ = some (.slice A n c) := by simp [go_sem]
    have f2 : (((w.alloc (.cells #[.int .i64 p, .slice A n c] 27)).alloc (.cells #[.int .i64 q, .slice B m d] 27)).alloc (.cells #[.int .i64 p, .slice A n c, .int .i64 q, .slice B m d] 27)).cell? ⟨w.heap.size + 1 + 1, 2, none⟩ = some (.int .i64 q) := by simp [go_sem]
    have f3 : (((w.alloc (.cells #[.int .i64 p, .slice A n c] 27)).alloc (.cells #[.int .i64 q, .slice B m d] 27)).alloc (.cells #[.int .i64 p, .slice A n c, .int .i64 q, .slice B m d] 27)).cell? ⟨w.heap.size + 1 + 1, 3, none⟩ = some (.slice B m d) := by simp [go_sem]
    replace c0 := keep_cell hb c0
    replace c1 := keep_cell hb c1
    replace e0 := keep_cell hb e0
    replace e1 := keep_cell hb e1
    replace HW := Lib.hid (below_then HW.out hb)
    clear hb
    refine (impl_checkSpaces _ _ _ _ _ xs _ _ _ ys _ (HX.out.keep (H2.out.trans (HW.out.mono H2.out.size))) (HY.out.keep (H2.out.trans (HW.out.mono H2.out.size))) _ f0 f1 f2 f3).mono ?_
    rw [HC.out]
    clear f0 f1 f2 f3
    rintro e v ⟨rfl, hb⟩
    replace c0 := keep_cell hb c0
    replace c1 := keep_cell hb c1
    replace e0 := keep_cell hb e0
    replace e1 := keep_cell hb e1
    replace HW := Lib.hid (below_then HW.out hb)
    clear hb
    go_wp2_with fail
    refine (impl_isometric _ _ _ _ _ xs _ _ _ ys _ (HX.out.keep (H2.out.trans (HW.out.mono H2.out.size))) (HY.out.keep (H2.out.trans (HW.out.mono H2.out.size))) HS.out HT.out).mono ?_
    rintro e v ⟨rfl, hb⟩
    replace c0 := keep_cell hb c0
    replace c1 := keep_cell hb c1
    replace e0 := keep_cell hb e0
    replace e1 := keep_cell hb e1
    replace HW := Lib.hid (below_then HW.out hb)
    clear hb
    go_wp2_with fail
    go_ret2
    exact ⟨rfl, (H2.out.trans (HW.out.mono H2.out.size))⟩
  · have HC := Lib.hid (show isoC p q xs ys = 1 from if_neg hst)
    have HV := Lib.hid (show isoV p q xs ys = false from if_neg hst)
    rw [HC.out, HV.out]
    clear hst
    go_enter Try.func39, Try.ntmps39
    have c0 : ((w.alloc (.cells #[.int .i64 p, .slice A n c] 27)).alloc (.cells #[.int .i64 q, .slice B m d] 27)).cell? ⟨w.heap.size, 0, none⟩ = some (.int .i64 p) := by simp [go_sem]
    have c1 : ((w.alloc (.cells #[.int .i64 p, .slice A n c] 27)).alloc (.cells #[.int .i64 q, .slice B m d] 27)).cell? ⟨w.heap.size, 1, none⟩ = some (.slice A n c) := by simp [go_sem]
    have e0 : ((w.alloc (.cells #[.int .i64 p, .slice A n c] 27)).alloc (.cells #[.int .i64 q, .slice B m d] 27)).cell? ⟨w.heap.size + 1, 0, none⟩ = some (.int .i64 q) := by simp [go_sem]
    have e1 : ((w.alloc (.cells #[.int .i64 p, .slice A n c] 27)).alloc (.cells #[.int .i64 q, .slice B m d] 27)).cell? ⟨w.heap.size + 1, 1, none⟩ = some (.slice B m d) := by simp [go_sem]
    have HW := Lib.hid (Below.refl ((w.alloc (.cells #[.int .i64 p, .slice A n c] 27)).alloc (.cells #[.int .i64 q, .slice B m d] 27)).heap.size ((w.alloc (.cells #[.int .i64 p, .slice A n c] 27)).alloc (.cells #[.int .i64 q, .slice B m d] 27)))
    go_wp2_with fail
    have hb := (Below.refl ((w.alloc (.cells #[.int .i64 p, .slice A n c] 27)).alloc (.cells #[.int .i64 q, .slice B m d] 27)).heap.size ((w.alloc (.cells #[.int .i64 p, .slice A n c] 27)).alloc (.cells #[.int .i64 q, .slice B m d] 27))).alloc (Nat.le_refl _) (.cells #[.int .i64 p, .slice A n c, .int .i64 q, .slice B m d] 27)
    have f0 : (((w.alloc (.cells #[.int .i64 p, .slice A n c] 27)).alloc (.cells #[.int .i64 q, .slice B m d] 27)).alloc (.cells #[.int .i64 p, .slice A n c, .int .i64 q, .slice B m d] 27)).cell? ⟨w.heap.size + 1 + 1, 0, none⟩ = some (.int .i64 p) := by simp [go_sem]
    have f1 : (((w.alloc (.cells #[.int .i64 p, .slice A n c] 27)).alloc (.cells #[.int .i64 q, .slice B m d] 27)).alloc (.cells #[.int .i64 p, .slice A n c, .int .i64 q, .slice B m d] 27)).cell? ⟨w.heap.size + 1 + 1, 1, none⟩ = some (.slice A n c) := by simp [go_sem]
    have f2 : (((w.alloc (.cells #[.int .i64 p, .slice A n c] 27)).alloc (.cells #[.int .i64 q, .slice B m d] 27)).alloc (.cells #[.int .i64 p, .slice A n c, .int .i64 q, .slice B m d] 27)).cell? ⟨w.heap.size + 1 + 1, 2, none⟩ = some (.int .i64 q) := by simp [go_sem]
    have f3 : (((w.alloc (.cells #[.int .i64 p, .slice A n c] 27)).alloc (.cells #[.int .i64 q, .slice B m d] 27)).alloc (.cells #[.int .i64 p, .slice A n c, .int .i64 q, .slice B m d] 27)).cell? ⟨w.heap.size + 1 + 1, 3, none⟩ = some (.slice B m d) := by simp [go_sem]
    replace c0 := keep_cell hb c0
    replace c1 := keep_cell hb c1
    replace e0 := keep_cell hb e0
    replace e1 := keep_cell hb e1
    replace HW := Lib.hid (below_then HW.out hb)
    clear hb
    refine (impl_checkSpaces _ _ _ _ _ xs _ _ _ ys _ (HX.out.keep (H2.out.trans (HW.out.mono H2.out.size))) (HY.out.keep (H2.out.trans (HW.out.mono H2.out.size))) _ f0 f1 f2 f3).mono ?_
    rw [HC.out]
    clear f0 f1 f2 f3
    rintro e v ⟨rfl, hb⟩
    replace c0 := keep_cell hb c0
    replace c1 := keep_cell hb c1
    replace e0 := keep_cell hb e0
    replace e1 := keep_cell hb e1
    replace HW := Lib.hid (below_then HW.out hb)
    clear hb
    go_wp2_with fail
    go_ret2
    exact ⟨rfl, (H2.out.trans (HW.out.mono H2.out.size))⟩

end Go.Proofs.Ytcieohpbeckjfaa
