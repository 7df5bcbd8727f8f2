/- Contracts: the Witt index. Conditions stand in each theorem. -/
import Derived.Test.YtcieohpbeckjfaaWitt
namespace Go.Proofs.Ytcieohpbeckjfaa
open Go.RowKit
set_option linter.unusedVariables false
set_option linter.unusedSimpArgs false

theorem spec_WittIndex (p : Int) (A : Option Addr) (n c : Nat) (xs : List Int) (w : World) (hx : Ints w A n xs) :
    Calls Try.prog 36 #[.agg #[.int .i64 p, .slice A n c]] w fun e w' => e = .returned (.tuple #[.int .i64 (wittV p xs), .int .i64 (codeR p xs)]) ∧ Below w.heap.size w w' := by
  have HX := Lib.hid hx
  have hm := hx.2.1
  have HN := Lib.hid hx.1
  clear hx
  unfold maxLen at hm
  have H2 := Lib.hid (show Below w.heap.size w (w.alloc (.cells #[.int .i64 p, .slice A n c] 27)) from (Below.refl _ _).alloc (Nat.le_refl _) _)
  by_cases hs : spaceB p xs = true
  · obtain ⟨hp, hl0, hl1, hn⟩ := spaceB_true hs
    rw [HN.out] at hl0 hl1
    have h0 := prime_lo hp
    have h1 := prime_hi hp
    have hrd := regB_disc hp hn
    have HP := Lib.hid hp
    have HM := Lib.hid hn
    have HS := Lib.hid hs
    cases hr : regB xs with
    | true =>
      have HC := Lib.hid (show codeR p xs = 0 by simp [codeR, hs, hr])
      have HV := Lib.hid (show wittV p xs = wittN p n (discN p xs) by unfold wittV; rw [if_pos HC.out, HN.out])
      rw [HV.out, HC.out]
      have hdz : (discN p xs == 0) = false := by rw [hr] at hrd; simpa using hrd
      have HR := Lib.hid hr
      clear hp hn hrd hr hs
      go_enter Try.func36, Try.ntmps36
      have c0 : (w.alloc (.cells #[.int .i64 p, .slice A n c] 27)).cell? ⟨w.heap.size, 0, none⟩ = some (.int .i64 p) := by simp [go_sem]
      have c1 : (w.alloc (.cells #[.int .i64 p, .slice A n c] 27)).cell? ⟨w.heap.size, 1, none⟩ = some (.slice A n c) := by simp [go_sem]
      have HW := Lib.hid (Below.refl (w.alloc (.cells #[.int .i64 p, .slice A n c] 27)).heap.size (w.alloc (.cells #[.int .i64 p, .slice A n c] 27)))
      go_wp2_with fail
      refine (spec_l03Is _ _ _ _ xs _ (HX.out.keep (H2.out.trans (HW.out.mono H2.out.size)))).mono ?_
      rw [HS.out]
      rintro e v ⟨rfl, hb⟩
      replace c0 := keep_cell hb c0
      replace c1 := keep_cell hb c1
      replace HW := Lib.hid (below_then HW.out hb)
      clear hb
      go_wp2_with fail
      refine (spec_l03Disc _ _ _ _ xs _ (HX.out.keep (H2.out.trans (HW.out.mono H2.out.size))) HP.out HM.out).mono ?_
      rintro e v ⟨rfl, hb⟩
      replace c0 := keep_cell hb c0
      replace c1 := keep_cell hb c1
      replace HW := Lib.hid (below_then HW.out hb)
      clear hb
      go_wp2_with fail
      refine (spec_l03Witt _ _ _ _ xs _ (HX.out.keep (H2.out.trans (HW.out.mono H2.out.size))) HP.out hl0 hl1 HM.out).mono ?_
      rintro e v ⟨rfl, hb⟩
      replace c0 := keep_cell hb c0
      replace c1 := keep_cell hb c1
      replace HW := Lib.hid (below_then HW.out hb)
      clear hb
      go_wp2_with fail
      go_ret2
      exact ⟨rfl, (H2.out.trans (HW.out.mono H2.out.size))⟩
    | false =>
      have HC := Lib.hid (show codeR p xs = 5 by simp [codeR, hs, hr])
      have HV := Lib.hid (show wittV p xs = 0 by unfold wittV; rw [if_neg (by rw [HC.out]; omega)])
      rw [HV.out, HC.out]
      have hdz : (discN p xs == 0) = true := by rw [hr] at hrd; simpa using hrd
      have HR := Lib.hid hr
      clear hp hn hrd hr hs
      go_enter Try.func36, Try.ntmps36
      have c0 : (w.alloc (.cells #[.int .i64 p, .slice A n c] 27)).cell? ⟨w.heap.size, 0, none⟩ = some (.int .i64 p) := by simp [go_sem]
      have c1 : (w.alloc (.cells #[.int .i64 p, .slice A n c] 27)).cell? ⟨w.heap.size, 1, none⟩ = some (.slice A n c) := by simp [go_sem]
      have HW := Lib.hid (Below.refl (w.alloc (.cells #[.int .i64 p, .slice A n c] 27)).heap.size (w.alloc (.cells #[.int .i64 p, .slice A n c] 27)))
      go_wp2_with fail
      refine (spec_l03Is _ _ _ _ xs _ (HX.out.keep (H2.out.trans (HW.out.mono H2.out.size)))).mono ?_
      rw [HS.out]
      rintro e v ⟨rfl, hb⟩
      replace c0 := keep_cell hb c0
      replace c1 := keep_cell hb c1
      replace HW := Lib.hid (below_then HW.out hb)
      clear hb
      go_wp2_with fail
      refine (spec_l03Disc _ _ _ _ xs _ (HX.out.keep (H2.out.trans (HW.out.mono H2.out.size))) HP.out HM.out).mono ?_
      rintro e v ⟨rfl, hb⟩
      replace c0 := keep_cell hb c0
      replace c1 := keep_cell hb c1
      replace HW := Lib.hid (below_then HW.out hb)
      clear hb
      go_wp2_with fail
      go_ret2
      exact ⟨rfl, (H2.out.trans (HW.out.mono H2.out.size))⟩
  · have hs' : spaceB p xs = false := by simpa using hs
    have HC := Lib.hid (show codeR p xs = 1 by simp [codeR, hs'])
    have HV := Lib.hid (show wittV p xs = 0 by unfold wittV; rw [if_neg (by rw [HC.out]; omega)])
    rw [HV.out, HC.out]
    have HS := Lib.hid hs'
    clear hs
    go_enter Try.func36, Try.ntmps36
    have c0 : (w.alloc (.cells #[.int .i64 p, .slice A n c] 27)).cell? ⟨w.heap.size, 0, none⟩ = some (.int .i64 p) := by simp [go_sem]
    have c1 : (w.alloc (.cells #[.int .i64 p, .slice A n c] 27)).cell? ⟨w.heap.size, 1, none⟩ = some (.slice A n c) := by simp [go_sem]
    have HW := Lib.hid (Below.refl (w.alloc (.cells #[.int .i64 p, .slice A n c] 27)).heap.size (w.alloc (.cells #[.int .i64 p, .slice A n c] 27)))
    go_wp2_with fail
    refine (spec_l03Is _ _ _ _ xs _ (HX.out.keep (H2.out.trans (HW.out.mono H2.out.size)))).mono ?_
    rw [HS.out]
    rintro e v ⟨rfl, hb⟩
    replace c0 := keep_cell hb c0
    replace c1 := keep_cell hb c1
    replace HW := Lib.hid (below_then HW.out hb)
    clear hb
    go_wp2_with fail
    go_ret2
    exact ⟨rfl, (H2.out.trans (HW.out.mono H2.out.size))⟩

set_option maxHeartbeats 2000000 in
theorem impl_WittIndex (p : Int) (A : Option Addr) (n c : Nat) (xs : List Int) (w : World) (hx : Ints w A n xs) :
    Calls Try.prog 37 #[.agg #[.int .i64 p, .slice A n c]] w fun e w' => e = .returned (.tuple #[.int .i64 (wittV p xs), .int .i64 (codeR p xs)]) ∧ Below w.heap.size w w' := by
  have HX := Lib.hid hx
  have hm := hx.2.1
  have HN := Lib.hid hx.1
  clear hx
  unfold maxLen at hm
  have H2 := Lib.hid (show Below w.heap.size w (w.alloc (.cells #[.int .i64 p, .slice A n c] 27)) from (Below.refl _ _).alloc (Nat.le_refl _) _)
  by_cases hs : spaceB p xs = true
  · obtain ⟨hp, hl0, hl1, hn⟩ := spaceB_true hs
    rw [HN.out] at hl0 hl1
    have h0 := prime_lo hp
    have h1 := prime_hi hp
    have hrd := regB_disc hp hn
    have HP := Lib.hid hp
    have HM := Lib.hid hn
    have HS := Lib.hid hs
    cases hr : regB xs with
    | true =>
      have HC := Lib.hid (show codeR p xs = 0 by simp [codeR, hs, hr])
      have HV := Lib.hid (show wittV p xs = wittN p n (discN p xs) by unfold wittV; rw [if_pos HC.out, HN.out])
      rw [HV.out, HC.out]
      have hdz : (discN p xs == 0) = false := by rw [hr] at hrd; simpa using hrd
      have HR := Lib.hid hr
      clear hp hn hrd hr hs
      have hd := discN_bounds h0 xs
      have hd0 := hd.1
      have hd1 := hd.2
      clear hd
      by_cases ho : (n : Int) % 2 = 1
      · have HV2 := Lib.hid (show wittN p n (discN p xs) = n / 2 by unfold wittN; rw [if_pos ho])
        rw [HV2.out]
        have q1 : (n : Int).tmod 2 = 1 := by rw [Int.tmod_eq_emod_of_nonneg (by omega)]; exact ho
        have q2 : ((n : Int) % 2 == 0) = false := by simp; omega
        have q3 : (n : Int) % 2 = 1 := ho
        have q8 : IntKind.i64.wrap 1 = 1 := by decide
        clear ho
        go_enter Try.func37, Try.ntmps37
        have c0 : (w.alloc (.cells #[.int .i64 p, .slice A n c] 27)).cell? ⟨w.heap.size, 0, none⟩ = some (.int .i64 p) := by simp [go_sem]
        have c1 : (w.alloc (.cells #[.int .i64 p, .slice A n c] 27)).cell? ⟨w.heap.size, 1, none⟩ = some (.slice A n c) := by simp [go_sem]
        have HW := Lib.hid (Below.refl (w.alloc (.cells #[.int .i64 p, .slice A n c] 27)).heap.size (w.alloc (.cells #[.int .i64 p, .slice A n c] 27)))
        go_wp2_with fail
        refine (impl_IsSpace _ _ _ _ xs _ (HX.out.keep (H2.out.trans (HW.out.mono H2.out.size)))).mono ?_
        rw [HS.out]
        rintro e v ⟨rfl, hb⟩
        replace c0 := keep_cell hb c0
        replace c1 := keep_cell hb c1
        replace HW := Lib.hid (below_then HW.out hb)
        clear hb
        go_wp2_with fail
        refine (Space_regular _ _ _ _ xs _ (HX.out.keep (H2.out.trans (HW.out.mono H2.out.size)))).mono ?_
        rw [HR.out]
        rintro e v ⟨rfl, hb⟩
        replace c0 := keep_cell hb c0
        replace c1 := keep_cell hb c1
        replace HW := Lib.hid (below_then HW.out hb)
        clear hb
        go_wp2_with fail
        refine (Space_dim _ _ _ _ _).mono ?_
        rintro e v ⟨rfl, hb⟩
        replace c0 := keep_cell hb c0
        replace c1 := keep_cell hb c1
        replace HW := Lib.hid (below_then HW.out hb)
        clear hb
        go_wp2_with fail
        refine wp_region_held_drew (S := (fun w' => w'.cell? ⟨w.heap.size, 0, none⟩ = some (.int .i64 p) ∧ w'.cell? ⟨w.heap.size, 1, none⟩ = some (.slice A n c) ∧ Below (w.alloc (.cells #[.int .i64 p, .slice A n c] 27)).heap.size (w.alloc (.cells #[.int .i64 p, .slice A n c] 27)) w')) (by kernel_rfl) ?_ (fun hHeld0 => ?_)
        · exact ⟨c0, c1, HW.out.drew⟩
        refine wpAnyH_take (i := 0) (oi := ({ dst := some 14, op := Op.load 27 (Operand.tmp 1), type := 27, pos := "l03_spaces.go:182", after := #[], guard := none } : Oper)) (v := ?_) rfl (by kernel_rfl) (by kernel_rfl) (by kernel_rfl) (fun _ _ _ h => h) (Or.inl ⟨by rfl, ?_⟩) (by assumption) ?_
        rotate_left
        · (intro w hSw; (try dsimp only at hSw); go_simp; (try with_reducible rfl))
        try simp only [Act.put, List.setIfInBounds_toArray, List.set_cons_zero, List.set_cons_succ]
        refine wpAnyH_ready (rs := [1]) (by kernel_rfl) (by simp) ?_
        refine AllReadyH.cons (o := ({ dst := some 15, op := Op.call { callee := Callee.value (Operand.func 67), args := #[Operand.tmp 14], argTypes := #[27] }, type := 3, pos := "l03_spaces.go:182", after := #[{ on := 0, ground := Ground.data }], guard := none } : Oper)) rfl (fun K hK => ?_) AllReadyH.nil
        go_simp
        go_at_call 67; refine (Space_dim _ _ _ _ _).mono ?_; rintro e vz ⟨rfl, hbz⟩
        (try go_wp2_with fail)
        refine hK.out _ _ ?_ (fun hHeld1 => ?_)
        · (try dsimp only)
          exact ⟨keep_cell hbz hHeld0.1, keep_cell hbz hHeld0.2.1, below_then hHeld0.2.2 hbz⟩
        clear hK K hHeld0
        try simp only [Act.put, List.setIfInBounds_toArray, List.set_cons_zero, List.set_cons_succ]
        refine wpAnyH_take (i := 2) (oi := ({ dst := some 16, op := Op.binOp BinOp.rem 3 (Operand.tmp 15) (Operand.const (Value.int IntKind.i64 2)) 3, type := 3, pos := "l03_spaces.go:182", after := #[{ on := 1, ground := Ground.data }], guard := none } : Oper)) (v := ?_) rfl (by kernel_rfl) (by kernel_rfl) (by kernel_rfl) (fun _ _ _ h => h) (Or.inl ⟨by rfl, ?_⟩) (by assumption) ?_
        rotate_left
        · (intro w hSw; (try dsimp only at hSw); go_simp; (try with_reducible rfl))
        try simp only [Act.put, List.setIfInBounds_toArray, List.set_cons_zero, List.set_cons_succ]
        refine wpAnyH_take (i := 3) (oi := ({ dst := some 17, op := Op.binOp BinOp.eql 3 (Operand.tmp 16) (Operand.const (Value.int IntKind.i64 0)) 3, type := 4, pos := "l03_spaces.go:182", after := #[{ on := 2, ground := Ground.data }], guard := none } : Oper)) (v := ?_) rfl (by kernel_rfl) (by kernel_rfl) (by kernel_rfl) (fun _ _ _ h => h) (Or.inl ⟨by rfl, ?_⟩) (by assumption) ?_
        rotate_left
        · (intro w hSw; (try dsimp only at hSw); go_simp; (try with_reducible rfl))
        try simp only [Act.put, List.setIfInBounds_toArray, List.set_cons_zero, List.set_cons_succ]
        refine wpAnyH_take (i := 4) (oi := ({ dst := some 18, op := Op.move (Operand.tmp 17), type := 4, pos := "l03_spaces.go:182", after := #[{ on := 3, ground := Ground.data }, { on := 1, ground := Ground.chain }], guard := none } : Oper)) (v := ?_) rfl (by kernel_rfl) (by kernel_rfl) (by kernel_rfl) (fun _ _ _ h => h) (Or.inl ⟨by rfl, ?_⟩) (by assumption) ?_
        rotate_left
        · (intro w hSw; (try dsimp only at hSw); go_simp; (try with_reducible rfl))
        try simp only [Act.put, List.setIfInBounds_toArray, List.set_cons_zero, List.set_cons_succ]
        refine wpAnyH_take (i := 5) (oi := ({ dst := some 19, op := Op.load 27 (Operand.tmp 1), type := 27, pos := "l03_spaces.go:182", after := #[{ on := 4, ground := Ground.guard }], guard := some (4, true) } : Oper)) (v := undef) rfl (by kernel_rfl) (by kernel_rfl) (by kernel_rfl) (fun _ _ _ h => h) (Or.inr ⟨by rfl, rfl⟩) (by assumption) ?_
        try simp only [Act.put, List.setIfInBounds_toArray, List.set_cons_zero, List.set_cons_succ]
        refine wpAnyH_take (i := 6) (oi := ({ dst := some 20, op := Op.call { callee := Callee.value (Operand.func 49), args := #[Operand.tmp 19], argTypes := #[27] }, type := 50, pos := "l03_spaces.go:182", after := #[{ on := 5, ground := Ground.data }, { on := 4, ground := Ground.chain }, { on := 4, ground := Ground.guard }], guard := some (4, true) } : Oper)) (v := undef) rfl (by kernel_rfl) (by kernel_rfl) (by kernel_rfl) (fun _ _ _ h => h) (Or.inr ⟨by rfl, rfl⟩) (by assumption) ?_
        try simp only [Act.put, List.setIfInBounds_toArray, List.set_cons_zero, List.set_cons_succ]
        refine wpAnyH_take (i := 7) (oi := ({ dst := some 21, op := Op.load 27 (Operand.tmp 1), type := 27, pos := "l03_spaces.go:182", after := #[{ on := 4, ground := Ground.guard }], guard := some (4, true) } : Oper)) (v := undef) rfl (by kernel_rfl) (by kernel_rfl) (by kernel_rfl) (fun _ _ _ h => h) (Or.inr ⟨by rfl, rfl⟩) (by assumption) ?_
        try simp only [Act.put, List.setIfInBounds_toArray, List.set_cons_zero, List.set_cons_succ]
        refine wpAnyH_take (i := 8) (oi := ({ dst := some 22, op := Op.call { callee := Callee.value (Operand.func 49), args := #[Operand.tmp 21], argTypes := #[27] }, type := 50, pos := "l03_spaces.go:182", after := #[{ on := 7, ground := Ground.data }, { on := 6, ground := Ground.chain }, { on := 4, ground := Ground.guard }], guard := some (4, true) } : Oper)) (v := undef) rfl (by kernel_rfl) (by kernel_rfl) (by kernel_rfl) (fun _ _ _ h => h) (Or.inr ⟨by rfl, rfl⟩) (by assumption) ?_
        try simp only [Act.put, List.setIfInBounds_toArray, List.set_cons_zero, List.set_cons_succ]
        refine wpAnyH_take (i := 9) (oi := ({ dst := some 23, op := Op.load 27 (Operand.tmp 1), type := 27, pos := "l03_spaces.go:182", after := #[{ on := 4, ground := Ground.guard }], guard := some (4, true) } : Oper)) (v := undef) rfl (by kernel_rfl) (by kernel_rfl) (by kernel_rfl) (fun _ _ _ h => h) (Or.inr ⟨by rfl, rfl⟩) (by assumption) ?_
        try simp only [Act.put, List.setIfInBounds_toArray, List.set_cons_zero, List.set_cons_succ]
        refine wpAnyH_take (i := 10) (oi := ({ dst := some 24, op := Op.call { callee := Callee.value (Operand.func 54), args := #[Operand.tmp 23], argTypes := #[27] }, type := 2, pos := "l03_spaces.go:182", after := #[{ on := 9, ground := Ground.data }, { on := 8, ground := Ground.chain }, { on := 4, ground := Ground.guard }], guard := some (4, true) } : Oper)) (v := undef) rfl (by kernel_rfl) (by kernel_rfl) (by kernel_rfl) (fun _ _ _ h => h) (Or.inr ⟨by rfl, rfl⟩) (by assumption) ?_
        try simp only [Act.put, List.setIfInBounds_toArray, List.set_cons_zero, List.set_cons_succ]
        refine wpAnyH_take (i := 11) (oi := ({ dst := some 25, op := Op.move (Operand.tmp 4), type := 2, pos := "l03_spaces.go:182", after := #[{ on := 4, ground := Ground.guard }], guard := some (4, true) } : Oper)) (v := undef) rfl (by kernel_rfl) (by kernel_rfl) (by kernel_rfl) (fun _ _ _ h => h) (Or.inr ⟨by rfl, rfl⟩) (by assumption) ?_
        try simp only [Act.put, List.setIfInBounds_toArray, List.set_cons_zero, List.set_cons_succ]
        refine wpAnyH_take (i := 12) (oi := ({ dst := some 26, op := Op.binOp BinOp.rem 2 (Operand.tmp 25) (Operand.const (Value.int IntKind.i64 2)) 2, type := 2, pos := "l03_spaces.go:182", after := #[{ on := 11, ground := Ground.data }, { on := 4, ground := Ground.guard }], guard := some (4, true) } : Oper)) (v := undef) rfl (by kernel_rfl) (by kernel_rfl) (by kernel_rfl) (fun _ _ _ h => h) (Or.inr ⟨by rfl, rfl⟩) (by assumption) ?_
        try simp only [Act.put, List.setIfInBounds_toArray, List.set_cons_zero, List.set_cons_succ]
        refine wpAnyH_take (i := 13) (oi := ({ dst := some 27, op := Op.binOp BinOp.mul 2 (Operand.const (Value.int IntKind.i64 2)) (Operand.tmp 26) 2, type := 2, pos := "l03_spaces.go:182", after := #[{ on := 12, ground := Ground.data }, { on := 4, ground := Ground.guard }], guard := some (4, true) } : Oper)) (v := undef) rfl (by kernel_rfl) (by kernel_rfl) (by kernel_rfl) (fun _ _ _ h => h) (Or.inr ⟨by rfl, rfl⟩) (by assumption) ?_
        try simp only [Act.put, List.setIfInBounds_toArray, List.set_cons_zero, List.set_cons_succ]
        refine wpAnyH_take (i := 14) (oi := ({ dst := some 28, op := Op.binOp BinOp.sub 2 (Operand.const (Value.int IntKind.i64 1)) (Operand.tmp 27) 2, type := 2, pos := "l03_spaces.go:182", after := #[{ on := 13, ground := Ground.data }, { on := 4, ground := Ground.guard }], guard := some (4, true) } : Oper)) (v := undef) rfl (by kernel_rfl) (by kernel_rfl) (by kernel_rfl) (fun _ _ _ h => h) (Or.inr ⟨by rfl, rfl⟩) (by assumption) ?_
        try simp only [Act.put, List.setIfInBounds_toArray, List.set_cons_zero, List.set_cons_succ]
        refine wpAnyH_take (i := 15) (oi := ({ dst := some 29, op := Op.binOp BinOp.mul 2 (Operand.tmp 24) (Operand.tmp 28) 2, type := 2, pos := "l03_spaces.go:182", after := #[{ on := 10, ground := Ground.data }, { on := 14, ground := Ground.data }, { on := 4, ground := Ground.guard }], guard := some (4, true) } : Oper)) (v := undef) rfl (by kernel_rfl) (by kernel_rfl) (by kernel_rfl) (fun _ _ _ h => h) (Or.inr ⟨by rfl, rfl⟩) (by assumption) ?_
        try simp only [Act.put, List.setIfInBounds_toArray, List.set_cons_zero, List.set_cons_succ]
        refine wpAnyH_take (i := 16) (oi := ({ dst := some 30, op := Op.call { callee := Callee.value (Operand.func 58), args := #[Operand.tmp 22, Operand.tmp 29], argTypes := #[50, 2] }, type := 2, pos := "l03_spaces.go:182", after := #[{ on := 8, ground := Ground.data }, { on := 15, ground := Ground.data }, { on := 10, ground := Ground.chain }, { on := 4, ground := Ground.guard }], guard := some (4, true) } : Oper)) (v := undef) rfl (by kernel_rfl) (by kernel_rfl) (by kernel_rfl) (fun _ _ _ h => h) (Or.inr ⟨by rfl, rfl⟩) (by assumption) ?_
        try simp only [Act.put, List.setIfInBounds_toArray, List.set_cons_zero, List.set_cons_succ]
        refine wpAnyH_take (i := 17) (oi := ({ dst := some 31, op := Op.call { callee := Callee.value (Operand.func 68), args := #[Operand.tmp 20, Operand.tmp 30], argTypes := #[50, 2] }, type := 4, pos := "l03_spaces.go:182", after := #[{ on := 6, ground := Ground.data }, { on := 16, ground := Ground.data }, { on := 16, ground := Ground.chain }, { on := 4, ground := Ground.guard }], guard := some (4, true) } : Oper)) (v := undef) rfl (by kernel_rfl) (by kernel_rfl) (by kernel_rfl) (fun _ _ _ h => h) (Or.inr ⟨by rfl, rfl⟩) (by assumption) ?_
        try simp only [Act.put, List.setIfInBounds_toArray, List.set_cons_zero, List.set_cons_succ]
        refine wpAnyH_take (i := 18) (oi := ({ dst := some 32, op := Op.unOp UnOp.not 4 (Operand.tmp 31), type := 4, pos := "l03_spaces.go:182", after := #[{ on := 17, ground := Ground.data }, { on := 4, ground := Ground.guard }], guard := some (4, true) } : Oper)) (v := undef) rfl (by kernel_rfl) (by kernel_rfl) (by kernel_rfl) (fun _ _ _ h => h) (Or.inr ⟨by rfl, rfl⟩) (by assumption) ?_
        try simp only [Act.put, List.setIfInBounds_toArray, List.set_cons_zero, List.set_cons_succ]
        refine wpAnyH_take (i := 19) (oi := ({ dst := some 33, op := Op.pick (Operand.tmp 18) (Operand.tmp 32) (Operand.const (Value.bool false)), type := 4, pos := "l03_spaces.go:182", after := #[{ on := 4, ground := Ground.data }, { on := 18, ground := Ground.data }], guard := none } : Oper)) (v := ?_) rfl (by kernel_rfl) (by kernel_rfl) (by kernel_rfl) (fun _ _ _ h => h) (Or.inl ⟨by rfl, ?_⟩) (by assumption) ?_
        rotate_left
        · (intro w hSw; (try dsimp only at hSw); go_simp; (try with_reducible rfl))
        try simp only [Act.put, List.setIfInBounds_toArray, List.set_cons_zero, List.set_cons_succ]
        refine wpAnyH_done (by kernel_rfl) ?_ _
        obtain ⟨c0, c1, hbw⟩ := hHeld1
        replace HW := Lib.hid hbw
        clear hbw
        all_goals
          go_wp2
          go_ret2
          exact ⟨rfl, (H2.out.trans (HW.out.mono H2.out.size))⟩
      · have q1 : (n : Int).tmod 2 = 0 := by rw [Int.tmod_eq_emod_of_nonneg (by omega)]; omega
        by_cases hk : (n : Int) / 2 % 2 = 1
        · have HV2 := Lib.hid (show wittN p n (discN p xs) = if 0 ≤ rootN p ((p - discN p xs) % p) then (n : Int) / 2 else n / 2 - 1 by unfold wittN; rw [if_neg ho, if_pos hk])
          by_cases hr : 0 ≤ rootN p ((p - discN p xs) % p)
          · have HV3 := Lib.hid (HV2.out.trans (if_pos hr))
            rw [HV3.out]
            have q4 : ((n : Int) / 2).tmod 2 = 1 := by rw [Int.tmod_eq_emod_of_nonneg (by omega)]; omega
            have q5 : IntKind.i64.wrap 2 = 2 := by decide
            have q6 : IntKind.i64.wrap (-1) = -1 := by decide
            have q7 : IntKind.i64.wrap 0 = 0 := by decide
            have q8 : IntKind.i64.wrap 1 = 1 := by decide
            have q9 : IntKind.i64.wrap (-discN p xs) = -discN p xs := IntWalk.i64_in _ (by omega)
            have q10 : IntKind.i64.wrap (discN p xs) = discN p xs := IntWalk.i64_in _ (by omega)
            have HO := Lib.hid (show okB (rootN p ((-discN p xs) % p)) = true by rw [neg_mod]; unfold okB; exact decide_eq_true hr)
            clear hk ho hr
            go_enter Try.func37, Try.ntmps37
            have c0 : (w.alloc (.cells #[.int .i64 p, .slice A n c] 27)).cell? ⟨w.heap.size, 0, none⟩ = some (.int .i64 p) := by simp [go_sem]
            have c1 : (w.alloc (.cells #[.int .i64 p, .slice A n c] 27)).cell? ⟨w.heap.size, 1, none⟩ = some (.slice A n c) := by simp [go_sem]
            have HW := Lib.hid (Below.refl (w.alloc (.cells #[.int .i64 p, .slice A n c] 27)).heap.size (w.alloc (.cells #[.int .i64 p, .slice A n c] 27)))
            go_wp2_with fail
            refine (impl_IsSpace _ _ _ _ xs _ (HX.out.keep (H2.out.trans (HW.out.mono H2.out.size)))).mono ?_
            rw [HS.out]
            rintro e v ⟨rfl, hb⟩
            replace c0 := keep_cell hb c0
            replace c1 := keep_cell hb c1
            replace HW := Lib.hid (below_then HW.out hb)
            clear hb
            go_wp2_with fail
            refine (Space_regular _ _ _ _ xs _ (HX.out.keep (H2.out.trans (HW.out.mono H2.out.size)))).mono ?_
            rw [HR.out]
            rintro e v ⟨rfl, hb⟩
            replace c0 := keep_cell hb c0
            replace c1 := keep_cell hb c1
            replace HW := Lib.hid (below_then HW.out hb)
            clear hb
            go_wp2_with fail
            refine (Space_dim _ _ _ _ _).mono ?_
            rintro e v ⟨rfl, hb⟩
            replace c0 := keep_cell hb c0
            replace c1 := keep_cell hb c1
            replace HW := Lib.hid (below_then HW.out hb)
            clear hb
            go_wp2_with fail
            go_region_held3 (fun w' => w'.cell? ⟨w.heap.size, 0, none⟩ = some (.int .i64 p) ∧ w'.cell? ⟨w.heap.size, 1, none⟩ = some (.slice A n c) ∧ Ints w' A n xs ∧ Below (w.alloc (.cells #[.int .i64 p, .slice A n c] 27)).heap.size (w.alloc (.cells #[.int .i64 p, .slice A n c] 27)) w')
              (first
                | exact ⟨c0, c1, Ints.drew (HX.out.keep (H2.out.trans (HW.out.mono H2.out.size))), HW.out.drew⟩
                | (go_split_ands; exact ⟨‹_›, ‹_›, ‹_›, ‹_›⟩)
                | (go_split_ands; exact ⟨keep_cell hbz ‹_›, keep_cell hbz ‹_›, Ints.keep ‹_› hbz, below_then ‹_› hbz⟩)
                | go_keep)
              (first
                | (go_at_call 67; refine (Space_dim _ _ _ _ _).mono ?_; rintro e vz ⟨rfl, hbz⟩)
                | (go_at_call 49; refine (Space_field _ _ _ _ _).mono ?_; rintro e vz ⟨rfl, hbz⟩)
                | (go_at_call 54; refine (Space_discriminant _ _ _ _ xs _ (by go_split_ands; assumption) HP.out HM.out).mono ?_; rintro e vz ⟨rfl, hbz⟩)
                | (go_at_call 58; refine (impl_num _ _ _ (by omega) (by omega)).mono ?_; rintro e w' ⟨rfl, rfl⟩)
                | (go_at_call 68; refine (impl_isSquare _ _ _ h0 h1).mono ?_; rw [HO.out]; rintro e w' ⟨rfl, rfl⟩))
            rename_i hh
            obtain ⟨c0, c1, jq, hbw⟩ := hh
            replace HW := Lib.hid hbw
            clear hbw jq 
            all_goals
              go_wp2
              go_ret2
              exact ⟨rfl, (H2.out.trans (HW.out.mono H2.out.size))⟩
          · have HV3 := Lib.hid (HV2.out.trans (if_neg hr))
            rw [HV3.out]
            have q4 : ((n : Int) / 2).tmod 2 = 1 := by rw [Int.tmod_eq_emod_of_nonneg (by omega)]; omega
            have q5 : IntKind.i64.wrap 2 = 2 := by decide
            have q6 : IntKind.i64.wrap (-1) = -1 := by decide
            have q7 : IntKind.i64.wrap 0 = 0 := by decide
            have q8 : IntKind.i64.wrap 1 = 1 := by decide
            have q9 : IntKind.i64.wrap (-discN p xs) = -discN p xs := IntWalk.i64_in _ (by omega)
            have q10 : IntKind.i64.wrap (discN p xs) = discN p xs := IntWalk.i64_in _ (by omega)
            have HO := Lib.hid (show okB (rootN p ((-discN p xs) % p)) = false by rw [neg_mod]; unfold okB; exact decide_eq_false hr)
            clear hk ho hr
            go_enter Try.func37, Try.ntmps37
            have c0 : (w.alloc (.cells #[.int .i64 p, .slice A n c] 27)).cell? ⟨w.heap.size, 0, none⟩ = some (.int .i64 p) := by simp [go_sem]
            have c1 : (w.alloc (.cells #[.int .i64 p, .slice A n c] 27)).cell? ⟨w.heap.size, 1, none⟩ = some (.slice A n c) := by simp [go_sem]
            have HW := Lib.hid (Below.refl (w.alloc (.cells #[.int .i64 p, .slice A n c] 27)).heap.size (w.alloc (.cells #[.int .i64 p, .slice A n c] 27)))
            go_wp2_with fail
            refine (impl_IsSpace _ _ _ _ xs _ (HX.out.keep (H2.out.trans (HW.out.mono H2.out.size)))).mono ?_
            rw [HS.out]
            rintro e v ⟨rfl, hb⟩
            replace c0 := keep_cell hb c0
            replace c1 := keep_cell hb c1
            replace HW := Lib.hid (below_then HW.out hb)
            clear hb
            go_wp2_with fail
            refine (Space_regular _ _ _ _ xs _ (HX.out.keep (H2.out.trans (HW.out.mono H2.out.size)))).mono ?_
            rw [HR.out]
            rintro e v ⟨rfl, hb⟩
            replace c0 := keep_cell hb c0
            replace c1 := keep_cell hb c1
            replace HW := Lib.hid (below_then HW.out hb)
            clear hb
            go_wp2_with fail
            refine (Space_dim _ _ _ _ _).mono ?_
            rintro e v ⟨rfl, hb⟩
            replace c0 := keep_cell hb c0
            replace c1 := keep_cell hb c1
            replace HW := Lib.hid (below_then HW.out hb)
            clear hb
            go_wp2_with fail
            go_region_held3 (fun w' => w'.cell? ⟨w.heap.size, 0, none⟩ = some (.int .i64 p) ∧ w'.cell? ⟨w.heap.size, 1, none⟩ = some (.slice A n c) ∧ Ints w' A n xs ∧ Below (w.alloc (.cells #[.int .i64 p, .slice A n c] 27)).heap.size (w.alloc (.cells #[.int .i64 p, .slice A n c] 27)) w')
              (first
                | exact ⟨c0, c1, Ints.drew (HX.out.keep (H2.out.trans (HW.out.mono H2.out.size))), HW.out.drew⟩
                | (go_split_ands; exact ⟨‹_›, ‹_›, ‹_›, ‹_›⟩)
                | (go_split_ands; exact ⟨keep_cell hbz ‹_›, keep_cell hbz ‹_›, Ints.keep ‹_› hbz, below_then ‹_› hbz⟩)
                | go_keep)
              (first
                | (go_at_call 67; refine (Space_dim _ _ _ _ _).mono ?_; rintro e vz ⟨rfl, hbz⟩)
                | (go_at_call 49; refine (Space_field _ _ _ _ _).mono ?_; rintro e vz ⟨rfl, hbz⟩)
                | (go_at_call 54; refine (Space_discriminant _ _ _ _ xs _ (by go_split_ands; assumption) HP.out HM.out).mono ?_; rintro e vz ⟨rfl, hbz⟩)
                | (go_at_call 58; refine (impl_num _ _ _ (by omega) (by omega)).mono ?_; rintro e w' ⟨rfl, rfl⟩)
                | (go_at_call 68; refine (impl_isSquare _ _ _ h0 h1).mono ?_; rw [HO.out]; rintro e w' ⟨rfl, rfl⟩))
            rename_i hh
            obtain ⟨c0, c1, jq, hbw⟩ := hh
            replace HW := Lib.hid hbw
            clear hbw jq 
            all_goals
              go_wp2
              go_ret2
              exact ⟨rfl, (H2.out.trans (HW.out.mono H2.out.size))⟩
        · have HV2 := Lib.hid (show wittN p n (discN p xs) = if 0 ≤ rootN p (discN p xs) then (n : Int) / 2 else n / 2 - 1 by unfold wittN; rw [if_neg ho, if_neg hk])
          by_cases hr : 0 ≤ rootN p (discN p xs)
          · have HV3 := Lib.hid (HV2.out.trans (if_pos hr))
            rw [HV3.out]
            have q4 : ((n : Int) / 2).tmod 2 = 0 := by rw [Int.tmod_eq_emod_of_nonneg (by omega)]; omega
            have q5 : IntKind.i64.wrap 2 = 2 := by decide
            have q6 : IntKind.i64.wrap (-1) = -1 := by decide
            have q7 : IntKind.i64.wrap 0 = 0 := by decide
            have q8 : IntKind.i64.wrap 1 = 1 := by decide
            have q9 : IntKind.i64.wrap (-discN p xs) = -discN p xs := IntWalk.i64_in _ (by omega)
            have q10 : IntKind.i64.wrap (discN p xs) = discN p xs := IntWalk.i64_in _ (by omega)
            have HO := Lib.hid (show okB (rootN p ((discN p xs) % p)) = true by rw [mod_self_of hd0 hd1]; unfold okB; exact decide_eq_true hr)
            clear hk ho hr
            go_enter Try.func37, Try.ntmps37
            have c0 : (w.alloc (.cells #[.int .i64 p, .slice A n c] 27)).cell? ⟨w.heap.size, 0, none⟩ = some (.int .i64 p) := by simp [go_sem]
            have c1 : (w.alloc (.cells #[.int .i64 p, .slice A n c] 27)).cell? ⟨w.heap.size, 1, none⟩ = some (.slice A n c) := by simp [go_sem]
            have HW := Lib.hid (Below.refl (w.alloc (.cells #[.int .i64 p, .slice A n c] 27)).heap.size (w.alloc (.cells #[.int .i64 p, .slice A n c] 27)))
            go_wp2_with fail
            refine (impl_IsSpace _ _ _ _ xs _ (HX.out.keep (H2.out.trans (HW.out.mono H2.out.size)))).mono ?_
            rw [HS.out]
            rintro e v ⟨rfl, hb⟩
            replace c0 := keep_cell hb c0
            replace c1 := keep_cell hb c1
            replace HW := Lib.hid (below_then HW.out hb)
            clear hb
            go_wp2_with fail
            refine (Space_regular _ _ _ _ xs _ (HX.out.keep (H2.out.trans (HW.out.mono H2.out.size)))).mono ?_
            rw [HR.out]
            rintro e v ⟨rfl, hb⟩
            replace c0 := keep_cell hb c0
            replace c1 := keep_cell hb c1
            replace HW := Lib.hid (below_then HW.out hb)
            clear hb
            go_wp2_with fail
            refine (Space_dim _ _ _ _ _).mono ?_
            rintro e v ⟨rfl, hb⟩
            replace c0 := keep_cell hb c0
            replace c1 := keep_cell hb c1
            replace HW := Lib.hid (below_then HW.out hb)
            clear hb
            go_wp2_with fail
            go_region_held3 (fun w' => w'.cell? ⟨w.heap.size, 0, none⟩ = some (.int .i64 p) ∧ w'.cell? ⟨w.heap.size, 1, none⟩ = some (.slice A n c) ∧ Ints w' A n xs ∧ Below (w.alloc (.cells #[.int .i64 p, .slice A n c] 27)).heap.size (w.alloc (.cells #[.int .i64 p, .slice A n c] 27)) w')
              (first
                | exact ⟨c0, c1, Ints.drew (HX.out.keep (H2.out.trans (HW.out.mono H2.out.size))), HW.out.drew⟩
                | (go_split_ands; exact ⟨‹_›, ‹_›, ‹_›, ‹_›⟩)
                | (go_split_ands; exact ⟨keep_cell hbz ‹_›, keep_cell hbz ‹_›, Ints.keep ‹_› hbz, below_then ‹_› hbz⟩)
                | go_keep)
              (first
                | (go_at_call 67; refine (Space_dim _ _ _ _ _).mono ?_; rintro e vz ⟨rfl, hbz⟩)
                | (go_at_call 49; refine (Space_field _ _ _ _ _).mono ?_; rintro e vz ⟨rfl, hbz⟩)
                | (go_at_call 54; refine (Space_discriminant _ _ _ _ xs _ (by go_split_ands; assumption) HP.out HM.out).mono ?_; rintro e vz ⟨rfl, hbz⟩)
                | (go_at_call 58; refine (impl_num _ _ _ (by omega) (by omega)).mono ?_; rintro e w' ⟨rfl, rfl⟩)
                | (go_at_call 68; refine (impl_isSquare _ _ _ h0 h1).mono ?_; rw [HO.out]; rintro e w' ⟨rfl, rfl⟩))
            rename_i hh
            obtain ⟨c0, c1, jq, hbw⟩ := hh
            replace HW := Lib.hid hbw
            clear hbw jq 
            all_goals
              go_wp2
              go_ret2
              exact ⟨rfl, (H2.out.trans (HW.out.mono H2.out.size))⟩
          · have HV3 := Lib.hid (HV2.out.trans (if_neg hr))
            rw [HV3.out]
            have q4 : ((n : Int) / 2).tmod 2 = 0 := by rw [Int.tmod_eq_emod_of_nonneg (by omega)]; omega
            have q5 : IntKind.i64.wrap 2 = 2 := by decide
            have q6 : IntKind.i64.wrap (-1) = -1 := by decide
            have q7 : IntKind.i64.wrap 0 = 0 := by decide
            have q8 : IntKind.i64.wrap 1 = 1 := by decide
            have q9 : IntKind.i64.wrap (-discN p xs) = -discN p xs := IntWalk.i64_in _ (by omega)
            have q10 : IntKind.i64.wrap (discN p xs) = discN p xs := IntWalk.i64_in _ (by omega)
            have HO := Lib.hid (show okB (rootN p ((discN p xs) % p)) = false by rw [mod_self_of hd0 hd1]; unfold okB; exact decide_eq_false hr)
            clear hk ho hr
            go_enter Try.func37, Try.ntmps37
            have c0 : (w.alloc (.cells #[.int .i64 p, .slice A n c] 27)).cell? ⟨w.heap.size, 0, none⟩ = some (.int .i64 p) := by simp [go_sem]
            have c1 : (w.alloc (.cells #[.int .i64 p, .slice A n c] 27)).cell? ⟨w.heap.size, 1, none⟩ = some (.slice A n c) := by simp [go_sem]
            have HW := Lib.hid (Below.refl (w.alloc (.cells #[.int .i64 p, .slice A n c] 27)).heap.size (w.alloc (.cells #[.int .i64 p, .slice A n c] 27)))
            go_wp2_with fail
            refine (impl_IsSpace _ _ _ _ xs _ (HX.out.keep (H2.out.trans (HW.out.mono H2.out.size)))).mono ?_
            rw [HS.out]
            rintro e v ⟨rfl, hb⟩
            replace c0 := keep_cell hb c0
            replace c1 := keep_cell hb c1
            replace HW := Lib.hid (below_then HW.out hb)
            clear hb
            go_wp2_with fail
            refine (Space_regular _ _ _ _ xs _ (HX.out.keep (H2.out.trans (HW.out.mono H2.out.size)))).mono ?_
            rw [HR.out]
            rintro e v ⟨rfl, hb⟩
            replace c0 := keep_cell hb c0
            replace c1 := keep_cell hb c1
            replace HW := Lib.hid (below_then HW.out hb)
            clear hb
            go_wp2_with fail
            refine (Space_dim _ _ _ _ _).mono ?_
            rintro e v ⟨rfl, hb⟩
            replace c0 := keep_cell hb c0
            replace c1 := keep_cell hb c1
            replace HW := Lib.hid (below_then HW.out hb)
            clear hb
            go_wp2_with fail
            go_region_held3 (fun w' => w'.cell? ⟨w.heap.size, 0, none⟩ = some (.int .i64 p) ∧ w'.cell? ⟨w.heap.size, 1, none⟩ = some (.slice A n c) ∧ Ints w' A n xs ∧ Below (w.alloc (.cells #[.int .i64 p, .slice A n c] 27)).heap.size (w.alloc (.cells #[.int .i64 p, .slice A n c] 27)) w')
              (first
                | exact ⟨c0, c1, Ints.drew (HX.out.keep (H2.out.trans (HW.out.mono H2.out.size))), HW.out.drew⟩
                | (go_split_ands; exact ⟨‹_›, ‹_›, ‹_›, ‹_›⟩)
                | (go_split_ands; exact ⟨keep_cell hbz ‹_›, keep_cell hbz ‹_›, Ints.keep ‹_› hbz, below_then ‹_› hbz⟩)
                | go_keep)
              (first
                | (go_at_call 67; refine (Space_dim _ _ _ _ _).mono ?_; rintro e vz ⟨rfl, hbz⟩)
                | (go_at_call 49; refine (Space_field _ _ _ _ _).mono ?_; rintro e vz ⟨rfl, hbz⟩)
                | (go_at_call 54; refine (Space_discriminant _ _ _ _ xs _ (by go_split_ands; assumption) HP.out HM.out).mono ?_; rintro e vz ⟨rfl, hbz⟩)
                | (go_at_call 58; refine (impl_num _ _ _ (by omega) (by omega)).mono ?_; rintro e w' ⟨rfl, rfl⟩)
                | (go_at_call 68; refine (impl_isSquare _ _ _ h0 h1).mono ?_; rw [HO.out]; rintro e w' ⟨rfl, rfl⟩))
            rename_i hh
            obtain ⟨c0, c1, jq, hbw⟩ := hh
            replace HW := Lib.hid hbw
            clear hbw jq 
            all_goals
              go_wp2
              go_ret2
              exact ⟨rfl, (H2.out.trans (HW.out.mono H2.out.size))⟩
    | false =>
      have HC := Lib.hid (show codeR p xs = 5 by simp [codeR, hs, hr])
      have HV := Lib.hid (show wittV p xs = 0 by unfold wittV; rw [if_neg (by rw [HC.out]; omega)])
      rw [HV.out, HC.out]
      have hdz : (discN p xs == 0) = true := by rw [hr] at hrd; simpa using hrd
      have HR := Lib.hid hr
      clear hp hn hrd hr hs
      go_enter Try.func37, Try.ntmps37
      have c0 : (w.alloc (.cells #[.int .i64 p, .slice A n c] 27)).cell? ⟨w.heap.size, 0, none⟩ = some (.int .i64 p) := by simp [go_sem]
      have c1 : (w.alloc (.cells #[.int .i64 p, .slice A n c] 27)).cell? ⟨w.heap.size, 1, none⟩ = some (.slice A n c) := by simp [go_sem]
      have HW := Lib.hid (Below.refl (w.alloc (.cells #[.int .i64 p, .slice A n c] 27)).heap.size (w.alloc (.cells #[.int .i64 p, .slice A n c] 27)))
      go_wp2_with fail
      refine (impl_IsSpace _ _ _ _ xs _ (HX.out.keep (H2.out.trans (HW.out.mono H2.out.size)))).mono ?_
      rw [HS.out]
      rintro e v ⟨rfl, hb⟩
      replace c0 := keep_cell hb c0
      replace c1 := keep_cell hb c1
      replace HW := Lib.hid (below_then HW.out hb)
      clear hb
      go_wp2_with fail
      refine (Space_regular _ _ _ _ xs _ (HX.out.keep (H2.out.trans (HW.out.mono H2.out.size)))).mono ?_
      rw [HR.out]
      rintro e v ⟨rfl, hb⟩
      replace c0 := keep_cell hb c0
      replace c1 := keep_cell hb c1
      replace HW := Lib.hid (below_then HW.out hb)
      clear hb
      go_wp2_with fail
      go_ret2
      exact ⟨rfl, (H2.out.trans (HW.out.mono H2.out.size))⟩
  · have hs' : spaceB p xs = false := by simpa using hs
    have HC := Lib.hid (show codeR p xs = 1 by simp [codeR, hs'])
    have HV := Lib.hid (show wittV p xs = 0 by unfold wittV; rw [if_neg (by rw [HC.out]; omega)])
    rw [HV.out, HC.out]
    have HS := Lib.hid hs'
    clear hs
    go_enter Try.func37, Try.ntmps37
    have c0 : (w.alloc (.cells #[.int .i64 p, .slice A n c] 27)).cell? ⟨w.heap.size, 0, none⟩ = some (.int .i64 p) := by simp [go_sem]
    have c1 : (w.alloc (.cells #[.int .i64 p, .slice A n c] 27)).cell? ⟨w.heap.size, 1, none⟩ = some (.slice A n c) := by simp [go_sem]
    have HW := Lib.hid (Below.refl (w.alloc (.cells #[.int .i64 p, .slice A n c] 27)).heap.size (w.alloc (.cells #[.int .i64 p, .slice A n c] 27)))
    go_wp2_with fail
    refine (impl_IsSpace _ _ _ _ xs _ (HX.out.keep (H2.out.trans (HW.out.mono H2.out.size)))).mono ?_
    rw [HS.out]
    rintro e v ⟨rfl, hb⟩
    replace c0 := keep_cell hb c0
    replace c1 := keep_cell hb c1
    replace HW := Lib.hid (below_then HW.out hb)
    clear hb
    go_wp2_with fail
    go_ret2
    exact ⟨rfl, (H2.out.trans (HW.out.mono H2.out.size))⟩

end Go.Proofs.Ytcieohpbeckjfaa
