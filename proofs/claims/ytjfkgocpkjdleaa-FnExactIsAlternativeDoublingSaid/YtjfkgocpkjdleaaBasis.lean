/- Contracts: the products of the basis, gaps. Conditions stand in each theorem. -/
import Derived.Test.YtjfkgocpkjdleaaBasisQ
import Derived.Test.YtjfkgocpkjdleaaTimes
import Derived.Test.YtjfkgocpkjdleaaGrid
namespace Go.Proofs.Ytjfkgocpkjdleaa
open Go.RowKit
set_option linter.unusedVariables false
set_option linter.unusedSimpArgs false

theorem xor16 : ∀ i ∈ List.range 16, ∀ k ∈ List.range 16, bits .xor .i64 ((i : Nat) : Int) ((k : Nat) : Int) = ((i ^^^ k : Nat) : Int) := by decide +kernel
theorem xor_int {i k : Nat} (hi : i < 16) (hk : k < 16) : bits .xor .i64 (i : Int) (k : Int) = ((i ^^^ k : Nat) : Int) := xor16 i (List.mem_range.2 hi) k (List.mem_range.2 hk)
def rowK (p : Int) (st : List Int) (i : Nat) : Nat → List Int
  | 0 => []
  | k + 1 => rowK p st i k ++ [bF p st i k]
theorem rowK_len (p : Int) (st : List Int) (i k : Nat) : (rowK p st i k).length = k := by
  induction k with
  | zero => rfl
  | succ k ih => unfold rowK; rw [List.length_append, ih]; rfl
theorem rowK_get {p : Int} {st : List Int} {i k j : Nat} (h : j < k) : (rowK p st i k)[j]? = some (bF p st i j) := by
  induction k with
  | zero => omega
  | succ k ih =>
    unfold rowK
    by_cases hj : j < k
    · rw [List.getElem?_append_left (by rw [rowK_len]; exact hj), ih hj]
    · obtain rfl : j = k := by omega
      rw [List.getElem?_append_right (by rw [rowK_len]; omega), rowK_len, Nat.sub_self]; rfl
def basK (p : Int) (st : List Int) (N : Nat) : Nat → List (List Int)
  | 0 => []
  | i + 1 => basK p st N i ++ [rowK p st i N]
theorem basK_len (p : Int) (st : List Int) (N i : Nat) : (basK p st N i).length = i := by
  induction i with
  | zero => rfl
  | succ i ih => unfold basK; rw [List.length_append, ih]; rfl
theorem basK_get {p : Int} {st : List Int} {N i j : Nat} (h : j < i) : (basK p st N i)[j]? = some (rowK p st j N) := by
  induction i with
  | zero => omega
  | succ i ih =>
    unfold basK
    by_cases hj : j < i
    · rw [List.getElem?_append_left (by rw [basK_len]; exact hj), ih hj]
    · obtain rfl : j = i := by omega
      rw [List.getElem?_append_right (by rw [basK_len]; omega), basK_len, Nat.sub_self]; rfl
theorem one_at (p : Int) (A : Option Addr) (n c k N : Nat) (w : World) (hn : n ≤ 6) (hN : 2 ^ n = N) (hk : k < N) : Calls Try.prog 52 #[.agg #[.int .i64 p, .slice A n c], .int .i64 k] w fun e w' => ∃ b, e = .returned (.slice (some ⟨b, 0, none⟩) N N) ∧ Own w.heap.size w' (some ⟨b, 0, none⟩) N (unitV N k) ∧ Below w.heap.size w w' := by
  subst hN
  exact spec_l11One p A n c k w hn hk
theorem size_at (p : Int) (A : Option Addr) (n c N : Nat) (w : World) (hn : n ≤ 6) (hN : 2 ^ n = N) : Calls Try.prog 50 #[.agg #[.int .i64 p, .slice A n c]] w fun e w' => e = .returned (.int .i64 (N : Nat)) ∧ Below w.heap.size w w' := by
  have h := spec_l11Size p A n c w hn
  rw [ipow_cast, hN] at h
  exact h
theorem unitN_nums {p : Int} (hp : 3 ≤ p) (n j : Nat) : numsB p (unitV n j) = true := numsB_of fun x hx => by
  unfold unitV at hx
  rcases List.mem_or_eq_of_mem_set hx with h | h
  · rw [(List.mem_replicate.1 h).2]; omega
  · omega

set_option maxHeartbeats 4000000 in
theorem spec_l11Basis (p : Int) (A : Option Addr) (n c N : Nat) (xs : List Int) (w : World) (hx : Ints w A n xs) (hc : n ≤ c) (hcm : c ≤ maxLen) (hn : n ≤ 4) (h0 : 3 ≤ p) (h1 : p ≤ 13) (hst : stepsB p xs = true) (hN : 2 ^ n = N) :
    Calls Try.prog 58 #[.agg #[.int .i64 p, .slice A n c]] w fun e w' => ∃ o cs, e = .returned o ∧ RowsC w.heap.size w' 22 o N (basK p xs.reverse N N) cs ∧ Below w.heap.size w w' := by
  have HX := Lib.hid hx
  have HN := Lib.hid hx.1
  have HST := Lib.hid hst
  have HC := Lib.hid hcm
  have HP := Lib.hid hN
  have hN1 : 1 ≤ N := by rw [← hN]; exact Nat.one_le_two_pow
  have hN2 : N ≤ 16 := by rw [← hN]; exact Nat.le_trans (Nat.pow_le_pow_right (by omega) hn) (by decide)
  have HLR := Lib.hid (show xs.reverse.length = n by rw [List.length_reverse, hx.1])
  clear hx hst hcm hN
  obtain ⟨i0, hi0, hz0, hz1, hz2⟩ := info_parts int_info
  obtain ⟨j0, hj0, hy0, hy1, hy2⟩ := info_parts rows_info
  have H2 := Lib.hid (show Below w.heap.size w (w.alloc (.cells #[.int .i64 p, .slice A n c] 27)) from (Below.refl _ _).alloc (Nat.le_refl _) _)
  go_enter Try.func58, Try.ntmps58
  have c0 : (w.alloc (.cells #[.int .i64 p, .slice A n c] 27)).cell? ⟨w.heap.size, 0, none⟩ = some (.int .i64 p) := by simp [go_sem]
  have c1 : (w.alloc (.cells #[.int .i64 p, .slice A n c] 27)).cell? ⟨w.heap.size, 1, none⟩ = some (.slice A n c) := by simp [go_sem]
  have HW := Lib.hid (Below.refl (w.alloc (.cells #[.int .i64 p, .slice A n c] 27)).heap.size (w.alloc (.cells #[.int .i64 p, .slice A n c] 27)))
  go_wp2
  go_loopw [3, 4] (fun o i wr => ∃ (k : Nat) (cs : List Value), k ≤ N ∧ i = .int .i64 k ∧ RowsC (w.heap.size + 1) wr 22 o k (basK p xs.reverse N k) cs ∧ wr.cell? ⟨w.heap.size, 0, none⟩ = some (.int .i64 p) ∧ wr.cell? ⟨w.heap.size, 1, none⟩ = some (.slice A n c) ∧ Below w.heap.size w wr) (fun _ i _ => N - (intOf i).toNat)
  case atStart => exact ⟨0, [], Nat.zero_le _, rfl, RowsC.empty _ _ _ _ (by simp) (Nat.le_refl _), keep_cell (below_alloc _ _) c0, keep_cell (below_alloc _ _) c1, H2.out.alloc H2.out.size _⟩
  case round =>
    clear c0 c1 HW
    obtain ⟨i, cs, hi, rfl, hrow, c0, c1, hbel⟩ := hrel
    have HR := Lib.hid hrow
    have HB := Lib.hid hbel
    clear hrow hbel
    go_wp2_with fail
    refine (size_at p _ n c N _ (by omega) HP.out).mono ?_
    rintro e wo ⟨rfl, hb⟩
    replace c0 := keep_cell hb c0
    replace c1 := keep_cell hb c1
    have HR1 := Lib.hid (HR.out.keep hb)
    have HWB := Lib.hid (below_then HB.out hb)
    clear hb HR HB
    by_cases hlt : i < N
    rotate_left
    · obtain rfl : i = N := by omega
      go_wp2
      go_ret
      exact ⟨_, _, rfl, HR1.out.less (by omega), HWB.out⟩
    have hw1 : w.heap.size + 1 ≤ wo.heap.size := World.block_lt_of_cell? _ _ c0
    have hiN : (i : Int) < N := by omega
    go_wp2
    go_loopw [5, 6] (fun r q wq => ∃ k : Nat, k ≤ N ∧ q = .int .i64 k ∧ wq.ownsRow wo.heap.size 2 1 r k ((rowK p xs.reverse i k).map (Value.int .i64)) ∧ Below wo.heap.size wo wq) (fun _ q _ => N - (intOf q).toNat)
    case atStart => exact ⟨0, Nat.zero_le _, rfl, own_empty _ _ _ _ rfl (Nat.le_refl _), below_alloc _ _⟩
    case round =>
      rename_i wq _
      obtain ⟨k, hk, rfl, hown, hbel⟩ := hrel
      have d0 := keep_cell hbel c0
      have d1 := keep_cell hbel c1
      have HB2 := Lib.hid hbel
      have HO := Lib.hid hown
      clear hbel hown
      go_wp2_with fail
      refine (size_at p _ n c N _ (by omega) HP.out).mono ?_
      rintro e wp ⟨rfl, hb⟩
      replace d0 := keep_cell hb d0
      replace d1 := keep_cell hb d1
      replace HB2 := Lib.hid (below_then HB2.out hb)
      replace HO := Lib.hid (own_keep hb HO.out)
      clear hb
      by_cases hlt2 : k < N
      · have hxk := xor_int (i := i) (k := k) (by omega) (by omega)
        have hkN : (k : Int) < N := by omega
        have hxl : i ^^^ k < N := by rw [← HP.out] at hlt hlt2 ⊢; exact xor_lt hn hlt hlt2
        have HU := Lib.hid (show (mulR p xs.reverse (unitV N i) (unitV N k))[i ^^^ k]? = some (bF p xs.reverse i k) by
          have hq := mul_unit (p := p) h0 (st := xs.reverse) (by rw [HLR.out]; exact hn) (i := i) (j := k) (by rw [HLR.out, HP.out]; exact hlt) (by rw [HLR.out, HP.out]; exact hlt2)
          rw [HLR.out, HP.out] at hq
          have hz : (mulR p xs.reverse (unitV N i) (unitV N k))[i ^^^ k]? = some ((mulR p xs.reverse (unitV N i) (unitV N k))[i ^^^ k]'(by rw [mulR_len, HLR.out, HP.out]; exact hxl)) := List.getElem?_eq_getElem _
          rw [List.getD_eq_getElem?_getD, hz] at hq
          rw [hz, ← hq]; rfl)
        clear c0 c1
        have c0 := d0
        have c1 := d1
        clear d0 d1
        go_wp2_with fail
        refine wp_region_held_drew (S := (fun w' => w'.cell? ⟨w.heap.size, 0, none⟩ = some (.int .i64 p) ∧ w'.cell? ⟨w.heap.size, 1, none⟩ = some (.slice A n c) ∧ Below wo.heap.size wo w')) (by kernel_rfl) ?_ (fun hHeld0 => ?_)
        · exact ⟨c0, c1, HB2.out.drew⟩
        refine wpAnyH_take (i := 0) (oi := ({ dst := some 21, op := Op.move (Operand.tmp 5), type := 22, pos := "l11_doubling.go:189", after := #[], guard := none } : Oper)) (v := ?_) rfl (by kernel_rfl) (by kernel_rfl) (by kernel_rfl) (fun _ _ _ h => h) (Or.inl ⟨by rfl, ?_⟩) (by assumption) ?_
        rotate_left
        · (intro w hSw; (try dsimp only at hSw); go_simp; (try with_reducible rfl))
        try simp only [Act.put, List.setIfInBounds_toArray, List.set_cons_zero, List.set_cons_succ]
        refine wpAnyH_take (i := 1) (oi := ({ dst := some 22, op := Op.load 27 (Operand.tmp 1), type := 27, pos := "l11_doubling.go:189", after := #[], guard := none } : Oper)) (v := ?_) rfl (by kernel_rfl) (by kernel_rfl) (by kernel_rfl) (fun _ _ _ h => h) (Or.inl ⟨by rfl, ?_⟩) (by assumption) ?_
        rotate_left
        · (intro w hSw; (try dsimp only at hSw); go_simp; (try with_reducible rfl))
        try simp only [Act.put, List.setIfInBounds_toArray, List.set_cons_zero, List.set_cons_succ]
        refine wpAnyH_take (i := 2) (oi := ({ dst := some 23, op := Op.load 27 (Operand.tmp 1), type := 27, pos := "l11_doubling.go:189", after := #[], guard := none } : Oper)) (v := ?_) rfl (by kernel_rfl) (by kernel_rfl) (by kernel_rfl) (fun _ _ _ h => h) (Or.inl ⟨by rfl, ?_⟩) (by assumption) ?_
        rotate_left
        · (intro w hSw; (try dsimp only at hSw); go_simp; (try with_reducible rfl))
        try simp only [Act.put, List.setIfInBounds_toArray, List.set_cons_zero, List.set_cons_succ]
        refine wpAnyH_take (i := 3) (oi := ({ dst := some 24, op := Op.move (Operand.tmp 4), type := 2, pos := "l11_doubling.go:189", after := #[], guard := none } : Oper)) (v := ?_) rfl (by kernel_rfl) (by kernel_rfl) (by kernel_rfl) (fun _ _ _ h => h) (Or.inl ⟨by rfl, ?_⟩) (by assumption) ?_
        rotate_left
        · (intro w hSw; (try dsimp only at hSw); go_simp; (try with_reducible rfl))
        try simp only [Act.put, List.setIfInBounds_toArray, List.set_cons_zero, List.set_cons_succ]
        refine wpAnyH_take (i := 5) (oi := ({ dst := some 26, op := Op.load 27 (Operand.tmp 1), type := 27, pos := "l11_doubling.go:189", after := #[], guard := none } : Oper)) (v := ?_) rfl (by kernel_rfl) (by kernel_rfl) (by kernel_rfl) (fun _ _ _ h => h) (Or.inl ⟨by rfl, ?_⟩) (by assumption) ?_
        rotate_left
        · (intro w hSw; (try dsimp only at hSw); go_simp; (try with_reducible rfl))
        try simp only [Act.put, List.setIfInBounds_toArray, List.set_cons_zero, List.set_cons_succ]
        refine wpAnyH_take (i := 6) (oi := ({ dst := some 27, op := Op.move (Operand.tmp 6), type := 2, pos := "l11_doubling.go:189", after := #[], guard := none } : Oper)) (v := ?_) rfl (by kernel_rfl) (by kernel_rfl) (by kernel_rfl) (fun _ _ _ h => h) (Or.inl ⟨by rfl, ?_⟩) (by assumption) ?_
        rotate_left
        · (intro w hSw; (try dsimp only at hSw); go_simp; (try with_reducible rfl))
        try simp only [Act.put, List.setIfInBounds_toArray, List.set_cons_zero, List.set_cons_succ]
        refine wpAnyH_take (i := 9) (oi := ({ dst := some 30, op := Op.move (Operand.tmp 4), type := 2, pos := "l11_doubling.go:189", after := #[], guard := none } : Oper)) (v := ?_) rfl (by kernel_rfl) (by kernel_rfl) (by kernel_rfl) (fun _ _ _ h => h) (Or.inl ⟨by rfl, ?_⟩) (by assumption) ?_
        rotate_left
        · (intro w hSw; (try dsimp only at hSw); go_simp; (try with_reducible rfl))
        try simp only [Act.put, List.setIfInBounds_toArray, List.set_cons_zero, List.set_cons_succ]
        refine wpAnyH_take (i := 10) (oi := ({ dst := some 31, op := Op.move (Operand.tmp 6), type := 2, pos := "l11_doubling.go:189", after := #[], guard := none } : Oper)) (v := ?_) rfl (by kernel_rfl) (by kernel_rfl) (by kernel_rfl) (fun _ _ _ h => h) (Or.inl ⟨by rfl, ?_⟩) (by assumption) ?_
        rotate_left
        · (intro w hSw; (try dsimp only at hSw); go_simp; (try with_reducible rfl))
        try simp only [Act.put, List.setIfInBounds_toArray, List.set_cons_zero, List.set_cons_succ]
        refine wpAnyH_take (i := 11) (oi := ({ dst := some 32, op := Op.binOp BinOp.xor 2 (Operand.tmp 30) (Operand.tmp 31) 2, type := 2, pos := "l11_doubling.go:189", after := #[{ on := 9, ground := Ground.data }, { on := 10, ground := Ground.data }], guard := none } : Oper)) (v := ?_) rfl (by kernel_rfl) (by kernel_rfl) (by kernel_rfl) (fun _ _ _ h => h) (Or.inl ⟨by rfl, ?_⟩) (by assumption) ?_
        rotate_left
        · (intro w hSw; (try dsimp only at hSw); go_simp; (try with_reducible rfl))
        try simp only [Act.put, List.setIfInBounds_toArray, List.set_cons_zero, List.set_cons_succ]
        refine wpAnyH_ready (rs := [4]) (by kernel_rfl) (by simp) ?_
        refine AllReadyH.cons (o := ({ dst := some 25, op := Op.call { callee := Callee.value (Operand.func 52), args := #[Operand.tmp 23, Operand.tmp 24], argTypes := #[27, 2] }, type := 22, pos := "l11_doubling.go:189", after := #[{ on := 2, ground := Ground.data }, { on := 3, ground := Ground.data }], guard := none } : Oper)) rfl (fun K hK => ?_) AllReadyH.nil
        go_simp
        go_at_call 52
        refine (one_at p _ n c i N _ (by omega) HP.out hlt).mono ?_
        rintro e v1 ⟨ba, rfl, hoa, hb1⟩
        have UA := Lib.hid (show IntsN p v1 _ N _ from ⟨hoa.ints, unitN_nums h0 N i⟩)
        have O1 := Lib.hid (own_keep hb1 HO.out)
        clear hoa
        (try go_wp2_with fail)
        refine hK.out _ _ ?_ (fun hHeld1 => ?_)
        · (try dsimp only)
          exact ⟨keep_cell hb1 hHeld0.1, keep_cell hb1 hHeld0.2.1, below_then hHeld0.2.2 hb1⟩
        clear hK K hHeld0
        try simp only [Act.put, List.setIfInBounds_toArray, List.set_cons_zero, List.set_cons_succ]
        refine wpAnyH_ready (rs := [7]) (by kernel_rfl) (by simp) ?_
        refine AllReadyH.cons (o := ({ dst := some 28, op := Op.call { callee := Callee.value (Operand.func 52), args := #[Operand.tmp 26, Operand.tmp 27], argTypes := #[27, 2] }, type := 22, pos := "l11_doubling.go:189", after := #[{ on := 5, ground := Ground.data }, { on := 6, ground := Ground.data }, { on := 4, ground := Ground.chain }], guard := none } : Oper)) rfl (fun K hK => ?_) AllReadyH.nil
        go_simp
        go_at_call 52
        refine (one_at p _ n c k N _ (by omega) HP.out hlt2).mono ?_
        rintro e v2 ⟨bb, rfl, hoa, hb2⟩
        have UB := Lib.hid (show IntsN p v2 _ N _ from ⟨hoa.ints, unitN_nums h0 N k⟩)
        replace UA := Lib.hid (UA.out.keep hb2)
        replace O1 := Lib.hid (own_keep hb2 O1.out)
        clear hoa
        (try go_wp2_with fail)
        refine hK.out _ _ ?_ (fun hHeld2 => ?_)
        · (try dsimp only)
          exact ⟨keep_cell hb2 hHeld1.1, keep_cell hb2 hHeld1.2.1, below_then hHeld1.2.2 hb2⟩
        clear hK K hHeld1
        try simp only [Act.put, List.setIfInBounds_toArray, List.set_cons_zero, List.set_cons_succ]
        refine wpAnyH_ready (rs := [8]) (by kernel_rfl) (by simp) ?_
        refine AllReadyH.cons (o := ({ dst := some 29, op := Op.call { callee := Callee.value (Operand.func 68), args := #[Operand.tmp 22, Operand.tmp 25, Operand.tmp 28], argTypes := #[27, 22, 22] }, type := 22, pos := "l11_doubling.go:189", after := #[{ on := 1, ground := Ground.data }, { on := 4, ground := Ground.data }, { on := 7, ground := Ground.data }, { on := 7, ground := Ground.chain }], guard := none } : Oper)) rfl (fun K hK => ?_) AllReadyH.nil
        go_simp
        go_at_call 68
        refine (spec_l11Times p _ _ _ n c N N N xs (unitV N i) (unitV N k) _ (HX.out.keep (below_then HWB.out hHeld2.2.2)) hc HC.out HST.out hn UA.out HP.out.symm (Nat.le_refl _) (by unfold maxLen; omega) UB.out (Nat.le_refl _) (by unfold maxLen; omega) h0 h1).mono ?_
        rintro e v3 ⟨D, t, rfl, ht1, ht2, ho3, hb3⟩
        replace O1 := Lib.hid (own_keep hb3 O1.out)
        obtain ⟨bd, od, rfl, hbd1, hbd2, hdc, _⟩ := ho3.2.2 (by omega)
        have hcell := hdc (i ^^^ k) _ HU.out
        have hxl2 : ((i ^^^ k : Nat) : Int) < N := by omega
        have hxl3 : (0 : Int) ≤ ((i ^^^ k : Nat) : Int) := by omega
        clear hdc ho3 hbd1 hbd2
        (try go_wp2_with fail)
        refine hK.out _ _ ?_ (fun hHeld3 => ?_)
        · (try dsimp only)
          exact ⟨keep_cell hb3 hHeld2.1, keep_cell hb3 hHeld2.2.1, below_then hHeld2.2.2 hb3⟩
        clear hK K hHeld2
        try simp only [Act.put, List.setIfInBounds_toArray, List.set_cons_zero, List.set_cons_succ]
        refine wpAnyH_take (i := 12) (oi := ({ dst := some 33, op := Op.indexAddr 22 (Operand.tmp 29) (Operand.tmp 32), type := 0, pos := "l11_doubling.go:189", after := #[{ on := 8, ground := Ground.data }, { on := 11, ground := Ground.data }], guard := none } : Oper)) (v := ?_) rfl (by kernel_rfl) (by kernel_rfl) (by kernel_rfl) (fun _ _ _ h => h) (Or.inl ⟨by rfl, ?_⟩) (by assumption) ?_
        rotate_left
        · (intro w hSw; (try dsimp only at hSw); go_simp; (try with_reducible rfl))
        try simp only [Act.put, List.setIfInBounds_toArray, List.set_cons_zero, List.set_cons_succ]
        refine wpAnyH_ready (rs := [13]) (by kernel_rfl) (by simp) ?_
        refine AllReadyH.cons (o := ({ dst := some 34, op := Op.load 2 (Operand.tmp 33), type := 2, pos := "l11_doubling.go:189", after := #[{ on := 12, ground := Ground.data }], guard := none } : Oper)) rfl (fun K hK => ?_) AllReadyH.nil
        go_simp
        refine hK.out _ _ ?_ (fun hHeld4 => ?_)
        · (try dsimp only)
          exact hHeld3
        clear hK K hHeld3
        try simp only [Act.put, List.setIfInBounds_toArray, List.set_cons_zero, List.set_cons_succ]
        refine wpAnyH_ready (rs := [14]) (by kernel_rfl) (by simp) ?_
        refine AllReadyH.cons (o := ({ dst := some 35, op := Op.buildSlice 22 1 #[(0, Operand.tmp 34)], type := 22, pos := "l11_doubling.go:189", after := #[{ on := 13, ground := Ground.data }], guard := none } : Oper)) rfl (fun K hK => ?_) AllReadyH.nil
        go_simp
        refine hK.out _ _ ?_ (fun hHeld5 => ?_)
        · (try dsimp only)
          exact ⟨keep_cell (below_alloc _ _) hHeld4.1, keep_cell (below_alloc _ _) hHeld4.2.1, below_then hHeld4.2.2 (below_alloc _ _)⟩
        clear hK K hHeld4
        try simp only [Act.put, List.setIfInBounds_toArray, List.set_cons_zero, List.set_cons_succ]
        refine wpAnyH_ready (rs := [15]) (by kernel_rfl) (by simp) ?_
        refine AllReadyH.cons (o := ({ dst := some 36, op := Op.call { callee := Callee.builtin Builtin.append, args := #[Operand.tmp 21, Operand.tmp 35], argTypes := #[22, 22] }, type := 22, pos := "l11_doubling.go:189", after := #[{ on := 0, ground := Ground.data }, { on := 14, ground := Ground.data }, { on := 8, ground := Ground.chain }], guard := none } : Oper)) rfl (fun K hK => ?_) AllReadyH.nil
        refine step_append_lies _ (by rfl) _ _ _ (by rfl) wo.heap.size 2 i0 _ 1 8 Try.underlying22 hi0 hz0 hz1 hz2 rfl (by omega) _ k _ (by rfl) (O1.out.alloc _) ⟨v3.heap.size, 0, none⟩ 1 1 [.int .i64 (bF p xs.reverse i k)] (by rfl) (by rfl) (cell_one_new _ _ _) (by simp [Value.oneCell']) (by omega) (by unfold maxLen; omega) (by omega) hHeld5.2.2.size _ rfl ?_; intro gg cap w1 hown1 hgrow hat hlt1
        refine hK.out _ _ ?_ (fun hHeld6 => ?_)
        · (try dsimp only)
          exact ⟨cell_grown (O1.out.alloc _) hgrow hHeld5.1 (by show w.heap.size < wo.heap.size; omega), cell_grown (O1.out.alloc _) hgrow hHeld5.2.1 (by show w.heap.size < wo.heap.size; omega), below_own (O1.out.alloc _) hgrow hHeld5.2.2 (Nat.le_refl _) hHeld5.2.2.size⟩
        clear hK K hHeld5
        try simp only [Act.put, List.setIfInBounds_toArray, List.set_cons_zero, List.set_cons_succ]
        refine wpAnyH_take (i := 16) (oi := ({ dst := some 5, op := Op.assign (Operand.tmp 36), type := 22, pos := "l11_doubling.go:189", after := #[{ on := 15, ground := Ground.data }, { on := 15, ground := Ground.chain }, { on := 0, ground := Ground.phase }, { on := 1, ground := Ground.phase }, { on := 2, ground := Ground.phase }, { on := 3, ground := Ground.phase }, { on := 4, ground := Ground.phase }, { on := 5, ground := Ground.phase }, { on := 6, ground := Ground.phase }, { on := 7, ground := Ground.phase }, { on := 8, ground := Ground.phase }, { on := 9, ground := Ground.phase }, { on := 10, ground := Ground.phase }, { on := 11, ground := Ground.phase }, { on := 12, ground := Ground.phase }, { on := 13, ground := Ground.phase }, { on := 14, ground := Ground.phase }, { on := 15, ground := Ground.phase }], guard := none } : Oper)) (v := ?_) rfl (by kernel_rfl) (by kernel_rfl) (by kernel_rfl) (fun _ _ _ h => h) (Or.inl ⟨by rfl, ?_⟩) (by assumption) ?_
        rotate_left
        · (intro w hSw; (try dsimp only at hSw); go_simp; (try with_reducible rfl))
        try simp only [Act.put, List.setIfInBounds_toArray, List.set_cons_zero, List.set_cons_succ]
        refine wpAnyH_done (by kernel_rfl) ?_ _
        obtain ⟨_, _, hbl⟩ := hHeld6
        have HB3 := Lib.hid hbl
        have HO1 := Lib.hid hown1
        clear hbl hown1 hgrow hat hlt1 hxk hcell
        go_wp2
        go_roundw
        case rel => exact ⟨k + 1, by omega, by go_num, by show World.ownsRow _ _ _ _ _ _ ((rowK p xs.reverse i k ++ [bF p xs.reverse i k]).map (Value.int .i64)); rw [List.map_append]; exact HO1.out, HB3.out⟩
        case measure => simp [intOf]; omega
      · obtain rfl : k = N := by omega
        obtain ⟨C, q, rfl, ho, hq1, hq2⟩ := Own.of_own2 HO.out
        obtain ⟨gb, go_, rfl, hg1, hg2, _, _⟩ := ho.2.2 (by omega)
        have HOO := Lib.hid (ho.less (B' := w.heap.size + 1) hw1)
        have HR2 := Lib.hid (HR1.out.keep HB2.out)
        clear ho
        go_wp2_with (at_builtin; refine wpList_append_lies _ rfl _ _ 58 rfl (w.heap.size + 1) 22 j0 _ 1 24 Try.underlying58 hj0 hy0 hy1 hy2 rfl (by omega) _ i cs rfl (HR2.out.own.alloc _) ⟨_, 0, none⟩ 1 1 [.slice (some ⟨gb, go_, none⟩) k q] rfl rfl (cell_one_new _ _ _) (by simp [Value.oneCell']) (by omega) (by unfold maxLen; omega) (by omega) (by have := HB2.out.size; simp; omega) (wp.heap.size + 1) (by simp) ?_; intro gg cap w1 hown1 hgrow hat hlt1)
        have HPU := Lib.hid (RowsC.push (HR2.out.keep (below_alloc _ _)) (HOO.out.keep (below_alloc _ _)) hq1 hq2 (fun a ha => by
            injection ha with ha
            subst ha
            refine ⟨fun e => ?_, by simp; omega⟩
            have h1 := (HR1.out.own.lt _ e).2
            simp at h1
            omega) (fun a ha j b m d hj => by
            injection ha with ha
            subst ha
            have h1 := HR1.out.block j b m d hj
            show b.block ≠ gb
            omega) hgrow hown1 (by
            rcases hat with e | e
            · exact .inl e
            · exact .inr ⟨gg, rfl, by rw [e]; simp⟩))
        have HB3 := Lib.hid (below_own (HR2.out.own.alloc _) hgrow ((below_then HWB.out HB2.out).alloc ((below_then HWB.out HB2.out).size) _) (by omega) (by have := (below_then HWB.out HB2.out).size; simp; omega))
        have c0' := cell_grown (HR2.out.own.alloc _) hgrow (keep_cell (below_alloc _ _) d0) (by simp)
        have c1' := cell_grown (HR2.out.own.alloc _) hgrow (keep_cell (below_alloc _ _) d1) (by simp)
        clear hown1 hgrow hat hlt1
        go_wp2
        go_roundw
        case rel => exact ⟨i + 1, _, by omega, by go_num, HPU.out, c0', c1', HB3.out⟩
        case measure => simp [intOf]; omega

end Go.Proofs.Ytjfkgocpkjdleaa
