/- Contracts: the program's product of elements. Conditions stand in each theorem. -/
import Derived.Test.YtjfkgocpkjdleaaTimes1
import Derived.Deep.RegionHeld3
namespace Go.Proofs.Ytjfkgocpkjdleaa
open Go.RowKit
set_option linter.unusedVariables false
set_option linter.unusedSimpArgs false

theorem field_doubled_zero : MulOK 82 0 := by
  intro p S X Y c cx cy N st xs ys w hN hS hc hcm hst hX hcx hcxm hY hcy hcym h0 h1
  obtain rfl : N = 1 := hN
  obtain ⟨b1, off1, x, rfl, hb1, hxk, hck1⟩ := hX.1.at_ (show 0 < 1 by omega)
  obtain ⟨hx0, hx1⟩ := numB_true (numsB_at hX.2 hxk)
  obtain ⟨b2, off2, y, rfl, hb2, hyk, hck2⟩ := hY.1.at_ (show 0 < 1 by omega)
  obtain ⟨hy0, hy1⟩ := numB_true (numsB_at hY.2 hyk)
  have hnil := nil_of_len0 hS.1
  subst hnil
  have HV := Lib.hid (show mulR p ([] : List Int).reverse xs ys = [(x * y) % p] by
    show [(xs.getD 0 0 * ys.getD 0 0) % p] = _
    rw [List.getD_eq_getElem?_getD, List.getD_eq_getElem?_getD, hxk, hyk]; rfl)
  rw [HV.out]
  obtain ⟨m0, m1⟩ := mul_bounds (a := x) (b := y) (p := p) hx0 hx1 hy0 hy1 h1
  have e1 : IntKind.i64.wrap (x * y) = x * y := IntWalk.i64_in _ (by omega)
  simp only [Nat.add_zero] at hck1 hck2
  clear hS hX hY hxk hyk hb1 hb2 hst
  go_enter Try.func82, Try.ntmps82
  go_wp2_with fail
  go_region_held3 (fun w' => w'.cell? ⟨b1, off1, none⟩ = some (.int .i64 x) ∧ w'.cell? ⟨b2, off2, none⟩ = some (.int .i64 y) ∧ Below w.heap.size w w')
    (first
      | exact ⟨hck1, hck2, (Below.refl _ _).drew⟩
      | (go_split_ands; exact ⟨‹_›, ‹_›, ‹_›⟩)
      | (go_split_ands; exact ⟨keep_cell (below_alloc _ _) ‹_›, keep_cell (below_alloc _ _) ‹_›, below_then ‹_› (below_alloc _ _)⟩)
      | go_keep)
    (first | (go_at_call 78; refine (impl_num _ _ _ (by omega) (by omega)).mono ?_; rintro e w' ⟨rfl, rfl⟩))
  rename_i hh
  obtain ⟨_, _, hbw⟩ := hh
  clear e1
  go_wp2
  go_ret
  exact ⟨_, _, rfl, by omega, by unfold maxLen; omega, Own.mk1 _ _ _ _ _ (by simp) (by simp), hbw⟩

set_option maxHeartbeats 1000000 in
theorem field_doubled_succ (n : Nat) (hn5 : n ≤ 5) (ih : MulOK 82 n) : MulOK 82 (n + 1) := by
  intro p S X Y c cx cy N st xs ys w hN hS hc hcm hst hX hcx hcxm hY hcy hcym h0 h1
  have hp2 : (2 : Nat) ^ (n + 1) = 2 ^ n + 2 ^ n := by rw [Nat.pow_succ]; omega
  obtain ⟨h, HH⟩ : ∃ h, Hid (2 ^ n = h) := ⟨_, Lib.hid rfl⟩
  have hNh : N = h + h := by rw [hN, hp2, HH.out]
  have hpos : 1 ≤ h := by rw [← HH.out]; exact Nat.one_le_two_pow
  have hle : h ≤ 64 := by rw [← HH.out]; exact pow_le6 (by omega)
  clear hN hp2
  unfold maxLen at hcm hcxm hcym
  obtain ⟨b1, off1, _, rfl, _, _, _⟩ := hX.1.at_ (show 0 < N by omega)
  obtain ⟨b2, off2, _, rfl, _, _, _⟩ := hY.1.at_ (show 0 < N by omega)
  obtain ⟨bs, os, g, rfl, _, hgk, hgc⟩ := hS.at_ (show n < n + 1 by omega)
  have hg := rangeB_true (List.all_eq_true.1 hst g (List.mem_of_getElem? hgk))
  obtain ⟨hg0, hg1⟩ := hg
  have HST := Lib.hid (stepsB_take (n := n) hst)
  have HV := Lib.hid (mulR_step (p := p) (x := xs) (y := ys) hgk hS.1)
  have RS := Lib.hid (IntsN.take_ (p := p) ⟨hS, stepsB_nums hst⟩ (show n ≤ n + 1 by omega)).1
  have LR := Lib.hid (show (st.take n).reverse.length = n by rw [List.length_reverse, List.length_take]; have := hS.1; omega)
  have q11 : N - h = h := by omega
  have RA := Lib.hid (hX.take_ (show h ≤ N by omega))
  have RB := Lib.hid (show IntsN p w (some ⟨b1, off1 + h, none⟩) h (xs.drop h) by have t := hX.drop_ (show h ≤ N by omega); rw [q11] at t; exact t)
  have RC := Lib.hid (hY.take_ (show h ≤ N by omega))
  have RD := Lib.hid (show IntsN p w (some ⟨b2, off2 + h, none⟩) h (ys.drop h) by have t := hY.drop_ (show h ≤ N by omega); rw [q11] at t; exact t)
  have HNh := Lib.hid hNh
  have q0 : ((n : Int) + 1 == 0) = false := by simp; omega
  have q1 : (N : Int) / 2 = h := by omega
  have q2 : (h : Int) ≤ cx := by omega
  have q3 : (h : Int) ≤ cy := by omega
  have q4 : (h : Int) ≤ N := by omega
  have q5 : (N : Int) ≤ cx := by omega
  have q6 : (N : Int) ≤ cy := by omega
  have q7 : (n : Int) ≤ c := by omega
  have q8 : (n : Int) < n + 1 := by omega
  have q9 : (0 : Int) ≤ h := by omega
  have q10 : (0 : Int) ≤ n := by omega
  have r1 : h < cx := by omega
  have r2 : h < cy := by omega
  have r3 : h ≤ cx - h := by omega
  have r4 : h ≤ cy - h := by omega
  have q12 : (h : Int) < cx := by omega
  have q13 : (h : Int) < cy := by omega
  have ML := Lib.hid (show h ≤ maxLen by unfold maxLen; omega)
  clear hst hX hY hS hgk hNh hcy hcx
  obtain ⟨i0, hi0, hz0, hz1, hz2⟩ := info_parts int_info
  go_enter Try.func82, Try.ntmps82
  go_wp2
  go_quiet (fail)
  go_wp2
  go_wp2_with fail
  refine wp_region_held_drew (S := (fun w' => w'.cell? ⟨bs, os + n, none⟩ = some (.int .i64 g) ∧ Below w.heap.size w w')) (by kernel_rfl) ?_ (fun hHeld0 => ?_)
  · exact ⟨hgc, (below_drewN (Below.refl _ _) _).drew⟩
  refine wpAnyH_take (i := 0) (oi := ({ dst := some 52, op := Op.move (Operand.tmp 0), type := 47, pos := "l11_doubling.go:55", after := #[], guard := none } : Oper)) (v := ?_) rfl (by kernel_rfl) (by kernel_rfl) (by kernel_rfl) (fun _ _ _ h => h) (Or.inl ⟨by rfl, ?_⟩) (by assumption) ?_
  rotate_left
  · (intro w hSw; (try dsimp only at hSw); go_simp; (try with_reducible rfl))
  try simp only [Act.put, List.setIfInBounds_toArray, List.set_cons_zero, List.set_cons_succ]
  refine wpAnyH_take (i := 1) (oi := ({ dst := some 53, op := Op.move (Operand.tmp 0), type := 47, pos := "l11_doubling.go:55", after := #[], guard := none } : Oper)) (v := ?_) rfl (by kernel_rfl) (by kernel_rfl) (by kernel_rfl) (fun _ _ _ h => h) (Or.inl ⟨by rfl, ?_⟩) (by assumption) ?_
  rotate_left
  · (intro w hSw; (try dsimp only at hSw); go_simp; (try with_reducible rfl))
  try simp only [Act.put, List.setIfInBounds_toArray, List.set_cons_zero, List.set_cons_succ]
  refine wpAnyH_take (i := 2) (oi := ({ dst := some 54, op := Op.move (Operand.tmp 15), type := 22, pos := "l11_doubling.go:55", after := #[], guard := none } : Oper)) (v := ?_) rfl (by kernel_rfl) (by kernel_rfl) (by kernel_rfl) (fun _ _ _ h => h) (Or.inl ⟨by rfl, ?_⟩) (by assumption) ?_
  rotate_left
  · (intro w hSw; (try dsimp only at hSw); go_simp; (try with_reducible rfl))
  try simp only [Act.put, List.setIfInBounds_toArray, List.set_cons_zero, List.set_cons_succ]
  refine wpAnyH_take (i := 3) (oi := ({ dst := some 55, op := Op.move (Operand.tmp 11), type := 22, pos := "l11_doubling.go:55", after := #[], guard := none } : Oper)) (v := ?_) rfl (by kernel_rfl) (by kernel_rfl) (by kernel_rfl) (fun _ _ _ h => h) (Or.inl ⟨by rfl, ?_⟩) (by assumption) ?_
  rotate_left
  · (intro w hSw; (try dsimp only at hSw); go_simp; (try with_reducible rfl))
  try simp only [Act.put, List.setIfInBounds_toArray, List.set_cons_zero, List.set_cons_succ]
  refine wpAnyH_take (i := 4) (oi := ({ dst := some 56, op := Op.move (Operand.tmp 13), type := 22, pos := "l11_doubling.go:55", after := #[], guard := none } : Oper)) (v := ?_) rfl (by kernel_rfl) (by kernel_rfl) (by kernel_rfl) (fun _ _ _ h => h) (Or.inl ⟨by rfl, ?_⟩) (by assumption) ?_
  rotate_left
  · (intro w hSw; (try dsimp only at hSw); go_simp; (try with_reducible rfl))
  try simp only [Act.put, List.setIfInBounds_toArray, List.set_cons_zero, List.set_cons_succ]
  refine wpAnyH_take (i := 6) (oi := ({ dst := some 58, op := Op.move (Operand.tmp 0), type := 47, pos := "l11_doubling.go:55", after := #[], guard := none } : Oper)) (v := ?_) rfl (by kernel_rfl) (by kernel_rfl) (by kernel_rfl) (fun _ _ _ h => h) (Or.inl ⟨by rfl, ?_⟩) (by assumption) ?_
  rotate_left
  · (intro w hSw; (try dsimp only at hSw); go_simp; (try with_reducible rfl))
  try simp only [Act.put, List.setIfInBounds_toArray, List.set_cons_zero, List.set_cons_succ]
  refine wpAnyH_take (i := 7) (oi := ({ dst := some 59, op := Op.move (Operand.tmp 15), type := 22, pos := "l11_doubling.go:55", after := #[], guard := none } : Oper)) (v := ?_) rfl (by kernel_rfl) (by kernel_rfl) (by kernel_rfl) (fun _ _ _ h => h) (Or.inl ⟨by rfl, ?_⟩) (by assumption) ?_
  rotate_left
  · (intro w hSw; (try dsimp only at hSw); go_simp; (try with_reducible rfl))
  try simp only [Act.put, List.setIfInBounds_toArray, List.set_cons_zero, List.set_cons_succ]
  refine wpAnyH_take (i := 8) (oi := ({ dst := some 60, op := Op.move (Operand.tmp 0), type := 47, pos := "l11_doubling.go:55", after := #[], guard := none } : Oper)) (v := ?_) rfl (by kernel_rfl) (by kernel_rfl) (by kernel_rfl) (fun _ _ _ h => h) (Or.inl ⟨by rfl, ?_⟩) (by assumption) ?_
  rotate_left
  · (intro w hSw; (try dsimp only at hSw); go_simp; (try with_reducible rfl))
  try simp only [Act.put, List.setIfInBounds_toArray, List.set_cons_zero, List.set_cons_succ]
  refine wpAnyH_take (i := 9) (oi := ({ dst := some 61, op := Op.move (Operand.tmp 14), type := 22, pos := "l11_doubling.go:55", after := #[], guard := none } : Oper)) (v := ?_) rfl (by kernel_rfl) (by kernel_rfl) (by kernel_rfl) (fun _ _ _ h => h) (Or.inl ⟨by rfl, ?_⟩) (by assumption) ?_
  rotate_left
  · (intro w hSw; (try dsimp only at hSw); go_simp; (try with_reducible rfl))
  try simp only [Act.put, List.setIfInBounds_toArray, List.set_cons_zero, List.set_cons_succ]
  refine wpAnyH_take (i := 11) (oi := ({ dst := some 63, op := Op.move (Operand.tmp 12), type := 22, pos := "l11_doubling.go:55", after := #[], guard := none } : Oper)) (v := ?_) rfl (by kernel_rfl) (by kernel_rfl) (by kernel_rfl) (fun _ _ _ h => h) (Or.inl ⟨by rfl, ?_⟩) (by assumption) ?_
  rotate_left
  · (intro w hSw; (try dsimp only at hSw); go_simp; (try with_reducible rfl))
  try simp only [Act.put, List.setIfInBounds_toArray, List.set_cons_zero, List.set_cons_succ]
  refine wpAnyH_take (i := 13) (oi := ({ dst := some 65, op := Op.move (Operand.tmp 1), type := 22, pos := "l11_doubling.go:55", after := #[], guard := none } : Oper)) (v := ?_) rfl (by kernel_rfl) (by kernel_rfl) (by kernel_rfl) (fun _ _ _ h => h) (Or.inl ⟨by rfl, ?_⟩) (by assumption) ?_
  rotate_left
  · (intro w hSw; (try dsimp only at hSw); go_simp; (try with_reducible rfl))
  try simp only [Act.put, List.setIfInBounds_toArray, List.set_cons_zero, List.set_cons_succ]
  refine wpAnyH_take (i := 14) (oi := ({ dst := some 66, op := Op.move (Operand.tmp 9), type := 3, pos := "l11_doubling.go:55", after := #[], guard := none } : Oper)) (v := ?_) rfl (by kernel_rfl) (by kernel_rfl) (by kernel_rfl) (fun _ _ _ h => h) (Or.inl ⟨by rfl, ?_⟩) (by assumption) ?_
  rotate_left
  · (intro w hSw; (try dsimp only at hSw); go_simp; (try with_reducible rfl))
  try simp only [Act.put, List.setIfInBounds_toArray, List.set_cons_zero, List.set_cons_succ]
  refine wpAnyH_take (i := 15) (oi := ({ dst := some 67, op := Op.indexAddr 22 (Operand.tmp 65) (Operand.tmp 66), type := 0, pos := "l11_doubling.go:55", after := #[{ on := 13, ground := Ground.data }, { on := 14, ground := Ground.data }], guard := none } : Oper)) (v := ?_) rfl (by kernel_rfl) (by kernel_rfl) (by kernel_rfl) (fun _ _ _ h => h) (Or.inl ⟨by rfl, ?_⟩) (by assumption) ?_
  rotate_left
  · (intro w hSw; (try dsimp only at hSw); go_simp; (try with_reducible rfl))
  try simp only [Act.put, List.setIfInBounds_toArray, List.set_cons_zero, List.set_cons_succ]
  refine wpAnyH_take (i := 16) (oi := ({ dst := some 68, op := Op.load 2 (Operand.tmp 67), type := 2, pos := "l11_doubling.go:55", after := #[{ on := 15, ground := Ground.data }], guard := none } : Oper)) (v := ?_) rfl (by kernel_rfl) (by kernel_rfl) (by kernel_rfl) (fun _ _ _ h => h) (Or.inl ⟨by rfl, ?_⟩) (by assumption) ?_
  rotate_left
  · (intro w hSw; (try dsimp only at hSw); go_simp; (try with_reducible rfl))
  try simp only [Act.put, List.setIfInBounds_toArray, List.set_cons_zero, List.set_cons_succ]
  refine wpAnyH_ready (rs := [5]) (by kernel_rfl) (by simp) ?_
  refine AllReadyH.cons (o := ({ dst := some 57, op := Op.call { callee := Callee.value (Operand.func 82), args := #[Operand.tmp 53, Operand.tmp 54, Operand.tmp 55, Operand.tmp 56], argTypes := #[47, 22, 22, 22] }, type := 22, pos := "l11_doubling.go:55", after := #[{ on := 1, ground := Ground.data }, { on := 2, ground := Ground.data }, { on := 3, ground := Ground.data }, { on := 4, ground := Ground.data }], guard := none } : Oper)) rfl (fun K hK => ?_) AllReadyH.nil
  go_simp
  go_at_call 82
  refine (ih p _ _ _ _ _ _ h (st.take n) (xs.take h) (ys.take h) _ HH.out.symm (RS.out.keep hHeld0.2) (by omega) (by unfold maxLen; omega) HST.out (RA.out.keep hHeld0.2) (by omega) (by unfold maxLen; omega) (RC.out.keep hHeld0.2) (by omega) (by unfold maxLen; omega) h0 h1).mono ?_
  rintro e v1 ⟨C1, c1, rfl, hc1, hm1, ho, hb1⟩
  have M1 := Lib.hid (show IntsN p v1 C1 h _ from ⟨ho.ints, mulR_nums h0 _ _ _⟩)
  clear ho
  (try go_wp2_with fail)
  refine hK.out _ _ ?_ (fun hHeld1 => ?_)
  · (try dsimp only)
    exact ⟨keep_cell hb1 hHeld0.1, below_then hHeld0.2 hb1⟩
  clear hK K hHeld0
  try simp only [Act.put, List.setIfInBounds_toArray, List.set_cons_zero, List.set_cons_succ]
  refine wpAnyH_ready (rs := [10]) (by kernel_rfl) (by simp) ?_
  refine AllReadyH.cons (o := ({ dst := some 62, op := Op.call { callee := Callee.value (Operand.func 65), args := #[Operand.tmp 60, Operand.tmp 61], argTypes := #[47, 22] }, type := 22, pos := "l11_doubling.go:55", after := #[{ on := 8, ground := Ground.data }, { on := 9, ground := Ground.data }, { on := 5, ground := Ground.chain }], guard := none } : Oper)) rfl (fun K hK => ?_) AllReadyH.nil
  go_simp
  go_at_call 65
  refine (field_conjugate p _ _ _ (ys.drop h) _ (RD.out.keep hHeld1.2).1 h0 h1 RD.out.2 (by omega) (by omega)).mono ?_
  rintro e v2 ⟨C2, c2, rfl, hc2, hm2, ho, hb2⟩
  have M2 := Lib.hid (show IntsN p v2 C2 h _ from ⟨ho.ints, conjL_nums h0 RD.out.2⟩)
  replace M1 := Lib.hid (M1.out.keep hb2)
  clear ho
  (try go_wp2_with fail)
  refine hK.out _ _ ?_ (fun hHeld2 => ?_)
  · (try dsimp only)
    exact ⟨keep_cell hb2 hHeld1.1, below_then hHeld1.2 hb2⟩
  clear hK K hHeld1
  try simp only [Act.put, List.setIfInBounds_toArray, List.set_cons_zero, List.set_cons_succ]
  refine wpAnyH_ready (rs := [12]) (by kernel_rfl) (by simp) ?_
  refine AllReadyH.cons (o := ({ dst := some 64, op := Op.call { callee := Callee.value (Operand.func 82), args := #[Operand.tmp 58, Operand.tmp 59, Operand.tmp 62, Operand.tmp 63], argTypes := #[47, 22, 22, 22] }, type := 22, pos := "l11_doubling.go:55", after := #[{ on := 6, ground := Ground.data }, { on := 7, ground := Ground.data }, { on := 10, ground := Ground.data }, { on := 11, ground := Ground.data }, { on := 10, ground := Ground.chain }], guard := none } : Oper)) rfl (fun K hK => ?_) AllReadyH.nil
  go_simp
  go_at_call 82
  refine (ih p _ _ _ _ _ _ h (st.take n) (_) (xs.drop h) _ HH.out.symm (RS.out.keep hHeld2.2) (by omega) (by unfold maxLen; omega) HST.out M2.out (by omega) hm2 (RB.out.keep hHeld2.2) (by omega) (by unfold maxLen; omega) h0 h1).mono ?_
  rintro e v3 ⟨C3, c3, rfl, hc3, hm3, ho, hb3⟩
  have M3 := Lib.hid (show IntsN p v3 C3 h _ from ⟨ho.ints, mulR_nums h0 _ _ _⟩)
  replace M1 := Lib.hid (M1.out.keep hb3)
  clear ho
  (try go_wp2_with fail)
  refine hK.out _ _ ?_ (fun hHeld3 => ?_)
  · (try dsimp only)
    exact ⟨keep_cell hb3 hHeld2.1, below_then hHeld2.2 hb3⟩
  clear hK K hHeld2
  try simp only [Act.put, List.setIfInBounds_toArray, List.set_cons_zero, List.set_cons_succ]
  refine wpAnyH_ready (rs := [17]) (by kernel_rfl) (by simp) ?_
  refine AllReadyH.cons (o := ({ dst := some 69, op := Op.call { callee := Callee.value (Operand.func 85), args := #[Operand.tmp 52, Operand.tmp 57, Operand.tmp 64, Operand.tmp 68], argTypes := #[47, 22, 22, 2] }, type := 22, pos := "l11_doubling.go:55", after := #[{ on := 0, ground := Ground.data }, { on := 5, ground := Ground.data }, { on := 12, ground := Ground.data }, { on := 16, ground := Ground.data }, { on := 12, ground := Ground.chain }], guard := none } : Oper)) rfl (fun K hK => ?_) AllReadyH.nil
  go_simp
  go_at_call 85
  refine (field_plusR p g _ _ _ _ _ _ _ _ _ M1.out.1 M3.out.1 (Nat.le_refl _) h0 h1 M1.out.2 M3.out.2 (by omega) (by omega) (by omega)).mono ?_
  rintro e v4 ⟨o5, rfl, hor, hb4⟩
  have O5 := Lib.hid (own_mono hor hHeld3.2.size)
  clear hor M1 M2 M3
  (try go_wp2_with fail)
  refine hK.out _ _ ?_ (fun hHeld4 => ?_)
  · (try dsimp only)
    exact ⟨keep_cell hb4 hHeld3.1, below_then hHeld3.2 hb4⟩
  clear hK K hHeld3
  try simp only [Act.put, List.setIfInBounds_toArray, List.set_cons_zero, List.set_cons_succ]
  refine wpAnyH_take (i := 18) (oi := ({ dst := some 16, op := Op.assign (Operand.tmp 69), type := 22, pos := "l11_doubling.go:55", after := #[{ on := 17, ground := Ground.data }, { on := 17, ground := Ground.chain }, { on := 0, ground := Ground.phase }, { on := 1, ground := Ground.phase }, { on := 2, ground := Ground.phase }, { on := 3, ground := Ground.phase }, { on := 4, ground := Ground.phase }, { on := 5, ground := Ground.phase }, { on := 6, ground := Ground.phase }, { on := 7, ground := Ground.phase }, { on := 8, ground := Ground.phase }, { on := 9, ground := Ground.phase }, { on := 10, ground := Ground.phase }, { on := 11, ground := Ground.phase }, { on := 12, ground := Ground.phase }, { on := 13, ground := Ground.phase }, { on := 14, ground := Ground.phase }, { on := 15, ground := Ground.phase }, { on := 16, ground := Ground.phase }, { on := 17, ground := Ground.phase }], guard := none } : Oper)) (v := ?_) rfl (by kernel_rfl) (by kernel_rfl) (by kernel_rfl) (fun _ _ _ h => h) (Or.inl ⟨by rfl, ?_⟩) (by assumption) ?_
  rotate_left
  · (intro w hSw; (try dsimp only at hSw); go_simp; (try with_reducible rfl))
  try simp only [Act.put, List.setIfInBounds_toArray, List.set_cons_zero, List.set_cons_succ]
  refine wpAnyH_done (by kernel_rfl) ?_ _
  have HB := Lib.hid hHeld4.2
  have hs4 := HB.out.size
  go_wp2_with fail
  refine (ih p _ _ _ _ _ _ h (st.take n) (ys.drop h) (xs.take h) _ HH.out.symm (RS.out.keep HB.out) (by omega) (by unfold maxLen; omega) HST.out (RD.out.keep HB.out) (by omega) (by unfold maxLen; omega) (RA.out.keep HB.out) (by omega) (by unfold maxLen; omega) h0 h1).mono ?_
  rintro e v6 ⟨C6, c6, rfl, hc6, hm6, ho, hb⟩
  replace HB := Lib.hid (below_then HB.out hb)
  have hs6 := HB.out.size
  replace O5 := Lib.hid (own_keep hb O5.out)
  have M6 := Lib.hid (show IntsN p v6 C6 h _ from ⟨ho.ints, mulR_nums h0 _ _ _⟩)
  clear ho
  clear hb
  go_wp2_with fail
  refine (field_conjugate p _ _ _ (ys.take h) _ (RC.out.keep HB.out).1 h0 h1 RC.out.2 (by omega) (by omega)).mono ?_
  rintro e v7 ⟨C7, c7, rfl, hc7, hm7, ho, hb⟩
  replace HB := Lib.hid (below_then HB.out hb)
  have hs7 := HB.out.size
  have M7 := Lib.hid (show IntsN p v7 C7 h _ from ⟨ho.ints, conjL_nums h0 RC.out.2⟩)
  replace M6 := Lib.hid (M6.out.keep hb)
  replace O5 := Lib.hid (own_keep hb O5.out)
  clear ho
  clear hb
  go_wp2_with fail
  refine (ih p _ _ _ _ _ _ h (st.take n) (xs.drop h) (_) _ HH.out.symm (RS.out.keep HB.out) (by omega) (by unfold maxLen; omega) HST.out (RB.out.keep HB.out) (by omega) (by unfold maxLen; omega) M7.out (by omega) hm7 h0 h1).mono ?_
  rintro e v8 ⟨C8, c8, rfl, hc8, hm8, ho, hb⟩
  replace HB := Lib.hid (below_then HB.out hb)
  have hs8 := HB.out.size
  replace O5 := Lib.hid (own_keep hb O5.out)
  have M8 := Lib.hid (show IntsN p v8 C8 h _ from ⟨ho.ints, mulR_nums h0 _ _ _⟩)
  replace M6 := Lib.hid (M6.out.keep hb)
  clear ho
  clear hb
  go_wp2_with fail
  refine (field_plusR p 1 _ _ _ _ _ _ _ _ _ M6.out.1 M8.out.1 (Nat.le_refl _) h0 h1 M6.out.2 M8.out.2 (by omega) (by omega) (by omega)).mono ?_
  rintro e v9 ⟨o9, rfl, hor, hb⟩
  replace HB := Lib.hid (below_then HB.out hb)
  have hs9 := HB.out.size
  replace O5 := Lib.hid (own_keep hb O5.out)
  obtain ⟨g9, cap9, rfl, hg9, hlt9⟩ := hor.form (by omega)
  have O9 := Lib.hid (hor.cells (g := g9) rfl)
  have L9 := Lib.hid hor.1
  clear hor M6 M7 M8
  clear hb
  go_wp2_with (at_builtin; refine wpList_append_own _ rfl _ _ 22 rfl w.heap.size 2 i0 _ 1 8 Try.underlying22 hi0 hz0 hz1 hz2 rfl (by omega) o5 h _ rfl O5.out ⟨g9, 0, none⟩ h cap9 _ rfl L9.out O9.out (fun u hu => by obtain ⟨x, _, rfl⟩ := List.mem_map.1 hu; rfl) (by unfold maxLen; omega) (by omega) hs9 ?_; intro v' w1 hown1 hgrow _)
  rw [← List.map_append] at hown1
  obtain ⟨C, q, rfl, ho, hq1, hq2⟩ := Own.of_own2 hown1
  have HO := Lib.hid ho
  have HB1 := Lib.hid (below_own O5.out hgrow HB.out (Nat.le_refl _) hs9)
  clear ho hown1 hgrow
  go_wp2
  go_ret
  rw [HNh.out]
  refine ⟨C, q, rfl, hq1, hq2, ?_, HB1.out⟩
  rw [HV.out, HH.out]
  have t := HO.out
  rw [List.take_of_length_le (l := mulR p _ (conjL p (ys.drop h)) _) (by rw [mulR_len, LR.out, HH.out]; exact Nat.le_refl _)] at t
  rw [List.take_of_length_le (l := mulR p _ (xs.drop h) _) (by rw [mulR_len, LR.out, HH.out]; exact Nat.le_refl _)] at t
  exact t
end Go.Proofs.Ytjfkgocpkjdleaa
