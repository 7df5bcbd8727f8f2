/- Contracts: the reference's product of elements. Conditions stand in each theorem. -/
import Derived.Test.YtjfkgocpkjdleaaTimes0
namespace Go.Proofs.Ytjfkgocpkjdleaa
open Go.RowKit
set_option linter.unusedVariables false
set_option linter.unusedSimpArgs false

/-- function f returns the product of elements for n steps -/
def MulOK (f : Nat) (n : Nat) : Prop := ∀ (p : Int) (S X Y : Option Addr) (c cx cy N : Nat) (st xs ys : List Int) (w : World), N = 2 ^ n → Ints w S n st → n ≤ c → c ≤ maxLen → stepsB p st = true →
  IntsN p w X N xs → N ≤ cx → cx ≤ maxLen → IntsN p w Y N ys → N ≤ cy → cy ≤ maxLen → 3 ≤ p → p ≤ 13 →
  Calls Try.prog f #[.int .i64 p, .slice S n c, .slice X N cx, .slice Y N cy] w fun e w' => ∃ C q, e = .returned (.slice C N q) ∧ N ≤ q ∧ q ≤ maxLen ∧ Own w.heap.size w' C N (mulR p st.reverse xs ys) ∧ Below w.heap.size w w'

theorem own_mono {w : World} {base base' n : Nat} {e : TypeId} {v : Value} {xs : List Value} (h : w.ownsRow base e 1 v n xs) (hb : base' ≤ base) : w.ownsRow base' e 1 v n xs := by
  rcases h with ⟨h1, h2 | ⟨g, cap, cur, e1, e2, e3⟩⟩
  · exact ⟨h1, .inl h2⟩
  · exact ⟨h1, .inr ⟨g, cap, cur, e1, Nat.le_trans hb e2, e3⟩⟩
theorem nil_of_len0 {st : List Int} (h : st.length = 0) : st = [] := List.eq_nil_of_length_eq_zero h
theorem Own.mk1 (w : World) (a : Int) (t : TypeId) (b B : Nat) (hb : b = w.heap.size) (hB : B ≤ b) : Own B (w.alloc (.cells #[.int .i64 a] t)) (some ⟨b, 0, none⟩) 1 [a] := by
  subst hb
  refine ⟨rfl, by unfold maxLen; omega, fun _ => ⟨_, 0, rfl, hB, by simp, fun j x hj => ?_, fun j hj => ?_⟩⟩
  · rcases j with _ | j
    · simp at hj; subst hj; simp [go_sem]
    · simp at hj
  · obtain rfl : j = 0 := by omega
    simp [go_sem]

theorem spec_l11Mul_zero : MulOK 81 0 := by
  intro p S X Y c cx cy N st xs ys w hN hS hc hcm hst hX hcx hcxm hY hcy hcym h0 h1
  obtain rfl : N = 1 := hN
  obtain ⟨b1, off1, x, rfl, hb1, hxk, hck1⟩ := hX.1.at_ (show 0 < 1 by omega)
  obtain ⟨hx0, hx1⟩ := numB_true (numsB_at hX.2 hxk)
  obtain ⟨b2, off2, y, rfl, hb2, hyk, hck2⟩ := hY.1.at_ (show 0 < 1 by omega)
  obtain ⟨hy0, hy1⟩ := numB_true (numsB_at hY.2 hyk)
  have hnil := nil_of_len0 hS.1
  subst hnil
  have HV := Lib.hid (show mulR p ([] : List Int).reverse xs ys = [(x * y) % p] by
    show [(xs.getD 0 0 * ys.getD 0 0) % p] = _
    rw [List.getD_eq_getElem?_getD, List.getD_eq_getElem?_getD, hxk, hyk]; rfl)
  rw [HV.out]
  obtain ⟨m0, m1⟩ := mul_bounds (a := x) (b := y) (p := p) hx0 hx1 hy0 hy1 h1
  have e1 : IntKind.i64.wrap (x * y) = x * y := IntWalk.i64_in _ (by omega)
  simp only [Nat.add_zero] at hck1 hck2
  clear hS hX hY hxk hyk hb1 hb2 hst
  go_enter Try.func81, Try.ntmps81
  go_wp2_with fail
  go_region_held3 (fun w' => w'.cell? ⟨b1, off1, none⟩ = some (.int .i64 x) ∧ w'.cell? ⟨b2, off2, none⟩ = some (.int .i64 y) ∧ Below w.heap.size w w')
    (first
      | exact ⟨hck1, hck2, (Below.refl _ _).drew⟩
      | (go_split_ands; exact ⟨‹_›, ‹_›, ‹_›⟩)
      | (go_split_ands; exact ⟨keep_cell (below_alloc _ _) ‹_›, keep_cell (below_alloc _ _) ‹_›, below_then ‹_› (below_alloc _ _)⟩)
      | go_keep)
    (first | (go_at_call 55; refine (spec_l01Mod _ _ _ (by omega) (by omega)).mono ?_; rintro e w' ⟨rfl, rfl⟩))
  rename_i hh
  obtain ⟨_, _, hbw⟩ := hh
  clear e1
  go_wp2
  go_ret
  exact ⟨_, _, rfl, by omega, by unfold maxLen; omega, Own.mk1 _ _ _ _ _ (by simp) (by simp), hbw⟩

set_option maxHeartbeats 1000000 in
theorem spec_l11Mul_succ (n : Nat) (hn5 : n ≤ 5) (ih : MulOK 81 n) : MulOK 81 (n + 1) := by
  intro p S X Y c cx cy N st xs ys w hN hS hc hcm hst hX hcx hcxm hY hcy hcym h0 h1
  have hp2 : (2 : Nat) ^ (n + 1) = 2 ^ n + 2 ^ n := by rw [Nat.pow_succ]; omega
  obtain ⟨h, HH⟩ : ∃ h, Hid (2 ^ n = h) := ⟨_, Lib.hid rfl⟩
  have hNh : N = h + h := by rw [hN, hp2, HH.out]
  have hpos : 1 ≤ h := by rw [← HH.out]; exact Nat.one_le_two_pow
  have hle : h ≤ 64 := by rw [← HH.out]; exact pow_le6 (by omega)
  clear hN hp2
  unfold maxLen at hcm hcxm hcym
  obtain ⟨b1, off1, _, rfl, _, _, _⟩ := hX.1.at_ (show 0 < N by omega)
  obtain ⟨b2, off2, _, rfl, _, _, _⟩ := hY.1.at_ (show 0 < N by omega)
  obtain ⟨bs, os, g, rfl, _, hgk, hgc⟩ := hS.at_ (show n < n + 1 by omega)
  have hg := rangeB_true (List.all_eq_true.1 hst g (List.mem_of_getElem? hgk))
  obtain ⟨hg0, hg1⟩ := hg
  have HST := Lib.hid (stepsB_take (n := n) hst)
  have HV := Lib.hid (mulR_step (p := p) (x := xs) (y := ys) hgk hS.1)
  have RS := Lib.hid (IntsN.take_ (p := p) ⟨hS, stepsB_nums hst⟩ (show n ≤ n + 1 by omega)).1
  have LR := Lib.hid (show (st.take n).reverse.length = n by rw [List.length_reverse, List.length_take]; have := hS.1; omega)
  have q11 : N - h = h := by omega
  have RA := Lib.hid (hX.take_ (show h ≤ N by omega))
  have RB := Lib.hid (show IntsN p w (some ⟨b1, off1 + h, none⟩) h (xs.drop h) by have t := hX.drop_ (show h ≤ N by omega); rw [q11] at t; exact t)
  have RC := Lib.hid (hY.take_ (show h ≤ N by omega))
  have RD := Lib.hid (show IntsN p w (some ⟨b2, off2 + h, none⟩) h (ys.drop h) by have t := hY.drop_ (show h ≤ N by omega); rw [q11] at t; exact t)
  have HNh := Lib.hid hNh
  have q0 : ((n : Int) + 1 == 0) = false := by simp; omega
  have q1 : (N : Int) / 2 = h := by omega
  have q2 : (h : Int) ≤ cx := by omega
  have q3 : (h : Int) ≤ cy := by omega
  have q4 : (h : Int) ≤ N := by omega
  have q5 : (N : Int) ≤ cx := by omega
  have q6 : (N : Int) ≤ cy := by omega
  have q7 : (n : Int) ≤ c := by omega
  have q8 : (n : Int) < n + 1 := by omega
  have q9 : (0 : Int) ≤ h := by omega
  have q10 : (0 : Int) ≤ n := by omega
  have r1 : h < cx := by omega
  have r2 : h < cy := by omega
  have r3 : h ≤ cx - h := by omega
  have r4 : h ≤ cy - h := by omega
  have q12 : (h : Int) < cx := by omega
  have q13 : (h : Int) < cy := by omega
  have ML := Lib.hid (show h ≤ maxLen by unfold maxLen; omega)
  clear hst hX hY hS hgk hNh hcy hcx
  obtain ⟨i0, hi0, hz0, hz1, hz2⟩ := info_parts int_info
  go_enter Try.func81, Try.ntmps81
  go_wp2
  go_quiet (fail)
  go_wp2
  go_quiet (fail)
  -- the two halves
  go_wp2_with fail
  refine (ih p _ _ _ _ _ _ h (st.take n) (xs.take h) (ys.take h) _ HH.out.symm (RS.out.keep (below_drewN (Below.refl _ _) _)) (by omega) (by unfold maxLen; omega) HST.out (RA.out.keep (below_drewN (Below.refl _ _) _)) (by omega) (by unfold maxLen; omega) (RC.out.keep (below_drewN (Below.refl _ _) _)) (by omega) (by unfold maxLen; omega) h0 h1).mono ?_
  rintro e v1 ⟨C1, c1, rfl, hc1, hm1, ho, hb⟩
  have HB := Lib.hid (below_then (below_drewN (Below.refl w.heap.size w) _) hb)
  have hs1 := HB.out.size
  have M1 := Lib.hid (show IntsN p v1 C1 h _ from ⟨ho.ints, mulR_nums h0 _ _ _⟩)
  clear ho
  clear hb
  go_wp2_with fail
  refine (spec_l11Star p _ _ _ (ys.drop h) _ (RD.out.keep HB.out).1 h0 h1 RD.out.2 (by omega) (by omega)).mono ?_
  rintro e v2 ⟨C2, c2, rfl, hc2, hm2, ho, hb⟩
  replace HB := Lib.hid (below_then HB.out hb)
  have hs2 := HB.out.size
  have M2 := Lib.hid (show IntsN p v2 C2 h _ from ⟨ho.ints, conjL_nums h0 RD.out.2⟩)
  replace M1 := Lib.hid (M1.out.keep hb)
  clear ho
  clear hb
  go_wp2_with fail
  refine (ih p _ _ _ _ _ _ h (st.take n) (_) (xs.drop h) _ HH.out.symm (RS.out.keep HB.out) (by omega) (by unfold maxLen; omega) HST.out M2.out (by omega) hm2 (RB.out.keep HB.out) (by omega) (by unfold maxLen; omega) h0 h1).mono ?_
  rintro e v3 ⟨C3, c3, rfl, hc3, hm3, ho, hb⟩
  replace HB := Lib.hid (below_then HB.out hb)
  have hs3 := HB.out.size
  have M3 := Lib.hid (show IntsN p v3 C3 h _ from ⟨ho.ints, mulR_nums h0 _ _ _⟩)
  replace M1 := Lib.hid (M1.out.keep hb)
  clear ho
  clear hb
  go_wp2_with fail
  refine (spec_l11Scale p g _ _ _ _ _ M3.out.1 h0 h1 M3.out.2 (by omega) (by omega) (by omega)).mono ?_
  rintro e v4 ⟨o4, rfl, hor, hb⟩
  replace HB := Lib.hid (below_then HB.out hb)
  have hs4 := HB.out.size
  obtain ⟨C4, c4, rfl, ho, hc4, hm4⟩ := Own.of_own2 hor
  have M4 := Lib.hid (show IntsN p v4 C4 h _ from ⟨ho.ints, scaleL_nums h0 _⟩)
  replace M1 := Lib.hid (M1.out.keep hb)
  clear ho hor
  clear hb
  go_wp2_with fail
  refine (spec_l11Add p _ _ _ _ _ _ _ _ _ M1.out.1 M4.out.1 (Nat.le_refl _) h0 h1 M1.out.2 M4.out.2 (by omega)).mono ?_
  rintro e v5 ⟨o5, rfl, hor, hb⟩
  replace HB := Lib.hid (below_then HB.out hb)
  have hs5 := HB.out.size
  have O5 := Lib.hid (own_mono hor hs4)
  clear hor M1 M2 M3 M4
  clear hb
  go_wp2_with fail
  refine (ih p _ _ _ _ _ _ h (st.take n) (ys.drop h) (xs.take h) _ HH.out.symm (RS.out.keep HB.out) (by omega) (by unfold maxLen; omega) HST.out (RD.out.keep HB.out) (by omega) (by unfold maxLen; omega) (RA.out.keep HB.out) (by omega) (by unfold maxLen; omega) h0 h1).mono ?_
  rintro e v6 ⟨C6, c6, rfl, hc6, hm6, ho, hb⟩
  replace HB := Lib.hid (below_then HB.out hb)
  have hs6 := HB.out.size
  replace O5 := Lib.hid (own_keep hb O5.out)
  have M6 := Lib.hid (show IntsN p v6 C6 h _ from ⟨ho.ints, mulR_nums h0 _ _ _⟩)
  clear ho
  clear hb
  go_wp2_with fail
  refine (spec_l11Star p _ _ _ (ys.take h) _ (RC.out.keep HB.out).1 h0 h1 RC.out.2 (by omega) (by omega)).mono ?_
  rintro e v7 ⟨C7, c7, rfl, hc7, hm7, ho, hb⟩
  replace HB := Lib.hid (below_then HB.out hb)
  have hs7 := HB.out.size
  have M7 := Lib.hid (show IntsN p v7 C7 h _ from ⟨ho.ints, conjL_nums h0 RC.out.2⟩)
  replace M6 := Lib.hid (M6.out.keep hb)
  replace O5 := Lib.hid (own_keep hb O5.out)
  clear ho
  clear hb
  go_wp2_with fail
  refine (ih p _ _ _ _ _ _ h (st.take n) (xs.drop h) (_) _ HH.out.symm (RS.out.keep HB.out) (by omega) (by unfold maxLen; omega) HST.out (RB.out.keep HB.out) (by omega) (by unfold maxLen; omega) M7.out (by omega) hm7 h0 h1).mono ?_
  rintro e v8 ⟨C8, c8, rfl, hc8, hm8, ho, hb⟩
  replace HB := Lib.hid (below_then HB.out hb)
  have hs8 := HB.out.size
  replace O5 := Lib.hid (own_keep hb O5.out)
  have M8 := Lib.hid (show IntsN p v8 C8 h _ from ⟨ho.ints, mulR_nums h0 _ _ _⟩)
  replace M6 := Lib.hid (M6.out.keep hb)
  clear ho
  clear hb
  go_wp2_with fail
  refine (spec_l11Add p _ _ _ _ _ _ _ _ _ M6.out.1 M8.out.1 (Nat.le_refl _) h0 h1 M6.out.2 M8.out.2 (by omega)).mono ?_
  rintro e v9 ⟨o9, rfl, hor, hb⟩
  replace HB := Lib.hid (below_then HB.out hb)
  have hs9 := HB.out.size
  replace O5 := Lib.hid (own_keep hb O5.out)
  obtain ⟨g9, cap9, rfl, hg9, hlt9⟩ := hor.form (by omega)
  have O9 := Lib.hid (hor.cells (g := g9) rfl)
  have L9 := Lib.hid hor.1
  clear hor M6 M7 M8
  clear hb
  go_wp2_with (at_builtin; refine wpList_append_own _ rfl _ _ 22 rfl w.heap.size 2 i0 _ 1 8 Try.underlying22 hi0 hz0 hz1 hz2 rfl (by omega) o5 h _ rfl O5.out ⟨g9, 0, none⟩ h cap9 _ rfl L9.out O9.out (fun u hu => by obtain ⟨x, _, rfl⟩ := List.mem_map.1 hu; rfl) (by unfold maxLen; omega) (by omega) hs9 ?_; intro v' w1 hown1 hgrow _)
  rw [← List.map_append] at hown1
  obtain ⟨C, q, rfl, ho, hq1, hq2⟩ := Own.of_own2 hown1
  have HO := Lib.hid ho
  have HB1 := Lib.hid (below_own O5.out hgrow HB.out (Nat.le_refl _) hs9)
  clear ho hown1 hgrow
  go_wp2
  go_ret
  rw [HNh.out]
  refine ⟨C, q, rfl, hq1, hq2, ?_, HB1.out⟩
  rw [HV.out, HH.out]
  have t := HO.out
  rw [List.take_of_length_le (l := scaleL p g _) (by rw [scaleL_len, mulR_len, LR.out, HH.out]; exact Nat.le_refl _), plus_scale] at t
  rw [List.take_of_length_le (l := mulR p _ (xs.drop h) _) (by rw [mulR_len, LR.out, HH.out]; exact Nat.le_refl _)] at t
  exact t
end Go.Proofs.Ytjfkgocpkjdleaa
