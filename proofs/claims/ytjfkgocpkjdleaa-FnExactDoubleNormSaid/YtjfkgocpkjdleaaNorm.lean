/- Contracts: norms of elements. Conditions stand in each theorem. -/
import Derived.Test.YtjfkgocpkjdleaaNormP
import Derived.Test.YtjfkgocpkjdleaaTimes
namespace Go.Proofs.Ytjfkgocpkjdleaa
open Go.RowKit
set_option linter.unusedVariables false
set_option linter.unusedSimpArgs false

theorem diag_step {p g : Int} {st : List Int} {k : Nat} (h : st[k]? = some g) : diagR p (st.take (k + 1)).reverse = diagR p (st.take k).reverse ++ scaleL p (p - g) (diagR p (st.take k).reverse) := by
  rw [take_snoc h, List.reverse_append]; rfl
theorem pow_two (k : Nat) : (2 : Nat) ^ k + 2 ^ k = 2 ^ (k + 1) := by rw [Nat.pow_succ]; omega
theorem own_one (w : World) (t : TypeId) (a : Int) (b base : Nat) (hb : b = w.heap.size) (h : base ≤ b) : (w.alloc (.cells #[.int .i64 a] t)).ownsRow base t 1 (.slice (some ⟨b, 0, none⟩) 1 1) 1 [.int .i64 a] := by
  subst hb
  exact World.ownsRow_lit w #[.int .i64 a] 1 h (by unfold maxLen; omega) rfl

set_option maxHeartbeats 1000000 in
theorem spec_l11Diagonal (p : Int) (A : Option Addr) (n c : Nat) (xs : List Int) (w : World) (hx : Ints w A n xs) (hn : n ≤ 4) (h0 : 3 ≤ p) (h1 : p ≤ 13) (hst : stepsB p xs = true) :
    Calls Try.prog 62 #[.agg #[.int .i64 p, .slice A n c]] w fun e w' => ∃ C q, e = .returned (.slice C (2 ^ n) q) ∧ 2 ^ n ≤ q ∧ q ≤ maxLen ∧ Own w.heap.size w' C (2 ^ n) (diagR p xs.reverse) ∧ Below w.heap.size w w' := by
  have HX := Lib.hid hx
  have HN := Lib.hid hx.1
  have HST := Lib.hid hst
  clear hx hst
  obtain ⟨i0, hi0, hz0, hz1, hz2⟩ := info_parts int_info
  have H2 := Lib.hid (show Below w.heap.size w (w.alloc (.cells #[.int .i64 p, .slice A n c] 27)) from (Below.refl _ _).alloc (Nat.le_refl _) _)
  go_enter Try.func62, Try.ntmps62
  have c0 : (w.alloc (.cells #[.int .i64 p, .slice A n c] 27)).cell? ⟨w.heap.size, 0, none⟩ = some (.int .i64 p) := by simp [go_sem]
  have c1 : (w.alloc (.cells #[.int .i64 p, .slice A n c] 27)).cell? ⟨w.heap.size, 1, none⟩ = some (.slice A n c) := by simp [go_sem]
  have HW := Lib.hid (Below.refl (w.alloc (.cells #[.int .i64 p, .slice A n c] 27)).heap.size (w.alloc (.cells #[.int .i64 p, .slice A n c] 27)))
  go_wp2
  go_loopw [3, 4] (fun o i wr => ∃ k : Nat, k ≤ n ∧ i = .int .i64 k ∧ wr.ownsRow (w.heap.size + 1) 2 1 o (2 ^ k) ((diagR p (xs.take k).reverse).map (Value.int .i64)) ∧ wr.cell? ⟨w.heap.size, 0, none⟩ = some (.int .i64 p) ∧ wr.cell? ⟨w.heap.size, 1, none⟩ = some (.slice A n c) ∧ Below w.heap.size w wr ∧ w.heap.size + 1 ≤ wr.heap.size) (fun _ i _ => n - (intOf i).toNat)
  case atStart => exact ⟨0, Nat.zero_le _, rfl, own_one _ _ _ _ _ (by simp) (Nat.le_refl _), keep_cell (below_alloc _ _) c0, keep_cell (below_alloc _ _) c1, H2.out.alloc H2.out.size _, by simp⟩
  case round =>
    clear c0 c1 HW
    obtain ⟨k, hk, rfl, hown, c0, c1, hbel, hsz1⟩ := hrel
    have HO := Lib.hid hown
    have HB := Lib.hid hbel
    clear hown hbel
    by_cases hlt : k < n
    · obtain ⟨bs, os, g, rfl, hbs, hgk, hck⟩ := (HX.out.keep HB.out).at_ hlt
      have hbs' : bs < w.heap.size := by obtain ⟨bb, oo, ee, hh, _⟩ := HX.out.2.2 (show 0 < n by omega); simp at ee; omega
      obtain ⟨hg0, hg1⟩ := rangeB_true (List.all_eq_true.1 HST.out g (List.mem_of_getElem? hgk))
      have HG := Lib.hid (diag_step (p := p) hgk)
      have k0 : (0 : Int) ≤ k := by omega
      have k1 : (k : Int) < n := by omega
      have f1 : IntKind.i64.wrap (p - g) = p - g := IntWalk.i64_in _ (by omega)
      obtain ⟨P2, HP2⟩ : ∃ q, Hid (2 ^ k = q) := ⟨_, Lib.hid rfl⟩
      have hP1 : 1 ≤ P2 := by rw [← HP2.out]; exact Nat.one_le_two_pow
      have hP2 : P2 ≤ 64 := by rw [← HP2.out]; exact pow_le6 (by omega)
      rw [HP2.out] at HO
      obtain ⟨OC, oq, rfl, hoo, hoq1, hoq2⟩ := Own.of_own2 HO.out
      have HI := Lib.hid (show IntsN p wr.drew OC P2 _ from ⟨Ints.drew hoo.ints, diagR_nums h0 _⟩)
      clear hgk hbs hoo
      go_wp2_with fail
      refine wp_region_held_drew (S := (fun w' => w'.cell? ⟨w.heap.size, 0, none⟩ = some (.int .i64 p) ∧ w'.cell? ⟨w.heap.size, 1, none⟩ = some (.slice (some ⟨bs, os, none⟩) n c) ∧ w'.cell? ⟨bs, os + k, none⟩ = some (.int .i64 g) ∧ Below w.heap.size w w')) (by kernel_rfl) ?_ (fun hHeld0 => ?_)
      · exact ⟨c0, c1, hck, HB.out.drew⟩
      refine wpAnyH_take (i := 0) (oi := ({ dst := some 13, op := Op.move (Operand.tmp 3), type := 22, pos := "l11_doubling.go:115", after := #[], guard := none } : Oper)) (v := ?_) rfl (by kernel_rfl) (by kernel_rfl) (by kernel_rfl) (fun _ _ _ h => h) (Or.inl ⟨by rfl, ?_⟩) (by assumption) ?_
      rotate_left
      · (intro w hSw; (try dsimp only at hSw); go_simp; (try with_reducible rfl))
      try simp only [Act.put, List.setIfInBounds_toArray, List.set_cons_zero, List.set_cons_succ]
      refine wpAnyH_take (i := 1) (oi := ({ dst := some 14, op := Op.fieldAddr 27 (Operand.tmp 1) 0, type := 0, pos := "l11_doubling.go:115", after := #[], guard := none } : Oper)) (v := ?_) rfl (by kernel_rfl) (by kernel_rfl) (by kernel_rfl) (fun _ _ _ h => h) (Or.inl ⟨by rfl, ?_⟩) (by assumption) ?_
      rotate_left
      · (intro w hSw; (try dsimp only at hSw); go_simp; (try with_reducible rfl))
      try simp only [Act.put, List.setIfInBounds_toArray, List.set_cons_zero, List.set_cons_succ]
      refine wpAnyH_take (i := 2) (oi := ({ dst := some 15, op := Op.load 2 (Operand.tmp 14), type := 2, pos := "l11_doubling.go:115", after := #[{ on := 1, ground := Ground.data }], guard := none } : Oper)) (v := ?_) rfl (by kernel_rfl) (by kernel_rfl) (by kernel_rfl) (fun _ _ _ h => h) (Or.inl ⟨by rfl, ?_⟩) (by assumption) ?_
      rotate_left
      · (intro w hSw; (try dsimp only at hSw); go_simp; (try with_reducible rfl))
      try simp only [Act.put, List.setIfInBounds_toArray, List.set_cons_zero, List.set_cons_succ]
      refine wpAnyH_take (i := 3) (oi := ({ dst := some 16, op := Op.fieldAddr 27 (Operand.tmp 1) 0, type := 0, pos := "l11_doubling.go:115", after := #[], guard := none } : Oper)) (v := ?_) rfl (by kernel_rfl) (by kernel_rfl) (by kernel_rfl) (fun _ _ _ h => h) (Or.inl ⟨by rfl, ?_⟩) (by assumption) ?_
      rotate_left
      · (intro w hSw; (try dsimp only at hSw); go_simp; (try with_reducible rfl))
      try simp only [Act.put, List.setIfInBounds_toArray, List.set_cons_zero, List.set_cons_succ]
      refine wpAnyH_take (i := 4) (oi := ({ dst := some 17, op := Op.load 2 (Operand.tmp 16), type := 2, pos := "l11_doubling.go:115", after := #[{ on := 3, ground := Ground.data }], guard := none } : Oper)) (v := ?_) rfl (by kernel_rfl) (by kernel_rfl) (by kernel_rfl) (fun _ _ _ h => h) (Or.inl ⟨by rfl, ?_⟩) (by assumption) ?_
      rotate_left
      · (intro w hSw; (try dsimp only at hSw); go_simp; (try with_reducible rfl))
      try simp only [Act.put, List.setIfInBounds_toArray, List.set_cons_zero, List.set_cons_succ]
      refine wpAnyH_take (i := 5) (oi := ({ dst := some 18, op := Op.fieldAddr 27 (Operand.tmp 1) 1, type := 0, pos := "l11_doubling.go:115", after := #[], guard := none } : Oper)) (v := ?_) rfl (by kernel_rfl) (by kernel_rfl) (by kernel_rfl) (fun _ _ _ h => h) (Or.inl ⟨by rfl, ?_⟩) (by assumption) ?_
      rotate_left
      · (intro w hSw; (try dsimp only at hSw); go_simp; (try with_reducible rfl))
      try simp only [Act.put, List.setIfInBounds_toArray, List.set_cons_zero, List.set_cons_succ]
      refine wpAnyH_take (i := 6) (oi := ({ dst := some 19, op := Op.load 22 (Operand.tmp 18), type := 22, pos := "l11_doubling.go:115", after := #[{ on := 5, ground := Ground.data }], guard := none } : Oper)) (v := ?_) rfl (by kernel_rfl) (by kernel_rfl) (by kernel_rfl) (fun _ _ _ h => h) (Or.inl ⟨by rfl, ?_⟩) (by assumption) ?_
      rotate_left
      · (intro w hSw; (try dsimp only at hSw); go_simp; (try with_reducible rfl))
      try simp only [Act.put, List.setIfInBounds_toArray, List.set_cons_zero, List.set_cons_succ]
      refine wpAnyH_take (i := 7) (oi := ({ dst := some 20, op := Op.move (Operand.tmp 4), type := 3, pos := "l11_doubling.go:115", after := #[], guard := none } : Oper)) (v := ?_) rfl (by kernel_rfl) (by kernel_rfl) (by kernel_rfl) (fun _ _ _ h => h) (Or.inl ⟨by rfl, ?_⟩) (by assumption) ?_
      rotate_left
      · (intro w hSw; (try dsimp only at hSw); go_simp; (try with_reducible rfl))
      try simp only [Act.put, List.setIfInBounds_toArray, List.set_cons_zero, List.set_cons_succ]
      refine wpAnyH_take (i := 8) (oi := ({ dst := some 21, op := Op.indexAddr 22 (Operand.tmp 19) (Operand.tmp 20), type := 0, pos := "l11_doubling.go:115", after := #[{ on := 6, ground := Ground.data }, { on := 7, ground := Ground.data }], guard := none } : Oper)) (v := ?_) rfl (by kernel_rfl) (by kernel_rfl) (by kernel_rfl) (fun _ _ _ h => h) (Or.inl ⟨by rfl, ?_⟩) (by assumption) ?_
      rotate_left
      · (intro w hSw; (try dsimp only at hSw); go_simp; (try with_reducible rfl))
      try simp only [Act.put, List.setIfInBounds_toArray, List.set_cons_zero, List.set_cons_succ]
      refine wpAnyH_take (i := 9) (oi := ({ dst := some 22, op := Op.load 2 (Operand.tmp 21), type := 2, pos := "l11_doubling.go:115", after := #[{ on := 8, ground := Ground.data }], guard := none } : Oper)) (v := ?_) rfl (by kernel_rfl) (by kernel_rfl) (by kernel_rfl) (fun _ _ _ h => h) (Or.inl ⟨by rfl, ?_⟩) (by assumption) ?_
      rotate_left
      · (intro w hSw; (try dsimp only at hSw); go_simp; (try with_reducible rfl))
      try simp only [Act.put, List.setIfInBounds_toArray, List.set_cons_zero, List.set_cons_succ]
      refine wpAnyH_take (i := 10) (oi := ({ dst := some 23, op := Op.binOp BinOp.sub 2 (Operand.tmp 17) (Operand.tmp 22) 2, type := 2, pos := "l11_doubling.go:115", after := #[{ on := 4, ground := Ground.data }, { on := 9, ground := Ground.data }], guard := none } : Oper)) (v := ?_) rfl (by kernel_rfl) (by kernel_rfl) (by kernel_rfl) (fun _ _ _ h => h) (Or.inl ⟨by rfl, ?_⟩) (by assumption) ?_
      rotate_left
      · (intro w hSw; (try dsimp only at hSw); go_simp; (try with_reducible rfl))
      try simp only [Act.put, List.setIfInBounds_toArray, List.set_cons_zero, List.set_cons_succ]
      refine wpAnyH_take (i := 11) (oi := ({ dst := some 24, op := Op.move (Operand.tmp 3), type := 22, pos := "l11_doubling.go:115", after := #[], guard := none } : Oper)) (v := ?_) rfl (by kernel_rfl) (by kernel_rfl) (by kernel_rfl) (fun _ _ _ h => h) (Or.inl ⟨by rfl, ?_⟩) (by assumption) ?_
      rotate_left
      · (intro w hSw; (try dsimp only at hSw); go_simp; (try with_reducible rfl))
      try simp only [Act.put, List.setIfInBounds_toArray, List.set_cons_zero, List.set_cons_succ]
      refine wpAnyH_ready (rs := [12]) (by kernel_rfl) (by simp) ?_
      refine AllReadyH.cons (o := ({ dst := some 25, op := Op.call { callee := Callee.value (Operand.func 79), args := #[Operand.tmp 15, Operand.tmp 23, Operand.tmp 24], argTypes := #[2, 2, 22] }, type := 22, pos := "l11_doubling.go:115", after := #[{ on := 2, ground := Ground.data }, { on := 10, ground := Ground.data }, { on := 11, ground := Ground.data }], guard := none } : Oper)) rfl (fun K hK => ?_) AllReadyH.nil
      go_simp
      go_at_call 79
      refine (spec_l11Scale p (p - g) _ _ _ _ _ HI.out.1 h0 h1 HI.out.2 (by omega) (by omega) (by omega)).mono ?_
      rintro e v1 ⟨o4, rfl, hor, hb1⟩
      have O3 := Lib.hid (own_keep hb1 HO.out)
      obtain ⟨g9, cap9, rfl, hg9, hlt9⟩ := hor.form (by omega)
      have O9 := Lib.hid (hor.cells (g := g9) rfl)
      have L9 := Lib.hid hor.1
      clear hor
      (try go_wp2_with fail)
      refine hK.out _ _ ?_ (fun hHeld1 => ?_)
      · (try dsimp only)
        exact ⟨keep_cell hb1 hHeld0.1, keep_cell hb1 hHeld0.2.1, keep_cell hb1 hHeld0.2.2.1, below_then hHeld0.2.2.2 hb1⟩
      clear hK K hHeld0
      try simp only [Act.put, List.setIfInBounds_toArray, List.set_cons_zero, List.set_cons_succ]
      refine wpAnyH_ready (rs := [13]) (by kernel_rfl) (by simp) ?_
      refine AllReadyH.cons (o := ({ dst := some 26, op := Op.call { callee := Callee.builtin Builtin.append, args := #[Operand.tmp 13, Operand.tmp 25], argTypes := #[22, 22] }, type := 22, pos := "l11_doubling.go:115", after := #[{ on := 0, ground := Ground.data }, { on := 12, ground := Ground.data }, { on := 12, ground := Ground.chain }], guard := none } : Oper)) rfl (fun K hK => ?_) AllReadyH.nil
      refine step_append_lies _ (by rfl) _ _ _ (by rfl) (w.heap.size + 1) 2 i0 _ 1 8 Try.underlying22 hi0 hz0 hz1 hz2 rfl (by omega) _ P2 _ (by rfl) O3.out ⟨g9, 0, none⟩ P2 cap9 _ (by rfl) L9.out O9.out (fun u hu => by obtain ⟨x, _, rfl⟩ := List.mem_map.1 hu; rfl) (by omega) (by unfold maxLen; omega) (by omega) (by have := hb1.size; simp at this; omega) _ rfl ?_; intro gg cap w1 hown1 hgrow hat hlt1
      refine hK.out _ _ ?_ (fun hHeld2 => ?_)
      · (try dsimp only)
        exact ⟨cell_grown O3.out hgrow hHeld1.1 (by simp), cell_grown O3.out hgrow hHeld1.2.1 (by simp), cell_grown O3.out hgrow hHeld1.2.2.1 (by simp; omega), below_own O3.out hgrow hHeld1.2.2.2 (by omega) (hHeld1.2.2.2).size⟩
      clear hK K hHeld1
      try simp only [Act.put, List.setIfInBounds_toArray, List.set_cons_zero, List.set_cons_succ]
      refine wpAnyH_take (i := 14) (oi := ({ dst := some 3, op := Op.assign (Operand.tmp 26), type := 22, pos := "l11_doubling.go:115", after := #[{ on := 13, ground := Ground.data }, { on := 13, ground := Ground.chain }, { on := 0, ground := Ground.phase }, { on := 1, ground := Ground.phase }, { on := 2, ground := Ground.phase }, { on := 3, ground := Ground.phase }, { on := 4, ground := Ground.phase }, { on := 5, ground := Ground.phase }, { on := 6, ground := Ground.phase }, { on := 7, ground := Ground.phase }, { on := 8, ground := Ground.phase }, { on := 9, ground := Ground.phase }, { on := 10, ground := Ground.phase }, { on := 11, ground := Ground.phase }, { on := 12, ground := Ground.phase }, { on := 13, ground := Ground.phase }], guard := none } : Oper)) (v := ?_) rfl (by kernel_rfl) (by kernel_rfl) (by kernel_rfl) (fun _ _ _ h => h) (Or.inl ⟨by rfl, ?_⟩) (by assumption) ?_
      rotate_left
      · (intro w hSw; (try dsimp only at hSw); go_simp; (try with_reducible rfl))
      try simp only [Act.put, List.setIfInBounds_toArray, List.set_cons_zero, List.set_cons_succ]
      refine wpAnyH_done (by kernel_rfl) ?_ _
      obtain ⟨c0', c1', _, hbl⟩ := hHeld2
      have HB1 := Lib.hid hbl
      have HO1 := Lib.hid hown1
      have hsz2 := hgrow.size
      have hsz3 := hb1.size
      simp at hsz3
      clear f1 hbl hown1 hgrow hat hlt1
      go_wp2
      go_roundw
      case rel => exact ⟨k + 1, by omega, by go_num, by rw [HG.out, List.map_append, ← pow_two, HP2.out]; exact HO1.out, c0', c1', HB1.out, by omega⟩
      case measure => simp [intOf]; omega
    · obtain rfl : k = n := by omega
      obtain ⟨C, q, rfl, ho, hq1, hq2⟩ := Own.of_own2 HO.out
      have HOO := Lib.hid (ho.less (B' := w.heap.size) (by omega))
      clear ho
      go_wp2
      go_ret
      refine ⟨C, q, rfl, hq1, hq2, ?_, HB.out⟩
      have t := HOO.out
      rw [List.take_of_length_le (by rw [HN.out]; exact Nat.le_refl _)] at t
      exact t

theorem norm_step {p d x s : Int} {ds ys : List Int} {k : Nat} (hd : ds[k]? = some d) (hx : ys[k]? = some x) (hs : s = triL (ds.take k) (ys.take k) (ys.take k) % p) : (s + d * x * x) % p = triL (ds.take (k + 1)) (ys.take (k + 1)) (ys.take (k + 1)) % p := by
  rw [triL_step hd hx hx, hs, Int.emod_add_emod]
theorem tri_bounds {d x p : Int} (h0 : 0 ≤ d) (h1 : d < p) (h2 : 0 ≤ x) (h3 : x < p) (hp : p ≤ 13) : 0 ≤ d * x ∧ d * x ≤ 144 ∧ 0 ≤ d * x * x ∧ d * x * x ≤ 1728 := by
  obtain ⟨a, b⟩ := mul_bounds h0 h1 h2 h3 hp
  refine ⟨a, b, Int.mul_nonneg a h2, ?_⟩
  have := Int.mul_le_mul b (show x ≤ 12 by omega) h2 (by omega)
  omega

theorem spec_l11Norm (p : Int) (A B : Option Addr) (n c m d : Nat) (xs ys : List Int) (w : World) (hx : Ints w A n xs) (hn : n ≤ 4) (h0 : 3 ≤ p) (h1 : p ≤ 13) (hst : stepsB p xs = true) (hy : IntsN p w B m ys) (hm : m = 2 ^ n) :
    Calls Try.prog 66 #[.agg #[.int .i64 p, .slice A n c], .slice B m d] w fun e w' => e = .returned (.int .i64 (normV p xs.reverse ys)) ∧ Below w.heap.size w w' := by
  have HX := Lib.hid hx
  have HST := Lib.hid hst
  have HY := Lib.hid hy
  have HM := Lib.hid hm
  have hm64 : m ≤ 64 := by rw [hm]; exact pow_le6 (by omega)
  clear hx hst hy hm
  have H2 := Lib.hid (show Below w.heap.size w (w.alloc (.cells #[.int .i64 p, .slice A n c] 27)) from (Below.refl _ _).alloc (Nat.le_refl _) _)
  go_enter Try.func66, Try.ntmps66
  have c0 : (w.alloc (.cells #[.int .i64 p, .slice A n c] 27)).cell? ⟨w.heap.size, 0, none⟩ = some (.int .i64 p) := by simp [go_sem]
  have c1 : (w.alloc (.cells #[.int .i64 p, .slice A n c] 27)).cell? ⟨w.heap.size, 1, none⟩ = some (.slice A n c) := by simp [go_sem]
  have HW := Lib.hid (Below.refl (w.alloc (.cells #[.int .i64 p, .slice A n c] 27)).heap.size (w.alloc (.cells #[.int .i64 p, .slice A n c] 27)))
  go_wp2_with fail
  refine (spec_l11Diagonal p _ _ _ xs _ (HX.out.keep H2.out) hn h0 h1 HST.out).mono ?_
  rintro e v ⟨DC, dq, rfl, hd1, hd2, ho, hb⟩
  have HD := Lib.hid (show IntsN p v DC m _ from ⟨by rw [HM.out]; exact ho.ints, diagR_nums h0 _⟩)
  have HB0 := Lib.hid (below_then H2.out hb)
  replace c0 := keep_cell hb c0
  obtain ⟨P2, HP2⟩ : ∃ q, Hid (2 ^ n = q) := ⟨_, Lib.hid rfl⟩
  rw [HP2.out]
  clear ho hb c1 HW
  obtain rfl : P2 = m := by rw [HM.out, HP2.out]
  go_wp2
  go_loopw [6, 7] (fun s i wr => ∃ (k : Nat) (t : Int), k ≤ P2 ∧ i = .int .i64 k ∧ s = .int .i64 t ∧ 0 ≤ t ∧ t < p ∧ Hid (t = triL ((diagR p xs.reverse).take k) (ys.take k) (ys.take k) % p) ∧ wr.cell? ⟨w.heap.size, 0, none⟩ = some (.int .i64 p) ∧ Below v.heap.size v wr) (fun _ i _ => P2 - (intOf i).toNat)
  case atStart => exact ⟨0, 0, Nat.zero_le _, rfl, rfl, by omega, by omega, Lib.hid (by simp [triL]), c0, Below.refl _ _⟩
  case round =>
    obtain ⟨k, t, hk, rfl, rfl, ht0, ht1, HT, c0, hbel⟩ := hrel
    have HB := Lib.hid hbel
    clear hbel
    by_cases hlt : k < P2
    · obtain ⟨b1, off1, x, rfl, hb1, hxk, hck1⟩ := (HY.out.1.keep (below_then HB0.out HB.out)).at_ hlt
      obtain ⟨hx0, hx1⟩ := numB_true (numsB_at HY.out.2 hxk)
      obtain ⟨b2, off2, u, rfl, hb2, huk, hck2⟩ := (HD.out.1.keep HB.out).at_ hlt
      obtain ⟨hu0, hu1⟩ := numB_true (numsB_at HD.out.2 huk)
      obtain ⟨m0, m1, m2, m3⟩ := tri_bounds hu0 hu1 hx0 hx1 h1
      have HS := Lib.hid (norm_step huk hxk HT.out)
      have k0 : (0 : Int) ≤ k := by omega
      have k1 : (k : Int) < P2 := by omega
      have f1 : IntKind.i64.wrap (u * x) = u * x := IntWalk.i64_in _ (by omega)
      have f2 : IntKind.i64.wrap (u * x * x) = u * x * x := IntWalk.i64_in _ (by omega)
      have f3 : IntKind.i64.wrap (t + u * x * x) = t + u * x * x := IntWalk.i64_in _ (by omega)
      clear hxk huk hb1 hb2
      go_wp2_with fail
      go_quiet ((go_at_call 55; exact quiet_left (spec_l01Mod _ _ _ (by omega) (by omega))))
      clear f1 f2 f3
      go_wp2
      go_roundw
      case rel => exact ⟨k + 1, (t + u * x * x) % p, by omega, by go_num, rfl, Int.emod_nonneg _ (by omega), Int.emod_lt_of_pos _ (by omega), HS, c0, below_drewN HB.out _⟩
      case measure => simp [intOf]; omega
    · obtain rfl : k = P2 := by omega
      go_wp2
      go_ret
      refine ⟨ret_int ?_, below_then HB0.out HB.out⟩
      have h := HT.out
      rw [List.take_of_length_le (by have := HD.out.1.1; omega), List.take_of_length_le (by have := HY.out.1.1; omega)] at h
      exact h

set_option maxHeartbeats 1000000 in
theorem Doubling_norm (p : Int) (A B : Option Addr) (n c m d : Nat) (xs ys : List Int) (w : World) (hx : Ints w A n xs) (hc : n ≤ c) (hcm : c ≤ maxLen) (hn : n ≤ 4) (h0 : 3 ≤ p) (h1 : p ≤ 13) (hst : stepsB p xs = true) (hy : IntsN p w B m ys) (hm : m = 2 ^ n) (hd : m ≤ d) (hdm : d ≤ maxLen) :
    Calls Try.prog 67 #[.agg #[.int .i64 p, .slice A n c], .slice B m d] w fun e w' => e = .returned (.int .i64 (normV p xs.reverse ys)) ∧ Below w.heap.size w w' := by
  have HX := Lib.hid hx
  have HST := Lib.hid hst
  have HY := Lib.hid hy
  have HM := Lib.hid hm
  have HC := Lib.hid hcm
  have HD := Lib.hid hdm
  have hm64 : m ≤ 64 := by rw [hm]; exact pow_le6 (by omega)
  have hm0 : 0 < m := by rw [hm]; exact Nat.two_pow_pos _
  have hmi : (0 : Int) < m := by omega
  have HV := Lib.hid (norm_first (p := p) xs.reverse ys (by rw [List.length_reverse, hx.1, hy.1.1, hm]))
  clear hx hst hy hm hcm hdm
  have H2 := Lib.hid (show Below w.heap.size w (w.alloc (.cells #[.int .i64 p, .slice A n c] 27)) from (Below.refl _ _).alloc (Nat.le_refl _) _)
  go_enter Try.func67, Try.ntmps67
  have c0 : (w.alloc (.cells #[.int .i64 p, .slice A n c] 27)).cell? ⟨w.heap.size, 0, none⟩ = some (.int .i64 p) := by simp [go_sem]
  have c1 : (w.alloc (.cells #[.int .i64 p, .slice A n c] 27)).cell? ⟨w.heap.size, 1, none⟩ = some (.slice A n c) := by simp [go_sem]
  have HW := Lib.hid (Below.refl (w.alloc (.cells #[.int .i64 p, .slice A n c] 27)).heap.size (w.alloc (.cells #[.int .i64 p, .slice A n c] 27)))
  go_wp2_with fail
  refine wp_region_held_drew (S := (fun w' => w'.cell? ⟨w.heap.size, 0, none⟩ = some (.int .i64 p) ∧ w'.cell? ⟨w.heap.size, 1, none⟩ = some (.slice A n c) ∧ Below w.heap.size w w')) (by kernel_rfl) ?_ (fun hHeld0 => ?_)
  · exact ⟨c0, c1, H2.out.drew⟩
  refine wpAnyH_take (i := 0) (oi := ({ dst := some 5, op := Op.load 27 (Operand.tmp 2), type := 27, pos := "l11_doubling.go:78", after := #[], guard := none } : Oper)) (v := ?_) rfl (by kernel_rfl) (by kernel_rfl) (by kernel_rfl) (fun _ _ _ h => h) (Or.inl ⟨by rfl, ?_⟩) (by assumption) ?_
  rotate_left
  · (intro w hSw; (try dsimp only at hSw); go_simp; (try with_reducible rfl))
  try simp only [Act.put, List.setIfInBounds_toArray, List.set_cons_zero, List.set_cons_succ]
  refine wpAnyH_take (i := 1) (oi := ({ dst := some 6, op := Op.move (Operand.tmp 1), type := 22, pos := "l11_doubling.go:78", after := #[], guard := none } : Oper)) (v := ?_) rfl (by kernel_rfl) (by kernel_rfl) (by kernel_rfl) (fun _ _ _ h => h) (Or.inl ⟨by rfl, ?_⟩) (by assumption) ?_
  rotate_left
  · (intro w hSw; (try dsimp only at hSw); go_simp; (try with_reducible rfl))
  try simp only [Act.put, List.setIfInBounds_toArray, List.set_cons_zero, List.set_cons_succ]
  refine wpAnyH_take (i := 2) (oi := ({ dst := some 7, op := Op.load 27 (Operand.tmp 2), type := 27, pos := "l11_doubling.go:78", after := #[], guard := none } : Oper)) (v := ?_) rfl (by kernel_rfl) (by kernel_rfl) (by kernel_rfl) (fun _ _ _ h => h) (Or.inl ⟨by rfl, ?_⟩) (by assumption) ?_
  rotate_left
  · (intro w hSw; (try dsimp only at hSw); go_simp; (try with_reducible rfl))
  try simp only [Act.put, List.setIfInBounds_toArray, List.set_cons_zero, List.set_cons_succ]
  refine wpAnyH_take (i := 4) (oi := ({ dst := some 9, op := Op.move (Operand.tmp 1), type := 22, pos := "l11_doubling.go:78", after := #[], guard := none } : Oper)) (v := ?_) rfl (by kernel_rfl) (by kernel_rfl) (by kernel_rfl) (fun _ _ _ h => h) (Or.inl ⟨by rfl, ?_⟩) (by assumption) ?_
  rotate_left
  · (intro w hSw; (try dsimp only at hSw); go_simp; (try with_reducible rfl))
  try simp only [Act.put, List.setIfInBounds_toArray, List.set_cons_zero, List.set_cons_succ]
  refine wpAnyH_ready (rs := [3]) (by kernel_rfl) (by simp) ?_
  refine AllReadyH.cons (o := ({ dst := some 8, op := Op.call { callee := Callee.value (Operand.func 47), args := #[Operand.tmp 7], argTypes := #[27] }, type := 47, pos := "l11_doubling.go:78", after := #[{ on := 2, ground := Ground.data }], guard := none } : Oper)) rfl (fun K hK => ?_) AllReadyH.nil
  go_simp
  go_at_call 47
  refine (Doubling_field _ _ _ _ _).mono ?_
  rintro e v1 ⟨rfl, hb1⟩
  (try go_wp2_with fail)
  refine hK.out _ _ ?_ (fun hHeld1 => ?_)
  · (try dsimp only)
    exact ⟨keep_cell hb1 hHeld0.1, keep_cell hb1 hHeld0.2.1, below_then hHeld0.2.2 hb1⟩
  clear hK K hHeld0
  try simp only [Act.put, List.setIfInBounds_toArray, List.set_cons_zero, List.set_cons_succ]
  refine wpAnyH_ready (rs := [5]) (by kernel_rfl) (by simp) ?_
  refine AllReadyH.cons (o := ({ dst := some 10, op := Op.call { callee := Callee.value (Operand.func 65), args := #[Operand.tmp 8, Operand.tmp 9], argTypes := #[47, 22] }, type := 22, pos := "l11_doubling.go:78", after := #[{ on := 3, ground := Ground.data }, { on := 4, ground := Ground.data }, { on := 3, ground := Ground.chain }], guard := none } : Oper)) rfl (fun K hK => ?_) AllReadyH.nil
  go_simp
  go_at_call 65
  refine (field_conjugate p _ _ _ ys _ (HY.out.1.keep hHeld1.2.2) h0 h1 HY.out.2 hm0 (by omega)).mono ?_
  rintro e v2 ⟨C2, c2, rfl, hc2, hm2, ho2, hb2⟩
  have M2 := Lib.hid (show IntsN p v2 C2 m _ from ⟨ho2.ints, conjL_nums h0 HY.out.2⟩)
  clear ho2
  (try go_wp2_with fail)
  refine hK.out _ _ ?_ (fun hHeld2 => ?_)
  · (try dsimp only)
    exact ⟨keep_cell hb2 hHeld1.1, keep_cell hb2 hHeld1.2.1, below_then hHeld1.2.2 hb2⟩
  clear hK K hHeld1
  try simp only [Act.put, List.setIfInBounds_toArray, List.set_cons_zero, List.set_cons_succ]
  refine wpAnyH_ready (rs := [6]) (by kernel_rfl) (by simp) ?_
  refine AllReadyH.cons (o := ({ dst := some 11, op := Op.call { callee := Callee.value (Operand.func 69), args := #[Operand.tmp 5, Operand.tmp 6, Operand.tmp 10], argTypes := #[27, 22, 22] }, type := 22, pos := "l11_doubling.go:78", after := #[{ on := 0, ground := Ground.data }, { on := 1, ground := Ground.data }, { on := 5, ground := Ground.data }, { on := 5, ground := Ground.chain }], guard := none } : Oper)) rfl (fun K hK => ?_) AllReadyH.nil
  go_simp
  go_at_call 69
  refine (Doubling_times p _ _ _ n c m d c2 xs ys (conjL p ys) _ (HX.out.keep hHeld2.2.2) hc HC.out HST.out hn (HY.out.keep hHeld2.2.2) HM.out hd HD.out M2.out hc2 hm2 h0 h1).mono ?_
  rintro e v3 ⟨D, t, rfl, ht1, ht2, ho3, hb3⟩
  obtain ⟨bd, od, u, rfl, hbd, huk, hck⟩ := ho3.ints.at_ hm0
  simp only [Nat.add_zero] at hck
  (try go_wp2_with fail)
  refine hK.out _ _ ?_ (fun hHeld3 => ?_)
  · (try dsimp only)
    exact ⟨keep_cell hb3 hHeld2.1, keep_cell hb3 hHeld2.2.1, below_then hHeld2.2.2 hb3⟩
  clear hK K hHeld2
  try simp only [Act.put, List.setIfInBounds_toArray, List.set_cons_zero, List.set_cons_succ]
  refine wpAnyH_take (i := 7) (oi := ({ dst := some 12, op := Op.indexAddr 22 (Operand.tmp 11) (Operand.const (Value.int IntKind.i64 0)), type := 0, pos := "l11_doubling.go:78", after := #[{ on := 6, ground := Ground.data }], guard := none } : Oper)) (v := ?_) rfl (by kernel_rfl) (by kernel_rfl) (by kernel_rfl) (fun _ _ _ h => h) (Or.inl ⟨by rfl, ?_⟩) (by assumption) ?_
  rotate_left
  · (intro w hSw; (try dsimp only at hSw); go_simp; (try with_reducible rfl))
  try simp only [Act.put, List.setIfInBounds_toArray, List.set_cons_zero, List.set_cons_succ]
  refine wpAnyH_ready (rs := [8]) (by kernel_rfl) (by simp) ?_
  refine AllReadyH.cons (o := ({ dst := some 13, op := Op.load 2 (Operand.tmp 12), type := 2, pos := "l11_doubling.go:78", after := #[{ on := 7, ground := Ground.data }], guard := none } : Oper)) rfl (fun K hK => ?_) AllReadyH.nil
  go_simp
  refine hK.out _ _ ?_ (fun hHeld4 => ?_)
  · (try dsimp only)
    exact hHeld3
  clear hK K hHeld3
  try simp only [Act.put, List.setIfInBounds_toArray, List.set_cons_zero, List.set_cons_succ]
  refine wpAnyH_take (i := 9) (oi := ({ dst := some 4, op := Op.assign (Operand.tmp 13), type := 2, pos := "l11_doubling.go:78", after := #[{ on := 8, ground := Ground.data }, { on := 6, ground := Ground.chain }, { on := 0, ground := Ground.phase }, { on := 1, ground := Ground.phase }, { on := 2, ground := Ground.phase }, { on := 3, ground := Ground.phase }, { on := 4, ground := Ground.phase }, { on := 5, ground := Ground.phase }, { on := 6, ground := Ground.phase }, { on := 7, ground := Ground.phase }, { on := 8, ground := Ground.phase }], guard := none } : Oper)) (v := ?_) rfl (by kernel_rfl) (by kernel_rfl) (by kernel_rfl) (fun _ _ _ h => h) (Or.inl ⟨by rfl, ?_⟩) (by assumption) ?_
  rotate_left
  · (intro w hSw; (try dsimp only at hSw); go_simp; (try with_reducible rfl))
  try simp only [Act.put, List.setIfInBounds_toArray, List.set_cons_zero, List.set_cons_succ]
  refine wpAnyH_done (by kernel_rfl) ?_ _
  obtain ⟨_, _, hbl⟩ := hHeld4
  have HU := Lib.hid (show normV p xs.reverse ys = u by rw [← HV.out, List.getD_eq_getElem?_getD, huk]; rfl)
  have HBL := Lib.hid hbl
  clear huk hck hbd ho3 hbl
  go_wp2
  go_ret
  exact ⟨ret_int HU.out.symm, HBL.out⟩

end Go.Proofs.Ytjfkgocpkjdleaa
