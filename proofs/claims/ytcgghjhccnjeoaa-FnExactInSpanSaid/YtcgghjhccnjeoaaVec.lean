/- Contracts: sums and multiples of lists. Conditions stand in each theorem. -/
import Derived.Test.YtcgghjhccnjeoaaMark
import Derived.Deep.AppendLies
import Derived.Test.YtcgghjhccnjeoaaField
namespace Go.Proofs.Ytcgghjhccnjeoaa
open Go.RowKit
set_option linter.unusedVariables false

theorem below_alloc (w : World) (o : Obj) : Below w.heap.size w (w.alloc o) := (Below.refl _ _).alloc (Nat.le_refl _) _
theorem own_keep {w w' : World} {base : Nat} {e : TypeId} {size n : Nat} {v : Value} {xs : List Value} (hb : Below w.heap.size w w') (h : w.ownsRow base e size v n xs) : w'.ownsRow base e size v n xs :=
  h.kept (row := none) ⟨hb.os, hb.tape, hb.output, hb.size, fun i hi _ => hb.block i hi⟩ (Classical.em _)
theorem Own.of_own {w : World} {base n : Nat} {e : TypeId} {v : Value} {xs : List Int} (h : w.ownsRow base e 1 v n (xs.map (Value.int .i64))) : ∃ A c, v = .slice A n c ∧ Own base w A n xs := by
  have hl : xs.length = n := by have := h.1; rw [List.length_map] at this; omega
  rcases h.2 with ⟨rfl, h0⟩ | ⟨g, cap, cur, rfl, hg, hh, hn, hc, hs, ht⟩
  · subst h0
    have : xs = [] := List.eq_nil_of_length_eq_zero hl
    subst this
    exact ⟨none, 0, rfl, Own.nil _ _⟩
  · refine ⟨_, cap, rfl, hl, Nat.le_trans hn hc, fun hn0 => ⟨g, 0, rfl, hg, h.lt g (by simp [Value.ownBlock]) |>.2, fun j x hj => ?_, fun j hj => ?_⟩⟩
    · have hjn : j < n := by have := (List.getElem?_eq_some_iff.1 hj).1; omega
      have := h.cellAt (cap := cap) j (by omega)
      rw [Nat.zero_add, this, List.getElem?_map, hj]; rfl
    · rw [Nat.zero_add]; exact h.frozenAt (cap := cap) j
theorem own_empty (w : World) (t : TypeId) (b base : Nat) (hb : b = w.heap.size) (h : base ≤ b) : (w.alloc (.cells #[] t)).ownsRow base t 1 (.slice (some ⟨b, 0, none⟩) 0 0) 0 [] := by
  subst hb
  exact World.ownsRow_lit w #[] 0 h (by unfold maxLen; omega) rfl
theorem cell_grown {w w' : World} {base : Nat} {e : TypeId} {size n : Nat} {v u : Value} {xs : List Value} {a : Addr} (ho : w.ownsRow base e size v n xs) (hg : w.grownBy w' v.ownBlock) (h : w.cell? a = some u) (ha : a.block < base) : w'.cell? a = some u :=
  (World.cell?_of_block (hg.block a.block (World.block_lt_of_cell? _ _ h) (fun e => by have := (ho.lt _ e.symm).1; omega))).trans h
theorem below_own {B : Nat} {w0 w w' : World} {base : Nat} {e : TypeId} {size n : Nat} {v : Value} {xs : List Value} (ho : w.ownsRow base e size v n xs) (hg : w.grownBy w' v.ownBlock) (h : Below B w0 w) (hB : B ≤ base) (hB2 : B ≤ w.heap.size) : Below B w0 w' :=
  h.grown hg hB2 (fun k e => Nat.le_trans hB (ho.lt k e).1)

def plusL (p k : Int) (xs ys : List Int) : List Int := List.zipWith (fun a b => (a + k * b) % p) xs ys
def scaleL (p k : Int) (xs : List Int) : List Int := xs.map fun a => (a * k) % p
theorem plusL_step {p k x y : Int} {xs ys : List Int} {j : Nat} (hx : xs[j]? = some x) (hy : ys[j]? = some y) : plusL p k (xs.take (j + 1)) (ys.take (j + 1)) = plusL p k (xs.take j) (ys.take j) ++ [(x + k * y) % p] := by
  have h1 := (List.getElem?_eq_some_iff.1 hx).1
  have h2 := (List.getElem?_eq_some_iff.1 hy).1
  unfold plusL
  rw [take_snoc hx, take_snoc hy, List.zipWith_append (by rw [List.length_take, List.length_take]; omega)]
  rfl
theorem scaleL_step {p k x : Int} {xs : List Int} {j : Nat} (hx : xs[j]? = some x) : scaleL p k (xs.take (j + 1)) = scaleL p k (xs.take j) ++ [(x * k) % p] := by
  unfold scaleL; rw [take_snoc hx, List.map_append]; rfl
theorem plusL_len {p k : Int} {xs ys : List Int} (h : xs.length = ys.length) : (plusL p k xs ys).length = xs.length := by
  unfold plusL; rw [List.length_zipWith]; omega
theorem scaleL_len {p k : Int} {xs : List Int} : (scaleL p k xs).length = xs.length := by unfold scaleL; rw [List.length_map]
theorem numsB_of {p : Int} {xs : List Int} (h : ∀ x ∈ xs, 0 ≤ x ∧ x < p) : numsB p xs = true := List.all_eq_true.2 fun x hx => numB_iff.2 (h x hx)
theorem plusL_nums {p k : Int} (hp : 3 ≤ p) (xs ys : List Int) : numsB p (plusL p k xs ys) = true := numsB_of fun x hx => by
  unfold plusL at hx
  rw [List.zipWith_eq_zipWith_take_min] at hx
  obtain ⟨i, hi⟩ := List.mem_iff_getElem?.1 hx
  rw [List.getElem?_zipWith] at hi
  split at hi
  · injection hi with hi; subst hi; exact ⟨Int.emod_nonneg _ (by omega), Int.emod_lt_of_pos _ (by omega)⟩
  · cases hi
theorem scaleL_nums {p k : Int} (hp : 3 ≤ p) (xs : List Int) : numsB p (scaleL p k xs) = true := numsB_of fun x hx => by
  unfold scaleL at hx
  obtain ⟨a, _, rfl⟩ := List.mem_map.1 hx
  exact ⟨Int.emod_nonneg _ (by omega), Int.emod_lt_of_pos _ (by omega)⟩
theorem mul_bounds2 {k y : Int} (h0 : -13 ≤ k) (h1 : k ≤ 13) (h2 : 0 ≤ y) (h3 : y ≤ 12) : -156 ≤ k * y ∧ k * y ≤ 156 := by
  have a := Int.mul_le_mul_of_nonneg_right h1 h2
  have b := Int.mul_le_mul_of_nonneg_right h0 h2
  omega

theorem field_scaled (p k0 : Int) (A : Option Addr) (n c : Nat) (xs : List Int) (w : World) (hx : Ints w A n xs) (h0 : 3 ≤ p) (h1 : p ≤ 13) (hn : numsB p xs = true) (hk0 : -13 ≤ k0) (hk1 : k0 ≤ 13) (hlen : n ≤ 1000) :
    Calls Try.prog 73 #[.int .i64 p, .slice A n c, .int .i64 k0] w fun e w' => ∃ C q, e = .returned (.slice C n q) ∧ Own w.heap.size w' C n (scaleL p k0 xs) ∧ Below w.heap.size w w' := by
  have HX := Lib.hid hx
  have HN1 := Lib.hid hn
  clear hx hn
  obtain ⟨i0, hi0, hz0, hz1, hz2⟩ := info_parts int_info
  go_enter Try.func73, Try.ntmps73
  go_wp2
  go_loopw [7, 13] (fun o i wr => ∃ k : Nat, k ≤ n ∧ i = .int .i64 k ∧ wr.ownsRow w.heap.size 2 1 o k ((scaleL p k0 (xs.take k)).map (Value.int .i64)) ∧ Below w.heap.size w wr) (fun _ i _ => n - (intOf i).toNat)
  case atStart => exact ⟨0, Nat.zero_le _, rfl, own_empty _ _ _ _ rfl (Nat.le_refl _), below_alloc _ _⟩
  case round =>
    obtain ⟨k, hk, rfl, hown, hbel⟩ := hrel
    have HO := Lib.hid hown
    have HB := Lib.hid hbel
    have hsz := hbel.size
    clear hown hbel
    by_cases hlt : k < n
    · obtain ⟨b1, off1, x, rfl, hb1, hxk, hck1⟩ := (HX.out.keep HB.out).at_ hlt
      obtain ⟨hx0, hx1⟩ := numB_true (numsB_at HN1.out hxk)
      have HK1 := Lib.hid hxk
      have hkn : (k : Int) < n := by omega
      have hb1' : b1 < w.heap.size := by obtain ⟨bb, oo, ee, hh, _⟩ := HX.out.2.2 (show 0 < n by omega); simp at ee; omega
      clear hxk hb1
      obtain ⟨m0, m1⟩ := mul_bounds2 hk0 hk1 hx0 (show x ≤ 12 by omega)
      rw [Int.mul_comm] at m0 m1
      go_wp2_with (first | (go_at_call 60; refine (impl_num _ _ _ (by omega) (by omega)).mono ?_; rintro e w' ⟨rfl, rfl⟩) | (at_builtin; refine wpList_append_own _ rfl _ _ 29 rfl w.heap.size 2 i0 _ 1 8 Try.underlying29 hi0 hz0 hz1 hz2 rfl (by omega) u7 k _ rfl (HO.out.alloc _) ⟨wr.heap.size, 0, none⟩ 1 1 [.int .i64 (x * k0 % p)] rfl rfl (cell_one_new _ _ _) (by simp [Value.oneCell']) (by unfold maxLen; omega) (by omega) (by simp; omega) ?_; intro v' w1 hown1 hgrow _))
      have HO1 := Lib.hid hown1
      have HB1 := Lib.hid (below_own (HO.out.alloc _) hgrow (HB.out.alloc hsz _) (Nat.le_refl _) (by simp; omega))
      clear hown1 hgrow
      go_wp2
      go_roundw
      case rel => exact ⟨k + 1, by omega, by go_num, by rw [scaleL_step HK1.out, List.map_append]; exact HO1.out, HB1.out⟩
      case measure => simp [intOf]; omega
    · obtain rfl : k = n := by omega
      obtain ⟨C, q, rfl, ho⟩ := Own.of_own HO.out
      have HOO := Lib.hid ho
      clear ho
      go_wp2
      go_ret
      refine ⟨C, q, rfl, ?_, HB.out⟩
      have := HOO.out
      rw [List.take_of_length_le (by have := HX.out.1; omega)] at this
      exact this

theorem spec_l02Scale (p k0 : Int) (A : Option Addr) (n c : Nat) (xs : List Int) (w : World) (hx : Ints w A n xs) (h0 : 3 ≤ p) (h1 : p ≤ 13) (hn : numsB p xs = true) (hk0 : 0 ≤ k0) (hk1 : k0 < p) (hlen : n ≤ 1000) :
    Calls Try.prog 70 #[.int .i64 p, .slice A n c, .int .i64 k0] w fun e w' => ∃ C q, e = .returned (.slice C n q) ∧ Own w.heap.size w' C n (scaleL p k0 xs) ∧ Below w.heap.size w w' := by
  have HX := Lib.hid hx
  have HN1 := Lib.hid hn
  clear hx hn
  obtain ⟨i0, hi0, hz0, hz1, hz2⟩ := info_parts int_info
  go_enter Try.func70, Try.ntmps70
  go_wp2
  go_loopw [7, 8] (fun o i wr => ∃ k : Nat, k ≤ n ∧ i = .int .i64 k ∧ wr.ownsRow w.heap.size 2 1 o k ((scaleL p k0 (xs.take k)).map (Value.int .i64)) ∧ Below w.heap.size w wr) (fun _ i _ => n - (intOf i).toNat)
  case atStart => exact ⟨0, Nat.zero_le _, rfl, own_empty _ _ _ _ rfl (Nat.le_refl _), below_alloc _ _⟩
  case round =>
    obtain ⟨k, hk, rfl, hown, hbel⟩ := hrel
    have HO := Lib.hid hown
    have HB := Lib.hid hbel
    have hsz := hbel.size
    clear hown hbel
    by_cases hlt : k < n
    · obtain ⟨b1, off1, x, rfl, hb1, hxk, hck1⟩ := (HX.out.keep HB.out).at_ hlt
      obtain ⟨hx0, hx1⟩ := numB_true (numsB_at HN1.out hxk)
      have HK1 := Lib.hid hxk
      have hkn : (k : Int) < n := by omega
      have hb1' : b1 < w.heap.size := by obtain ⟨bb, oo, ee, hh, _⟩ := HX.out.2.2 (show 0 < n by omega); simp at ee; omega
      clear hxk hb1
      obtain ⟨m0, m1⟩ := mul_bounds (a := x) (b := k0) (p := p) hx0 hx1 hk0 hk1 h1
      go_wp2_with (at_builtin; refine wpList_append_own _ rfl _ _ 29 rfl w.heap.size 2 i0 _ 1 8 Try.underlying29 hi0 hz0 hz1 hz2 rfl (by omega) u7 k _ rfl (HO.out.alloc _) ⟨wr.heap.size, 0, none⟩ 1 1 [.int .i64 (x * k0 % p)] rfl rfl (cell_one_new _ _ _) (by simp [Value.oneCell']) (by unfold maxLen; omega) (by omega) (by simp; omega) ?_; intro v' w1 hown1 hgrow _)
      have HO1 := Lib.hid hown1
      have HB1 := Lib.hid (below_own (HO.out.alloc _) hgrow (HB.out.alloc hsz _) (Nat.le_refl _) (by simp; omega))
      clear hown1 hgrow
      go_wp2
      go_roundw
      case rel => exact ⟨k + 1, by omega, by go_num, by rw [scaleL_step HK1.out, List.map_append]; exact HO1.out, HB1.out⟩
      case measure => simp [intOf]; omega
    · obtain rfl : k = n := by omega
      obtain ⟨C, q, rfl, ho⟩ := Own.of_own HO.out
      have HOO := Lib.hid ho
      clear ho
      go_wp2
      go_ret
      refine ⟨C, q, rfl, ?_, HB.out⟩
      have := HOO.out
      rw [List.take_of_length_le (by have := HX.out.1; omega)] at this
      exact this

theorem field_plus (p k0 : Int) (A B : Option Addr) (n c m d : Nat) (xs ys : List Int) (w : World) (hx : Ints w A n xs) (hy : Ints w B m ys) (hnm : n ≤ m) (h0 : 3 ≤ p) (h1 : p ≤ 13) (hn : numsB p xs = true) (hn2 : numsB p ys = true) (hk0 : -13 ≤ k0) (hk1 : k0 ≤ 13) (hlen : n ≤ 1000) :
    Calls Try.prog 74 #[.int .i64 p, .slice A n c, .slice B m d, .int .i64 k0] w fun e w' => ∃ C q, e = .returned (.slice C n q) ∧ Own w.heap.size w' C n (plusL p k0 xs (ys.take n)) ∧ Below w.heap.size w w' := by
  have HX := Lib.hid hx
  have HN1 := Lib.hid hn
  clear hx hn
  have HY := Lib.hid hy
  have HN2 := Lib.hid hn2
  have hm2 := hy.2.1
  unfold maxLen at hm2
  clear hy hn2
  obtain ⟨i0, hi0, hz0, hz1, hz2⟩ := info_parts int_info
  go_enter Try.func74, Try.ntmps74
  go_wp2
  go_loopw [9, 15] (fun o i wr => ∃ k : Nat, k ≤ n ∧ i = .int .i64 k ∧ wr.ownsRow w.heap.size 2 1 o k ((plusL p k0 (xs.take k) (ys.take k)).map (Value.int .i64)) ∧ Below w.heap.size w wr) (fun _ i _ => n - (intOf i).toNat)
  case atStart => exact ⟨0, Nat.zero_le _, rfl, own_empty _ _ _ _ rfl (Nat.le_refl _), below_alloc _ _⟩
  case round =>
    obtain ⟨k, hk, rfl, hown, hbel⟩ := hrel
    have HO := Lib.hid hown
    have HB := Lib.hid hbel
    have hsz := hbel.size
    clear hown hbel
    by_cases hlt : k < n
    · obtain ⟨b1, off1, x, rfl, hb1, hxk, hck1⟩ := (HX.out.keep HB.out).at_ hlt
      obtain ⟨hx0, hx1⟩ := numB_true (numsB_at HN1.out hxk)
      have HK1 := Lib.hid hxk
      obtain ⟨b2, off2, y, rfl, hb2, hyk, hck2⟩ := (HY.out.keep HB.out).at_ (show k < m by omega)
      obtain ⟨hy0, hy1⟩ := numB_true (numsB_at HN2.out hyk)
      have HK2 := Lib.hid hyk
      have hkm : (k : Int) < m := by omega
      have hb2' : b2 < w.heap.size := by obtain ⟨bb, oo, ee, hh, _⟩ := HY.out.2.2 (show 0 < m by omega); simp at ee; omega
      clear hyk hb2
      have hkn : (k : Int) < n := by omega
      have hb1' : b1 < w.heap.size := by obtain ⟨bb, oo, ee, hh, _⟩ := HX.out.2.2 (show 0 < n by omega); simp at ee; omega
      clear hxk hb1
      obtain ⟨m0, m1⟩ := mul_bounds2 hk0 hk1 hy0 (show y ≤ 12 by omega)
      go_wp2_with (first | (go_at_call 60; refine (impl_num _ _ _ (by omega) (by omega)).mono ?_; rintro e w' ⟨rfl, rfl⟩) | (at_builtin; refine wpList_append_own _ rfl _ _ 29 rfl w.heap.size 2 i0 _ 1 8 Try.underlying29 hi0 hz0 hz1 hz2 rfl (by omega) u9 k _ rfl (HO.out.alloc _) ⟨wr.heap.size, 0, none⟩ 1 1 [.int .i64 ((x + k0 * y) % p)] rfl rfl (cell_one_new _ _ _) (by simp [Value.oneCell']) (by unfold maxLen; omega) (by omega) (by simp; omega) ?_; intro v' w1 hown1 hgrow _))
      have HO1 := Lib.hid hown1
      have HB1 := Lib.hid (below_own (HO.out.alloc _) hgrow (HB.out.alloc hsz _) (Nat.le_refl _) (by simp; omega))
      clear hown1 hgrow
      go_wp2
      go_roundw
      case rel => exact ⟨k + 1, by omega, by go_num, by rw [plusL_step HK1.out HK2.out, List.map_append]; exact HO1.out, HB1.out⟩
      case measure => simp [intOf]; omega
    · obtain rfl : k = n := by omega
      obtain ⟨C, q, rfl, ho⟩ := Own.of_own HO.out
      have HOO := Lib.hid ho
      clear ho
      go_wp2
      go_ret
      refine ⟨C, q, rfl, ?_, HB.out⟩
      have := HOO.out
      rw [List.take_of_length_le (l := xs) (by have := HX.out.1; omega)] at this
      exact this

theorem spec_l02Plus (p k0 : Int) (A B : Option Addr) (n c m d : Nat) (xs ys : List Int) (w : World) (hx : Ints w A n xs) (hy : Ints w B m ys) (hnm : n ≤ m) (h0 : 3 ≤ p) (h1 : p ≤ 13) (hn : numsB p xs = true) (hn2 : numsB p ys = true) (hk0 : 0 ≤ k0) (hk1 : k0 < p) (hlen : n ≤ 1000) :
    Calls Try.prog 71 #[.int .i64 p, .slice A n c, .slice B m d, .int .i64 k0] w fun e w' => ∃ C q, e = .returned (.slice C n q) ∧ Own w.heap.size w' C n (plusL p k0 xs (ys.take n)) ∧ Below w.heap.size w w' := by
  have HX := Lib.hid hx
  have HN1 := Lib.hid hn
  clear hx hn
  have HY := Lib.hid hy
  have HN2 := Lib.hid hn2
  have hm2 := hy.2.1
  unfold maxLen at hm2
  clear hy hn2
  obtain ⟨i0, hi0, hz0, hz1, hz2⟩ := info_parts int_info
  go_enter Try.func71, Try.ntmps71
  go_wp2
  go_loopw [9, 10] (fun o i wr => ∃ k : Nat, k ≤ n ∧ i = .int .i64 k ∧ wr.ownsRow w.heap.size 2 1 o k ((plusL p k0 (xs.take k) (ys.take k)).map (Value.int .i64)) ∧ Below w.heap.size w wr) (fun _ i _ => n - (intOf i).toNat)
  case atStart => exact ⟨0, Nat.zero_le _, rfl, own_empty _ _ _ _ rfl (Nat.le_refl _), below_alloc _ _⟩
  case round =>
    obtain ⟨k, hk, rfl, hown, hbel⟩ := hrel
    have HO := Lib.hid hown
    have HB := Lib.hid hbel
    have hsz := hbel.size
    clear hown hbel
    by_cases hlt : k < n
    · obtain ⟨b1, off1, x, rfl, hb1, hxk, hck1⟩ := (HX.out.keep HB.out).at_ hlt
      obtain ⟨hx0, hx1⟩ := numB_true (numsB_at HN1.out hxk)
      have HK1 := Lib.hid hxk
      obtain ⟨b2, off2, y, rfl, hb2, hyk, hck2⟩ := (HY.out.keep HB.out).at_ (show k < m by omega)
      obtain ⟨hy0, hy1⟩ := numB_true (numsB_at HN2.out hyk)
      have HK2 := Lib.hid hyk
      have hkm : (k : Int) < m := by omega
      have hb2' : b2 < w.heap.size := by obtain ⟨bb, oo, ee, hh, _⟩ := HY.out.2.2 (show 0 < m by omega); simp at ee; omega
      clear hyk hb2
      have hkn : (k : Int) < n := by omega
      have hb1' : b1 < w.heap.size := by obtain ⟨bb, oo, ee, hh, _⟩ := HX.out.2.2 (show 0 < n by omega); simp at ee; omega
      clear hxk hb1
      obtain ⟨m0, m1⟩ := mul_bounds (a := k0) (b := y) (p := p) hk0 hk1 hy0 hy1 h1
      have z1 : ¬ p = 0 := by omega
      have z2 : (p == 0) = false := by simp; omega
      have e1 : IntKind.i64.wrap (k0 * y) = k0 * y := IntWalk.i64_in _ (by omega)
      have e2 : IntKind.i64.wrap (x + k0 * y) = x + k0 * y := IntWalk.i64_in _ (by omega)
      have e3 : (x + k0 * y).tmod p = (x + k0 * y) % p := Int.tmod_eq_emod_of_nonneg (by omega)
      go_wp2_with fail
      go_region_held3 (fun w' => w'.cell? ⟨b1, off1 + k, none⟩ = some (.int .i64 x) ∧ w'.cell? ⟨b2, off2 + k, none⟩ = some (.int .i64 y) ∧ Below w.heap.size w w')
        (first
          | exact ⟨hck1, hck2, HB.out.drew⟩
          | (go_split_ands; exact ⟨‹_›, ‹_›, ‹_›⟩)
          | (go_split_ands; exact ⟨cell_grown hoz hgrow ‹_› (by simp; omega), cell_grown hoz hgrow ‹_› (by simp; omega), below_own hoz hgrow ‹_› (Nat.le_refl _) (by simp; omega)⟩)
          | (go_split_ands; exact ⟨keep_cell (below_alloc _ _) ‹_›, keep_cell (below_alloc _ _) ‹_›, below_then ‹_› (below_alloc _ _)⟩)
          | go_keep)
        (first
          | (have hoz := (HO.out.drew).alloc (.cells #[.int .i64 ((x + k0 * y) % p)] 2); refine step_append_lies _ (by rfl) _ _ _ (by rfl) w.heap.size 2 i0 _ 1 8 Try.underlying29 hi0 hz0 hz1 hz2 rfl (by omega) u9 k _ (by rfl) hoz ⟨wr.heap.size, 0, none⟩ 1 1 [.int .i64 ((x + k0 * y) % p)] (by rfl) (by rfl) (cell_one_new _ _ _) (by simp [Value.oneCell']) (by omega) (by unfold maxLen; omega) (by omega) (by simp; omega) (wr.heap.size + 1) (by simp) ?_; intro gg cap w1 hown1 hgrow hat hlt1))
      rename_i hh
      obtain ⟨_, _, hbw⟩ := hh
      clear e1 e2 e3 z1 z2
      have HO1 := Lib.hid hown1
      have HB1 := Lib.hid hbw
      clear hown1 hgrow hat hlt1 hoz hbw
      go_wp2
      go_roundw
      case rel => exact ⟨k + 1, by omega, by go_num, by rw [plusL_step HK1.out HK2.out, List.map_append]; exact HO1.out, HB1.out⟩
      case measure => simp [intOf]; omega
    · obtain rfl : k = n := by omega
      obtain ⟨C, q, rfl, ho⟩ := Own.of_own HO.out
      have HOO := Lib.hid ho
      clear ho
      go_wp2
      go_ret
      refine ⟨C, q, rfl, ?_, HB.out⟩
      have := HOO.out
      rw [List.take_of_length_le (l := xs) (by have := HX.out.1; omega)] at this
      exact this

end Go.Proofs.Ytcgghjhccnjeoaa
