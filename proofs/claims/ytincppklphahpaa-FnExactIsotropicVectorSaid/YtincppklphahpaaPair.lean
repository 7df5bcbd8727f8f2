/- Contracts: the scalar part, products and norms of vectors. Conditions stand in each theorem. -/
import Derived.Test.YtincppklphahpaaLists
import Derived.Test.YtincppklphahpaaDot
import Derived.Deep.AppendLies
namespace Go.Proofs.Ytincppklphahpaa
open Go.RowKit
set_option linter.unusedVariables false
set_option maxRecDepth 4096

def scaV (p : Int) (xs ys : List Int) : Int := okOr (codeS p xs (2 ^ xs.length) [ys]) (ys.getD 0 0)

theorem below_alloc (w : World) (o : Obj) : Below w.heap.size w (w.alloc o) := (Below.refl _ _).alloc (Nat.le_refl _) _
theorem own_keep {w w' : World} {base : Nat} {e : TypeId} {size n : Nat} {v : Value} {xs : List Value} (hb : Below w.heap.size w w') (h : w.ownsRow base e size v n xs) : w'.ownsRow base e size v n xs :=
  h.kept (row := none) ⟨hb.os, hb.tape, hb.output, hb.size, fun i hi _ => hb.block i hi⟩ (Classical.em _)
theorem Own.of_own {w : World} {base n : Nat} {e : TypeId} {v : Value} {xs : List Int} (h : w.ownsRow base e 1 v n (xs.map (Value.int .i64))) : ∃ A c, v = .slice A n c ∧ Own base w A n xs := by
  have hl : xs.length = n := by have := h.1; rw [List.length_map] at this; omega
  rcases h.2 with ⟨rfl, h0⟩ | ⟨g, cap, cur, rfl, hg, hh, hn, hc, hs, ht⟩
  · subst h0
    have : xs = [] := List.eq_nil_of_length_eq_zero hl
    subst this
    exact ⟨none, 0, rfl, Own.nil _ _⟩
  · refine ⟨_, cap, rfl, hl, Nat.le_trans hn hc, fun hn0 => ⟨g, 0, rfl, hg, h.lt g (by simp [Value.ownBlock]) |>.2, fun j x hj => ?_, fun j hj => ?_⟩⟩
    · have hjn : j < n := by have := (List.getElem?_eq_some_iff.1 hj).1; omega
      have := h.cellAt (cap := cap) j (by omega)
      rw [Nat.zero_add, this, List.getElem?_map, hj]; rfl
    · rw [Nat.zero_add]; exact h.frozenAt (cap := cap) j
theorem own_empty (w : World) (t : TypeId) (b base : Nat) (hb : b = w.heap.size) (h : base ≤ b) : (w.alloc (.cells #[] t)).ownsRow base t 1 (.slice (some ⟨b, 0, none⟩) 0 0) 0 [] := by
  subst hb
  exact World.ownsRow_lit w #[] 0 h (by unfold maxLen; omega) rfl
theorem cell_grown {w w' : World} {base : Nat} {e : TypeId} {size n : Nat} {v u : Value} {xs : List Value} {a : Addr} (ho : w.ownsRow base e size v n xs) (hg : w.grownBy w' v.ownBlock) (h : w.cell? a = some u) (ha : a.block < base) : w'.cell? a = some u :=
  (World.cell?_of_block (hg.block a.block (World.block_lt_of_cell? _ _ h) (fun e => by have := (ho.lt _ e.symm).1; omega))).trans h
theorem below_own {B : Nat} {w0 w w' : World} {base : Nat} {e : TypeId} {size n : Nat} {v : Value} {xs : List Value} (ho : w.ownsRow base e size v n xs) (hg : w.grownBy w' v.ownBlock) (h : Below B w0 w) (hB : B ≤ base) (hB2 : B ≤ w.heap.size) : Below B w0 w' :=
  h.grown hg hB2 (fun k e => Nat.le_trans hB (ho.lt k e).1)

theorem Space_weighted (p : Int) (A B : Option Addr) (n c m d : Nat) (xs ys : List Int) (w : World) (hx : Ints w A n xs) (hy : Ints w B m ys) (h0 : 3 ≤ p) (h1 : p ≤ 13) (hn : numsB p xs = true) (hn' : numsB p ys = true) (hm6 : m ≤ 6) (hmn : m ≤ n) :
    Calls Try.prog 108 #[.agg #[.int .i64 p, .slice A n c], .slice B m d] w fun e w' => ∃ C q, e = .returned (.slice C m q) ∧ Own w.heap.size w' C m (weightL p ys (xs.take m)) ∧ Below w.heap.size w w' := by
  have HX := Lib.hid hx
  have hm := hx.2.1
  have HN := Lib.hid hx.1
  clear hx
  unfold maxLen at hm
  have H2 := Lib.hid (show Below w.heap.size w (w.alloc (.cells #[.int .i64 p, .slice A n c] 28)) from (Below.refl _ _).alloc (Nat.le_refl _) _)
  have HY := Lib.hid hy
  clear hy
  have HN1 := Lib.hid hn
  have HN2 := Lib.hid hn'
  clear hn hn'
  obtain ⟨i0, hi0, hz0, hz1, hz2⟩ := info_parts int_info
  go_enter Try.func108, Try.ntmps108
  have c0 : (w.alloc (.cells #[.int .i64 p, .slice A n c] 28)).cell? ⟨w.heap.size, 0, none⟩ = some (.int .i64 p) := by simp [go_sem]
  have c1 : (w.alloc (.cells #[.int .i64 p, .slice A n c] 28)).cell? ⟨w.heap.size, 1, none⟩ = some (.slice A n c) := by simp [go_sem]
  have HW := Lib.hid (Below.refl (w.alloc (.cells #[.int .i64 p, .slice A n c] 28)).heap.size (w.alloc (.cells #[.int .i64 p, .slice A n c] 28)))
  go_wp2
  go_loopw [5, 11] (fun o i wr => ∃ (k : Nat), k ≤ m ∧ i = .int .i64 k ∧ wr.ownsRow (w.heap.size + 1) 2 1 o k ((weightL p (ys.take k) (xs.take k)).map (Value.int .i64)) ∧ Below (w.alloc (.cells #[.int .i64 p, .slice A n c] 28)).heap.size (w.alloc (.cells #[.int .i64 p, .slice A n c] 28)) wr) (fun _ i _ => m - (intOf i).toNat)
  case atStart => exact ⟨0, Nat.zero_le _, rfl, own_empty _ _ _ _ (by simp) (Nat.le_refl _), HW.out.alloc (Nat.le_refl _) _⟩
  case round =>
    obtain ⟨k, hk, rfl, hown, hbel⟩ := hrel
    have HO := Lib.hid hown
    clear hown c0 c1 HW
    have HW := Lib.hid hbel
    have c0 : wr.cell? ⟨w.heap.size, 0, none⟩ = some (.int .i64 p) := keep_cell hbel (by simp [go_sem])
    have c1 : wr.cell? ⟨w.heap.size, 1, none⟩ = some (.slice A n c) := keep_cell hbel (by simp [go_sem])
    clear hbel
    by_cases hlt : k < m
    · obtain ⟨b1, off1, y, rfl, hb1, hyk, hck1⟩ := (HY.out.keep (H2.out.trans (HW.out.mono H2.out.size))).at_ hlt
      obtain ⟨b2, off2, x, rfl, hb2, hxk, hck2⟩ := (HX.out.keep (H2.out.trans (HW.out.mono H2.out.size))).at_ (show k < n by omega)
      obtain ⟨hx0, hx1⟩ := numB_true (numsB_at HN1.out hxk)
      obtain ⟨hy0, hy1⟩ := numB_true (numsB_at HN2.out hyk)
      obtain ⟨m0, m1⟩ := mul_bounds (a := y) (b := x) (p := p) (by omega) (by omega) (by omega) (by omega) (by omega)
      have HK1 := Lib.hid hxk
      have HK2 := Lib.hid hyk
      clear hxk hyk hb1
      have hb2' : b2 < w.heap.size := by obtain ⟨bb, oo, ee, hh, _⟩ := HX.out.2.2 (show 0 < n by omega); simp at ee; omega
      clear hb2
      have hkn : (k : Int) < n := by omega
      have f1 : IntKind.i64.wrap (y * x) = y * x := IntWalk.i64_in _ (by omega)
      have hsz : w.heap.size + 1 ≤ wr.heap.size := by have := HW.out.size; simpa using this
      go_wp2_with fail
      go_region_held3 (fun w' => w'.cell? ⟨w.heap.size, 0, none⟩ = some (.int .i64 p) ∧ w'.cell? ⟨w.heap.size, 1, none⟩ = some (.slice (some ⟨b2, off2, none⟩) n c) ∧ w'.cell? ⟨b2, off2 + k, none⟩ = some (.int .i64 x) ∧ Below (w.alloc (.cells #[.int .i64 p, .slice (some ⟨b2, off2, none⟩) n c] 28)).heap.size (w.alloc (.cells #[.int .i64 p, .slice (some ⟨b2, off2, none⟩) n c] 28)) w')
        (first
          | exact ⟨c0, c1, hck2, HW.out.drew⟩
          | (go_split_ands; exact ⟨‹_›, ‹_›, ‹_›, ‹_›⟩)
          | (go_split_ands; exact ⟨cell_grown hoz hgrow ‹_› (by simp), cell_grown hoz hgrow ‹_› (by simp), cell_grown hoz hgrow ‹_› (by simp; omega), below_own hoz hgrow ‹_› (by simp) (by have := hbz.size; simp at this; simp; omega)⟩)
          | (go_split_ands; exact ⟨keep_cell hbz ‹_›, keep_cell hbz ‹_›, keep_cell hbz ‹_›, below_then ‹_› hbz⟩)
          | (go_split_ands; exact ⟨keep_cell (below_alloc _ _) ‹_›, keep_cell (below_alloc _ _) ‹_›, keep_cell (below_alloc _ _) ‹_›, below_then ‹_› (below_alloc _ _)⟩)
          | go_keep)
        (first
          | (go_at_call 62; refine (Space_field _ _ _ _ _).mono ?_; rintro e vz ⟨rfl, hbz⟩)
          | (go_at_call 95; refine (impl_num _ _ _ (by omega) (by omega)).mono ?_; rintro e w' ⟨rfl, rfl⟩)
          | (have hoz := (own_keep hbz (HO.out.drew)).alloc (.cells #[.int .i64 (y * x % p)] 2); refine step_append_lies _ (by rfl) _ _ _ (by rfl) (w.heap.size + 1) 2 i0 _ 1 8 Try.underlying22 hi0 hz0 hz1 hz2 rfl (by omega) u5 k _ (by rfl) hoz ⟨vz.heap.size, 0, none⟩ 1 1 [.int .i64 (y * x % p)] (by rfl) (by rfl) (cell_one_new _ _ _) (by simp [Value.oneCell']) (by omega) (by unfold maxLen; omega) (by omega) (by have := hbz.size; simp at this; simp; omega) (vz.heap.size + 1) (by simp) ?_; intro gg cap w1 hown1 hgrow hat hlt1))
      rename_i hh
      obtain ⟨_, _, _, hbw⟩ := hh
      replace HW := Lib.hid hbw
      have HO1 := Lib.hid hown1
      clear hbw hown1 hgrow hat hlt1 hoz hbz f1 c0 c1 hck1 hck2
      go_wp2
      go_roundw
      case rel => exact ⟨k + 1, by omega, by go_num, by rw [weightL_step HK2.out HK1.out, List.map_append]; exact HO1.out, HW.out⟩
      case measure => simp [intOf]; omega
    · obtain rfl : k = m := by omega
      obtain ⟨C, q, rfl, ho⟩ := Own.of_own HO.out
      have HOO := Lib.hid ho
      clear ho
      go_wp2
      go_ret
      refine ⟨C, q, rfl, ?_, (H2.out.trans (HW.out.mono H2.out.size))⟩
      have := HOO.out
      rw [List.take_of_length_le (by have := HY.out.1; omega)] at this
      exact this.less (by omega)

end Go.Proofs.Ytincppklphahpaa
