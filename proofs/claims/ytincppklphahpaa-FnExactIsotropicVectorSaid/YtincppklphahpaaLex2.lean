/- Contracts: the first isotropic vector, the program. Conditions stand in each theorem. -/
import Derived.Test.YtincppklphahpaaLex
import Derived.Test.YtincppklphahpaaLists
import Derived.Test.YtincppklphahpaaSigns
namespace Go.Proofs.Ytincppklphahpaa
open Go.RowKit
set_option linter.unusedVariables false
set_option linter.unusedSimpArgs false
set_option maxRecDepth 4096

def zrB (v : List Int) : Bool := v.all (· == 0)
theorem allz_step {f : Int → Bool} {k : Nat} {x : Int} {v : List Int} (hk : v[k]? = some x) (h : (v.take k).all f = true) (hv : f x = true) : (v.take (k + 1)).all f = true := by
  rw [List.take_add_one, hk, List.all_append, h]; simpa using hv
theorem allz_bad {f : Int → Bool} {k : Nat} {x : Int} {v : List Int} (hk : v[k]? = some x) (hv : f x = false) : v.all f = false := by
  cases e : v.all f with
  | false => rfl
  | true => have := List.all_eq_true.1 e _ (List.mem_of_getElem? hk); rw [hv] at this; cases this

theorem impl_lead (A : Option Addr) (n c : Nat) (v : List Int) (w : World) (hx : Ints w A n v) :
    Calls Try.prog 102 #[.slice A n c] w fun e w' => ∃ k : Nat, e = .returned (.int .i64 k) ∧ k ≤ n ∧ ((k = n ∧ zrB v = true) ∨ (k < n ∧ zrB v = false)) ∧ w = w' := by
  have HX := Lib.hid hx
  have hm := hx.2.1
  unfold maxLen at hm
  clear hx
  go_enter Try.func102, Try.ntmps102
  go_wp2
  go_loopw [3] (fun i wr => ∃ k : Nat, k ≤ n ∧ i = .int .i64 k ∧ Hid ((v.take k).all (· == 0) = true) ∧ w = wr) (fun i _ => n - (intOf i).toNat)
  case atStart => exact ⟨0, Nat.zero_le _, rfl, Lib.hid rfl, (by first | rfl | trivial)⟩
  case round =>
    obtain ⟨k, hk, rfl, HA, rfl⟩ := hrel
    by_cases hlt : k < n
    · obtain ⟨b, off, x, rfl, hb, hvk, hcell⟩ := HX.out.at_ hlt
      have HK := Lib.hid hvk
      have hkn : (k : Int) < n := by omega
      clear hvk hb
      cases hz : (x == 0) with
      | true =>
        have HZ := Lib.hid hz
        go_wp2_with fail
        go_roundw
        case rel => exact ⟨k + 1, by omega, by go_num, Lib.hid (allz_step HK.out HA.out HZ.out), (by first | rfl | trivial)⟩
        case measure => simp [intOf]; omega
      | false =>
        have HZ := Lib.hid hz
        go_wp2_with fail
        go_ret
        exact ⟨k, rfl, by omega, Or.inr ⟨hlt, allz_bad HK.out HZ.out⟩, rfl⟩
    · obtain rfl : n = k := by omega
      go_wp2_with fail
      go_ret
      exact ⟨n, rfl, Nat.le_refl _, Or.inl ⟨rfl, by
        have := HA.out
        rw [List.take_of_length_le (by have := HX.out.1; omega)] at this
        exact this⟩, rfl⟩

theorem impl_isZero (A : Option Addr) (n c : Nat) (v : List Int) (w : World) (hx : Ints w A n v) :
    Calls Try.prog 82 #[.slice A n c] w fun e w' => e = .returned (.bool (zrB v)) ∧ w = w' := by
  have HX := Lib.hid hx
  have hm := hx.2.1
  unfold maxLen at hm
  clear hx
  go_enter Try.func82, Try.ntmps82
  go_wp2_with fail
  refine (impl_lead _ _ _ v _ HX.out).mono ?_
  rintro e w2 ⟨k, rfl, hk, hz, rfl⟩
  rcases hz with ⟨rfl, hz⟩ | ⟨hlt, hz⟩
  · have HZ := Lib.hid hz
    clear hz
    go_wp2_with fail
    go_ret
    exact ⟨ret_bool (by rw [HZ.out]), rfl⟩
  · have HZ := Lib.hid hz
    have hkn : ((k : Int) == n) = false := by simp; omega
    clear hz
    go_wp2_with fail
    go_ret
    exact ⟨ret_bool (by rw [HZ.out]), rfl⟩

theorem Ints.other {w : World} {A : Option Addr} {n g : Nat} {xs : List Int} (h : Ints w A n xs) (hg : ∀ a, A = some a → g ≠ a.block) (v : Value) : Ints (w.setCell ⟨g, 0, none⟩ v) A n xs := ⟨h.1, h.2.1, fun hn => by
  obtain ⟨b, off, e, hl, hc⟩ := h.2.2 hn
  exact ⟨b, off, e, by simpa [World.setCell] using hl, fun j x hj => (World.cell?_setCell_far _ _ _ _ (hg _ e)).trans (hc j x hj)⟩⟩
theorem Own.other {w : World} {B : Nat} {A : Option Addr} {n g : Nat} {xs : List Int} (h : Own B w A n xs) (hg : ∀ a, A = some a → g ≠ a.block) (v : Value) : Own B (w.setCell ⟨g, 0, none⟩ v) A n xs := ⟨h.1, h.2.1, fun hn => by
  obtain ⟨b, off, e, hB, hl, hc, hf⟩ := h.2.2 hn
  exact ⟨b, off, e, hB, by simpa [World.setCell] using hl, fun j x hj => (World.cell?_setCell_far _ _ _ _ (hg _ e)).trans (hc j x hj), fun j hj => by rw [World.frozen?_setCell]; exact hf j hj⟩⟩

set_option maxHeartbeats 1000000 in
theorem iso_each (p : Int) (A : Option Addr) (n c q g h b : Nat) (xs v : List Int) (X : Value) (w : World) (hx : Ints w A n xs) (hv : Ints w (some ⟨b, 0, none⟩) n v)
    (c0 : w.cell? ⟨h, 0, none⟩ = some (.int .i64 p)) (c1 : w.cell? ⟨h, 1, none⟩ = some (.slice A n c)) (cg : w.cell? ⟨g, 0, none⟩ = some X) (fg : w.frozen? ⟨g, 0, none⟩ = false) (hgh : h < g) (hgb : g ≠ b)
    (hga : ∀ a, A = some a → g ≠ a.block) (h0 : 3 ≤ p) (h1 : p ≤ 13) (hn : numsB p xs = true) (hn' : numsB p v = true) (hl0 : 1 ≤ n) (hl1 : n ≤ 6) :
    Calls Try.prog 80 #[.slice (some ⟨b, 0, none⟩) n q, .pointer (some ⟨g, 0, none⟩), .pointer (some ⟨h, 0, none⟩)] w fun e w' => ∃ w1 C q', e = .returned (.bool (!zrB v && (pairN p xs v v == 0))) ∧ Below w.heap.size w w1 ∧ Own w.heap.size w1 C n v ∧ Below w1.heap.size (w1.setCell ⟨g, 0, none⟩ (.slice C n q')) w' := by
  have HX := Lib.hid hx
  have HV := Lib.hid hv
  have HNX := Lib.hid hn
  have HNV := Lib.hid hn'
  have HGA := Lib.hid hga
  clear hx hv hn hn' hga
  have hgw := World.block_lt_of_cell? _ _ cg
  go_enter Try.func80, Try.ntmps80
  go_wp2_with fail
  refine (slices_Clone _ _ _ v _ HV.out (by omega) (by omega)).mono ?_
  rintro e w1 ⟨C, q', rfl, ho, hb⟩
  have HB1 := Lib.hid hb
  have HO := Lib.hid ho
  replace c0 := keep_cell hb c0
  replace c1 := keep_cell hb c1
  replace cg := keep_cell hb cg
  have fg1 : w1.frozen? ⟨g, 0, none⟩ = false := (hb.frozen (p := ⟨g, 0, none⟩) hgw).trans fg
  have HX1 := Lib.hid ((HX.out.keep hb).other HGA.out (.slice C n q'))
  have HV1 := Lib.hid ((HV.out.keep hb).other (g := g) (fun a e => by injection e with e; subst e; exact hgb) (.slice C n q'))
  have d0 := (World.cell?_setCell_far w1 ⟨g, 0, none⟩ ⟨h, 0, none⟩ (.slice C n q') (by simp; omega)).trans c0
  have d1 := (World.cell?_setCell_far w1 ⟨g, 0, none⟩ ⟨h, 1, none⟩ (.slice C n q') (by simp; omega)).trans c1
  clear ho hb
  have hsz : (w1.setCell ⟨g, 0, none⟩ (.slice C n q')).heap.size = w1.heap.size := by simp [World.setCell]
  go_wp2_with fail
  refine (impl_isZero _ _ _ v _ HV1.out).mono ?_
  cases hz : zrB v with
  | true =>
    have HZ := Lib.hid hz
    clear hz
    rintro e w2 ⟨rfl, rfl⟩
    go_wp2_with fail
    go_ret
    exact ⟨w1, C, q', ret_bool (by rw [HZ.out]; rfl), HB1.out, HO.out, Below.refl _ _⟩
  | false =>
    have HZ := Lib.hid hz
    clear hz
    rintro e w2 ⟨rfl, rfl⟩
    go_wp2_with fail
    refine (Space_norm _ _ _ n _ _ xs v _ HX1.out HV1.out h0 h1 HNX.out HNV.out hl1).mono ?_
    rintro e w2 ⟨rfl, hb⟩
    rw [hsz] at hb
    have HB2 := Lib.hid hb
    clear hb
    go_wp2_with fail
    go_ret
    exact ⟨w1, C, q', ret_bool (by rw [HZ.out]; first | rfl | simp), HB1.out, HO.out, HB2.out⟩

theorem Ints.keepB {w w' : World} {A : Option Addr} {n g : Nat} {xs : List Int} (h : Ints w A n xs) (hg : ∀ a, A = some a → a.block < g) (hb : Below g w w') : Ints w' A n xs := ⟨h.1, h.2.1, fun hn => by
  obtain ⟨b, off, e, hl, hc⟩ := h.2.2 hn
  exact ⟨b, off, e, Nat.lt_of_lt_of_le hl hb.size, fun j x hj => (hb.cell (p := ⟨b, off + j, none⟩) (show b < g from hg ⟨b, off, none⟩ e)).trans (hc j x hj)⟩⟩
def goN (p : Int) (xs : List Int) (f : Nat) (v : List Int) : Option (List Int) := if (!zrB v && (pairN p xs v v == 0)) = true then some v else srch p xs f v
theorem zrB_rk {p : Int} : ∀ v : List Int, zrB v = true → rk p v = 0
  | [], _ => rfl
  | d :: t, h => by
    unfold zrB at h
    simp at h
    have ih := zrB_rk (p := p) t (by unfold zrB; simpa using h.2)
    rw [rk, h.1, ih]; simp
theorem zrB_zeros (n : Nat) : zrB (List.replicate n 0) = true := List.all_eq_true.2 fun x hx => by simp [(List.mem_replicate.1 hx).2]
theorem goN_zeros (p : Int) (xs : List Int) (f n : Nat) : goN p xs f (List.replicate n 0) = srch p xs f (List.replicate n 0) := by unfold goN; rw [zrB_zeros]; rfl
theorem goN_hit {p : Int} {xs v : List Int} {f : Nat} (h : (!zrB v && (pairN p xs v v == 0)) = true) : goN p xs f v = some v := if_pos h
theorem goN_end {p : Int} {xs v : List Int} {f : Nat} (h : (!zrB v && (pairN p xs v v == 0)) = false) (h2 : (nxt p v).2 = false) : goN p xs f v = none := (if_neg (by rw [h]; simp)).trans (srch_end h2)
theorem goN_on {p : Int} {xs v : List Int} {f : Nat} (hp : 2 ≤ p) (hn : numsB p v = true) (h : (!zrB v && (pairN p xs v v == 0)) = false) (h2 : (nxt p v).2 = true) : goN p xs (f + 1) v = goN p xs f (nxt p v).1 := by
  have hr := (rk_nxt hp v hn).1 h2
  have h0 := (rk_bounds hp v hn).1
  have hz : zrB (nxt p v).1 = false := by
    cases e : zrB (nxt p v).1 with
    | false => rfl
    | true => have := zrB_rk (p := p) _ e; omega
  unfold goN
  rw [if_neg (by rw [h]; simp), srch, if_pos h2, hz]
  simp

end Go.Proofs.Ytincppklphahpaa
