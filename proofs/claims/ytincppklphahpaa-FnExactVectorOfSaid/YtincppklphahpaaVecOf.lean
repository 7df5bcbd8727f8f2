/- Contracts: vectors as multivectors. Conditions stand in each theorem. -/
import Derived.Test.YtincppklphahpaaBladeOf
import Derived.Test.YtincppklphahpaaLists
namespace Go.Proofs.Ytincppklphahpaa
open Go.RowKit
set_option linter.unusedVariables false

theorem spec_l03Vector (p : Int) (A B : Option Addr) (n c m d : Nat) (ys : List Int) (w : World) (hy : Ints w B m ys) (h0 : 3 ≤ p) (h1 : p ≤ 13) :
    Calls Try.prog 55 #[.agg #[.int .i64 p, .slice A n c], .slice B m d] w fun e w' => e = .returned (.bool (lstB p n ys)) ∧ Below w.heap.size w w' := by
  have HY := Lib.hid hy
  have HM := Lib.hid hy.1
  clear hy
  have h0' : 1 ≤ p := by omega
  have h1' : p ≤ 13 := by omega
  have H2 := Lib.hid (show Below w.heap.size w (w.alloc (.cells #[.int .i64 p, .slice A n c] 28)) from (Below.refl _ _).alloc (Nat.le_refl _) _)
  rcases lstB_cases p n ys with ⟨hl, hlen, hnum⟩ | ⟨hl, hlen⟩ | ⟨hl, hlen, hnum⟩
  · rw [hl]
    have q1 : ((m : Int) == (n : Int)) = true := by simp; rw [← HM.out, hlen]
    clear hl hlen
    go_enter Try.func55, Try.ntmps55
    have c0 : (w.alloc (.cells #[.int .i64 p, .slice A n c] 28)).cell? ⟨w.heap.size, 0, none⟩ = some (.int .i64 p) := by simp [go_sem]
    have c1 : (w.alloc (.cells #[.int .i64 p, .slice A n c] 28)).cell? ⟨w.heap.size, 1, none⟩ = some (.slice A n c) := by simp [go_sem]
    have HW := Lib.hid (Below.refl (w.alloc (.cells #[.int .i64 p, .slice A n c] 28)).heap.size (w.alloc (.cells #[.int .i64 p, .slice A n c] 28)))
    go_wp2_with (go_at_call 85; refine (spec_l01Numbers _ _ _ _ ys _ h0' h1' (HY.out.keep (H2.out.trans (HW.out.mono H2.out.size)))).mono ?_; rintro e w' ⟨rfl, rfl⟩)
    go_ret
    exact ⟨rfl, (H2.out.trans (HW.out.mono H2.out.size))⟩
  · rw [hl]
    have q1 : ((m : Int) == (n : Int)) = false := by simp; rw [← HM.out]; omega
    clear hl hlen
    go_enter Try.func55, Try.ntmps55
    have c0 : (w.alloc (.cells #[.int .i64 p, .slice A n c] 28)).cell? ⟨w.heap.size, 0, none⟩ = some (.int .i64 p) := by simp [go_sem]
    have c1 : (w.alloc (.cells #[.int .i64 p, .slice A n c] 28)).cell? ⟨w.heap.size, 1, none⟩ = some (.slice A n c) := by simp [go_sem]
    have HW := Lib.hid (Below.refl (w.alloc (.cells #[.int .i64 p, .slice A n c] 28)).heap.size (w.alloc (.cells #[.int .i64 p, .slice A n c] 28)))
    go_wp2_with fail
    go_ret
    exact ⟨rfl, (H2.out.trans (HW.out.mono H2.out.size))⟩
  · rw [hl]
    have q1 : ((m : Int) == (n : Int)) = true := by simp; rw [← HM.out, hlen]
    clear hl hlen
    go_enter Try.func55, Try.ntmps55
    have c0 : (w.alloc (.cells #[.int .i64 p, .slice A n c] 28)).cell? ⟨w.heap.size, 0, none⟩ = some (.int .i64 p) := by simp [go_sem]
    have c1 : (w.alloc (.cells #[.int .i64 p, .slice A n c] 28)).cell? ⟨w.heap.size, 1, none⟩ = some (.slice A n c) := by simp [go_sem]
    have HW := Lib.hid (Below.refl (w.alloc (.cells #[.int .i64 p, .slice A n c] 28)).heap.size (w.alloc (.cells #[.int .i64 p, .slice A n c] 28)))
    go_wp2_with (go_at_call 85; refine (spec_l01Numbers _ _ _ _ ys _ h0' h1' (HY.out.keep (H2.out.trans (HW.out.mono H2.out.size)))).mono ?_; rintro e w' ⟨rfl, rfl⟩)
    go_ret
    exact ⟨rfl, (H2.out.trans (HW.out.mono H2.out.size))⟩

def pairV (p : Int) (xs ys zs : List Int) : Int := okOr (codeS p xs xs.length [ys, zs]) (pairN p xs ys zs)


def vecK (N : Nat) (ys : List Int) : Nat → List Int
  | 0 => List.replicate N 0
  | k + 1 => (vecK N ys k).set (2 ^ k) (ys.getD k 0)
theorem vecK_len (N : Nat) (ys : List Int) (k : Nat) : (vecK N ys k).length = N := by
  induction k with
  | zero => exact List.length_replicate
  | succ k ih => exact (List.length_set).trans ih
theorem vecK_step {N : Nat} {ys : List Int} {k : Nat} {x : Int} (h : ys[k]? = some x) : vecK N ys (k + 1) = (vecK N ys k).set (2 ^ k) x := by
  show (vecK N ys k).set (2 ^ k) (ys.getD k 0) = _
  rw [List.getD_eq_getElem?_getD, h]; rfl
theorem vecK_at {N : Nat} {ys : List Int} {k j : Nat} (h : j < N) : ∃ z, (vecK N ys k)[j]? = some z := ⟨_, List.getElem?_eq_getElem (by rw [vecK_len]; exact h)⟩
theorem shl_one {k : Nat} (hk : k < 6) : (1 : Int) * 2 ^ k = ((2 ^ k : Nat) : Int) := by rw [ipow_cast]; omega
theorem pow_lt {k n : Nat} (h : k < n) : (2 : Nat) ^ k < 2 ^ n := Nat.pow_lt_pow_right (by omega) h

theorem spec_l04Vector (p : Int) (A B : Option Addr) (n c d : Nat) (ys : List Int) (w : World) (hy : Ints w B n ys) (hn : n ≤ 6) : Calls Try.prog 56 #[.agg #[.int .i64 p, .slice A n c], .slice B n d] w fun e w' => ∃ b, e = .returned (.slice (some ⟨b, 0, none⟩) (2 ^ n) (2 ^ n)) ∧ Own w.heap.size w' (some ⟨b, 0, none⟩) (2 ^ n) (vecK (2 ^ n) ys n) ∧ Below w.heap.size w w' := by
  have HY := Lib.hid hy
  clear hy
  obtain ⟨g0, g1, g2⟩ := ipow_le6 hn
  have g3 := pow_le6 hn
  have g4 : 1 ≤ (2 : Nat) ^ n := Nat.one_le_two_pow
  have H2 := Lib.hid (show Below w.heap.size w (w.alloc (.cells #[.int .i64 p, .slice A n c] 28)) from (Below.refl _ _).alloc (Nat.le_refl _) _)
  go_enter Try.func56, Try.ntmps56
  have c0 : (w.alloc (.cells #[.int .i64 p, .slice A n c] 28)).cell? ⟨w.heap.size, 0, none⟩ = some (.int .i64 p) := by simp [go_sem]
  have c1 : (w.alloc (.cells #[.int .i64 p, .slice A n c] 28)).cell? ⟨w.heap.size, 1, none⟩ = some (.slice A n c) := by simp [go_sem]
  have HW := Lib.hid (Below.refl (w.alloc (.cells #[.int .i64 p, .slice A n c] 28)).heap.size (w.alloc (.cells #[.int .i64 p, .slice A n c] 28)))
  go_wp2_with fail
  refine (spec_l04Zero _ _ _ _ _ hn).mono ?_
  rintro e v ⟨b, rfl, ho, hb⟩
  have HO0 := Lib.hid (ho.less (B' := w.heap.size) (by have := (H2.out.trans (HW.out.mono H2.out.size)).size; omega))
  have hbl := (ho.2.2 (by omega))
  clear ho
  replace c0 := keep_cell hb c0
  replace c1 := keep_cell hb c1
  replace HW := Lib.hid (below_then HW.out hb)
  clear hb c0 c1
  obtain ⟨b', off', e', hb1, hb2, hcl, hfz⟩ := hbl
  injection e' with e'
  injection e' with e1' e2'
  subst e1' e2'
  clear hcl hfz
  have hb3 : w.heap.size ≤ b := by have := (H2.out.trans (HW.out.mono H2.out.size)).size; have := H2.out.size; omega
  have HB0 := Lib.hid (H2.out.trans (HW.out.mono H2.out.size))
  clear HW H2 hb1
  go_wp2
  go_loopw [6] (fun i wr => ∃ k : Nat, k ≤ n ∧ i = .int .i64 k ∧ Own w.heap.size wr (some ⟨b, 0, none⟩) (2 ^ n) (vecK (2 ^ n) ys k) ∧ Below w.heap.size w wr) (fun i _ => n - (intOf i).toNat)
  case atStart => exact ⟨0, Nat.zero_le _, rfl, HO0.out, HB0.out⟩
  case round =>
    obtain ⟨k, hk, rfl, hown, hbel⟩ := hrel
    clear HO0 HB0
    have HO := Lib.hid hown
    have HB := Lib.hid hbel
    clear hown hbel
    by_cases hlt : k < n
    · obtain ⟨b1, off1, x, rfl, hb1, hxk, hck1⟩ := (HY.out.keep HB.out).at_ hlt
      have HK1 := Lib.hid hxk
      have hkn : (k : Int) < n := by omega
      clear hxk
      have hp2 := pow_lt hlt
      obtain ⟨q0, q1, q2⟩ := ipow_le6 (show k ≤ 6 by omega)
      obtain ⟨b', off', e', hd1, hd2, hcl, hfz⟩ := HO.out.2.2 (by omega)
      injection e' with e'
      injection e' with e1' e2'
      subst e1' e2'
      obtain ⟨z, hz⟩ := vecK_at (ys := ys) (k := k) hp2
      have hcell := hcl (2 ^ k) z hz
      have hfr := hfz (2 ^ k) hp2
      clear hcl hfz hd1 hd2 hz
      simp only [Nat.zero_add] at hcell hfr
      rw [← toNat_pow] at hcell hfr
      have hq3 : (2 : Int) ^ k < ((2 ^ n : Nat) : Int) := by rw [ipow_cast]; omega
      go_wp2
      go_roundw
      case rel =>
        refine ⟨k + 1, by omega, by go_num, ?_, HB.out.setCell hb3 _⟩
        rw [vecK_step HK1.out]
        simp only [toNat_pow]
        have hq := HO.out.set_ (j := 2 ^ k) hp2 x
        simpa only [Nat.zero_add] using hq
      case measure => simp [intOf]; omega
    · obtain rfl : k = n := by omega
      go_wp2
      go_ret
      exact ⟨b, rfl, HO.out, HB.out⟩

theorem Space_vector (p : Int) (A B : Option Addr) (n c d : Nat) (ys : List Int) (w : World) (hy : Ints w B n ys) (hn : n ≤ 6) : Calls Try.prog 58 #[.agg #[.int .i64 p, .slice A n c], .slice B n d] w fun e w' => ∃ b, e = .returned (.slice (some ⟨b, 0, none⟩) (2 ^ n) (2 ^ n)) ∧ Own w.heap.size w' (some ⟨b, 0, none⟩) (2 ^ n) (vecK (2 ^ n) ys n) ∧ Below w.heap.size w w' := by
  have HY := Lib.hid hy
  clear hy
  obtain ⟨g0, g1, g2⟩ := ipow_le6 hn
  have g3 := pow_le6 hn
  have g4 : 1 ≤ (2 : Nat) ^ n := Nat.one_le_two_pow
  have H2 := Lib.hid (show Below w.heap.size w (w.alloc (.cells #[.int .i64 p, .slice A n c] 28)) from (Below.refl _ _).alloc (Nat.le_refl _) _)
  go_enter Try.func58, Try.ntmps58
  have c0 : (w.alloc (.cells #[.int .i64 p, .slice A n c] 28)).cell? ⟨w.heap.size, 0, none⟩ = some (.int .i64 p) := by simp [go_sem]
  have c1 : (w.alloc (.cells #[.int .i64 p, .slice A n c] 28)).cell? ⟨w.heap.size, 1, none⟩ = some (.slice A n c) := by simp [go_sem]
  have HW := Lib.hid (Below.refl (w.alloc (.cells #[.int .i64 p, .slice A n c] 28)).heap.size (w.alloc (.cells #[.int .i64 p, .slice A n c] 28)))
  go_wp2_with fail
  refine (Space_nothing _ _ _ _ _ hn).mono ?_
  rintro e v ⟨b, rfl, ho, hb⟩
  have HO0 := Lib.hid (ho.less (B' := w.heap.size) (by have := (H2.out.trans (HW.out.mono H2.out.size)).size; omega))
  have hbl := (ho.2.2 (by omega))
  clear ho
  replace c0 := keep_cell hb c0
  replace c1 := keep_cell hb c1
  replace HW := Lib.hid (below_then HW.out hb)
  clear hb c0 c1
  obtain ⟨b', off', e', hb1, hb2, hcl, hfz⟩ := hbl
  injection e' with e'
  injection e' with e1' e2'
  subst e1' e2'
  clear hcl hfz
  have hb3 : w.heap.size ≤ b := by have := (H2.out.trans (HW.out.mono H2.out.size)).size; have := H2.out.size; omega
  have HB0 := Lib.hid (H2.out.trans (HW.out.mono H2.out.size))
  clear HW H2 hb1
  go_wp2
  go_loopw [12] (fun i wr => ∃ k : Nat, k ≤ n ∧ i = .int .i64 k ∧ Own w.heap.size wr (some ⟨b, 0, none⟩) (2 ^ n) (vecK (2 ^ n) ys k) ∧ Below w.heap.size w wr) (fun i _ => n - (intOf i).toNat)
  case atStart => exact ⟨0, Nat.zero_le _, rfl, HO0.out, HB0.out⟩
  case round =>
    obtain ⟨k, hk, rfl, hown, hbel⟩ := hrel
    clear HO0 HB0
    have HO := Lib.hid hown
    have HB := Lib.hid hbel
    clear hown hbel
    by_cases hlt : k < n
    · obtain ⟨b1, off1, x, rfl, hb1, hxk, hck1⟩ := (HY.out.keep HB.out).at_ hlt
      have HK1 := Lib.hid hxk
      have hkn : (k : Int) < n := by omega
      clear hxk
      have hp2 := pow_lt hlt
      obtain ⟨q0, q1, q2⟩ := ipow_le6 (show k ≤ 6 by omega)
      obtain ⟨b', off', e', hd1, hd2, hcl, hfz⟩ := HO.out.2.2 (by omega)
      injection e' with e'
      injection e' with e1' e2'
      subst e1' e2'
      obtain ⟨z, hz⟩ := vecK_at (ys := ys) (k := k) hp2
      have hcell := hcl (2 ^ k) z hz
      have hfr := hfz (2 ^ k) hp2
      clear hcl hfz hd1 hd2 hz
      simp only [Nat.zero_add] at hcell hfr
      rw [← toNat_pow] at hcell hfr
      have hq3 : (2 : Int) ^ k < ((2 ^ n : Nat) : Int) := by rw [ipow_cast]; omega
      go_wp2
      go_roundw
      case rel =>
        refine ⟨k + 1, by omega, by go_num, ?_, HB.out.setCell hb3 _⟩
        rw [vecK_step HK1.out]
        simp only [toNat_pow]
        have hq := HO.out.set_ (j := 2 ^ k) hp2 x
        simpa only [Nat.zero_add] using hq
      case measure => simp [intOf]; omega
    · obtain rfl : k = n := by omega
      go_wp2
      go_ret
      exact ⟨b, rfl, HO.out, HB.out⟩

def vecL (p : Int) (xs ys : List Int) : List Int := if codeS p xs xs.length [ys] = 0 then vecK (2 ^ xs.length) ys xs.length else []
theorem vecL_len (p : Int) (xs ys : List Int) : (vecL p xs ys).length ≤ 1000000000 := by
  unfold vecL
  by_cases h : codeS p xs xs.length [ys] = 0
  · rw [if_pos h, vecK_len]
    have := pow_le6 (spaceB_true (codeS_zero h).1).2.2.1
    omega
  · rw [if_neg h]; simp
theorem vecL_in {p : Int} {xs ys : List Int} (h : codeS p xs xs.length [ys] = 0) : vecL p xs ys = vecK (2 ^ xs.length) ys xs.length := if_pos h
theorem vecL_out {p : Int} {xs ys : List Int} (h : ¬ codeS p xs xs.length [ys] = 0) : vecL p xs ys = [] := if_neg h

theorem impl_VectorOf (p : Int) (A B : Option Addr) (n c m d : Nat) (xs ys : List Int) (w : World) (hx : Ints w A n xs) (hy : Ints w B m ys) :
    Calls Try.prog 27 #[.agg #[.int .i64 p, .slice A n c], .slice B m d] w fun e w' => ∃ C q, e = .returned (.tuple #[.slice C (vecL p xs ys).length q, .int .i64 (codeS p xs xs.length [ys])]) ∧ Own w.heap.size w' C (vecL p xs ys).length (vecL p xs ys) ∧ Below w.heap.size w w' := by
  have HX := Lib.hid hx
  have hm := hx.2.1
  have HN := Lib.hid hx.1
  clear hx
  unfold maxLen at hm
  have H2 := Lib.hid (show Below w.heap.size w (w.alloc (.cells #[.int .i64 p, .slice A n c] 28)) from (Below.refl _ _).alloc (Nat.le_refl _) _)
  have HY := Lib.hid hy
  clear hy
  by_cases hcz : codeS p xs xs.length [ys] = 0
  · obtain ⟨hsp, hall⟩ := codeS_zero hcz
    obtain ⟨hp, hl0, hl1, hn⟩ := spaceB_true hsp
    have h0 := prime_lo hp
    have h1 := prime_hi hp
    have HV0 := Lib.hid (vecL_in hcz)
    have HZc := Lib.hid hcz
    simp only [List.all_cons, List.all_nil, Bool.and_true] at hall
    obtain ⟨hly, hny⟩ := lstB_true hall
    have HS := Lib.hid hsp
    have HT := Lib.hid hall
    rw [HN.out] at hl0 hl1
    have hmn : m = n := by rw [← HY.out.1, hly, HN.out]
    subst hmn
    have g3 := pow_le6 hl1
    have HV := Lib.hid (show vecL p xs ys = vecK (2 ^ m) ys m by rw [HV0.out, HN.out])
    have HL := Lib.hid (show (vecL p xs ys).length = 2 ^ m by rw [HV.out, vecK_len])
    rw [HL.out, HV.out, HZc.out]
    clear hp hn hall hsp hcz hly hny HV0 HV HL
    have HZd := Lib.hid (show codeS p xs m [ys] = 0 by rw [← HN.out]; exact HZc.out)
    go_enter Try.func27, Try.ntmps27
    have c0 : (w.alloc (.cells #[.int .i64 p, .slice A m c] 28)).cell? ⟨w.heap.size, 0, none⟩ = some (.int .i64 p) := by simp [go_sem]
    have c1 : (w.alloc (.cells #[.int .i64 p, .slice A m c] 28)).cell? ⟨w.heap.size, 1, none⟩ = some (.slice A m c) := by simp [go_sem]
    have HW := Lib.hid (Below.refl (w.alloc (.cells #[.int .i64 p, .slice A m c] 28)).heap.size (w.alloc (.cells #[.int .i64 p, .slice A m c] 28)))
    have hb : Below (w.alloc (.cells #[.int .i64 p, .slice A m c] 28)).heap.size (w.alloc (.cells #[.int .i64 p, .slice A m c] 28)) ((w.alloc (.cells #[.int .i64 p, .slice A m c] 28)).alloc (.cells #[.slice B m d] 22)) := (Below.refl _ _).alloc (Nat.le_refl _) _
    go_wp2_with fail
    refine (impl_checkVectors p A _ m c 1 _ xs [ys] _ (HX.out.keep (H2.out.trans (hb.mono H2.out.size))) (Lists.mk1 _ _ (by simp) (HY.out.keep H2.out))).mono ?_
    rintro e v ⟨rfl, hv⟩
    have hs2 : w.heap.size + 1 ≤ v.heap.size := by have := (below_then hb hv).size; simpa using this
    replace c0 := keep_cell (below_then hb hv) c0
    replace c1 := keep_cell (below_then hb hv) c1
    replace HW := Lib.hid (below_then (below_then HW.out hb) hv)
    clear hb hv
    rw [HZd.out]
    go_wp2_with fail
    refine (Space_vector _ _ _ _ _ _ _ _ (HY.out.keep (H2.out.trans (HW.out.mono H2.out.size))) hl1).mono ?_
    rintro e v2 ⟨bb, rfl, ho, hb⟩
    have HO := Lib.hid (ho.less (B' := w.heap.size) (by omega))
    clear ho
    replace c0 := keep_cell hb c0
    replace c1 := keep_cell hb c1
    replace HW := Lib.hid (below_then HW.out hb)
    clear hb
    go_wp2_with fail
    go_ret2
    exact ⟨_, _, rfl, HO.out, (H2.out.trans (HW.out.mono H2.out.size))⟩
  · have HV := Lib.hid (vecL_out hcz)
    rw [HV.out]
    rw [HN.out] at hcz ⊢
    have HZc := Lib.hid hcz
    have hc' : (codeS p xs n [ys] == 0) = false := by simpa using hcz
    go_enter Try.func27, Try.ntmps27
    have c0 : (w.alloc (.cells #[.int .i64 p, .slice A n c] 28)).cell? ⟨w.heap.size, 0, none⟩ = some (.int .i64 p) := by simp [go_sem]
    have c1 : (w.alloc (.cells #[.int .i64 p, .slice A n c] 28)).cell? ⟨w.heap.size, 1, none⟩ = some (.slice A n c) := by simp [go_sem]
    have HW := Lib.hid (Below.refl (w.alloc (.cells #[.int .i64 p, .slice A n c] 28)).heap.size (w.alloc (.cells #[.int .i64 p, .slice A n c] 28)))
    have hb : Below (w.alloc (.cells #[.int .i64 p, .slice A n c] 28)).heap.size (w.alloc (.cells #[.int .i64 p, .slice A n c] 28)) ((w.alloc (.cells #[.int .i64 p, .slice A n c] 28)).alloc (.cells #[.slice B m d] 22)) := (Below.refl _ _).alloc (Nat.le_refl _) _
    go_wp2_with fail
    refine (impl_checkVectors p A _ n c 1 _ xs [ys] _ (HX.out.keep (H2.out.trans (hb.mono H2.out.size))) (Lists.mk1 _ _ (by simp) (HY.out.keep H2.out))).mono ?_
    rintro e v ⟨rfl, hv⟩
    have hs2 : w.heap.size + 1 ≤ v.heap.size := by have := (below_then hb hv).size; simpa using this
    replace c0 := keep_cell (below_then hb hv) c0
    replace c1 := keep_cell (below_then hb hv) c1
    replace HW := Lib.hid (below_then (below_then HW.out hb) hv)
    clear hb hv
    go_wp2_with fail
    go_ret2
    exact ⟨_, _, rfl, Own.nil _ _, (H2.out.trans (HW.out.mono H2.out.size))⟩

theorem spec_VectorOf (p : Int) (A B : Option Addr) (n c m d : Nat) (xs ys : List Int) (w : World) (hx : Ints w A n xs) (hy : Ints w B m ys) :
    Calls Try.prog 25 #[.agg #[.int .i64 p, .slice A n c], .slice B m d] w fun e w' => ∃ C q, e = .returned (.tuple #[.slice C (vecL p xs ys).length q, .int .i64 (codeS p xs xs.length [ys])]) ∧ Own w.heap.size w' C (vecL p xs ys).length (vecL p xs ys) ∧ Below w.heap.size w w' := by
  have HX := Lib.hid hx
  have hm := hx.2.1
  have HN := Lib.hid hx.1
  clear hx
  unfold maxLen at hm
  have H2 := Lib.hid (show Below w.heap.size w (w.alloc (.cells #[.int .i64 p, .slice A n c] 28)) from (Below.refl _ _).alloc (Nat.le_refl _) _)
  have HY := Lib.hid hy
  clear hy
  by_cases hcz : codeS p xs xs.length [ys] = 0
  · obtain ⟨hsp, hall⟩ := codeS_zero hcz
    obtain ⟨hp, hl0, hl1, hn⟩ := spaceB_true hsp
    have h0 := prime_lo hp
    have h1 := prime_hi hp
    have HV0 := Lib.hid (vecL_in hcz)
    have HZc := Lib.hid hcz
    simp only [List.all_cons, List.all_nil, Bool.and_true] at hall
    obtain ⟨hly, hny⟩ := lstB_true hall
    have HS := Lib.hid hsp
    have HT := Lib.hid hall
    rw [HN.out] at hl0 hl1
    have hmn : m = n := by rw [← HY.out.1, hly, HN.out]
    subst hmn
    have g3 := pow_le6 hl1
    have HV := Lib.hid (show vecL p xs ys = vecK (2 ^ m) ys m by rw [HV0.out, HN.out])
    have HL := Lib.hid (show (vecL p xs ys).length = 2 ^ m by rw [HV.out, vecK_len])
    rw [HL.out, HV.out, HZc.out]
    clear hp hn hall hsp hcz hly hny HV0 HV HL
    have HTd := Lib.hid (show lstB p m ys = true by rw [← HN.out]; exact HT.out)
    go_enter Try.func25, Try.ntmps25
    have c0 : (w.alloc (.cells #[.int .i64 p, .slice A m c] 28)).cell? ⟨w.heap.size, 0, none⟩ = some (.int .i64 p) := by simp [go_sem]
    have c1 : (w.alloc (.cells #[.int .i64 p, .slice A m c] 28)).cell? ⟨w.heap.size, 1, none⟩ = some (.slice A m c) := by simp [go_sem]
    have HW := Lib.hid (Below.refl (w.alloc (.cells #[.int .i64 p, .slice A m c] 28)).heap.size (w.alloc (.cells #[.int .i64 p, .slice A m c] 28)))
    go_wp2_with fail
    refine (spec_l03Is _ _ _ _ xs _ (HX.out.keep (H2.out.trans (HW.out.mono H2.out.size)))).mono ?_
    rw [HS.out]
    rintro e v ⟨rfl, hb⟩
    have hs1 := hb.size
    replace c0 := keep_cell hb c0
    replace c1 := keep_cell hb c1
    replace HW := Lib.hid (below_then HW.out hb)
    clear hb
    have hs2 : w.heap.size + 1 ≤ v.heap.size := by simpa using hs1
    go_wp2_with fail
    refine (spec_l03Vector _ _ _ _ _ _ _ _ _ (HY.out.keep (H2.out.trans (HW.out.mono H2.out.size))) h0 h1).mono ?_
    rw [HTd.out]
    rintro e v3 ⟨rfl, hb⟩
    have hs3 : w.heap.size + 1 ≤ v3.heap.size := Nat.le_trans hs2 hb.size
    replace c0 := keep_cell hb c0
    replace c1 := keep_cell hb c1
    replace HW := Lib.hid (below_then HW.out hb)
    clear hb
    go_wp2_with fail
    refine (spec_l04Vector _ _ _ _ _ _ _ _ (HY.out.keep (H2.out.trans (HW.out.mono H2.out.size))) hl1).mono ?_
    rintro e v2 ⟨bb, rfl, ho, hb⟩
    have HO := Lib.hid (ho.less (B' := w.heap.size) (by omega))
    clear ho
    replace c0 := keep_cell hb c0
    replace c1 := keep_cell hb c1
    replace HW := Lib.hid (below_then HW.out hb)
    clear hb
    go_wp2_with fail
    go_ret2
    exact ⟨_, _, rfl, HO.out, (H2.out.trans (HW.out.mono H2.out.size))⟩
  · have HV := Lib.hid (vecL_out hcz)
    rw [HV.out]
    cases hs : spaceB p xs with
    | true =>
      obtain ⟨hp, hl0, hl1, hn⟩ := spaceB_true hs
      have h0 := prime_lo hp
      have h1 := prime_hi hp
      have ht : lstB p n ys = false := by
        cases ht : lstB p n ys with
        | false => rfl
        | true => exact absurd (by simp [codeS, hs, HN.out, ht]) hcz
      have HC := Lib.hid (show codeS p xs xs.length [ys] = 2 by simp [codeS, hs, HN.out, ht])
      rw [HC.out]
      have HS := Lib.hid hs
      have HT := Lib.hid ht
      clear hp hn hs ht hcz
      go_enter Try.func25, Try.ntmps25
      have c0 : (w.alloc (.cells #[.int .i64 p, .slice A n c] 28)).cell? ⟨w.heap.size, 0, none⟩ = some (.int .i64 p) := by simp [go_sem]
      have c1 : (w.alloc (.cells #[.int .i64 p, .slice A n c] 28)).cell? ⟨w.heap.size, 1, none⟩ = some (.slice A n c) := by simp [go_sem]
      have HW := Lib.hid (Below.refl (w.alloc (.cells #[.int .i64 p, .slice A n c] 28)).heap.size (w.alloc (.cells #[.int .i64 p, .slice A n c] 28)))
      go_wp2_with fail
      refine (spec_l03Is _ _ _ _ xs _ (HX.out.keep (H2.out.trans (HW.out.mono H2.out.size)))).mono ?_
      rw [HS.out]
      rintro e v ⟨rfl, hb⟩
      have hs1 := hb.size
      replace c0 := keep_cell hb c0
      replace c1 := keep_cell hb c1
      replace HW := Lib.hid (below_then HW.out hb)
      clear hb
      have hs2 : w.heap.size + 1 ≤ v.heap.size := by simpa using hs1
      go_wp2_with fail
      refine (spec_l03Vector _ _ _ _ _ _ _ _ _ (HY.out.keep (H2.out.trans (HW.out.mono H2.out.size))) h0 h1).mono ?_
      rw [HT.out]
      rintro e v3 ⟨rfl, hb⟩
      replace c0 := keep_cell hb c0
      replace c1 := keep_cell hb c1
      replace HW := Lib.hid (below_then HW.out hb)
      clear hb
      go_wp2_with fail
      go_ret2
      exact ⟨_, _, rfl, Own.nil _ _, (H2.out.trans (HW.out.mono H2.out.size))⟩
    | false =>
      have HC := Lib.hid (show codeS p xs xs.length [ys] = 1 by simp [codeS, hs])
      rw [HC.out]
      have HS := Lib.hid hs
      clear hs hcz
      go_enter Try.func25, Try.ntmps25
      have c0 : (w.alloc (.cells #[.int .i64 p, .slice A n c] 28)).cell? ⟨w.heap.size, 0, none⟩ = some (.int .i64 p) := by simp [go_sem]
      have c1 : (w.alloc (.cells #[.int .i64 p, .slice A n c] 28)).cell? ⟨w.heap.size, 1, none⟩ = some (.slice A n c) := by simp [go_sem]
      have HW := Lib.hid (Below.refl (w.alloc (.cells #[.int .i64 p, .slice A n c] 28)).heap.size (w.alloc (.cells #[.int .i64 p, .slice A n c] 28)))
      go_wp2_with fail
      refine (spec_l03Is _ _ _ _ xs _ (HX.out.keep (H2.out.trans (HW.out.mono H2.out.size)))).mono ?_
      rw [HS.out]
      rintro e v ⟨rfl, hb⟩
      have hs1 := hb.size
      replace c0 := keep_cell hb c0
      replace c1 := keep_cell hb c1
      replace HW := Lib.hid (below_then HW.out hb)
      clear hb
      have hs2 : w.heap.size + 1 ≤ v.heap.size := by simpa using hs1
      go_wp2_with fail
      go_ret2
      exact ⟨_, _, rfl, Own.nil _ _, (H2.out.trans (HW.out.mono H2.out.size))⟩

end Go.Proofs.Ytincppklphahpaa
