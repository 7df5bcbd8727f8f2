/- Contracts: involute, reverse, conjugate. Conditions stand in each theorem. -/
import Derived.Test.YtincppklphahpaaGrade
import Derived.Test.YtincppklphahpaaBladeOf
import Derived.Test.YtincppklphahpaaVec
import Derived.Test.YtincppklphahpaaLists
namespace Go.Proofs.Ytincppklphahpaa
open Go.RowKit
set_option linter.unusedVariables false

def revG (g : Nat) : Bool := g == 2 || g == 3 || g == 6
def invG (g : Nat) : Bool := g % 2 == 1
def signK (p : Int) (f : Nat → Bool) (ys : List Int) : Nat → List Int
  | 0 => []
  | k + 1 => signK p f ys k ++ [if f k then (p - ys.getD k 0) % p else ys.getD k 0]
theorem signK_len (p : Int) (f : Nat → Bool) (ys : List Int) (k : Nat) : (signK p f ys k).length = k := by
  induction k with
  | zero => rfl
  | succ k ih => unfold signK; rw [List.length_append, ih]; rfl
theorem signK_in {p : Int} {f : Nat → Bool} {ys : List Int} {k : Nat} {x : Int} (hx : ys[k]? = some x) (h : f k = true) : signK p f ys (k + 1) = signK p f ys k ++ [(p - x) % p] := by
  show signK p f ys k ++ [if f k then (p - ys.getD k 0) % p else ys.getD k 0] = _
  rw [if_pos h, List.getD_eq_getElem?_getD, hx]; rfl
theorem signK_out {p : Int} {f : Nat → Bool} {ys : List Int} {k : Nat} {x : Int} (hx : ys[k]? = some x) (h : f k = false) : signK p f ys (k + 1) = signK p f ys k ++ [x] := by
  show signK p f ys k ++ [if f k then (p - ys.getD k 0) % p else ys.getD k 0] = _
  rw [if_neg (by rw [h]; simp), List.getD_eq_getElem?_getD, hx]; rfl
theorem signK_get {p : Int} {f : Nat → Bool} {ys : List Int} {k i : Nat} (hi : i < k) : (signK p f ys k)[i]? = some (if f i then (p - ys.getD i 0) % p else ys.getD i 0) := by
  induction k with
  | zero => omega
  | succ k ih =>
    unfold signK
    by_cases h : i < k
    · rw [List.getElem?_append_left (by rw [signK_len]; exact h), ih h]
    · obtain rfl : i = k := by omega
      rw [List.getElem?_append_right (by rw [signK_len]; omega), signK_len, Nat.sub_self]; rfl
def signL (p : Int) (f : Nat → Bool) (ys : List Int) : List Int := signK p f ys ys.length
theorem signL_len (p : Int) (f : Nat → Bool) (ys : List Int) : (signL p f ys).length = ys.length := signK_len _ _ _ _
theorem signL_get {p : Int} {f : Nat → Bool} {ys : List Int} {i : Nat} (hi : i < ys.length) : (signL p f ys)[i]? = some (if f i then (p - ys.getD i 0) % p else ys.getD i 0) := signK_get hi
theorem signL_nums {p : Int} {f : Nat → Bool} {ys : List Int} (hp : 3 ≤ p) (hn : numsB p ys = true) : numsB p (signL p f ys) = true := numsB_of fun x hx => by
  obtain ⟨i, hi⟩ := List.mem_iff_getElem?.1 hx
  have hil : i < ys.length := by have := (List.getElem?_eq_some_iff.1 hi).1; rw [signL_len] at this; exact this
  rw [signL_get hil] at hi
  injection hi with hi
  subst hi
  cases f i with
  | true => exact ⟨Int.emod_nonneg _ (by omega), Int.emod_lt_of_pos _ (by omega)⟩
  | false =>
    have hy : ys[i]? = some (ys.getD i 0) := by rw [List.getD_eq_getElem?_getD, List.getElem?_eq_getElem hil]; rfl
    exact numB_true (numsB_at hn hy)
theorem neg_neg_mod {p x : Int} (h0 : 0 ≤ x) (h1 : x < p) : (p - (p - x) % p) % p = x := by
  by_cases hx : x = 0
  · subst hx; simp
  · rw [Int.emod_eq_of_lt (show 0 ≤ p - x by omega) (by omega), show p - (p - x) = x by omega]; exact Int.emod_eq_of_lt h0 h1
theorem signL_signL {p : Int} {f g : Nat → Bool} {ys : List Int} (hn : numsB p ys = true) : signL p g (signL p f ys) = signL p (fun i => xor (g i) (f i)) ys := by
  apply List.ext_getElem?
  intro i
  by_cases hi : i < ys.length
  · have hy : ys[i]? = some (ys.getD i 0) := by rw [List.getD_eq_getElem?_getD, List.getElem?_eq_getElem hi]; rfl
    obtain ⟨h0, h1⟩ := numB_true (numsB_at hn hy)
    rw [signL_get (by rw [signL_len]; exact hi), signL_get hi, List.getD_eq_getElem?_getD, signL_get hi]
    show some (if g i = true then (p - (if f i = true then (p - ys.getD i 0) % p else ys.getD i 0)) % p else (if f i = true then (p - ys.getD i 0) % p else ys.getD i 0)) = some (if xor (g i) (f i) = true then (p - ys.getD i 0) % p else ys.getD i 0)
    cases hf : f i <;> cases hg : g i <;> first | rfl | exact congrArg some (neg_neg_mod h0 h1)
  · rw [List.getElem?_eq_none (by rw [signL_len, signL_len]; omega), List.getElem?_eq_none (by rw [signL_len]; omega)]
/-- k places turned, the rest as they were -/
def mixK (p : Int) (f : Nat → Bool) (ys : List Int) (k : Nat) : List Int := signK p f ys k ++ ys.drop k
theorem mixK_len {p : Int} {f : Nat → Bool} {ys : List Int} {k : Nat} (h : k ≤ ys.length) : (mixK p f ys k).length = ys.length := by
  unfold mixK; rw [List.length_append, signK_len, List.length_drop]; omega
theorem mixK_in {p : Int} {f : Nat → Bool} {ys : List Int} {k : Nat} {x : Int} (hx : ys[k]? = some x) (h : f k = true) : mixK p f ys (k + 1) = (mixK p f ys k).set k ((p - x) % p) := by
  have hk := (List.getElem?_eq_some_iff.1 hx).1
  unfold mixK
  rw [signK_in hx h, List.set_append_right _ _ (by rw [signK_len]; exact Nat.le_refl _), signK_len, Nat.sub_self, List.drop_eq_getElem_cons hk, List.set_cons_zero, List.append_assoc]; rfl
theorem mixK_out {p : Int} {f : Nat → Bool} {ys : List Int} {k : Nat} {x : Int} (hx : ys[k]? = some x) (h : f k = false) : mixK p f ys (k + 1) = mixK p f ys k := by
  obtain ⟨hk, he⟩ := List.getElem?_eq_some_iff.1 hx
  unfold mixK
  rw [signK_out hx h, List.drop_eq_getElem_cons hk, he, List.append_assoc]; rfl
theorem mixK_end {p : Int} {f : Nat → Bool} {ys : List Int} : mixK p f ys ys.length = signL p f ys := by
  unfold mixK signL; rw [List.drop_length, List.append_nil]
theorem mixK_at {p : Int} {f : Nat → Bool} {ys : List Int} {k j : Nat} (hk : k ≤ ys.length) (h : j < ys.length) : ∃ z, (mixK p f ys k)[j]? = some z := ⟨_, List.getElem?_eq_getElem (by rw [mixK_len hk]; exact h)⟩

def sgF (turn odd : Bool) (j : Nat) : Bool := xor (turn && revG (gradeN j)) (odd && invG (gradeN j))
theorem sg_con {p : Int} {ys : List Int} (hn : numsB p ys = true) : signL p (sgF true false) (signL p (sgF false true) ys) = signL p (sgF true true) ys := by
  rw [signL_signL hn]
  exact congrArg (fun f => signL p f ys) (funext fun i => by unfold sgF; cases revG (gradeN i) <;> cases invG (gradeN i) <;> rfl)
theorem cases7 {g : Nat} (h : g ≤ 6) : g = 0 ∨ g = 1 ∨ g = 2 ∨ g = 3 ∨ g = 4 ∨ g = 5 ∨ g = 6 := by omega
theorem rev_test {g : Nat} (h : g ≤ 6) : ((g : Int) * ((g : Int) - 1) / 2 % 2 == 1) = revG g ∧ 0 ≤ (g : Int) * ((g : Int) - 1) ∧ (g : Int) * ((g : Int) - 1) ≤ 30 := by
  rcases cases7 h with rfl | rfl | rfl | rfl | rfl | rfl | rfl <;> decide
theorem inv_test {g : Nat} (h : g ≤ 6) : ((g : Int) % 2 == 1) = invG g := by
  rcases cases7 h with rfl | rfl | rfl | rfl | rfl | rfl | rfl <;> decide

theorem spec_l04Grade_is (m : Nat) (hm : m < 64) (q : Int) (h : (gradeN m : Int) = q) (w : World) : Calls Try.prog 70 #[.int .i64 m] w fun e w' => e = .returned (.int .i64 q) ∧ w = w' := by
  have h1 := spec_l04Grade m hm w
  rw [h] at h1
  exact h1

theorem neg_mod_ (p d : Int) : (-d) % p = (p - d) % p := by rw [show p - d = -d + p by omega, Int.add_emod_right]

theorem involute_1 (g : Nat) (hg : g ≤ 6) (w : World) : Calls Try.prog 98 #[.int .i64 g] w fun e w' => e = .returned (.bool (invG g)) ∧ w = w' := by
  have h1 := inv_test hg
  cases hb : invG g with
  | true =>
    rw [hb] at h1
    go_enter Try.func98, Try.ntmps98
    go_wp2
    go_ret
    exact ⟨rfl, rfl⟩
  | false =>
    rw [hb] at h1
    go_enter Try.func98, Try.ntmps98
    go_wp2
    go_ret
    exact ⟨rfl, rfl⟩

theorem reverse_1 (g : Nat) (hg : g ≤ 6) (w : World) : Calls Try.prog 99 #[.int .i64 g] w fun e w' => e = .returned (.bool (revG g)) ∧ w = w' := by
  obtain ⟨h1, h2, h3⟩ := rev_test hg
  cases hb : revG g with
  | true =>
    rw [hb] at h1
    go_enter Try.func99, Try.ntmps99
    go_wp2
    go_ret
    exact ⟨rfl, rfl⟩
  | false =>
    rw [hb] at h1
    go_enter Try.func99, Try.ntmps99
    go_wp2
    go_ret
    exact ⟨rfl, rfl⟩

theorem slices_Clone (A : Option Addr) (n c : Nat) (xs : List Int) (w : World) (hx : Ints w A n xs) (hn : 0 < n) (hn2 : n ≤ 1000) : Calls Try.prog 81 #[.slice A n c] w fun e w' => ∃ C q, e = .returned (.slice C n q) ∧ Own w.heap.size w' C n xs ∧ Below w.heap.size w w' := by
  have HX := Lib.hid hx
  obtain ⟨b, off, rfl, hb1, hc⟩ := hx.2.2 hn
  have HC := Lib.hid hc
  have HN := Lib.hid hx.1
  clear hx hc
  obtain ⟨i0, hi0, hz0, hz1, hz2⟩ := info_parts int_info
  have hoz := own_empty w 2 w.heap.size w.heap.size rfl (Nat.le_refl _)
  have HZ := Lib.hid hoz
  clear hoz
  have hq := fun (w : World) => Lib.run_eql_slice_nil (P := Try.prog) w 22 2 (some ⟨b, off, none⟩) n c 0 0 Try.underlying22
  go_enter Try.func81, Try.ntmps81
  go_wp2_with (at_builtin; go_loud (refine wpList_append_own _ rfl _ _ 22 rfl w.heap.size 2 i0 _ 1 8 Try.underlying22 hi0 hz0 hz1 hz2 rfl (by omega) _ 0 [] rfl HZ.out ⟨b, off, none⟩ n c (xs.map (Value.int .i64)) rfl (by rw [List.length_map, HN.out]; omega) (fun j u hj => by
    rw [List.getElem?_map] at hj
    cases hq : xs[j]? with
    | none => rw [hq] at hj; cases hj
    | some x => rw [hq] at hj; injection hj with hj; subst hj; exact keep_cell (below_alloc _ _) (by simpa [go_sem] using HC.out j x hq)) (fun u hu => by obtain ⟨x, _, rfl⟩ := List.mem_map.1 hu; rfl) (by unfold maxLen; omega) (by omega) (by simp) ?_; intro v' w1 hown1 hgrow _))
  obtain ⟨C, q, rfl, ho⟩ := Own.of_own (by simpa using hown1)
  have HO := Lib.hid ho
  have HB1 := Lib.hid (below_own HZ.out hgrow (below_alloc _ _) (Nat.le_refl _) (by simp))
  clear ho hown1 hgrow
  go_wp2
  go_ret
  exact ⟨C, q, by simp, by simpa using HO.out, HB1.out⟩

set_option maxHeartbeats 1000000 in
theorem l04Signs_inv (p : Int) (A B : Option Addr) (n c m d : Nat) (ys : List Int) (w : World) (hy : Ints w B m ys) (hm : m ≤ 64) (h0 : 3 ≤ p) (h1 : p ≤ 13) (hn : numsB p ys = true) : Calls Try.prog 77 #[.agg #[.int .i64 p, .slice A n c], .slice B m d, .bool false, .bool true] w fun e w' => ∃ C q, e = .returned (.slice C m q) ∧ Own w.heap.size w' C m (signL p (sgF false true) ys) ∧ Below w.heap.size w w' := by
  have HY := Lib.hid hy
  have HM := Lib.hid hy.1
  have HN1 := Lib.hid hn
  clear hy hn
  have H2 := Lib.hid (show Below w.heap.size w (w.alloc (.cells #[.int .i64 p, .slice A n c] 28)) from (Below.refl _ _).alloc (Nat.le_refl _) _)
  obtain ⟨i0, hi0, hz0, hz1, hz2⟩ := info_parts int_info
  go_enter Try.func77, Try.ntmps77
  have c0 : (w.alloc (.cells #[.int .i64 p, .slice A n c] 28)).cell? ⟨w.heap.size, 0, none⟩ = some (.int .i64 p) := by simp [go_sem]
  have c1 : (w.alloc (.cells #[.int .i64 p, .slice A n c] 28)).cell? ⟨w.heap.size, 1, none⟩ = some (.slice A n c) := by simp [go_sem]
  have HW := Lib.hid (Below.refl (w.alloc (.cells #[.int .i64 p, .slice A n c] 28)).heap.size (w.alloc (.cells #[.int .i64 p, .slice A n c] 28)))
  go_wp2
  go_loopw [9, 10] (fun o i wr => ∃ k : Nat, k ≤ m ∧ i = .int .i64 k ∧ wr.ownsRow (w.heap.size + 1) 2 1 o k ((signK p (sgF false true) ys k).map (Value.int .i64)) ∧ wr.cell? ⟨w.heap.size, 0, none⟩ = some (.int .i64 p) ∧ wr.cell? ⟨w.heap.size, 1, none⟩ = some (.slice A n c) ∧ Below w.heap.size w wr ∧ w.heap.size + 1 ≤ wr.heap.size) (fun _ i _ => m - (intOf i).toNat)
  case atStart => exact ⟨0, Nat.zero_le _, rfl, own_empty _ _ _ _ (by simp) (Nat.le_refl _), keep_cell (below_alloc _ _) c0, keep_cell (below_alloc _ _) c1, H2.out.alloc H2.out.size _, by simp⟩
  case round =>
    obtain ⟨k, hk, rfl, hown, c0, c1, hbel, hsz1⟩ := hrel
    have HO := Lib.hid hown
    have HB := Lib.hid hbel
    have hsz := hbel.size
    clear hown hbel HW
    by_cases hlt : k < m
    rotate_left
    · obtain rfl : k = m := by omega
      obtain ⟨C, q, rfl, ho⟩ := Own.of_own HO.out
      have HOO := Lib.hid (ho.less (B' := w.heap.size) (by omega))
      clear ho
      go_wp2
      go_ret
      refine ⟨C, q, rfl, ?_, HB.out⟩
      unfold signL
      rw [HM.out]
      exact HOO.out
    obtain ⟨b1, off1, x, rfl, hb1, hxk, hck1⟩ := (HY.out.keep HB.out).at_ hlt
    obtain ⟨hx0, hx1⟩ := numB_true (numsB_at HN1.out hxk)
    have HK := Lib.hid hxk
    have hkn : (k : Int) < m := by omega
    have hb1' : b1 < w.heap.size := by obtain ⟨bb, oo, ee, hh, _⟩ := HY.out.2.2 (show 0 < m by omega); simp at ee; omega
    clear hxk hb1
    have hgl := gradeN_le k
    rcases cases7 hgl with hg | hg | hg | hg | hg | hg | hg
    · have HG := Lib.hid hg
      have HF := Lib.hid (show sgF false true k = false by unfold sgF; rw [hg]; rfl)
      clear hg hgl
      go_wp2_with (first | (go_at_call 70; refine (spec_l04Grade_is _ (by omega) 0 (by rw [HG.out]; rfl) _).mono ?_; rintro e w' ⟨rfl, rfl⟩) | (at_builtin; refine wpList_append_own _ rfl _ _ 22 rfl (w.heap.size + 1) 2 i0 _ 1 8 Try.underlying22 hi0 hz0 hz1 hz2 rfl (by omega) u9 k _ rfl (HO.out.alloc _) ⟨_, 0, none⟩ 1 1 [.int .i64 (x)] rfl rfl (cell_one_new _ _ _) (by simp [Value.oneCell']) (by unfold maxLen; omega) (by omega) (by simp; omega) ?_; intro v' w1 hown1 hgrow _))
      have HO1 := Lib.hid hown1
      have HB1 := Lib.hid (below_own (HO.out.alloc _) hgrow (HB.out.alloc hsz _) (by omega) (by simp; omega))
      have c0' := cell_grown (HO.out.alloc _) hgrow (keep_cell (below_alloc _ _) c0) (by simp)
      have c1' := cell_grown (HO.out.alloc _) hgrow (keep_cell (below_alloc _ _) c1) (by simp)
      have hsz2 := hgrow.size
      simp at hsz2
      clear hown1 hgrow
      go_wp2
      go_roundw
      case rel => exact ⟨k + 1, by omega, by go_num, by rw [signK_out HK.out HF.out, List.map_append]; exact HO1.out, c0', c1', HB1.out, by omega⟩
      case measure => simp [intOf]; omega
    · have HG := Lib.hid hg
      have HF := Lib.hid (show sgF false true k = true by unfold sgF; rw [hg]; rfl)
      clear hg hgl
      have z1 : ¬ p = 0 := by omega
      have z2 : (p == 0) = false := by simp; omega
      have e2 : IntKind.i64.wrap (p - x) = p - x := IntWalk.i64_in _ (by omega)
      have e3 : (p - x).tmod p = (p - x) % p := Int.tmod_eq_emod_of_nonneg (by omega)
      go_wp2_with (go_at_call 70; refine (spec_l04Grade_is _ (by omega) 1 (by rw [HG.out]; rfl) _).mono ?_; rintro e w' ⟨rfl, rfl⟩)
      go_region_held3 (fun w' => w'.cell? ⟨w.heap.size, 0, none⟩ = some (.int .i64 p) ∧ w'.cell? ⟨w.heap.size, 1, none⟩ = some (.slice A n c) ∧ w'.cell? ⟨b1, off1 + k, none⟩ = some (.int .i64 x) ∧ Below w.heap.size w w')
        (first
          | exact ⟨c0, c1, hck1, HB.out.drew⟩
          | (go_split_ands; exact ⟨‹_›, ‹_›, ‹_›, ‹_›⟩)
          | (go_split_ands; exact ⟨cell_grown hoz hgrow ‹_› (by simp), cell_grown hoz hgrow ‹_› (by simp), cell_grown hoz hgrow ‹_› (by simp; omega), below_own hoz hgrow ‹_› (by omega) (by simp; omega)⟩)
          | (go_split_ands; exact ⟨keep_cell (below_alloc _ _) ‹_›, keep_cell (below_alloc _ _) ‹_›, keep_cell (below_alloc _ _) ‹_›, below_then ‹_› (below_alloc _ _)⟩)
          | go_keep)
        (first
          | (have hoz := (HO.out.drew).alloc (.cells #[.int .i64 (-x % p)] 2); refine step_append_lies _ (by rfl) _ _ _ (by rfl) (w.heap.size + 1) 2 i0 _ 1 8 Try.underlying22 hi0 hz0 hz1 hz2 rfl (by omega) u9 k _ (by rfl) hoz ⟨wr.heap.size, 0, none⟩ 1 1 [.int .i64 (-x % p)] (by rfl) (by rfl) (cell_one_new _ _ _) (by simp [Value.oneCell']) (by omega) (by unfold maxLen; omega) (by omega) (by simp; omega) (wr.heap.size + 1) (by simp) ?_; intro gg cap w1 hown1 hgrow hat hlt1))
      rename_i hh
      obtain ⟨c0', c1', _, hbw⟩ := hh
      clear e2 e3 z1 z2
      have HO1 := Lib.hid hown1
      have HB1 := Lib.hid hbw
      have hsz1 := hgrow.size
      simp at hsz1
      clear hown1 hgrow hat hlt1 hoz hbw
      go_wp2
      go_roundw
      case rel => exact ⟨k + 1, by omega, by go_num, by rw [signK_in HK.out HF.out, List.map_append, ← neg_mod_]; exact HO1.out, c0', c1', HB1.out, by omega⟩
      case measure => simp [intOf]; omega
    · have HG := Lib.hid hg
      have HF := Lib.hid (show sgF false true k = false by unfold sgF; rw [hg]; rfl)
      clear hg hgl
      go_wp2_with (first | (go_at_call 70; refine (spec_l04Grade_is _ (by omega) 2 (by rw [HG.out]; rfl) _).mono ?_; rintro e w' ⟨rfl, rfl⟩) | (at_builtin; refine wpList_append_own _ rfl _ _ 22 rfl (w.heap.size + 1) 2 i0 _ 1 8 Try.underlying22 hi0 hz0 hz1 hz2 rfl (by omega) u9 k _ rfl (HO.out.alloc _) ⟨_, 0, none⟩ 1 1 [.int .i64 (x)] rfl rfl (cell_one_new _ _ _) (by simp [Value.oneCell']) (by unfold maxLen; omega) (by omega) (by simp; omega) ?_; intro v' w1 hown1 hgrow _))
      have HO1 := Lib.hid hown1
      have HB1 := Lib.hid (below_own (HO.out.alloc _) hgrow (HB.out.alloc hsz _) (by omega) (by simp; omega))
      have c0' := cell_grown (HO.out.alloc _) hgrow (keep_cell (below_alloc _ _) c0) (by simp)
      have c1' := cell_grown (HO.out.alloc _) hgrow (keep_cell (below_alloc _ _) c1) (by simp)
      have hsz2 := hgrow.size
      simp at hsz2
      clear hown1 hgrow
      go_wp2
      go_roundw
      case rel => exact ⟨k + 1, by omega, by go_num, by rw [signK_out HK.out HF.out, List.map_append]; exact HO1.out, c0', c1', HB1.out, by omega⟩
      case measure => simp [intOf]; omega
    · have HG := Lib.hid hg
      have HF := Lib.hid (show sgF false true k = true by unfold sgF; rw [hg]; rfl)
      clear hg hgl
      have z1 : ¬ p = 0 := by omega
      have z2 : (p == 0) = false := by simp; omega
      have e2 : IntKind.i64.wrap (p - x) = p - x := IntWalk.i64_in _ (by omega)
      have e3 : (p - x).tmod p = (p - x) % p := Int.tmod_eq_emod_of_nonneg (by omega)
      go_wp2_with (go_at_call 70; refine (spec_l04Grade_is _ (by omega) 3 (by rw [HG.out]; rfl) _).mono ?_; rintro e w' ⟨rfl, rfl⟩)
      go_region_held3 (fun w' => w'.cell? ⟨w.heap.size, 0, none⟩ = some (.int .i64 p) ∧ w'.cell? ⟨w.heap.size, 1, none⟩ = some (.slice A n c) ∧ w'.cell? ⟨b1, off1 + k, none⟩ = some (.int .i64 x) ∧ Below w.heap.size w w')
        (first
          | exact ⟨c0, c1, hck1, HB.out.drew⟩
          | (go_split_ands; exact ⟨‹_›, ‹_›, ‹_›, ‹_›⟩)
          | (go_split_ands; exact ⟨cell_grown hoz hgrow ‹_› (by simp), cell_grown hoz hgrow ‹_› (by simp), cell_grown hoz hgrow ‹_› (by simp; omega), below_own hoz hgrow ‹_› (by omega) (by simp; omega)⟩)
          | (go_split_ands; exact ⟨keep_cell (below_alloc _ _) ‹_›, keep_cell (below_alloc _ _) ‹_›, keep_cell (below_alloc _ _) ‹_›, below_then ‹_› (below_alloc _ _)⟩)
          | go_keep)
        (first
          | (have hoz := (HO.out.drew).alloc (.cells #[.int .i64 (-x % p)] 2); refine step_append_lies _ (by rfl) _ _ _ (by rfl) (w.heap.size + 1) 2 i0 _ 1 8 Try.underlying22 hi0 hz0 hz1 hz2 rfl (by omega) u9 k _ (by rfl) hoz ⟨wr.heap.size, 0, none⟩ 1 1 [.int .i64 (-x % p)] (by rfl) (by rfl) (cell_one_new _ _ _) (by simp [Value.oneCell']) (by omega) (by unfold maxLen; omega) (by omega) (by simp; omega) (wr.heap.size + 1) (by simp) ?_; intro gg cap w1 hown1 hgrow hat hlt1))
      rename_i hh
      obtain ⟨c0', c1', _, hbw⟩ := hh
      clear e2 e3 z1 z2
      have HO1 := Lib.hid hown1
      have HB1 := Lib.hid hbw
      have hsz1 := hgrow.size
      simp at hsz1
      clear hown1 hgrow hat hlt1 hoz hbw
      go_wp2
      go_roundw
      case rel => exact ⟨k + 1, by omega, by go_num, by rw [signK_in HK.out HF.out, List.map_append, ← neg_mod_]; exact HO1.out, c0', c1', HB1.out, by omega⟩
      case measure => simp [intOf]; omega
    · have HG := Lib.hid hg
      have HF := Lib.hid (show sgF false true k = false by unfold sgF; rw [hg]; rfl)
      clear hg hgl
      go_wp2_with (first | (go_at_call 70; refine (spec_l04Grade_is _ (by omega) 4 (by rw [HG.out]; rfl) _).mono ?_; rintro e w' ⟨rfl, rfl⟩) | (at_builtin; refine wpList_append_own _ rfl _ _ 22 rfl (w.heap.size + 1) 2 i0 _ 1 8 Try.underlying22 hi0 hz0 hz1 hz2 rfl (by omega) u9 k _ rfl (HO.out.alloc _) ⟨_, 0, none⟩ 1 1 [.int .i64 (x)] rfl rfl (cell_one_new _ _ _) (by simp [Value.oneCell']) (by unfold maxLen; omega) (by omega) (by simp; omega) ?_; intro v' w1 hown1 hgrow _))
      have HO1 := Lib.hid hown1
      have HB1 := Lib.hid (below_own (HO.out.alloc _) hgrow (HB.out.alloc hsz _) (by omega) (by simp; omega))
      have c0' := cell_grown (HO.out.alloc _) hgrow (keep_cell (below_alloc _ _) c0) (by simp)
      have c1' := cell_grown (HO.out.alloc _) hgrow (keep_cell (below_alloc _ _) c1) (by simp)
      have hsz2 := hgrow.size
      simp at hsz2
      clear hown1 hgrow
      go_wp2
      go_roundw
      case rel => exact ⟨k + 1, by omega, by go_num, by rw [signK_out HK.out HF.out, List.map_append]; exact HO1.out, c0', c1', HB1.out, by omega⟩
      case measure => simp [intOf]; omega
    · have HG := Lib.hid hg
      have HF := Lib.hid (show sgF false true k = true by unfold sgF; rw [hg]; rfl)
      clear hg hgl
      have z1 : ¬ p = 0 := by omega
      have z2 : (p == 0) = false := by simp; omega
      have e2 : IntKind.i64.wrap (p - x) = p - x := IntWalk.i64_in _ (by omega)
      have e3 : (p - x).tmod p = (p - x) % p := Int.tmod_eq_emod_of_nonneg (by omega)
      go_wp2_with (go_at_call 70; refine (spec_l04Grade_is _ (by omega) 5 (by rw [HG.out]; rfl) _).mono ?_; rintro e w' ⟨rfl, rfl⟩)
      go_region_held3 (fun w' => w'.cell? ⟨w.heap.size, 0, none⟩ = some (.int .i64 p) ∧ w'.cell? ⟨w.heap.size, 1, none⟩ = some (.slice A n c) ∧ w'.cell? ⟨b1, off1 + k, none⟩ = some (.int .i64 x) ∧ Below w.heap.size w w')
        (first
          | exact ⟨c0, c1, hck1, HB.out.drew⟩
          | (go_split_ands; exact ⟨‹_›, ‹_›, ‹_›, ‹_›⟩)
          | (go_split_ands; exact ⟨cell_grown hoz hgrow ‹_› (by simp), cell_grown hoz hgrow ‹_› (by simp), cell_grown hoz hgrow ‹_› (by simp; omega), below_own hoz hgrow ‹_› (by omega) (by simp; omega)⟩)
          | (go_split_ands; exact ⟨keep_cell (below_alloc _ _) ‹_›, keep_cell (below_alloc _ _) ‹_›, keep_cell (below_alloc _ _) ‹_›, below_then ‹_› (below_alloc _ _)⟩)
          | go_keep)
        (first
          | (have hoz := (HO.out.drew).alloc (.cells #[.int .i64 (-x % p)] 2); refine step_append_lies _ (by rfl) _ _ _ (by rfl) (w.heap.size + 1) 2 i0 _ 1 8 Try.underlying22 hi0 hz0 hz1 hz2 rfl (by omega) u9 k _ (by rfl) hoz ⟨wr.heap.size, 0, none⟩ 1 1 [.int .i64 (-x % p)] (by rfl) (by rfl) (cell_one_new _ _ _) (by simp [Value.oneCell']) (by omega) (by unfold maxLen; omega) (by omega) (by simp; omega) (wr.heap.size + 1) (by simp) ?_; intro gg cap w1 hown1 hgrow hat hlt1))
      rename_i hh
      obtain ⟨c0', c1', _, hbw⟩ := hh
      clear e2 e3 z1 z2
      have HO1 := Lib.hid hown1
      have HB1 := Lib.hid hbw
      have hsz1 := hgrow.size
      simp at hsz1
      clear hown1 hgrow hat hlt1 hoz hbw
      go_wp2
      go_roundw
      case rel => exact ⟨k + 1, by omega, by go_num, by rw [signK_in HK.out HF.out, List.map_append, ← neg_mod_]; exact HO1.out, c0', c1', HB1.out, by omega⟩
      case measure => simp [intOf]; omega
    · have HG := Lib.hid hg
      have HF := Lib.hid (show sgF false true k = false by unfold sgF; rw [hg]; rfl)
      clear hg hgl
      go_wp2_with (first | (go_at_call 70; refine (spec_l04Grade_is _ (by omega) 6 (by rw [HG.out]; rfl) _).mono ?_; rintro e w' ⟨rfl, rfl⟩) | (at_builtin; refine wpList_append_own _ rfl _ _ 22 rfl (w.heap.size + 1) 2 i0 _ 1 8 Try.underlying22 hi0 hz0 hz1 hz2 rfl (by omega) u9 k _ rfl (HO.out.alloc _) ⟨_, 0, none⟩ 1 1 [.int .i64 (x)] rfl rfl (cell_one_new _ _ _) (by simp [Value.oneCell']) (by unfold maxLen; omega) (by omega) (by simp; omega) ?_; intro v' w1 hown1 hgrow _))
      have HO1 := Lib.hid hown1
      have HB1 := Lib.hid (below_own (HO.out.alloc _) hgrow (HB.out.alloc hsz _) (by omega) (by simp; omega))
      have c0' := cell_grown (HO.out.alloc _) hgrow (keep_cell (below_alloc _ _) c0) (by simp)
      have c1' := cell_grown (HO.out.alloc _) hgrow (keep_cell (below_alloc _ _) c1) (by simp)
      have hsz2 := hgrow.size
      simp at hsz2
      clear hown1 hgrow
      go_wp2
      go_roundw
      case rel => exact ⟨k + 1, by omega, by go_num, by rw [signK_out HK.out HF.out, List.map_append]; exact HO1.out, c0', c1', HB1.out, by omega⟩
      case measure => simp [intOf]; omega

set_option maxHeartbeats 1000000 in
theorem l04Signs_rev (p : Int) (A B : Option Addr) (n c m d : Nat) (ys : List Int) (w : World) (hy : Ints w B m ys) (hm : m ≤ 64) (h0 : 3 ≤ p) (h1 : p ≤ 13) (hn : numsB p ys = true) : Calls Try.prog 77 #[.agg #[.int .i64 p, .slice A n c], .slice B m d, .bool true, .bool false] w fun e w' => ∃ C q, e = .returned (.slice C m q) ∧ Own w.heap.size w' C m (signL p (sgF true false) ys) ∧ Below w.heap.size w w' := by
  have HY := Lib.hid hy
  have HM := Lib.hid hy.1
  have HN1 := Lib.hid hn
  clear hy hn
  have H2 := Lib.hid (show Below w.heap.size w (w.alloc (.cells #[.int .i64 p, .slice A n c] 28)) from (Below.refl _ _).alloc (Nat.le_refl _) _)
  obtain ⟨i0, hi0, hz0, hz1, hz2⟩ := info_parts int_info
  go_enter Try.func77, Try.ntmps77
  have c0 : (w.alloc (.cells #[.int .i64 p, .slice A n c] 28)).cell? ⟨w.heap.size, 0, none⟩ = some (.int .i64 p) := by simp [go_sem]
  have c1 : (w.alloc (.cells #[.int .i64 p, .slice A n c] 28)).cell? ⟨w.heap.size, 1, none⟩ = some (.slice A n c) := by simp [go_sem]
  have HW := Lib.hid (Below.refl (w.alloc (.cells #[.int .i64 p, .slice A n c] 28)).heap.size (w.alloc (.cells #[.int .i64 p, .slice A n c] 28)))
  go_wp2
  go_loopw [9, 10] (fun o i wr => ∃ k : Nat, k ≤ m ∧ i = .int .i64 k ∧ wr.ownsRow (w.heap.size + 1) 2 1 o k ((signK p (sgF true false) ys k).map (Value.int .i64)) ∧ wr.cell? ⟨w.heap.size, 0, none⟩ = some (.int .i64 p) ∧ wr.cell? ⟨w.heap.size, 1, none⟩ = some (.slice A n c) ∧ Below w.heap.size w wr ∧ w.heap.size + 1 ≤ wr.heap.size) (fun _ i _ => m - (intOf i).toNat)
  case atStart => exact ⟨0, Nat.zero_le _, rfl, own_empty _ _ _ _ (by simp) (Nat.le_refl _), keep_cell (below_alloc _ _) c0, keep_cell (below_alloc _ _) c1, H2.out.alloc H2.out.size _, by simp⟩
  case round =>
    obtain ⟨k, hk, rfl, hown, c0, c1, hbel, hsz1⟩ := hrel
    have HO := Lib.hid hown
    have HB := Lib.hid hbel
    have hsz := hbel.size
    clear hown hbel HW
    by_cases hlt : k < m
    rotate_left
    · obtain rfl : k = m := by omega
      obtain ⟨C, q, rfl, ho⟩ := Own.of_own HO.out
      have HOO := Lib.hid (ho.less (B' := w.heap.size) (by omega))
      clear ho
      go_wp2
      go_ret
      refine ⟨C, q, rfl, ?_, HB.out⟩
      unfold signL
      rw [HM.out]
      exact HOO.out
    obtain ⟨b1, off1, x, rfl, hb1, hxk, hck1⟩ := (HY.out.keep HB.out).at_ hlt
    obtain ⟨hx0, hx1⟩ := numB_true (numsB_at HN1.out hxk)
    have HK := Lib.hid hxk
    have hkn : (k : Int) < m := by omega
    have hb1' : b1 < w.heap.size := by obtain ⟨bb, oo, ee, hh, _⟩ := HY.out.2.2 (show 0 < m by omega); simp at ee; omega
    clear hxk hb1
    have hgl := gradeN_le k
    rcases cases7 hgl with hg | hg | hg | hg | hg | hg | hg
    · have HG := Lib.hid hg
      have HF := Lib.hid (show sgF true false k = false by unfold sgF; rw [hg]; rfl)
      clear hg hgl
      go_wp2_with (first | (go_at_call 70; refine (spec_l04Grade_is _ (by omega) 0 (by rw [HG.out]; rfl) _).mono ?_; rintro e w' ⟨rfl, rfl⟩) | (at_builtin; refine wpList_append_own _ rfl _ _ 22 rfl (w.heap.size + 1) 2 i0 _ 1 8 Try.underlying22 hi0 hz0 hz1 hz2 rfl (by omega) u9 k _ rfl (HO.out.alloc _) ⟨_, 0, none⟩ 1 1 [.int .i64 (x)] rfl rfl (cell_one_new _ _ _) (by simp [Value.oneCell']) (by unfold maxLen; omega) (by omega) (by simp; omega) ?_; intro v' w1 hown1 hgrow _))
      have HO1 := Lib.hid hown1
      have HB1 := Lib.hid (below_own (HO.out.alloc _) hgrow (HB.out.alloc hsz _) (by omega) (by simp; omega))
      have c0' := cell_grown (HO.out.alloc _) hgrow (keep_cell (below_alloc _ _) c0) (by simp)
      have c1' := cell_grown (HO.out.alloc _) hgrow (keep_cell (below_alloc _ _) c1) (by simp)
      have hsz2 := hgrow.size
      simp at hsz2
      clear hown1 hgrow
      go_wp2
      go_roundw
      case rel => exact ⟨k + 1, by omega, by go_num, by rw [signK_out HK.out HF.out, List.map_append]; exact HO1.out, c0', c1', HB1.out, by omega⟩
      case measure => simp [intOf]; omega
    · have HG := Lib.hid hg
      have HF := Lib.hid (show sgF true false k = false by unfold sgF; rw [hg]; rfl)
      clear hg hgl
      go_wp2_with (first | (go_at_call 70; refine (spec_l04Grade_is _ (by omega) 1 (by rw [HG.out]; rfl) _).mono ?_; rintro e w' ⟨rfl, rfl⟩) | (at_builtin; refine wpList_append_own _ rfl _ _ 22 rfl (w.heap.size + 1) 2 i0 _ 1 8 Try.underlying22 hi0 hz0 hz1 hz2 rfl (by omega) u9 k _ rfl (HO.out.alloc _) ⟨_, 0, none⟩ 1 1 [.int .i64 (x)] rfl rfl (cell_one_new _ _ _) (by simp [Value.oneCell']) (by unfold maxLen; omega) (by omega) (by simp; omega) ?_; intro v' w1 hown1 hgrow _))
      have HO1 := Lib.hid hown1
      have HB1 := Lib.hid (below_own (HO.out.alloc _) hgrow (HB.out.alloc hsz _) (by omega) (by simp; omega))
      have c0' := cell_grown (HO.out.alloc _) hgrow (keep_cell (below_alloc _ _) c0) (by simp)
      have c1' := cell_grown (HO.out.alloc _) hgrow (keep_cell (below_alloc _ _) c1) (by simp)
      have hsz2 := hgrow.size
      simp at hsz2
      clear hown1 hgrow
      go_wp2
      go_roundw
      case rel => exact ⟨k + 1, by omega, by go_num, by rw [signK_out HK.out HF.out, List.map_append]; exact HO1.out, c0', c1', HB1.out, by omega⟩
      case measure => simp [intOf]; omega
    · have HG := Lib.hid hg
      have HF := Lib.hid (show sgF true false k = true by unfold sgF; rw [hg]; rfl)
      clear hg hgl
      have z1 : ¬ p = 0 := by omega
      have z2 : (p == 0) = false := by simp; omega
      have e2 : IntKind.i64.wrap (p - x) = p - x := IntWalk.i64_in _ (by omega)
      have e3 : (p - x).tmod p = (p - x) % p := Int.tmod_eq_emod_of_nonneg (by omega)
      go_wp2_with (go_at_call 70; refine (spec_l04Grade_is _ (by omega) 2 (by rw [HG.out]; rfl) _).mono ?_; rintro e w' ⟨rfl, rfl⟩)
      go_region_held3 (fun w' => w'.cell? ⟨w.heap.size, 0, none⟩ = some (.int .i64 p) ∧ w'.cell? ⟨w.heap.size, 1, none⟩ = some (.slice A n c) ∧ w'.cell? ⟨b1, off1 + k, none⟩ = some (.int .i64 x) ∧ Below w.heap.size w w')
        (first
          | exact ⟨c0, c1, hck1, HB.out.drew⟩
          | (go_split_ands; exact ⟨‹_›, ‹_›, ‹_›, ‹_›⟩)
          | (go_split_ands; exact ⟨cell_grown hoz hgrow ‹_› (by simp), cell_grown hoz hgrow ‹_› (by simp), cell_grown hoz hgrow ‹_› (by simp; omega), below_own hoz hgrow ‹_› (by omega) (by simp; omega)⟩)
          | (go_split_ands; exact ⟨keep_cell (below_alloc _ _) ‹_›, keep_cell (below_alloc _ _) ‹_›, keep_cell (below_alloc _ _) ‹_›, below_then ‹_› (below_alloc _ _)⟩)
          | go_keep)
        (first
          | (have hoz := (HO.out.drew).alloc (.cells #[.int .i64 (-x % p)] 2); refine step_append_lies _ (by rfl) _ _ _ (by rfl) (w.heap.size + 1) 2 i0 _ 1 8 Try.underlying22 hi0 hz0 hz1 hz2 rfl (by omega) u9 k _ (by rfl) hoz ⟨wr.heap.size, 0, none⟩ 1 1 [.int .i64 (-x % p)] (by rfl) (by rfl) (cell_one_new _ _ _) (by simp [Value.oneCell']) (by omega) (by unfold maxLen; omega) (by omega) (by simp; omega) (wr.heap.size + 1) (by simp) ?_; intro gg cap w1 hown1 hgrow hat hlt1))
      rename_i hh
      obtain ⟨c0', c1', _, hbw⟩ := hh
      clear e2 e3 z1 z2
      have HO1 := Lib.hid hown1
      have HB1 := Lib.hid hbw
      have hsz1 := hgrow.size
      simp at hsz1
      clear hown1 hgrow hat hlt1 hoz hbw
      go_wp2
      go_roundw
      case rel => exact ⟨k + 1, by omega, by go_num, by rw [signK_in HK.out HF.out, List.map_append, ← neg_mod_]; exact HO1.out, c0', c1', HB1.out, by omega⟩
      case measure => simp [intOf]; omega
    · have HG := Lib.hid hg
      have HF := Lib.hid (show sgF true false k = true by unfold sgF; rw [hg]; rfl)
      clear hg hgl
      have z1 : ¬ p = 0 := by omega
      have z2 : (p == 0) = false := by simp; omega
      have e2 : IntKind.i64.wrap (p - x) = p - x := IntWalk.i64_in _ (by omega)
      have e3 : (p - x).tmod p = (p - x) % p := Int.tmod_eq_emod_of_nonneg (by omega)
      go_wp2_with (go_at_call 70; refine (spec_l04Grade_is _ (by omega) 3 (by rw [HG.out]; rfl) _).mono ?_; rintro e w' ⟨rfl, rfl⟩)
      go_region_held3 (fun w' => w'.cell? ⟨w.heap.size, 0, none⟩ = some (.int .i64 p) ∧ w'.cell? ⟨w.heap.size, 1, none⟩ = some (.slice A n c) ∧ w'.cell? ⟨b1, off1 + k, none⟩ = some (.int .i64 x) ∧ Below w.heap.size w w')
        (first
          | exact ⟨c0, c1, hck1, HB.out.drew⟩
          | (go_split_ands; exact ⟨‹_›, ‹_›, ‹_›, ‹_›⟩)
          | (go_split_ands; exact ⟨cell_grown hoz hgrow ‹_› (by simp), cell_grown hoz hgrow ‹_› (by simp), cell_grown hoz hgrow ‹_› (by simp; omega), below_own hoz hgrow ‹_› (by omega) (by simp; omega)⟩)
          | (go_split_ands; exact ⟨keep_cell (below_alloc _ _) ‹_›, keep_cell (below_alloc _ _) ‹_›, keep_cell (below_alloc _ _) ‹_›, below_then ‹_› (below_alloc _ _)⟩)
          | go_keep)
        (first
          | (have hoz := (HO.out.drew).alloc (.cells #[.int .i64 (-x % p)] 2); refine step_append_lies _ (by rfl) _ _ _ (by rfl) (w.heap.size + 1) 2 i0 _ 1 8 Try.underlying22 hi0 hz0 hz1 hz2 rfl (by omega) u9 k _ (by rfl) hoz ⟨wr.heap.size, 0, none⟩ 1 1 [.int .i64 (-x % p)] (by rfl) (by rfl) (cell_one_new _ _ _) (by simp [Value.oneCell']) (by omega) (by unfold maxLen; omega) (by omega) (by simp; omega) (wr.heap.size + 1) (by simp) ?_; intro gg cap w1 hown1 hgrow hat hlt1))
      rename_i hh
      obtain ⟨c0', c1', _, hbw⟩ := hh
      clear e2 e3 z1 z2
      have HO1 := Lib.hid hown1
      have HB1 := Lib.hid hbw
      have hsz1 := hgrow.size
      simp at hsz1
      clear hown1 hgrow hat hlt1 hoz hbw
      go_wp2
      go_roundw
      case rel => exact ⟨k + 1, by omega, by go_num, by rw [signK_in HK.out HF.out, List.map_append, ← neg_mod_]; exact HO1.out, c0', c1', HB1.out, by omega⟩
      case measure => simp [intOf]; omega
    · have HG := Lib.hid hg
      have HF := Lib.hid (show sgF true false k = false by unfold sgF; rw [hg]; rfl)
      clear hg hgl
      go_wp2_with (first | (go_at_call 70; refine (spec_l04Grade_is _ (by omega) 4 (by rw [HG.out]; rfl) _).mono ?_; rintro e w' ⟨rfl, rfl⟩) | (at_builtin; refine wpList_append_own _ rfl _ _ 22 rfl (w.heap.size + 1) 2 i0 _ 1 8 Try.underlying22 hi0 hz0 hz1 hz2 rfl (by omega) u9 k _ rfl (HO.out.alloc _) ⟨_, 0, none⟩ 1 1 [.int .i64 (x)] rfl rfl (cell_one_new _ _ _) (by simp [Value.oneCell']) (by unfold maxLen; omega) (by omega) (by simp; omega) ?_; intro v' w1 hown1 hgrow _))
      have HO1 := Lib.hid hown1
      have HB1 := Lib.hid (below_own (HO.out.alloc _) hgrow (HB.out.alloc hsz _) (by omega) (by simp; omega))
      have c0' := cell_grown (HO.out.alloc _) hgrow (keep_cell (below_alloc _ _) c0) (by simp)
      have c1' := cell_grown (HO.out.alloc _) hgrow (keep_cell (below_alloc _ _) c1) (by simp)
      have hsz2 := hgrow.size
      simp at hsz2
      clear hown1 hgrow
      go_wp2
      go_roundw
      case rel => exact ⟨k + 1, by omega, by go_num, by rw [signK_out HK.out HF.out, List.map_append]; exact HO1.out, c0', c1', HB1.out, by omega⟩
      case measure => simp [intOf]; omega
    · have HG := Lib.hid hg
      have HF := Lib.hid (show sgF true false k = false by unfold sgF; rw [hg]; rfl)
      clear hg hgl
      go_wp2_with (first | (go_at_call 70; refine (spec_l04Grade_is _ (by omega) 5 (by rw [HG.out]; rfl) _).mono ?_; rintro e w' ⟨rfl, rfl⟩) | (at_builtin; refine wpList_append_own _ rfl _ _ 22 rfl (w.heap.size + 1) 2 i0 _ 1 8 Try.underlying22 hi0 hz0 hz1 hz2 rfl (by omega) u9 k _ rfl (HO.out.alloc _) ⟨_, 0, none⟩ 1 1 [.int .i64 (x)] rfl rfl (cell_one_new _ _ _) (by simp [Value.oneCell']) (by unfold maxLen; omega) (by omega) (by simp; omega) ?_; intro v' w1 hown1 hgrow _))
      have HO1 := Lib.hid hown1
      have HB1 := Lib.hid (below_own (HO.out.alloc _) hgrow (HB.out.alloc hsz _) (by omega) (by simp; omega))
      have c0' := cell_grown (HO.out.alloc _) hgrow (keep_cell (below_alloc _ _) c0) (by simp)
      have c1' := cell_grown (HO.out.alloc _) hgrow (keep_cell (below_alloc _ _) c1) (by simp)
      have hsz2 := hgrow.size
      simp at hsz2
      clear hown1 hgrow
      go_wp2
      go_roundw
      case rel => exact ⟨k + 1, by omega, by go_num, by rw [signK_out HK.out HF.out, List.map_append]; exact HO1.out, c0', c1', HB1.out, by omega⟩
      case measure => simp [intOf]; omega
    · have HG := Lib.hid hg
      have HF := Lib.hid (show sgF true false k = true by unfold sgF; rw [hg]; rfl)
      clear hg hgl
      have z1 : ¬ p = 0 := by omega
      have z2 : (p == 0) = false := by simp; omega
      have e2 : IntKind.i64.wrap (p - x) = p - x := IntWalk.i64_in _ (by omega)
      have e3 : (p - x).tmod p = (p - x) % p := Int.tmod_eq_emod_of_nonneg (by omega)
      go_wp2_with (go_at_call 70; refine (spec_l04Grade_is _ (by omega) 6 (by rw [HG.out]; rfl) _).mono ?_; rintro e w' ⟨rfl, rfl⟩)
      go_region_held3 (fun w' => w'.cell? ⟨w.heap.size, 0, none⟩ = some (.int .i64 p) ∧ w'.cell? ⟨w.heap.size, 1, none⟩ = some (.slice A n c) ∧ w'.cell? ⟨b1, off1 + k, none⟩ = some (.int .i64 x) ∧ Below w.heap.size w w')
        (first
          | exact ⟨c0, c1, hck1, HB.out.drew⟩
          | (go_split_ands; exact ⟨‹_›, ‹_›, ‹_›, ‹_›⟩)
          | (go_split_ands; exact ⟨cell_grown hoz hgrow ‹_› (by simp), cell_grown hoz hgrow ‹_› (by simp), cell_grown hoz hgrow ‹_› (by simp; omega), below_own hoz hgrow ‹_› (by omega) (by simp; omega)⟩)
          | (go_split_ands; exact ⟨keep_cell (below_alloc _ _) ‹_›, keep_cell (below_alloc _ _) ‹_›, keep_cell (below_alloc _ _) ‹_›, below_then ‹_› (below_alloc _ _)⟩)
          | go_keep)
        (first
          | (have hoz := (HO.out.drew).alloc (.cells #[.int .i64 (-x % p)] 2); refine step_append_lies _ (by rfl) _ _ _ (by rfl) (w.heap.size + 1) 2 i0 _ 1 8 Try.underlying22 hi0 hz0 hz1 hz2 rfl (by omega) u9 k _ (by rfl) hoz ⟨wr.heap.size, 0, none⟩ 1 1 [.int .i64 (-x % p)] (by rfl) (by rfl) (cell_one_new _ _ _) (by simp [Value.oneCell']) (by omega) (by unfold maxLen; omega) (by omega) (by simp; omega) (wr.heap.size + 1) (by simp) ?_; intro gg cap w1 hown1 hgrow hat hlt1))
      rename_i hh
      obtain ⟨c0', c1', _, hbw⟩ := hh
      clear e2 e3 z1 z2
      have HO1 := Lib.hid hown1
      have HB1 := Lib.hid hbw
      have hsz1 := hgrow.size
      simp at hsz1
      clear hown1 hgrow hat hlt1 hoz hbw
      go_wp2
      go_roundw
      case rel => exact ⟨k + 1, by omega, by go_num, by rw [signK_in HK.out HF.out, List.map_append, ← neg_mod_]; exact HO1.out, c0', c1', HB1.out, by omega⟩
      case measure => simp [intOf]; omega

set_option maxHeartbeats 1000000 in
theorem l04Signs_con (p : Int) (A B : Option Addr) (n c m d : Nat) (ys : List Int) (w : World) (hy : Ints w B m ys) (hm : m ≤ 64) (h0 : 3 ≤ p) (h1 : p ≤ 13) (hn : numsB p ys = true) : Calls Try.prog 77 #[.agg #[.int .i64 p, .slice A n c], .slice B m d, .bool true, .bool true] w fun e w' => ∃ C q, e = .returned (.slice C m q) ∧ Own w.heap.size w' C m (signL p (sgF true true) ys) ∧ Below w.heap.size w w' := by
  have HY := Lib.hid hy
  have HM := Lib.hid hy.1
  have HN1 := Lib.hid hn
  clear hy hn
  have H2 := Lib.hid (show Below w.heap.size w (w.alloc (.cells #[.int .i64 p, .slice A n c] 28)) from (Below.refl _ _).alloc (Nat.le_refl _) _)
  obtain ⟨i0, hi0, hz0, hz1, hz2⟩ := info_parts int_info
  go_enter Try.func77, Try.ntmps77
  have c0 : (w.alloc (.cells #[.int .i64 p, .slice A n c] 28)).cell? ⟨w.heap.size, 0, none⟩ = some (.int .i64 p) := by simp [go_sem]
  have c1 : (w.alloc (.cells #[.int .i64 p, .slice A n c] 28)).cell? ⟨w.heap.size, 1, none⟩ = some (.slice A n c) := by simp [go_sem]
  have HW := Lib.hid (Below.refl (w.alloc (.cells #[.int .i64 p, .slice A n c] 28)).heap.size (w.alloc (.cells #[.int .i64 p, .slice A n c] 28)))
  go_wp2
  go_loopw [9, 10] (fun o i wr => ∃ k : Nat, k ≤ m ∧ i = .int .i64 k ∧ wr.ownsRow (w.heap.size + 1) 2 1 o k ((signK p (sgF true true) ys k).map (Value.int .i64)) ∧ wr.cell? ⟨w.heap.size, 0, none⟩ = some (.int .i64 p) ∧ wr.cell? ⟨w.heap.size, 1, none⟩ = some (.slice A n c) ∧ Below w.heap.size w wr ∧ w.heap.size + 1 ≤ wr.heap.size) (fun _ i _ => m - (intOf i).toNat)
  case atStart => exact ⟨0, Nat.zero_le _, rfl, own_empty _ _ _ _ (by simp) (Nat.le_refl _), keep_cell (below_alloc _ _) c0, keep_cell (below_alloc _ _) c1, H2.out.alloc H2.out.size _, by simp⟩
  case round =>
    obtain ⟨k, hk, rfl, hown, c0, c1, hbel, hsz1⟩ := hrel
    have HO := Lib.hid hown
    have HB := Lib.hid hbel
    have hsz := hbel.size
    clear hown hbel HW
    by_cases hlt : k < m
    rotate_left
    · obtain rfl : k = m := by omega
      obtain ⟨C, q, rfl, ho⟩ := Own.of_own HO.out
      have HOO := Lib.hid (ho.less (B' := w.heap.size) (by omega))
      clear ho
      go_wp2
      go_ret
      refine ⟨C, q, rfl, ?_, HB.out⟩
      unfold signL
      rw [HM.out]
      exact HOO.out
    obtain ⟨b1, off1, x, rfl, hb1, hxk, hck1⟩ := (HY.out.keep HB.out).at_ hlt
    obtain ⟨hx0, hx1⟩ := numB_true (numsB_at HN1.out hxk)
    have HK := Lib.hid hxk
    have hkn : (k : Int) < m := by omega
    have hb1' : b1 < w.heap.size := by obtain ⟨bb, oo, ee, hh, _⟩ := HY.out.2.2 (show 0 < m by omega); simp at ee; omega
    clear hxk hb1
    have hgl := gradeN_le k
    rcases cases7 hgl with hg | hg | hg | hg | hg | hg | hg
    · have HG := Lib.hid hg
      have HF := Lib.hid (show sgF true true k = false by unfold sgF; rw [hg]; rfl)
      clear hg hgl
      go_wp2_with (first | (go_at_call 70; refine (spec_l04Grade_is _ (by omega) 0 (by rw [HG.out]; rfl) _).mono ?_; rintro e w' ⟨rfl, rfl⟩) | (at_builtin; refine wpList_append_own _ rfl _ _ 22 rfl (w.heap.size + 1) 2 i0 _ 1 8 Try.underlying22 hi0 hz0 hz1 hz2 rfl (by omega) u9 k _ rfl (HO.out.alloc _) ⟨_, 0, none⟩ 1 1 [.int .i64 (x)] rfl rfl (cell_one_new _ _ _) (by simp [Value.oneCell']) (by unfold maxLen; omega) (by omega) (by simp; omega) ?_; intro v' w1 hown1 hgrow _))
      have HO1 := Lib.hid hown1
      have HB1 := Lib.hid (below_own (HO.out.alloc _) hgrow (HB.out.alloc hsz _) (by omega) (by simp; omega))
      have c0' := cell_grown (HO.out.alloc _) hgrow (keep_cell (below_alloc _ _) c0) (by simp)
      have c1' := cell_grown (HO.out.alloc _) hgrow (keep_cell (below_alloc _ _) c1) (by simp)
      have hsz2 := hgrow.size
      simp at hsz2
      clear hown1 hgrow
      go_wp2
      go_roundw
      case rel => exact ⟨k + 1, by omega, by go_num, by rw [signK_out HK.out HF.out, List.map_append]; exact HO1.out, c0', c1', HB1.out, by omega⟩
      case measure => simp [intOf]; omega
    · have HG := Lib.hid hg
      have HF := Lib.hid (show sgF true true k = true by unfold sgF; rw [hg]; rfl)
      clear hg hgl
      have z1 : ¬ p = 0 := by omega
      have z2 : (p == 0) = false := by simp; omega
      have e2 : IntKind.i64.wrap (p - x) = p - x := IntWalk.i64_in _ (by omega)
      have e3 : (p - x).tmod p = (p - x) % p := Int.tmod_eq_emod_of_nonneg (by omega)
      go_wp2_with (go_at_call 70; refine (spec_l04Grade_is _ (by omega) 1 (by rw [HG.out]; rfl) _).mono ?_; rintro e w' ⟨rfl, rfl⟩)
      go_region_held3 (fun w' => w'.cell? ⟨w.heap.size, 0, none⟩ = some (.int .i64 p) ∧ w'.cell? ⟨w.heap.size, 1, none⟩ = some (.slice A n c) ∧ w'.cell? ⟨b1, off1 + k, none⟩ = some (.int .i64 x) ∧ Below w.heap.size w w')
        (first
          | exact ⟨c0, c1, hck1, HB.out.drew⟩
          | (go_split_ands; exact ⟨‹_›, ‹_›, ‹_›, ‹_›⟩)
          | (go_split_ands; exact ⟨cell_grown hoz hgrow ‹_› (by simp), cell_grown hoz hgrow ‹_› (by simp), cell_grown hoz hgrow ‹_› (by simp; omega), below_own hoz hgrow ‹_› (by omega) (by simp; omega)⟩)
          | (go_split_ands; exact ⟨keep_cell (below_alloc _ _) ‹_›, keep_cell (below_alloc _ _) ‹_›, keep_cell (below_alloc _ _) ‹_›, below_then ‹_› (below_alloc _ _)⟩)
          | go_keep)
        (first
          | (have hoz := (HO.out.drew).alloc (.cells #[.int .i64 (-x % p)] 2); refine step_append_lies _ (by rfl) _ _ _ (by rfl) (w.heap.size + 1) 2 i0 _ 1 8 Try.underlying22 hi0 hz0 hz1 hz2 rfl (by omega) u9 k _ (by rfl) hoz ⟨wr.heap.size, 0, none⟩ 1 1 [.int .i64 (-x % p)] (by rfl) (by rfl) (cell_one_new _ _ _) (by simp [Value.oneCell']) (by omega) (by unfold maxLen; omega) (by omega) (by simp; omega) (wr.heap.size + 1) (by simp) ?_; intro gg cap w1 hown1 hgrow hat hlt1))
      rename_i hh
      obtain ⟨c0', c1', _, hbw⟩ := hh
      clear e2 e3 z1 z2
      have HO1 := Lib.hid hown1
      have HB1 := Lib.hid hbw
      have hsz1 := hgrow.size
      simp at hsz1
      clear hown1 hgrow hat hlt1 hoz hbw
      go_wp2
      go_roundw
      case rel => exact ⟨k + 1, by omega, by go_num, by rw [signK_in HK.out HF.out, List.map_append, ← neg_mod_]; exact HO1.out, c0', c1', HB1.out, by omega⟩
      case measure => simp [intOf]; omega
    · have HG := Lib.hid hg
      have HF := Lib.hid (show sgF true true k = true by unfold sgF; rw [hg]; rfl)
      clear hg hgl
      have z1 : ¬ p = 0 := by omega
      have z2 : (p == 0) = false := by simp; omega
      have e2 : IntKind.i64.wrap (p - x) = p - x := IntWalk.i64_in _ (by omega)
      have e3 : (p - x).tmod p = (p - x) % p := Int.tmod_eq_emod_of_nonneg (by omega)
      go_wp2_with (go_at_call 70; refine (spec_l04Grade_is _ (by omega) 2 (by rw [HG.out]; rfl) _).mono ?_; rintro e w' ⟨rfl, rfl⟩)
      go_region_held3 (fun w' => w'.cell? ⟨w.heap.size, 0, none⟩ = some (.int .i64 p) ∧ w'.cell? ⟨w.heap.size, 1, none⟩ = some (.slice A n c) ∧ w'.cell? ⟨b1, off1 + k, none⟩ = some (.int .i64 x) ∧ Below w.heap.size w w')
        (first
          | exact ⟨c0, c1, hck1, HB.out.drew⟩
          | (go_split_ands; exact ⟨‹_›, ‹_›, ‹_›, ‹_›⟩)
          | (go_split_ands; exact ⟨cell_grown hoz hgrow ‹_› (by simp), cell_grown hoz hgrow ‹_› (by simp), cell_grown hoz hgrow ‹_› (by simp; omega), below_own hoz hgrow ‹_› (by omega) (by simp; omega)⟩)
          | (go_split_ands; exact ⟨keep_cell (below_alloc _ _) ‹_›, keep_cell (below_alloc _ _) ‹_›, keep_cell (below_alloc _ _) ‹_›, below_then ‹_› (below_alloc _ _)⟩)
          | go_keep)
        (first
          | (have hoz := (HO.out.drew).alloc (.cells #[.int .i64 (-x % p)] 2); refine step_append_lies _ (by rfl) _ _ _ (by rfl) (w.heap.size + 1) 2 i0 _ 1 8 Try.underlying22 hi0 hz0 hz1 hz2 rfl (by omega) u9 k _ (by rfl) hoz ⟨wr.heap.size, 0, none⟩ 1 1 [.int .i64 (-x % p)] (by rfl) (by rfl) (cell_one_new _ _ _) (by simp [Value.oneCell']) (by omega) (by unfold maxLen; omega) (by omega) (by simp; omega) (wr.heap.size + 1) (by simp) ?_; intro gg cap w1 hown1 hgrow hat hlt1))
      rename_i hh
      obtain ⟨c0', c1', _, hbw⟩ := hh
      clear e2 e3 z1 z2
      have HO1 := Lib.hid hown1
      have HB1 := Lib.hid hbw
      have hsz1 := hgrow.size
      simp at hsz1
      clear hown1 hgrow hat hlt1 hoz hbw
      go_wp2
      go_roundw
      case rel => exact ⟨k + 1, by omega, by go_num, by rw [signK_in HK.out HF.out, List.map_append, ← neg_mod_]; exact HO1.out, c0', c1', HB1.out, by omega⟩
      case measure => simp [intOf]; omega
    · have HG := Lib.hid hg
      have HF := Lib.hid (show sgF true true k = false by unfold sgF; rw [hg]; rfl)
      clear hg hgl
      go_wp2_with (first | (go_at_call 70; refine (spec_l04Grade_is _ (by omega) 3 (by rw [HG.out]; rfl) _).mono ?_; rintro e w' ⟨rfl, rfl⟩) | (at_builtin; refine wpList_append_own _ rfl _ _ 22 rfl (w.heap.size + 1) 2 i0 _ 1 8 Try.underlying22 hi0 hz0 hz1 hz2 rfl (by omega) u9 k _ rfl (HO.out.alloc _) ⟨_, 0, none⟩ 1 1 [.int .i64 (x)] rfl rfl (cell_one_new _ _ _) (by simp [Value.oneCell']) (by unfold maxLen; omega) (by omega) (by simp; omega) ?_; intro v' w1 hown1 hgrow _))
      have HO1 := Lib.hid hown1
      have HB1 := Lib.hid (below_own (HO.out.alloc _) hgrow (HB.out.alloc hsz _) (by omega) (by simp; omega))
      have c0' := cell_grown (HO.out.alloc _) hgrow (keep_cell (below_alloc _ _) c0) (by simp)
      have c1' := cell_grown (HO.out.alloc _) hgrow (keep_cell (below_alloc _ _) c1) (by simp)
      have hsz2 := hgrow.size
      simp at hsz2
      clear hown1 hgrow
      go_wp2
      go_roundw
      case rel => exact ⟨k + 1, by omega, by go_num, by rw [signK_out HK.out HF.out, List.map_append]; exact HO1.out, c0', c1', HB1.out, by omega⟩
      case measure => simp [intOf]; omega
    · have HG := Lib.hid hg
      have HF := Lib.hid (show sgF true true k = false by unfold sgF; rw [hg]; rfl)
      clear hg hgl
      go_wp2_with (first | (go_at_call 70; refine (spec_l04Grade_is _ (by omega) 4 (by rw [HG.out]; rfl) _).mono ?_; rintro e w' ⟨rfl, rfl⟩) | (at_builtin; refine wpList_append_own _ rfl _ _ 22 rfl (w.heap.size + 1) 2 i0 _ 1 8 Try.underlying22 hi0 hz0 hz1 hz2 rfl (by omega) u9 k _ rfl (HO.out.alloc _) ⟨_, 0, none⟩ 1 1 [.int .i64 (x)] rfl rfl (cell_one_new _ _ _) (by simp [Value.oneCell']) (by unfold maxLen; omega) (by omega) (by simp; omega) ?_; intro v' w1 hown1 hgrow _))
      have HO1 := Lib.hid hown1
      have HB1 := Lib.hid (below_own (HO.out.alloc _) hgrow (HB.out.alloc hsz _) (by omega) (by simp; omega))
      have c0' := cell_grown (HO.out.alloc _) hgrow (keep_cell (below_alloc _ _) c0) (by simp)
      have c1' := cell_grown (HO.out.alloc _) hgrow (keep_cell (below_alloc _ _) c1) (by simp)
      have hsz2 := hgrow.size
      simp at hsz2
      clear hown1 hgrow
      go_wp2
      go_roundw
      case rel => exact ⟨k + 1, by omega, by go_num, by rw [signK_out HK.out HF.out, List.map_append]; exact HO1.out, c0', c1', HB1.out, by omega⟩
      case measure => simp [intOf]; omega
    · have HG := Lib.hid hg
      have HF := Lib.hid (show sgF true true k = true by unfold sgF; rw [hg]; rfl)
      clear hg hgl
      have z1 : ¬ p = 0 := by omega
      have z2 : (p == 0) = false := by simp; omega
      have e2 : IntKind.i64.wrap (p - x) = p - x := IntWalk.i64_in _ (by omega)
      have e3 : (p - x).tmod p = (p - x) % p := Int.tmod_eq_emod_of_nonneg (by omega)
      go_wp2_with (go_at_call 70; refine (spec_l04Grade_is _ (by omega) 5 (by rw [HG.out]; rfl) _).mono ?_; rintro e w' ⟨rfl, rfl⟩)
      go_region_held3 (fun w' => w'.cell? ⟨w.heap.size, 0, none⟩ = some (.int .i64 p) ∧ w'.cell? ⟨w.heap.size, 1, none⟩ = some (.slice A n c) ∧ w'.cell? ⟨b1, off1 + k, none⟩ = some (.int .i64 x) ∧ Below w.heap.size w w')
        (first
          | exact ⟨c0, c1, hck1, HB.out.drew⟩
          | (go_split_ands; exact ⟨‹_›, ‹_›, ‹_›, ‹_›⟩)
          | (go_split_ands; exact ⟨cell_grown hoz hgrow ‹_› (by simp), cell_grown hoz hgrow ‹_› (by simp), cell_grown hoz hgrow ‹_› (by simp; omega), below_own hoz hgrow ‹_› (by omega) (by simp; omega)⟩)
          | (go_split_ands; exact ⟨keep_cell (below_alloc _ _) ‹_›, keep_cell (below_alloc _ _) ‹_›, keep_cell (below_alloc _ _) ‹_›, below_then ‹_› (below_alloc _ _)⟩)
          | go_keep)
        (first
          | (have hoz := (HO.out.drew).alloc (.cells #[.int .i64 (-x % p)] 2); refine step_append_lies _ (by rfl) _ _ _ (by rfl) (w.heap.size + 1) 2 i0 _ 1 8 Try.underlying22 hi0 hz0 hz1 hz2 rfl (by omega) u9 k _ (by rfl) hoz ⟨wr.heap.size, 0, none⟩ 1 1 [.int .i64 (-x % p)] (by rfl) (by rfl) (cell_one_new _ _ _) (by simp [Value.oneCell']) (by omega) (by unfold maxLen; omega) (by omega) (by simp; omega) (wr.heap.size + 1) (by simp) ?_; intro gg cap w1 hown1 hgrow hat hlt1))
      rename_i hh
      obtain ⟨c0', c1', _, hbw⟩ := hh
      clear e2 e3 z1 z2
      have HO1 := Lib.hid hown1
      have HB1 := Lib.hid hbw
      have hsz1 := hgrow.size
      simp at hsz1
      clear hown1 hgrow hat hlt1 hoz hbw
      go_wp2
      go_roundw
      case rel => exact ⟨k + 1, by omega, by go_num, by rw [signK_in HK.out HF.out, List.map_append, ← neg_mod_]; exact HO1.out, c0', c1', HB1.out, by omega⟩
      case measure => simp [intOf]; omega
    · have HG := Lib.hid hg
      have HF := Lib.hid (show sgF true true k = true by unfold sgF; rw [hg]; rfl)
      clear hg hgl
      have z1 : ¬ p = 0 := by omega
      have z2 : (p == 0) = false := by simp; omega
      have e2 : IntKind.i64.wrap (p - x) = p - x := IntWalk.i64_in _ (by omega)
      have e3 : (p - x).tmod p = (p - x) % p := Int.tmod_eq_emod_of_nonneg (by omega)
      go_wp2_with (go_at_call 70; refine (spec_l04Grade_is _ (by omega) 6 (by rw [HG.out]; rfl) _).mono ?_; rintro e w' ⟨rfl, rfl⟩)
      go_region_held3 (fun w' => w'.cell? ⟨w.heap.size, 0, none⟩ = some (.int .i64 p) ∧ w'.cell? ⟨w.heap.size, 1, none⟩ = some (.slice A n c) ∧ w'.cell? ⟨b1, off1 + k, none⟩ = some (.int .i64 x) ∧ Below w.heap.size w w')
        (first
          | exact ⟨c0, c1, hck1, HB.out.drew⟩
          | (go_split_ands; exact ⟨‹_›, ‹_›, ‹_›, ‹_›⟩)
          | (go_split_ands; exact ⟨cell_grown hoz hgrow ‹_› (by simp), cell_grown hoz hgrow ‹_› (by simp), cell_grown hoz hgrow ‹_› (by simp; omega), below_own hoz hgrow ‹_› (by omega) (by simp; omega)⟩)
          | (go_split_ands; exact ⟨keep_cell (below_alloc _ _) ‹_›, keep_cell (below_alloc _ _) ‹_›, keep_cell (below_alloc _ _) ‹_›, below_then ‹_› (below_alloc _ _)⟩)
          | go_keep)
        (first
          | (have hoz := (HO.out.drew).alloc (.cells #[.int .i64 (-x % p)] 2); refine step_append_lies _ (by rfl) _ _ _ (by rfl) (w.heap.size + 1) 2 i0 _ 1 8 Try.underlying22 hi0 hz0 hz1 hz2 rfl (by omega) u9 k _ (by rfl) hoz ⟨wr.heap.size, 0, none⟩ 1 1 [.int .i64 (-x % p)] (by rfl) (by rfl) (cell_one_new _ _ _) (by simp [Value.oneCell']) (by omega) (by unfold maxLen; omega) (by omega) (by simp; omega) (wr.heap.size + 1) (by simp) ?_; intro gg cap w1 hown1 hgrow hat hlt1))
      rename_i hh
      obtain ⟨c0', c1', _, hbw⟩ := hh
      clear e2 e3 z1 z2
      have HO1 := Lib.hid hown1
      have HB1 := Lib.hid hbw
      have hsz1 := hgrow.size
      simp at hsz1
      clear hown1 hgrow hat hlt1 hoz hbw
      go_wp2
      go_roundw
      case rel => exact ⟨k + 1, by omega, by go_num, by rw [signK_in HK.out HF.out, List.map_append, ← neg_mod_]; exact HO1.out, c0', c1', HB1.out, by omega⟩
      case measure => simp [intOf]; omega

theorem signed_inv (p : Int) (A B : Option Addr) (n c m d : Nat) (ys : List Int) (w : World) (hy : Ints w B m ys) (hm0 : 0 < m) (hm : m ≤ 64) (h0 : 3 ≤ p) (h1 : p ≤ 13) (hn : numsB p ys = true) : Calls Try.prog 97 #[.agg #[.int .i64 p, .slice A n c], .slice B m d, .func (.func 98) #[] #[]] w fun e w' => ∃ C q, e = .returned (.slice C m q) ∧ Own w.heap.size w' C m (signL p (sgF false true) ys) ∧ Below w.heap.size w w' := by
  have HY := Lib.hid hy
  have HM := Lib.hid hy.1
  have HN1 := Lib.hid hn
  clear hy hn
  have H2 := Lib.hid (show Below w.heap.size w (w.alloc (.cells #[.int .i64 p, .slice A n c] 28)) from (Below.refl _ _).alloc (Nat.le_refl _) _)
  go_enter Try.func97, Try.ntmps97
  have c0 : (w.alloc (.cells #[.int .i64 p, .slice A n c] 28)).cell? ⟨w.heap.size, 0, none⟩ = some (.int .i64 p) := by simp [go_sem]
  have c1 : (w.alloc (.cells #[.int .i64 p, .slice A n c] 28)).cell? ⟨w.heap.size, 1, none⟩ = some (.slice A n c) := by simp [go_sem]
  have HW := Lib.hid (Below.refl (w.alloc (.cells #[.int .i64 p, .slice A n c] 28)).heap.size (w.alloc (.cells #[.int .i64 p, .slice A n c] 28)))
  go_wp2_with fail
  refine (slices_Clone _ _ _ ys _ (HY.out.keep H2.out) hm0 (by omega)).mono ?_
  rintro e v ⟨C, q, rfl, ho, hb⟩
  obtain ⟨bo, oo, rfl, _, _, _, _⟩ := ho.2.2 hm0
  have HO0 := Lib.hid (ho.less (B' := w.heap.size + 1) (by simp))
  clear ho
  replace c0 := keep_cell hb c0
  replace c1 := keep_cell hb c1
  replace HW := Lib.hid (below_then H2.out hb)
  clear hb
  go_wp2
  go_loopw [14] (fun i wr => ∃ k : Nat, k ≤ m ∧ i = .int .i64 k ∧ Own (w.heap.size + 1) wr (some ⟨bo, oo, none⟩) m (mixK p (sgF false true) ys k) ∧ wr.cell? ⟨w.heap.size, 0, none⟩ = some (.int .i64 p) ∧ wr.cell? ⟨w.heap.size, 1, none⟩ = some (.slice A n c) ∧ Below w.heap.size w wr) (fun i _ => m - (intOf i).toNat)
  case atStart => exact ⟨0, Nat.zero_le _, rfl, HO0.out, c0, c1, HW.out⟩
  case round =>
    obtain ⟨k, hk, rfl, hown, c0, c1, hbel⟩ := hrel
    have HO := Lib.hid hown
    have HB := Lib.hid hbel
    have hsz := hbel.size
    clear hown hbel HW HO0
    by_cases hlt : k < m
    · obtain ⟨b1, off1, x, rfl, hb1, hxk, hck1⟩ := (HY.out.keep HB.out).at_ hlt
      obtain ⟨hx0, hx1⟩ := numB_true (numsB_at HN1.out hxk)
      have HK := Lib.hid hxk
      have hkn : (k : Int) < m := by omega
      clear hxk hb1
      have hgl := gradeN_le k
      cases hg : invG (gradeN k) with
      | true =>
        have HG := Lib.hid hg
        have HF := Lib.hid (show (sgF false true) k = true by simp [sgF, hg])
        clear hg
        go_wp2_with (first | (go_at_call 72; refine (impl_gradeOf _ (by omega) _).mono ?_; rintro e w' ⟨rfl, rfl⟩) | (go_at_call 98; refine (involute_1 _ (by omega) _).mono ?_; rw [HG.out]; rintro e w' ⟨rfl, rfl⟩))
        refine (Space_field _ _ _ _ _).mono ?_
        rintro e v2 ⟨rfl, hb⟩
        replace HO := Lib.hid (HO.out.keep hb)
        replace HB := Lib.hid (below_then HB.out hb)
        replace c0 := keep_cell hb c0
        replace c1 := keep_cell hb c1
        clear hb
        obtain ⟨b', off', e', hd1, hd2, hcl, hfz⟩ := HO.out.2.2 hm0
        injection e' with e'
        injection e' with e1' e2'
        subst e1' e2'
        obtain ⟨z, hz⟩ := mixK_at (p := p) (f := (sgF false true)) (ys := ys) (k := k) (j := k) (by rw [HM.out]; omega) (by rw [HM.out]; exact hlt)
        have hcell := hcl k z hz
        have hfr := hfz k hlt
        clear hcl hfz hz
        go_wp2_with (go_at_call 95; refine (impl_num _ _ _ (by omega) (by omega)).mono ?_; rintro e w' ⟨rfl, rfl⟩)
        go_roundw
        case rel =>
          refine ⟨k + 1, by omega, by go_num, ?_, by rw [World.cell?_setCell_other _ _ _ _ (by intro h; injection h with h; omega)]; exact c0, by rw [World.cell?_setCell_other _ _ _ _ (by intro h; injection h with h; omega)]; exact c1, HB.out.setCell (by show w.heap.size ≤ bo; omega) _⟩
          rw [mixK_in HK.out HF.out, ← neg_mod_]
          exact HO.out.set_ hlt _
        case measure => simp [intOf]; omega
      | false =>
        have HG := Lib.hid hg
        have HF := Lib.hid (show (sgF false true) k = false by simp [sgF, hg])
        clear hg
        go_wp2_with (first | (go_at_call 72; refine (impl_gradeOf _ (by omega) _).mono ?_; rintro e w' ⟨rfl, rfl⟩) | (go_at_call 98; refine (involute_1 _ (by omega) _).mono ?_; rw [HG.out]; rintro e w' ⟨rfl, rfl⟩))
        go_roundw
        case rel => exact ⟨k + 1, by omega, by go_num, by rw [mixK_out HK.out HF.out]; exact HO.out, c0, c1, HB.out⟩
        case measure => simp [intOf]; omega
    · obtain rfl : k = m := by omega
      go_wp2
      go_ret
      refine ⟨_, _, rfl, ?_, HB.out⟩
      rw [← mixK_end, HM.out]
      exact HO.out.less (by omega)

theorem Space_involute (p : Int) (A B : Option Addr) (n c m d : Nat) (ys : List Int) (w : World) (hy : Ints w B m ys) (hm0 : 0 < m) (hm : m ≤ 64) (h0 : 3 ≤ p) (h1 : p ≤ 13) (hn : numsB p ys = true) : Calls Try.prog 74 #[.agg #[.int .i64 p, .slice A n c], .slice B m d] w fun e w' => ∃ C q, e = .returned (.slice C m q) ∧ Own w.heap.size w' C m (signL p (sgF false true) ys) ∧ Below w.heap.size w w' := by
  have HY := Lib.hid hy
  clear hy
  have H2 := Lib.hid (show Below w.heap.size w (w.alloc (.cells #[.int .i64 p, .slice A n c] 28)) from (Below.refl _ _).alloc (Nat.le_refl _) _)
  go_enter Try.func74, Try.ntmps74
  have c0 : (w.alloc (.cells #[.int .i64 p, .slice A n c] 28)).cell? ⟨w.heap.size, 0, none⟩ = some (.int .i64 p) := by simp [go_sem]
  have c1 : (w.alloc (.cells #[.int .i64 p, .slice A n c] 28)).cell? ⟨w.heap.size, 1, none⟩ = some (.slice A n c) := by simp [go_sem]
  have HW := Lib.hid (Below.refl (w.alloc (.cells #[.int .i64 p, .slice A n c] 28)).heap.size (w.alloc (.cells #[.int .i64 p, .slice A n c] 28)))
  go_wp2_with fail
  refine (signed_inv _ _ _ _ _ _ _ ys _ (HY.out.keep H2.out) hm0 hm h0 h1 hn).mono ?_
  rintro e v ⟨C, q, rfl, ho, hb⟩
  have HO := Lib.hid (ho.less (B' := w.heap.size) (by simp))
  clear ho
  go_wp2
  go_ret
  exact ⟨C, q, rfl, HO.out, below_then H2.out hb⟩

theorem signed_rev (p : Int) (A B : Option Addr) (n c m d : Nat) (ys : List Int) (w : World) (hy : Ints w B m ys) (hm0 : 0 < m) (hm : m ≤ 64) (h0 : 3 ≤ p) (h1 : p ≤ 13) (hn : numsB p ys = true) : Calls Try.prog 97 #[.agg #[.int .i64 p, .slice A n c], .slice B m d, .func (.func 99) #[] #[]] w fun e w' => ∃ C q, e = .returned (.slice C m q) ∧ Own w.heap.size w' C m (signL p (sgF true false) ys) ∧ Below w.heap.size w w' := by
  have HY := Lib.hid hy
  have HM := Lib.hid hy.1
  have HN1 := Lib.hid hn
  clear hy hn
  have H2 := Lib.hid (show Below w.heap.size w (w.alloc (.cells #[.int .i64 p, .slice A n c] 28)) from (Below.refl _ _).alloc (Nat.le_refl _) _)
  go_enter Try.func97, Try.ntmps97
  have c0 : (w.alloc (.cells #[.int .i64 p, .slice A n c] 28)).cell? ⟨w.heap.size, 0, none⟩ = some (.int .i64 p) := by simp [go_sem]
  have c1 : (w.alloc (.cells #[.int .i64 p, .slice A n c] 28)).cell? ⟨w.heap.size, 1, none⟩ = some (.slice A n c) := by simp [go_sem]
  have HW := Lib.hid (Below.refl (w.alloc (.cells #[.int .i64 p, .slice A n c] 28)).heap.size (w.alloc (.cells #[.int .i64 p, .slice A n c] 28)))
  go_wp2_with fail
  refine (slices_Clone _ _ _ ys _ (HY.out.keep H2.out) hm0 (by omega)).mono ?_
  rintro e v ⟨C, q, rfl, ho, hb⟩
  obtain ⟨bo, oo, rfl, _, _, _, _⟩ := ho.2.2 hm0
  have HO0 := Lib.hid (ho.less (B' := w.heap.size + 1) (by simp))
  clear ho
  replace c0 := keep_cell hb c0
  replace c1 := keep_cell hb c1
  replace HW := Lib.hid (below_then H2.out hb)
  clear hb
  go_wp2
  go_loopw [14] (fun i wr => ∃ k : Nat, k ≤ m ∧ i = .int .i64 k ∧ Own (w.heap.size + 1) wr (some ⟨bo, oo, none⟩) m (mixK p (sgF true false) ys k) ∧ wr.cell? ⟨w.heap.size, 0, none⟩ = some (.int .i64 p) ∧ wr.cell? ⟨w.heap.size, 1, none⟩ = some (.slice A n c) ∧ Below w.heap.size w wr) (fun i _ => m - (intOf i).toNat)
  case atStart => exact ⟨0, Nat.zero_le _, rfl, HO0.out, c0, c1, HW.out⟩
  case round =>
    obtain ⟨k, hk, rfl, hown, c0, c1, hbel⟩ := hrel
    have HO := Lib.hid hown
    have HB := Lib.hid hbel
    have hsz := hbel.size
    clear hown hbel HW HO0
    by_cases hlt : k < m
    · obtain ⟨b1, off1, x, rfl, hb1, hxk, hck1⟩ := (HY.out.keep HB.out).at_ hlt
      obtain ⟨hx0, hx1⟩ := numB_true (numsB_at HN1.out hxk)
      have HK := Lib.hid hxk
      have hkn : (k : Int) < m := by omega
      clear hxk hb1
      have hgl := gradeN_le k
      cases hg : revG (gradeN k) with
      | true =>
        have HG := Lib.hid hg
        have HF := Lib.hid (show (sgF true false) k = true by simp [sgF, hg])
        clear hg
        go_wp2_with (first | (go_at_call 72; refine (impl_gradeOf _ (by omega) _).mono ?_; rintro e w' ⟨rfl, rfl⟩) | (go_at_call 99; refine (reverse_1 _ (by omega) _).mono ?_; rw [HG.out]; rintro e w' ⟨rfl, rfl⟩))
        refine (Space_field _ _ _ _ _).mono ?_
        rintro e v2 ⟨rfl, hb⟩
        replace HO := Lib.hid (HO.out.keep hb)
        replace HB := Lib.hid (below_then HB.out hb)
        replace c0 := keep_cell hb c0
        replace c1 := keep_cell hb c1
        clear hb
        obtain ⟨b', off', e', hd1, hd2, hcl, hfz⟩ := HO.out.2.2 hm0
        injection e' with e'
        injection e' with e1' e2'
        subst e1' e2'
        obtain ⟨z, hz⟩ := mixK_at (p := p) (f := (sgF true false)) (ys := ys) (k := k) (j := k) (by rw [HM.out]; omega) (by rw [HM.out]; exact hlt)
        have hcell := hcl k z hz
        have hfr := hfz k hlt
        clear hcl hfz hz
        go_wp2_with (go_at_call 95; refine (impl_num _ _ _ (by omega) (by omega)).mono ?_; rintro e w' ⟨rfl, rfl⟩)
        go_roundw
        case rel =>
          refine ⟨k + 1, by omega, by go_num, ?_, by rw [World.cell?_setCell_other _ _ _ _ (by intro h; injection h with h; omega)]; exact c0, by rw [World.cell?_setCell_other _ _ _ _ (by intro h; injection h with h; omega)]; exact c1, HB.out.setCell (by show w.heap.size ≤ bo; omega) _⟩
          rw [mixK_in HK.out HF.out, ← neg_mod_]
          exact HO.out.set_ hlt _
        case measure => simp [intOf]; omega
      | false =>
        have HG := Lib.hid hg
        have HF := Lib.hid (show (sgF true false) k = false by simp [sgF, hg])
        clear hg
        go_wp2_with (first | (go_at_call 72; refine (impl_gradeOf _ (by omega) _).mono ?_; rintro e w' ⟨rfl, rfl⟩) | (go_at_call 99; refine (reverse_1 _ (by omega) _).mono ?_; rw [HG.out]; rintro e w' ⟨rfl, rfl⟩))
        go_roundw
        case rel => exact ⟨k + 1, by omega, by go_num, by rw [mixK_out HK.out HF.out]; exact HO.out, c0, c1, HB.out⟩
        case measure => simp [intOf]; omega
    · obtain rfl : k = m := by omega
      go_wp2
      go_ret
      refine ⟨_, _, rfl, ?_, HB.out⟩
      rw [← mixK_end, HM.out]
      exact HO.out.less (by omega)

theorem Space_reverse (p : Int) (A B : Option Addr) (n c m d : Nat) (ys : List Int) (w : World) (hy : Ints w B m ys) (hm0 : 0 < m) (hm : m ≤ 64) (h0 : 3 ≤ p) (h1 : p ≤ 13) (hn : numsB p ys = true) : Calls Try.prog 76 #[.agg #[.int .i64 p, .slice A n c], .slice B m d] w fun e w' => ∃ C q, e = .returned (.slice C m q) ∧ Own w.heap.size w' C m (signL p (sgF true false) ys) ∧ Below w.heap.size w w' := by
  have HY := Lib.hid hy
  clear hy
  have H2 := Lib.hid (show Below w.heap.size w (w.alloc (.cells #[.int .i64 p, .slice A n c] 28)) from (Below.refl _ _).alloc (Nat.le_refl _) _)
  go_enter Try.func76, Try.ntmps76
  have c0 : (w.alloc (.cells #[.int .i64 p, .slice A n c] 28)).cell? ⟨w.heap.size, 0, none⟩ = some (.int .i64 p) := by simp [go_sem]
  have c1 : (w.alloc (.cells #[.int .i64 p, .slice A n c] 28)).cell? ⟨w.heap.size, 1, none⟩ = some (.slice A n c) := by simp [go_sem]
  have HW := Lib.hid (Below.refl (w.alloc (.cells #[.int .i64 p, .slice A n c] 28)).heap.size (w.alloc (.cells #[.int .i64 p, .slice A n c] 28)))
  go_wp2_with fail
  refine (signed_rev _ _ _ _ _ _ _ ys _ (HY.out.keep H2.out) hm0 hm h0 h1 hn).mono ?_
  rintro e v ⟨C, q, rfl, ho, hb⟩
  have HO := Lib.hid (ho.less (B' := w.heap.size) (by simp))
  clear ho
  go_wp2
  go_ret
  exact ⟨C, q, rfl, HO.out, below_then H2.out hb⟩

theorem spec_l04Involute (p : Int) (A B : Option Addr) (n c m d : Nat) (ys : List Int) (w : World) (hy : Ints w B m ys) (hm : m ≤ 64) (h0 : 3 ≤ p) (h1 : p ≤ 13) (hn : numsB p ys = true) : Calls Try.prog 73 #[.agg #[.int .i64 p, .slice A n c], .slice B m d] w fun e w' => ∃ C q, e = .returned (.slice C m q) ∧ Own w.heap.size w' C m (signL p (sgF false true) ys) ∧ Below w.heap.size w w' := by
  have HY := Lib.hid hy
  clear hy
  have H2 := Lib.hid (show Below w.heap.size w (w.alloc (.cells #[.int .i64 p, .slice A n c] 28)) from (Below.refl _ _).alloc (Nat.le_refl _) _)
  go_enter Try.func73, Try.ntmps73
  have c0 : (w.alloc (.cells #[.int .i64 p, .slice A n c] 28)).cell? ⟨w.heap.size, 0, none⟩ = some (.int .i64 p) := by simp [go_sem]
  have c1 : (w.alloc (.cells #[.int .i64 p, .slice A n c] 28)).cell? ⟨w.heap.size, 1, none⟩ = some (.slice A n c) := by simp [go_sem]
  have HW := Lib.hid (Below.refl (w.alloc (.cells #[.int .i64 p, .slice A n c] 28)).heap.size (w.alloc (.cells #[.int .i64 p, .slice A n c] 28)))
  go_wp2_with fail
  refine (l04Signs_inv _ _ _ _ _ _ _ ys _ (HY.out.keep H2.out) hm h0 h1 hn).mono ?_
  rintro e v ⟨C, q, rfl, ho, hb⟩
  have HO := Lib.hid (ho.less (B' := w.heap.size) (by simp))
  clear ho
  go_wp2
  go_ret
  exact ⟨C, q, rfl, HO.out, below_then H2.out hb⟩

theorem spec_l04Reverse (p : Int) (A B : Option Addr) (n c m d : Nat) (ys : List Int) (w : World) (hy : Ints w B m ys) (hm : m ≤ 64) (h0 : 3 ≤ p) (h1 : p ≤ 13) (hn : numsB p ys = true) : Calls Try.prog 75 #[.agg #[.int .i64 p, .slice A n c], .slice B m d] w fun e w' => ∃ C q, e = .returned (.slice C m q) ∧ Own w.heap.size w' C m (signL p (sgF true false) ys) ∧ Below w.heap.size w w' := by
  have HY := Lib.hid hy
  clear hy
  have H2 := Lib.hid (show Below w.heap.size w (w.alloc (.cells #[.int .i64 p, .slice A n c] 28)) from (Below.refl _ _).alloc (Nat.le_refl _) _)
  go_enter Try.func75, Try.ntmps75
  have c0 : (w.alloc (.cells #[.int .i64 p, .slice A n c] 28)).cell? ⟨w.heap.size, 0, none⟩ = some (.int .i64 p) := by simp [go_sem]
  have c1 : (w.alloc (.cells #[.int .i64 p, .slice A n c] 28)).cell? ⟨w.heap.size, 1, none⟩ = some (.slice A n c) := by simp [go_sem]
  have HW := Lib.hid (Below.refl (w.alloc (.cells #[.int .i64 p, .slice A n c] 28)).heap.size (w.alloc (.cells #[.int .i64 p, .slice A n c] 28)))
  go_wp2_with fail
  refine (l04Signs_rev _ _ _ _ _ _ _ ys _ (HY.out.keep H2.out) hm h0 h1 hn).mono ?_
  rintro e v ⟨C, q, rfl, ho, hb⟩
  have HO := Lib.hid (ho.less (B' := w.heap.size) (by simp))
  clear ho
  go_wp2
  go_ret
  exact ⟨C, q, rfl, HO.out, below_then H2.out hb⟩

def sgL (turn odd : Bool) (p : Int) (xs ys : List Int) : List Int := if codeS p xs (2 ^ xs.length) [ys] = 0 then signL p (sgF turn odd) ys else []
theorem code1_len_ {p : Int} {xs ys : List Int} (h : codeS p xs (2 ^ xs.length) [ys] = 0) : ys.length ≤ 64 := by
  obtain ⟨hs, ha⟩ := codeS_zero h
  have := pow_le6 (spaceB_true hs).2.2.1
  simp only [List.all_cons, Bool.and_eq_true] at ha
  rw [(lstB_true ha.1).1]; exact this
theorem sgL_len (turn odd : Bool) (p : Int) (xs ys : List Int) : (sgL turn odd p xs ys).length ≤ 1000000000 := by
  unfold sgL
  by_cases h : codeS p xs (2 ^ xs.length) [ys] = 0
  · rw [if_pos h, signL_len]; have := code1_len_ h; omega
  · rw [if_neg h]; simp

theorem spec_InvoluteOf (p : Int) (A B : Option Addr) (n c m d : Nat) (xs ys : List Int) (w : World) (hx : Ints w A n xs) (hy : Ints w B m ys) :
    Calls Try.prog 36 #[.agg #[.int .i64 p, .slice A n c], .slice B m d] w fun e w' => ∃ D t, e = .returned (.tuple #[.slice D (sgL false true p xs ys).length t, .int .i64 (codeS p xs (2 ^ xs.length) [ys])]) ∧ Own w.heap.size w' D (sgL false true p xs ys).length (sgL false true p xs ys) ∧ Below w.heap.size w w' := by
  have HX := Lib.hid hx
  have hm := hx.2.1
  have HN := Lib.hid hx.1
  clear hx
  unfold maxLen at hm
  have H2 := Lib.hid (show Below w.heap.size w (w.alloc (.cells #[.int .i64 p, .slice A n c] 28)) from (Below.refl _ _).alloc (Nat.le_refl _) _)
  have HY := Lib.hid hy
  clear hy
  rw [HN.out]
  by_cases hcz : codeS p xs (2 ^ n) [ys] = 0
  · have hm64 : m ≤ 64 := by rw [← HY.out.1]; exact code1_len_ (p := p) (xs := xs) (by rw [HN.out]; exact hcz)
    obtain ⟨hsp, hall⟩ := codeS_zero hcz
    obtain ⟨hp, hl0, hl1, hn⟩ := spaceB_true hsp
    have h0 := prime_lo hp
    have h1 := prime_hi hp
    simp only [List.all_cons, List.all_nil, Bool.and_true] at hall
    obtain ⟨hly, hny⟩ := lstB_true hall
    have hm0 : 0 < m := by rw [← HY.out.1, hly]; exact Nat.two_pow_pos _
    have HM1 := Lib.hid hny
    have HV := Lib.hid (show sgL false true p xs ys = signL p (sgF false true) ys by unfold sgL; rw [HN.out, if_pos hcz])
    have HL := Lib.hid (show (sgL false true p xs ys).length = m by rw [HV.out, signL_len, HY.out.1])
    rw [HL.out, HV.out]
    have HZc := Lib.hid hcz
    rw [hcz]
    clear hcz hly hny hall hp hn hsp hl0 hl1
    go_enter Try.func36, Try.ntmps36
    have c0 : (w.alloc (.cells #[.int .i64 p, .slice A n c] 28)).cell? ⟨w.heap.size, 0, none⟩ = some (.int .i64 p) := by simp [go_sem]
    have c1 : (w.alloc (.cells #[.int .i64 p, .slice A n c] 28)).cell? ⟨w.heap.size, 1, none⟩ = some (.slice A n c) := by simp [go_sem]
    have HW := Lib.hid (Below.refl (w.alloc (.cells #[.int .i64 p, .slice A n c] 28)).heap.size (w.alloc (.cells #[.int .i64 p, .slice A n c] 28)))
    have hb : Below (w.alloc (.cells #[.int .i64 p, .slice A n c] 28)).heap.size (w.alloc (.cells #[.int .i64 p, .slice A n c] 28)) ((w.alloc (.cells #[.int .i64 p, .slice A n c] 28)).alloc (.cells #[.slice B m d] 22)) := (Below.refl _ _).alloc (Nat.le_refl _) _
    go_wp2_with fail
    refine (spec_l04Code p A _ n c 1 _ xs [ys] _ (HX.out.keep (H2.out.trans (hb.mono H2.out.size))) (Lists.mk1 _ _ (by simp) (HY.out.keep H2.out))).mono ?_
    rw [HZc.out]
    rintro e v ⟨rfl, hv⟩
    have hs1 : w.heap.size ≤ v.heap.size := (H2.out.trans ((below_then hb hv).mono H2.out.size)).size
    replace c0 := keep_cell (below_then hb hv) c0
    replace c1 := keep_cell (below_then hb hv) c1
    replace HW := Lib.hid (below_then (below_then HW.out hb) hv)
    clear hb hv
    go_wp2_with fail
    refine (spec_l04Involute _ _ _ _ _ _ _ ys _ (HY.out.keep (H2.out.trans (HW.out.mono H2.out.size))) hm64 h0 h1 HM1.out).mono ?_
    rintro e v2 ⟨CC2, qq2, rfl, ho, hb⟩
    have hz2 := hb.size
    have HO2 := Lib.hid (ho.less (B' := w.heap.size) (by omega))
    clear ho
    replace c0 := keep_cell hb c0
    replace c1 := keep_cell hb c1
    replace HW := Lib.hid (below_then HW.out hb)
    clear hb
    go_wp2_with fail
    go_ret2
    exact ⟨CC2, qq2, rfl, HO2.out, (H2.out.trans (HW.out.mono H2.out.size))⟩
  · have HV := Lib.hid (show sgL false true p xs ys = [] by unfold sgL; rw [HN.out, if_neg hcz])
    rw [HV.out]
    have hc' : (codeS p xs (2 ^ n) [ys] == 0) = false := by simpa using hcz
    go_enter Try.func36, Try.ntmps36
    have c0 : (w.alloc (.cells #[.int .i64 p, .slice A n c] 28)).cell? ⟨w.heap.size, 0, none⟩ = some (.int .i64 p) := by simp [go_sem]
    have c1 : (w.alloc (.cells #[.int .i64 p, .slice A n c] 28)).cell? ⟨w.heap.size, 1, none⟩ = some (.slice A n c) := by simp [go_sem]
    have HW := Lib.hid (Below.refl (w.alloc (.cells #[.int .i64 p, .slice A n c] 28)).heap.size (w.alloc (.cells #[.int .i64 p, .slice A n c] 28)))
    have hb : Below (w.alloc (.cells #[.int .i64 p, .slice A n c] 28)).heap.size (w.alloc (.cells #[.int .i64 p, .slice A n c] 28)) ((w.alloc (.cells #[.int .i64 p, .slice A n c] 28)).alloc (.cells #[.slice B m d] 22)) := (Below.refl _ _).alloc (Nat.le_refl _) _
    go_wp2_with fail
    refine (spec_l04Code p A _ n c 1 _ xs [ys] _ (HX.out.keep (H2.out.trans (hb.mono H2.out.size))) (Lists.mk1 _ _ (by simp) (HY.out.keep H2.out))).mono ?_
    rintro e v ⟨rfl, hv⟩
    have hs1 : w.heap.size ≤ v.heap.size := (H2.out.trans ((below_then hb hv).mono H2.out.size)).size
    replace c0 := keep_cell (below_then hb hv) c0
    replace c1 := keep_cell (below_then hb hv) c1
    replace HW := Lib.hid (below_then (below_then HW.out hb) hv)
    clear hb hv
    go_wp2_with fail
    go_ret2
    exact ⟨none, 0, rfl, Own.nil _ _, (H2.out.trans (HW.out.mono H2.out.size))⟩

theorem impl_InvoluteOf (p : Int) (A B : Option Addr) (n c m d : Nat) (xs ys : List Int) (w : World) (hx : Ints w A n xs) (hy : Ints w B m ys) :
    Calls Try.prog 37 #[.agg #[.int .i64 p, .slice A n c], .slice B m d] w fun e w' => ∃ D t, e = .returned (.tuple #[.slice D (sgL false true p xs ys).length t, .int .i64 (codeS p xs (2 ^ xs.length) [ys])]) ∧ Own w.heap.size w' D (sgL false true p xs ys).length (sgL false true p xs ys) ∧ Below w.heap.size w w' := by
  have HX := Lib.hid hx
  have hm := hx.2.1
  have HN := Lib.hid hx.1
  clear hx
  unfold maxLen at hm
  have H2 := Lib.hid (show Below w.heap.size w (w.alloc (.cells #[.int .i64 p, .slice A n c] 28)) from (Below.refl _ _).alloc (Nat.le_refl _) _)
  have HY := Lib.hid hy
  clear hy
  rw [HN.out]
  by_cases hcz : codeS p xs (2 ^ n) [ys] = 0
  · have hm64 : m ≤ 64 := by rw [← HY.out.1]; exact code1_len_ (p := p) (xs := xs) (by rw [HN.out]; exact hcz)
    obtain ⟨hsp, hall⟩ := codeS_zero hcz
    obtain ⟨hp, hl0, hl1, hn⟩ := spaceB_true hsp
    have h0 := prime_lo hp
    have h1 := prime_hi hp
    simp only [List.all_cons, List.all_nil, Bool.and_true] at hall
    obtain ⟨hly, hny⟩ := lstB_true hall
    have hm0 : 0 < m := by rw [← HY.out.1, hly]; exact Nat.two_pow_pos _
    have HM1 := Lib.hid hny
    have HV := Lib.hid (show sgL false true p xs ys = signL p (sgF false true) ys by unfold sgL; rw [HN.out, if_pos hcz])
    have HL := Lib.hid (show (sgL false true p xs ys).length = m by rw [HV.out, signL_len, HY.out.1])
    rw [HL.out, HV.out]
    have HZc := Lib.hid hcz
    rw [hcz]
    clear hcz hly hny hall hp hn hsp hl0 hl1
    go_enter Try.func37, Try.ntmps37
    have c0 : (w.alloc (.cells #[.int .i64 p, .slice A n c] 28)).cell? ⟨w.heap.size, 0, none⟩ = some (.int .i64 p) := by simp [go_sem]
    have c1 : (w.alloc (.cells #[.int .i64 p, .slice A n c] 28)).cell? ⟨w.heap.size, 1, none⟩ = some (.slice A n c) := by simp [go_sem]
    have HW := Lib.hid (Below.refl (w.alloc (.cells #[.int .i64 p, .slice A n c] 28)).heap.size (w.alloc (.cells #[.int .i64 p, .slice A n c] 28)))
    have hb : Below (w.alloc (.cells #[.int .i64 p, .slice A n c] 28)).heap.size (w.alloc (.cells #[.int .i64 p, .slice A n c] 28)) ((w.alloc (.cells #[.int .i64 p, .slice A n c] 28)).alloc (.cells #[.slice B m d] 22)) := (Below.refl _ _).alloc (Nat.le_refl _) _
    go_wp2_with fail
    refine (impl_checkMultis p A _ n c 1 _ xs [ys] _ (HX.out.keep (H2.out.trans (hb.mono H2.out.size))) (Lists.mk1 _ _ (by simp) (HY.out.keep H2.out))).mono ?_
    rw [HZc.out]
    rintro e v ⟨rfl, hv⟩
    have hs1 : w.heap.size ≤ v.heap.size := (H2.out.trans ((below_then hb hv).mono H2.out.size)).size
    replace c0 := keep_cell (below_then hb hv) c0
    replace c1 := keep_cell (below_then hb hv) c1
    replace HW := Lib.hid (below_then (below_then HW.out hb) hv)
    clear hb hv
    go_wp2_with fail
    refine (Space_involute _ _ _ _ _ _ _ ys _ (HY.out.keep (H2.out.trans (HW.out.mono H2.out.size))) hm0 hm64 h0 h1 HM1.out).mono ?_
    rintro e v2 ⟨CC2, qq2, rfl, ho, hb⟩
    have hz2 := hb.size
    have HO2 := Lib.hid (ho.less (B' := w.heap.size) (by omega))
    clear ho
    replace c0 := keep_cell hb c0
    replace c1 := keep_cell hb c1
    replace HW := Lib.hid (below_then HW.out hb)
    clear hb
    go_wp2_with fail
    go_ret2
    exact ⟨CC2, qq2, rfl, HO2.out, (H2.out.trans (HW.out.mono H2.out.size))⟩
  · have HV := Lib.hid (show sgL false true p xs ys = [] by unfold sgL; rw [HN.out, if_neg hcz])
    rw [HV.out]
    have hc' : (codeS p xs (2 ^ n) [ys] == 0) = false := by simpa using hcz
    go_enter Try.func37, Try.ntmps37
    have c0 : (w.alloc (.cells #[.int .i64 p, .slice A n c] 28)).cell? ⟨w.heap.size, 0, none⟩ = some (.int .i64 p) := by simp [go_sem]
    have c1 : (w.alloc (.cells #[.int .i64 p, .slice A n c] 28)).cell? ⟨w.heap.size, 1, none⟩ = some (.slice A n c) := by simp [go_sem]
    have HW := Lib.hid (Below.refl (w.alloc (.cells #[.int .i64 p, .slice A n c] 28)).heap.size (w.alloc (.cells #[.int .i64 p, .slice A n c] 28)))
    have hb : Below (w.alloc (.cells #[.int .i64 p, .slice A n c] 28)).heap.size (w.alloc (.cells #[.int .i64 p, .slice A n c] 28)) ((w.alloc (.cells #[.int .i64 p, .slice A n c] 28)).alloc (.cells #[.slice B m d] 22)) := (Below.refl _ _).alloc (Nat.le_refl _) _
    go_wp2_with fail
    refine (impl_checkMultis p A _ n c 1 _ xs [ys] _ (HX.out.keep (H2.out.trans (hb.mono H2.out.size))) (Lists.mk1 _ _ (by simp) (HY.out.keep H2.out))).mono ?_
    rintro e v ⟨rfl, hv⟩
    have hs1 : w.heap.size ≤ v.heap.size := (H2.out.trans ((below_then hb hv).mono H2.out.size)).size
    replace c0 := keep_cell (below_then hb hv) c0
    replace c1 := keep_cell (below_then hb hv) c1
    replace HW := Lib.hid (below_then (below_then HW.out hb) hv)
    clear hb hv
    go_wp2_with fail
    go_ret2
    exact ⟨none, 0, rfl, Own.nil _ _, (H2.out.trans (HW.out.mono H2.out.size))⟩

theorem spec_ReverseOf (p : Int) (A B : Option Addr) (n c m d : Nat) (xs ys : List Int) (w : World) (hx : Ints w A n xs) (hy : Ints w B m ys) :
    Calls Try.prog 38 #[.agg #[.int .i64 p, .slice A n c], .slice B m d] w fun e w' => ∃ D t, e = .returned (.tuple #[.slice D (sgL true false p xs ys).length t, .int .i64 (codeS p xs (2 ^ xs.length) [ys])]) ∧ Own w.heap.size w' D (sgL true false p xs ys).length (sgL true false p xs ys) ∧ Below w.heap.size w w' := by
  have HX := Lib.hid hx
  have hm := hx.2.1
  have HN := Lib.hid hx.1
  clear hx
  unfold maxLen at hm
  have H2 := Lib.hid (show Below w.heap.size w (w.alloc (.cells #[.int .i64 p, .slice A n c] 28)) from (Below.refl _ _).alloc (Nat.le_refl _) _)
  have HY := Lib.hid hy
  clear hy
  rw [HN.out]
  by_cases hcz : codeS p xs (2 ^ n) [ys] = 0
  · have hm64 : m ≤ 64 := by rw [← HY.out.1]; exact code1_len_ (p := p) (xs := xs) (by rw [HN.out]; exact hcz)
    obtain ⟨hsp, hall⟩ := codeS_zero hcz
    obtain ⟨hp, hl0, hl1, hn⟩ := spaceB_true hsp
    have h0 := prime_lo hp
    have h1 := prime_hi hp
    simp only [List.all_cons, List.all_nil, Bool.and_true] at hall
    obtain ⟨hly, hny⟩ := lstB_true hall
    have hm0 : 0 < m := by rw [← HY.out.1, hly]; exact Nat.two_pow_pos _
    have HM1 := Lib.hid hny
    have HV := Lib.hid (show sgL true false p xs ys = signL p (sgF true false) ys by unfold sgL; rw [HN.out, if_pos hcz])
    have HL := Lib.hid (show (sgL true false p xs ys).length = m by rw [HV.out, signL_len, HY.out.1])
    rw [HL.out, HV.out]
    have HZc := Lib.hid hcz
    rw [hcz]
    clear hcz hly hny hall hp hn hsp hl0 hl1
    go_enter Try.func38, Try.ntmps38
    have c0 : (w.alloc (.cells #[.int .i64 p, .slice A n c] 28)).cell? ⟨w.heap.size, 0, none⟩ = some (.int .i64 p) := by simp [go_sem]
    have c1 : (w.alloc (.cells #[.int .i64 p, .slice A n c] 28)).cell? ⟨w.heap.size, 1, none⟩ = some (.slice A n c) := by simp [go_sem]
    have HW := Lib.hid (Below.refl (w.alloc (.cells #[.int .i64 p, .slice A n c] 28)).heap.size (w.alloc (.cells #[.int .i64 p, .slice A n c] 28)))
    have hb : Below (w.alloc (.cells #[.int .i64 p, .slice A n c] 28)).heap.size (w.alloc (.cells #[.int .i64 p, .slice A n c] 28)) ((w.alloc (.cells #[.int .i64 p, .slice A n c] 28)).alloc (.cells #[.slice B m d] 22)) := (Below.refl _ _).alloc (Nat.le_refl _) _
    go_wp2_with fail
    refine (spec_l04Code p A _ n c 1 _ xs [ys] _ (HX.out.keep (H2.out.trans (hb.mono H2.out.size))) (Lists.mk1 _ _ (by simp) (HY.out.keep H2.out))).mono ?_
    rw [HZc.out]
    rintro e v ⟨rfl, hv⟩
    have hs1 : w.heap.size ≤ v.heap.size := (H2.out.trans ((below_then hb hv).mono H2.out.size)).size
    replace c0 := keep_cell (below_then hb hv) c0
    replace c1 := keep_cell (below_then hb hv) c1
    replace HW := Lib.hid (below_then (below_then HW.out hb) hv)
    clear hb hv
    go_wp2_with fail
    refine (spec_l04Reverse _ _ _ _ _ _ _ ys _ (HY.out.keep (H2.out.trans (HW.out.mono H2.out.size))) hm64 h0 h1 HM1.out).mono ?_
    rintro e v2 ⟨CC2, qq2, rfl, ho, hb⟩
    have hz2 := hb.size
    have HO2 := Lib.hid (ho.less (B' := w.heap.size) (by omega))
    clear ho
    replace c0 := keep_cell hb c0
    replace c1 := keep_cell hb c1
    replace HW := Lib.hid (below_then HW.out hb)
    clear hb
    go_wp2_with fail
    go_ret2
    exact ⟨CC2, qq2, rfl, HO2.out, (H2.out.trans (HW.out.mono H2.out.size))⟩
  · have HV := Lib.hid (show sgL true false p xs ys = [] by unfold sgL; rw [HN.out, if_neg hcz])
    rw [HV.out]
    have hc' : (codeS p xs (2 ^ n) [ys] == 0) = false := by simpa using hcz
    go_enter Try.func38, Try.ntmps38
    have c0 : (w.alloc (.cells #[.int .i64 p, .slice A n c] 28)).cell? ⟨w.heap.size, 0, none⟩ = some (.int .i64 p) := by simp [go_sem]
    have c1 : (w.alloc (.cells #[.int .i64 p, .slice A n c] 28)).cell? ⟨w.heap.size, 1, none⟩ = some (.slice A n c) := by simp [go_sem]
    have HW := Lib.hid (Below.refl (w.alloc (.cells #[.int .i64 p, .slice A n c] 28)).heap.size (w.alloc (.cells #[.int .i64 p, .slice A n c] 28)))
    have hb : Below (w.alloc (.cells #[.int .i64 p, .slice A n c] 28)).heap.size (w.alloc (.cells #[.int .i64 p, .slice A n c] 28)) ((w.alloc (.cells #[.int .i64 p, .slice A n c] 28)).alloc (.cells #[.slice B m d] 22)) := (Below.refl _ _).alloc (Nat.le_refl _) _
    go_wp2_with fail
    refine (spec_l04Code p A _ n c 1 _ xs [ys] _ (HX.out.keep (H2.out.trans (hb.mono H2.out.size))) (Lists.mk1 _ _ (by simp) (HY.out.keep H2.out))).mono ?_
    rintro e v ⟨rfl, hv⟩
    have hs1 : w.heap.size ≤ v.heap.size := (H2.out.trans ((below_then hb hv).mono H2.out.size)).size
    replace c0 := keep_cell (below_then hb hv) c0
    replace c1 := keep_cell (below_then hb hv) c1
    replace HW := Lib.hid (below_then (below_then HW.out hb) hv)
    clear hb hv
    go_wp2_with fail
    go_ret2
    exact ⟨none, 0, rfl, Own.nil _ _, (H2.out.trans (HW.out.mono H2.out.size))⟩

theorem impl_ReverseOf (p : Int) (A B : Option Addr) (n c m d : Nat) (xs ys : List Int) (w : World) (hx : Ints w A n xs) (hy : Ints w B m ys) :
    Calls Try.prog 39 #[.agg #[.int .i64 p, .slice A n c], .slice B m d] w fun e w' => ∃ D t, e = .returned (.tuple #[.slice D (sgL true false p xs ys).length t, .int .i64 (codeS p xs (2 ^ xs.length) [ys])]) ∧ Own w.heap.size w' D (sgL true false p xs ys).length (sgL true false p xs ys) ∧ Below w.heap.size w w' := by
  have HX := Lib.hid hx
  have hm := hx.2.1
  have HN := Lib.hid hx.1
  clear hx
  unfold maxLen at hm
  have H2 := Lib.hid (show Below w.heap.size w (w.alloc (.cells #[.int .i64 p, .slice A n c] 28)) from (Below.refl _ _).alloc (Nat.le_refl _) _)
  have HY := Lib.hid hy
  clear hy
  rw [HN.out]
  by_cases hcz : codeS p xs (2 ^ n) [ys] = 0
  · have hm64 : m ≤ 64 := by rw [← HY.out.1]; exact code1_len_ (p := p) (xs := xs) (by rw [HN.out]; exact hcz)
    obtain ⟨hsp, hall⟩ := codeS_zero hcz
    obtain ⟨hp, hl0, hl1, hn⟩ := spaceB_true hsp
    have h0 := prime_lo hp
    have h1 := prime_hi hp
    simp only [List.all_cons, List.all_nil, Bool.and_true] at hall
    obtain ⟨hly, hny⟩ := lstB_true hall
    have hm0 : 0 < m := by rw [← HY.out.1, hly]; exact Nat.two_pow_pos _
    have HM1 := Lib.hid hny
    have HV := Lib.hid (show sgL true false p xs ys = signL p (sgF true false) ys by unfold sgL; rw [HN.out, if_pos hcz])
    have HL := Lib.hid (show (sgL true false p xs ys).length = m by rw [HV.out, signL_len, HY.out.1])
    rw [HL.out, HV.out]
    have HZc := Lib.hid hcz
    rw [hcz]
    clear hcz hly hny hall hp hn hsp hl0 hl1
    go_enter Try.func39, Try.ntmps39
    have c0 : (w.alloc (.cells #[.int .i64 p, .slice A n c] 28)).cell? ⟨w.heap.size, 0, none⟩ = some (.int .i64 p) := by simp [go_sem]
    have c1 : (w.alloc (.cells #[.int .i64 p, .slice A n c] 28)).cell? ⟨w.heap.size, 1, none⟩ = some (.slice A n c) := by simp [go_sem]
    have HW := Lib.hid (Below.refl (w.alloc (.cells #[.int .i64 p, .slice A n c] 28)).heap.size (w.alloc (.cells #[.int .i64 p, .slice A n c] 28)))
    have hb : Below (w.alloc (.cells #[.int .i64 p, .slice A n c] 28)).heap.size (w.alloc (.cells #[.int .i64 p, .slice A n c] 28)) ((w.alloc (.cells #[.int .i64 p, .slice A n c] 28)).alloc (.cells #[.slice B m d] 22)) := (Below.refl _ _).alloc (Nat.le_refl _) _
    go_wp2_with fail
    refine (impl_checkMultis p A _ n c 1 _ xs [ys] _ (HX.out.keep (H2.out.trans (hb.mono H2.out.size))) (Lists.mk1 _ _ (by simp) (HY.out.keep H2.out))).mono ?_
    rw [HZc.out]
    rintro e v ⟨rfl, hv⟩
    have hs1 : w.heap.size ≤ v.heap.size := (H2.out.trans ((below_then hb hv).mono H2.out.size)).size
    replace c0 := keep_cell (below_then hb hv) c0
    replace c1 := keep_cell (below_then hb hv) c1
    replace HW := Lib.hid (below_then (below_then HW.out hb) hv)
    clear hb hv
    go_wp2_with fail
    refine (Space_reverse _ _ _ _ _ _ _ ys _ (HY.out.keep (H2.out.trans (HW.out.mono H2.out.size))) hm0 hm64 h0 h1 HM1.out).mono ?_
    rintro e v2 ⟨CC2, qq2, rfl, ho, hb⟩
    have hz2 := hb.size
    have HO2 := Lib.hid (ho.less (B' := w.heap.size) (by omega))
    clear ho
    replace c0 := keep_cell hb c0
    replace c1 := keep_cell hb c1
    replace HW := Lib.hid (below_then HW.out hb)
    clear hb
    go_wp2_with fail
    go_ret2
    exact ⟨CC2, qq2, rfl, HO2.out, (H2.out.trans (HW.out.mono H2.out.size))⟩
  · have HV := Lib.hid (show sgL true false p xs ys = [] by unfold sgL; rw [HN.out, if_neg hcz])
    rw [HV.out]
    have hc' : (codeS p xs (2 ^ n) [ys] == 0) = false := by simpa using hcz
    go_enter Try.func39, Try.ntmps39
    have c0 : (w.alloc (.cells #[.int .i64 p, .slice A n c] 28)).cell? ⟨w.heap.size, 0, none⟩ = some (.int .i64 p) := by simp [go_sem]
    have c1 : (w.alloc (.cells #[.int .i64 p, .slice A n c] 28)).cell? ⟨w.heap.size, 1, none⟩ = some (.slice A n c) := by simp [go_sem]
    have HW := Lib.hid (Below.refl (w.alloc (.cells #[.int .i64 p, .slice A n c] 28)).heap.size (w.alloc (.cells #[.int .i64 p, .slice A n c] 28)))
    have hb : Below (w.alloc (.cells #[.int .i64 p, .slice A n c] 28)).heap.size (w.alloc (.cells #[.int .i64 p, .slice A n c] 28)) ((w.alloc (.cells #[.int .i64 p, .slice A n c] 28)).alloc (.cells #[.slice B m d] 22)) := (Below.refl _ _).alloc (Nat.le_refl _) _
    go_wp2_with fail
    refine (impl_checkMultis p A _ n c 1 _ xs [ys] _ (HX.out.keep (H2.out.trans (hb.mono H2.out.size))) (Lists.mk1 _ _ (by simp) (HY.out.keep H2.out))).mono ?_
    rintro e v ⟨rfl, hv⟩
    have hs1 : w.heap.size ≤ v.heap.size := (H2.out.trans ((below_then hb hv).mono H2.out.size)).size
    replace c0 := keep_cell (below_then hb hv) c0
    replace c1 := keep_cell (below_then hb hv) c1
    replace HW := Lib.hid (below_then (below_then HW.out hb) hv)
    clear hb hv
    go_wp2_with fail
    go_ret2
    exact ⟨none, 0, rfl, Own.nil _ _, (H2.out.trans (HW.out.mono H2.out.size))⟩

theorem spec_ConjugateOf (p : Int) (A B : Option Addr) (n c m d : Nat) (xs ys : List Int) (w : World) (hx : Ints w A n xs) (hy : Ints w B m ys) :
    Calls Try.prog 40 #[.agg #[.int .i64 p, .slice A n c], .slice B m d] w fun e w' => ∃ D t, e = .returned (.tuple #[.slice D (sgL true true p xs ys).length t, .int .i64 (codeS p xs (2 ^ xs.length) [ys])]) ∧ Own w.heap.size w' D (sgL true true p xs ys).length (sgL true true p xs ys) ∧ Below w.heap.size w w' := by
  have HX := Lib.hid hx
  have hm := hx.2.1
  have HN := Lib.hid hx.1
  clear hx
  unfold maxLen at hm
  have H2 := Lib.hid (show Below w.heap.size w (w.alloc (.cells #[.int .i64 p, .slice A n c] 28)) from (Below.refl _ _).alloc (Nat.le_refl _) _)
  have HY := Lib.hid hy
  clear hy
  rw [HN.out]
  by_cases hcz : codeS p xs (2 ^ n) [ys] = 0
  · have hm64 : m ≤ 64 := by rw [← HY.out.1]; exact code1_len_ (p := p) (xs := xs) (by rw [HN.out]; exact hcz)
    obtain ⟨hsp, hall⟩ := codeS_zero hcz
    obtain ⟨hp, hl0, hl1, hn⟩ := spaceB_true hsp
    have h0 := prime_lo hp
    have h1 := prime_hi hp
    simp only [List.all_cons, List.all_nil, Bool.and_true] at hall
    obtain ⟨hly, hny⟩ := lstB_true hall
    have hm0 : 0 < m := by rw [← HY.out.1, hly]; exact Nat.two_pow_pos _
    have HM1 := Lib.hid hny
    have HV := Lib.hid (show sgL true true p xs ys = signL p (sgF true true) ys by unfold sgL; rw [HN.out, if_pos hcz])
    have HL := Lib.hid (show (sgL true true p xs ys).length = m by rw [HV.out, signL_len, HY.out.1])
    rw [HL.out, HV.out]
    have HZc := Lib.hid hcz
    rw [hcz]
    clear hcz hly hny hall hp hn hsp hl0 hl1
    go_enter Try.func40, Try.ntmps40
    have c0 : (w.alloc (.cells #[.int .i64 p, .slice A n c] 28)).cell? ⟨w.heap.size, 0, none⟩ = some (.int .i64 p) := by simp [go_sem]
    have c1 : (w.alloc (.cells #[.int .i64 p, .slice A n c] 28)).cell? ⟨w.heap.size, 1, none⟩ = some (.slice A n c) := by simp [go_sem]
    have HW := Lib.hid (Below.refl (w.alloc (.cells #[.int .i64 p, .slice A n c] 28)).heap.size (w.alloc (.cells #[.int .i64 p, .slice A n c] 28)))
    have hb : Below (w.alloc (.cells #[.int .i64 p, .slice A n c] 28)).heap.size (w.alloc (.cells #[.int .i64 p, .slice A n c] 28)) ((w.alloc (.cells #[.int .i64 p, .slice A n c] 28)).alloc (.cells #[.slice B m d] 22)) := (Below.refl _ _).alloc (Nat.le_refl _) _
    go_wp2_with fail
    refine (spec_l04Code p A _ n c 1 _ xs [ys] _ (HX.out.keep (H2.out.trans (hb.mono H2.out.size))) (Lists.mk1 _ _ (by simp) (HY.out.keep H2.out))).mono ?_
    rw [HZc.out]
    rintro e v ⟨rfl, hv⟩
    have hs1 : w.heap.size ≤ v.heap.size := (H2.out.trans ((below_then hb hv).mono H2.out.size)).size
    replace c0 := keep_cell (below_then hb hv) c0
    replace c1 := keep_cell (below_then hb hv) c1
    replace HW := Lib.hid (below_then (below_then HW.out hb) hv)
    clear hb hv
    go_wp2_with fail
    refine (l04Signs_con _ _ _ _ _ _ _ ys _ (HY.out.keep (H2.out.trans (HW.out.mono H2.out.size))) hm64 h0 h1 HM1.out).mono ?_
    rintro e v2 ⟨CC2, qq2, rfl, ho, hb⟩
    have hz2 := hb.size
    have HO2 := Lib.hid (ho.less (B' := w.heap.size) (by omega))
    clear ho
    replace c0 := keep_cell hb c0
    replace c1 := keep_cell hb c1
    replace HW := Lib.hid (below_then HW.out hb)
    clear hb
    go_wp2_with fail
    go_ret2
    exact ⟨CC2, qq2, rfl, HO2.out, (H2.out.trans (HW.out.mono H2.out.size))⟩
  · have HV := Lib.hid (show sgL true true p xs ys = [] by unfold sgL; rw [HN.out, if_neg hcz])
    rw [HV.out]
    have hc' : (codeS p xs (2 ^ n) [ys] == 0) = false := by simpa using hcz
    go_enter Try.func40, Try.ntmps40
    have c0 : (w.alloc (.cells #[.int .i64 p, .slice A n c] 28)).cell? ⟨w.heap.size, 0, none⟩ = some (.int .i64 p) := by simp [go_sem]
    have c1 : (w.alloc (.cells #[.int .i64 p, .slice A n c] 28)).cell? ⟨w.heap.size, 1, none⟩ = some (.slice A n c) := by simp [go_sem]
    have HW := Lib.hid (Below.refl (w.alloc (.cells #[.int .i64 p, .slice A n c] 28)).heap.size (w.alloc (.cells #[.int .i64 p, .slice A n c] 28)))
    have hb : Below (w.alloc (.cells #[.int .i64 p, .slice A n c] 28)).heap.size (w.alloc (.cells #[.int .i64 p, .slice A n c] 28)) ((w.alloc (.cells #[.int .i64 p, .slice A n c] 28)).alloc (.cells #[.slice B m d] 22)) := (Below.refl _ _).alloc (Nat.le_refl _) _
    go_wp2_with fail
    refine (spec_l04Code p A _ n c 1 _ xs [ys] _ (HX.out.keep (H2.out.trans (hb.mono H2.out.size))) (Lists.mk1 _ _ (by simp) (HY.out.keep H2.out))).mono ?_
    rintro e v ⟨rfl, hv⟩
    have hs1 : w.heap.size ≤ v.heap.size := (H2.out.trans ((below_then hb hv).mono H2.out.size)).size
    replace c0 := keep_cell (below_then hb hv) c0
    replace c1 := keep_cell (below_then hb hv) c1
    replace HW := Lib.hid (below_then (below_then HW.out hb) hv)
    clear hb hv
    go_wp2_with fail
    go_ret2
    exact ⟨none, 0, rfl, Own.nil _ _, (H2.out.trans (HW.out.mono H2.out.size))⟩

theorem impl_ConjugateOf (p : Int) (A B : Option Addr) (n c m d : Nat) (xs ys : List Int) (w : World) (hx : Ints w A n xs) (hy : Ints w B m ys) :
    Calls Try.prog 41 #[.agg #[.int .i64 p, .slice A n c], .slice B m d] w fun e w' => ∃ D t, e = .returned (.tuple #[.slice D (sgL true true p xs ys).length t, .int .i64 (codeS p xs (2 ^ xs.length) [ys])]) ∧ Own w.heap.size w' D (sgL true true p xs ys).length (sgL true true p xs ys) ∧ Below w.heap.size w w' := by
  have HX := Lib.hid hx
  have hm := hx.2.1
  have HN := Lib.hid hx.1
  clear hx
  unfold maxLen at hm
  have H2 := Lib.hid (show Below w.heap.size w (w.alloc (.cells #[.int .i64 p, .slice A n c] 28)) from (Below.refl _ _).alloc (Nat.le_refl _) _)
  have HY := Lib.hid hy
  clear hy
  rw [HN.out]
  by_cases hcz : codeS p xs (2 ^ n) [ys] = 0
  · have hm64 : m ≤ 64 := by rw [← HY.out.1]; exact code1_len_ (p := p) (xs := xs) (by rw [HN.out]; exact hcz)
    obtain ⟨hsp, hall⟩ := codeS_zero hcz
    obtain ⟨hp, hl0, hl1, hn⟩ := spaceB_true hsp
    have h0 := prime_lo hp
    have h1 := prime_hi hp
    simp only [List.all_cons, List.all_nil, Bool.and_true] at hall
    obtain ⟨hly, hny⟩ := lstB_true hall
    have hm0 : 0 < m := by rw [← HY.out.1, hly]; exact Nat.two_pow_pos _
    have HM1 := Lib.hid hny
    have HV := Lib.hid (show sgL true true p xs ys = signL p (sgF true true) ys by unfold sgL; rw [HN.out, if_pos hcz])
    have HL := Lib.hid (show (sgL true true p xs ys).length = m by rw [HV.out, signL_len, HY.out.1])
    rw [HL.out, HV.out]
    have HZc := Lib.hid hcz
    rw [hcz]
    clear hcz hly hny hall hp hn hsp hl0 hl1
    go_enter Try.func41, Try.ntmps41
    have c0 : (w.alloc (.cells #[.int .i64 p, .slice A n c] 28)).cell? ⟨w.heap.size, 0, none⟩ = some (.int .i64 p) := by simp [go_sem]
    have c1 : (w.alloc (.cells #[.int .i64 p, .slice A n c] 28)).cell? ⟨w.heap.size, 1, none⟩ = some (.slice A n c) := by simp [go_sem]
    have HW := Lib.hid (Below.refl (w.alloc (.cells #[.int .i64 p, .slice A n c] 28)).heap.size (w.alloc (.cells #[.int .i64 p, .slice A n c] 28)))
    have hb : Below (w.alloc (.cells #[.int .i64 p, .slice A n c] 28)).heap.size (w.alloc (.cells #[.int .i64 p, .slice A n c] 28)) ((w.alloc (.cells #[.int .i64 p, .slice A n c] 28)).alloc (.cells #[.slice B m d] 22)) := (Below.refl _ _).alloc (Nat.le_refl _) _
    go_wp2_with fail
    refine (impl_checkMultis p A _ n c 1 _ xs [ys] _ (HX.out.keep (H2.out.trans (hb.mono H2.out.size))) (Lists.mk1 _ _ (by simp) (HY.out.keep H2.out))).mono ?_
    rw [HZc.out]
    rintro e v ⟨rfl, hv⟩
    have hs1 : w.heap.size ≤ v.heap.size := (H2.out.trans ((below_then hb hv).mono H2.out.size)).size
    replace c0 := keep_cell (below_then hb hv) c0
    replace c1 := keep_cell (below_then hb hv) c1
    replace HW := Lib.hid (below_then (below_then HW.out hb) hv)
    clear hb hv
    go_wp2_with fail
    go_region_held3 (fun w' => w'.cell? ⟨w.heap.size, 0, none⟩ = some (.int .i64 p) ∧ w'.cell? ⟨w.heap.size, 1, none⟩ = some (.slice A n c) ∧ Ints w' A n xs ∧ Ints w' B m ys ∧ Below (w.alloc (.cells #[.int .i64 p, .slice A n c] 28)).heap.size (w.alloc (.cells #[.int .i64 p, .slice A n c] 28)) w')
      (first
        | exact ⟨c0, c1, Ints.drew (HX.out.keep (H2.out.trans (HW.out.mono H2.out.size))), Ints.drew (HY.out.keep (H2.out.trans (HW.out.mono H2.out.size))), HW.out.drew⟩
        | (go_split_ands; exact ⟨‹_›, ‹_›, ‹_›, ‹_›, ‹_›⟩)
        | (go_split_ands; exact ⟨keep_cell hbz ‹_›, keep_cell hbz ‹_›, Ints.keep ‹_› hbz, Ints.keep ‹_› hbz, below_then ‹_› hbz⟩)
        | go_keep)
      (first
        | (go_at_call 74; refine (Space_involute _ _ _ _ _ _ _ ys _ (by go_split_ands; assumption) hm0 hm64 h0 h1 HM1.out).mono ?_; rintro e vz ⟨CC2, qq2, rfl, ho2, hbz⟩; have hsz1 := hbz.size)
        | (go_at_call 76; refine (Space_reverse _ _ _ _ _ _ _ _ _ ho2.ints hm0 hm64 h0 h1 (signL_nums h0 HM1.out)).mono ?_; rintro e vy ⟨CC3, qq3, rfl, ho3, hbz⟩))
    rename_i hh
    obtain ⟨c0, c1, jq, mq0, hbw⟩ := hh
    replace HW := Lib.hid hbw
    clear hbw jq mq0
    have hsz2 : v.heap.size ≤ vz.heap.size := by simpa using hsz1
    have HO3 := Lib.hid (ho3.less (B' := w.heap.size) (by omega))
    clear ho3 ho2
    rw [sg_con HM1.out] at HO3
    go_wp2_with fail
    go_ret2
    exact ⟨CC3, qq3, rfl, HO3.out, (H2.out.trans (HW.out.mono H2.out.size))⟩
  · have HV := Lib.hid (show sgL true true p xs ys = [] by unfold sgL; rw [HN.out, if_neg hcz])
    rw [HV.out]
    have hc' : (codeS p xs (2 ^ n) [ys] == 0) = false := by simpa using hcz
    go_enter Try.func41, Try.ntmps41
    have c0 : (w.alloc (.cells #[.int .i64 p, .slice A n c] 28)).cell? ⟨w.heap.size, 0, none⟩ = some (.int .i64 p) := by simp [go_sem]
    have c1 : (w.alloc (.cells #[.int .i64 p, .slice A n c] 28)).cell? ⟨w.heap.size, 1, none⟩ = some (.slice A n c) := by simp [go_sem]
    have HW := Lib.hid (Below.refl (w.alloc (.cells #[.int .i64 p, .slice A n c] 28)).heap.size (w.alloc (.cells #[.int .i64 p, .slice A n c] 28)))
    have hb : Below (w.alloc (.cells #[.int .i64 p, .slice A n c] 28)).heap.size (w.alloc (.cells #[.int .i64 p, .slice A n c] 28)) ((w.alloc (.cells #[.int .i64 p, .slice A n c] 28)).alloc (.cells #[.slice B m d] 22)) := (Below.refl _ _).alloc (Nat.le_refl _) _
    go_wp2_with fail
    refine (impl_checkMultis p A _ n c 1 _ xs [ys] _ (HX.out.keep (H2.out.trans (hb.mono H2.out.size))) (Lists.mk1 _ _ (by simp) (HY.out.keep H2.out))).mono ?_
    rintro e v ⟨rfl, hv⟩
    have hs1 : w.heap.size ≤ v.heap.size := (H2.out.trans ((below_then hb hv).mono H2.out.size)).size
    replace c0 := keep_cell (below_then hb hv) c0
    replace c1 := keep_cell (below_then hb hv) c1
    replace HW := Lib.hid (below_then (below_then HW.out hb) hv)
    clear hb hv
    go_wp2_with fail
    go_ret2
    exact ⟨none, 0, rfl, Own.nil _ _, (H2.out.trans (HW.out.mono H2.out.size))⟩

end Go.Proofs.Ytincppklphahpaa
