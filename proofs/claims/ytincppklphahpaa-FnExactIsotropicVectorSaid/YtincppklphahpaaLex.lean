/- Contracts: the vectors in lexicographic order. Conditions stand in each theorem. -/
import Derived.Test.YtincppklphahpaaLexP
import Derived.Test.YtincppklphahpaaPair2
import Derived.Test.YtincppklphahpaaVec
import Derived.Test.YtincppklphahpaaBlade
import Derived.RegionTactic
import Derived.ChangeAlike
import Derived.BigQuiet
namespace Go.Proofs.Ytincppklphahpaa
open Go.RowKit
set_option linter.unusedVariables false
set_option linter.unusedSimpArgs false

theorem own_at {w : World} {B n b j : Nat} {x : Int} {xs : List Int} (h : Own B w (some ⟨b, 0, none⟩) n xs) (hj : xs[j]? = some x) : w.cell? ⟨b, j, none⟩ = some (.int .i64 x) ∧ w.frozen? ⟨b, j, none⟩ = false ∧ j < n ∧ B ≤ b := by
  have hl := h.1
  have hjl : j < xs.length := by
    rcases Nat.lt_or_ge j xs.length with h | h
    · exact h
    · rw [List.getElem?_eq_none h] at hj; cases hj
  obtain ⟨b', off', e, hB, _, hc, hf⟩ := h.2.2 (by omega)
  injection e with e
  injection e with e1 e2
  subst e1 e2
  have h1 := hc j x hj
  have h2 := hf j (by omega)
  rw [Nat.zero_add] at h1 h2
  exact ⟨h1, h2, by omega, hB⟩
theorem mid_at {pre z : List Int} {d : Int} {j : Nat} (h : pre.length = j) : ((pre ++ [d]) ++ z)[j]? = some d := by subst h; simp
theorem mid_set {pre z : List Int} {d e : Int} {j : Nat} (h : pre.length = j) : ((pre ++ [d]) ++ z).set j e = (pre ++ [e]) ++ z := by subst h; simp


set_option maxHeartbeats 1000000 in
theorem spec_l03Next {p : Int} {B n c b : Nat} {v : List Int} (w : World) (ho : Own B w (some ⟨b, 0, none⟩) n v) (h0 : 3 ≤ p) (h1 : p ≤ 13) (hn : numsB p v = true) (hn6 : n ≤ 6) :
    Calls Try.prog 100 #[.int .i64 p, .slice (some ⟨b, 0, none⟩) n c] w fun e w' => e = .returned (.bool (nxt p v).2) ∧ Own B w' (some ⟨b, 0, none⟩) n (nxt p v).1 ∧ Below B w w' := by
  have HO := Lib.hid ho
  have HL := Lib.hid ho.1
  have HNU := Lib.hid hn
  clear ho hn
  go_enter Try.func100, Try.ntmps100
  go_wp2
  go_loopw [5] (fun i wr => ∃ m : Nat, ∃ r : Int, m ≤ n ∧ i = .int .i64 r ∧ Hid (r = (m : Int) - 1) ∧ Hid (∃ pre suf, v = pre ++ suf ∧ pre.length = m ∧ (nxt p suf).2 = false ∧ Own B wr (some ⟨b, 0, none⟩) n (pre ++ (nxt p suf).1)) ∧ Below B w wr) (fun i _ => (intOf i + 1).toNat)
  case atStart => exact ⟨n, _, Nat.le_refl _, rfl, Lib.hid rfl, Lib.hid ⟨v, [], by simp, HL.out, rfl, by simpa [nxt] using HO.out⟩, Below.refl _ _⟩
  case round =>
    obtain ⟨m, r, hm, rfl, HR, HS, hbel⟩ := hrel
    have HB := Lib.hid hbel
    clear hbel
    by_cases hlt : 0 < m
    · obtain ⟨j, rfl⟩ : ∃ j, m = j + 1 := ⟨m - 1, by omega⟩
      obtain rfl : r = (j : Int) := by have := HR.out; omega
      obtain ⟨pre, suf, hv, hpl, hnx, how⟩ := HS.out
      obtain ⟨pr, d, rfl⟩ : ∃ pr d, pre = pr ++ [d] := by
        rcases List.eq_nil_or_concat pre with e | ⟨a, b, e⟩
        · subst e; simp at hpl
        · exact ⟨a, b, by rw [e, List.concat_eq_append]⟩
      have hprl : pr.length = j := by simp at hpl; exact hpl
      have hd := numB_true (numsB_at HNU.out (by rw [hv]; exact mid_at hprl))
      obtain ⟨hd0, hd1⟩ := hd
      obtain ⟨hc1, hf1, hjn, hBb⟩ := own_at how (mid_at hprl)
      have HV := Lib.hid hv
      have HPL := Lib.hid hprl
      have HNX := Lib.hid hnx
      have HOW := Lib.hid how
      have ho2 := how.set_ (j := j) hjn (d + 1)
      rw [Nat.zero_add, mid_set hprl] at ho2
      have HO2 := Lib.hid ho2
      clear hv hprl hnx how ho2 hpl HS
      have hji : (0 : Int) ≤ (j : Int) := by omega
      have hjn2 : (j : Int) < n := by omega
      by_cases hup : d + 1 < p
      · go_wp2
        go_ret
        refine ⟨?_, ?_, ?_⟩
        · have e := nxt_app (nxt_up HNX.out hup) pr
          rw [HV.out, List.append_assoc, List.singleton_append, e]; rfl
        · have e := nxt_app (nxt_up HNX.out hup) pr
          rw [HV.out, List.append_assoc, List.singleton_append, e]
          have := HO2.out
          rw [List.append_assoc, List.singleton_append] at this
          exact this
        · exact HB.out.setCell hBb _
      · have ho3 := HO2.out.set_ (j := j) hjn 0
        rw [Nat.zero_add, mid_set HPL.out] at ho3
        have HO3 := Lib.hid ho3
        clear ho3
        go_wp2
        go_roundw
        case rel =>
          refine ⟨j, _, by omega, rfl, Lib.hid rfl, Lib.hid ⟨pr, d :: suf, ?_, HPL.out, ?_, ?_⟩, ?_⟩
          · rw [HV.out, List.append_assoc]; rfl
          · rw [nxt_over HNX.out hup]
          · rw [nxt_over HNX.out hup]
            have := HO3.out
            rw [List.append_assoc, List.singleton_append] at this
            first | exact this | simpa [go_sem] using this
          · first | exact (HB.out.setCell hBb _).setCell hBb _ | exact HB.out.setCell hBb _
        case measure => simp [intOf]
    · obtain rfl : m = 0 := by omega
      obtain rfl : r = -1 := by have := HR.out; omega
      go_wp2
      go_ret
      obtain ⟨pre, suf, hv, hpl, hnx, how⟩ := HS.out
      have hpn : pre = [] := List.length_eq_zero_iff.1 hpl
      subst hpn
      rw [List.nil_append] at hv how
      subst hv
      exact ⟨by rw [hnx]; rfl, how, HB.out⟩

theorem lex_make {m : Nat} (hm : m ≤ 1000) (w : World) : (Instr.makeSlice 22 (.int .i64 m) (.int .i64 m)).run Try.prog w = .ok (.slice (some ⟨w.heap.size, 0, none⟩) m m) (w.alloc (.cells (madeCells #[.int .i64 0] m) 2)) :=
  run_make_row' (P := Try.prog) 22 2 (.int .i64 0) 8 Try.underlying22 int_info rfl .i64 .i64 m (by omega) (by omega) w
def rdL (w : World) (b n : Nat) : List Int := (List.range n).map fun j => match w.cell? ⟨b, j, none⟩ with | some (.int _ x) => x | _ => 0
theorem rdL_own {w : World} {B n b : Nat} {v : List Int} (h : Own B w (some ⟨b, 0, none⟩) n v) : rdL w b n = v := by
  have hl := h.1
  refine List.ext_getElem (by simp [rdL, hl]) fun j h1 h2 => ?_
  have hc := (own_at h (List.getElem?_eq_getElem h2)).1
  simp [rdL, hc]
theorem isoR_start (p : Int) (xs : List Int) {n : Nat} (h : xs.length = n) : srch p xs (p ^ n).toNat (List.replicate n 0) = isoR p xs := by subst h; rfl
theorem lex_zero {p : Int} (hp : 3 ≤ p) (n : Nat) : numsB p (List.replicate n 0) = true := List.all_eq_true.2 fun x hx => by
  have := (List.mem_replicate.1 hx).2
  subst this
  exact numB_iff.2 ⟨by omega, by omega⟩
theorem pow_pos3 {p : Int} (hp : 3 ≤ p) : ∀ n : Nat, 0 < p ^ n
  | 0 => by simp
  | n + 1 => by rw [Int.pow_succ]; exact Int.mul_pos (pow_pos3 hp n) (by omega)


set_option maxHeartbeats 1000000 in
theorem spec_l03Isotropic (p : Int) (A : Option Addr) (n c : Nat) (xs : List Int) (w : World) (hx : Ints w A n xs) (h0 : 3 ≤ p) (h1 : p ≤ 13) (hn : numsB p xs = true) (hl0 : 1 ≤ n) (hl1 : n ≤ 6) :
    Calls Try.prog 78 #[.agg #[.int .i64 p, .slice A n c]] w fun e w' => ∃ C m q, e = .returned (.slice C m q) ∧ ((m = 0 ∧ isoR p xs = none ∧ C = none) ∨ (m = n ∧ ∃ v, isoR p xs = some v ∧ Own w.heap.size w' C n v)) ∧ Below w.heap.size w w' := by
  have HX := Lib.hid hx
  have hm := hx.2.1
  have HN := Lib.hid hx.1
  clear hx
  unfold maxLen at hm
  have H2 := Lib.hid (show Below w.heap.size w (w.alloc (.cells #[.int .i64 p, .slice A n c] 28)) from (Below.refl _ _).alloc (Nat.le_refl _) _)
  have HNX := Lib.hid hn
  clear hn
  have hmk := lex_make (show n ≤ 1000 by omega)
  go_enter Try.func78, Try.ntmps78
  have c0 : (w.alloc (.cells #[.int .i64 p, .slice A n c] 28)).cell? ⟨w.heap.size, 0, none⟩ = some (.int .i64 p) := by simp [go_sem]
  have c1 : (w.alloc (.cells #[.int .i64 p, .slice A n c] 28)).cell? ⟨w.heap.size, 1, none⟩ = some (.slice A n c) := by simp [go_sem]
  have HW := Lib.hid (Below.refl (w.alloc (.cells #[.int .i64 p, .slice A n c] 28)).heap.size (w.alloc (.cells #[.int .i64 p, .slice A n c] 28)))
  have HZ := Lib.hid (own_zeros (w.alloc (.cells #[.int .i64 p, .slice A n c] 28)) n (by unfold maxLen; omega) _ rfl 2 (w.heap.size + 1) (by simp))
  have hsz : (w.alloc (.cells #[.int .i64 p, .slice A n c] 28)).heap.size = w.heap.size + 1 := by simp
  rw [hsz] at HZ
  have n0 := keep_cell (below_alloc (w.alloc (.cells #[.int .i64 p, .slice A n c] 28)) (.cells (madeCells #[.int .i64 0] n) 2)) c0
  have n1 := keep_cell (below_alloc (w.alloc (.cells #[.int .i64 p, .slice A n c] 28)) (.cells (madeCells #[.int .i64 0] n) 2)) c1
  clear hsz
  go_wp2
  go_loopw [11] (fun _ wr => Hid (∃ v : List Int, ∃ f : Nat, Own (w.heap.size + 1) wr (some ⟨w.heap.size + 1, 0, none⟩) n v ∧ srch p xs f v = isoR p xs ∧ (f : Int) + rk p v = p ^ n ∧ numsB p v = true) ∧ wr.cell? ⟨w.heap.size, 0, none⟩ = some (.int .i64 p) ∧ wr.cell? ⟨w.heap.size, 1, none⟩ = some (.slice A n c) ∧ Below w.heap.size w wr) (fun _ wr => (p ^ n - rk p (rdL wr (w.heap.size + 1) n)).toNat)
  case atStart => exact ⟨Lib.hid ⟨_, _, HZ.out, isoR_start p xs HN.out, by rw [rk_zero, Int.toNat_of_nonneg (Int.le_of_lt (pow_pos3 h0 n))]; omega, lex_zero h0 n⟩, n0, n1, H2.out.alloc H2.out.size _⟩
  case round =>
    clear c0 c1 n0 n1 HW HZ hmk
    obtain ⟨HV, c0, c1, hbel⟩ := hrel
    have HB := Lib.hid hbel
    clear hbel
    obtain ⟨v, f, hov, hsr, hrk, hnv⟩ := HV.out
    have HO := Lib.hid hov
    have HSR := Lib.hid hsr
    have HRK := Lib.hid hrk
    have HNV := Lib.hid hnv
    have hrd := rdL_own hov
    have HRD := Lib.hid hrd
    clear hov hsr hrk hnv hrd HV
    go_wp2_with fail
    refine (spec_l03Next _ HO.out h0 h1 HNV.out hl1).mono ?_
    cases hnx : (nxt p v).2 with
    | false =>
      have HF := Lib.hid hnx
      clear hnx
      rintro e w2 ⟨rfl, ho2, hb2⟩
      have HB2 := Lib.hid ((HB.out.mono (Nat.le_refl _)).trans (hb2.mono (Nat.le_succ _)))
      clear hb2 ho2
      go_wp2_with fail
      go_ret
      exact ⟨none, 0, 0, rfl, Or.inl ⟨rfl, by rw [← HSR.out]; exact srch_end HF.out, rfl⟩, HB2.out⟩
    | true =>
      have HF := Lib.hid hnx
      clear hnx
      rintro e w2 ⟨rfl, ho2, hb2⟩
      have HB2 := Lib.hid ((HB.out.mono (Nat.le_refl _)).trans (hb2.mono (Nat.le_succ _)))
      have d0 := (hb2.cell (p := ⟨w.heap.size, 0, none⟩) (Nat.lt_succ_self _)).trans c0
      have d1 := (hb2.cell (p := ⟨w.heap.size, 1, none⟩) (Nat.lt_succ_self _)).trans c1
      clear hb2 c0 c1
      have HO2 := Lib.hid ho2
      have HNV2 := Lib.hid (nxt_nums (show 2 ≤ p by omega) v HNV.out)
      have hbd := (rk_bounds (show 2 ≤ p by omega) v HNV.out).2
      rw [HO.out.1] at hbd
      obtain ⟨g, rfl⟩ : ∃ g, f = g + 1 := ⟨f - 1, by have := HRK.out; omega⟩
      have hrk2 := (rk_nxt (show 2 ≤ p by omega) v HNV.out).1 HF.out
      have HRK2 := Lib.hid hrk2
      have HBD := Lib.hid hbd
      clear ho2 hbd hrk2
      obtain ⟨v2, HV2⟩ : ∃ v2, Hid ((nxt p v).1 = v2) := ⟨_, Lib.hid rfl⟩
      rw [HV2.out] at HO2 HNV2 HRK2
      obtain ⟨y, HY⟩ : ∃ y, Hid (pairN p xs v2 v2 = y) := ⟨_, Lib.hid rfl⟩
      go_wp2_with fail
      refine (spec_l03Pair _ _ _ _ n _ _ _ xs v2 v2 _ (HX.out.keep HB2.out) HO2.out.ints HO2.out.ints h0 h1 HNX.out HNV2.out HNV2.out hl1).mono ?_
      rw [HY.out]
      rintro e w3 ⟨rfl, hb⟩
      replace d0 := keep_cell hb d0
      replace d1 := keep_cell hb d1
      replace HO2 := Lib.hid (HO2.out.keep hb)
      replace HB2 := Lib.hid (below_then HB2.out hb)
      clear hb
      by_cases hy : y = 0
      · have HYZ := Lib.hid hy
        have hyb : (y == 0) = true := by simp; exact hy
        clear hy
        go_wp2_with fail
        go_ret
        exact ⟨_, n, _, rfl, Or.inr ⟨rfl, v2, by rw [← HSR.out, srch_hit HF.out (by rw [HV2.out, HY.out]; exact HYZ.out), HV2.out], HO2.out.less (by omega)⟩, HB2.out⟩
      · have HYZ := Lib.hid hy
        have hyb : (y == 0) = false := by simp; exact hy
        clear hy
        go_wp2_with fail
        go_roundw
        case rel => exact ⟨Lib.hid ⟨v2, g, HO2.out, by rw [← HSR.out, srch_on HF.out (by rw [HV2.out, HY.out]; exact HYZ.out), HV2.out], by have := HRK.out; have := HRK2.out; omega, HNV2.out⟩, d0, d1, HB2.out⟩
        case measure =>
          rw [rdL_own HO2.out, HRD.out, HRK2.out]
          have := HBD.out
          omega

theorem srch_len {p : Int} {xs : List Int} : ∀ (f : Nat) (v : List Int) {r : List Int}, srch p xs f v = some r → r.length = v.length
  | 0, v, r, h => by cases h
  | f + 1, v, r, h => by
    rw [srch] at h
    split at h
    · split at h
      · injection h with h
        subst h
        exact nxt_len p v
      · exact (srch_len f _ h).trans (nxt_len p v)
    · cases h
theorem isoR_len {p : Int} {xs r : List Int} (h : isoR p xs = some r) : r.length = xs.length := by
  have := srch_len _ _ h
  simpa using this
def ivL (p : Int) (xs : List Int) : List Int := if spaceB p xs = true then (isoR p xs).getD [] else []
def ivC (p : Int) (xs : List Int) : Int := if spaceB p xs = true then (if (isoR p xs).isSome = true then 0 else 4) else 1
theorem ivL_len (p : Int) (xs : List Int) : (ivL p xs).length ≤ 6 := by
  unfold ivL
  split
  · obtain ⟨_, _, h, _⟩ := spaceB_true ‹_›
    cases e : isoR p xs with
    | none => exact Nat.zero_le _
    | some v => show v.length ≤ 6; rw [isoR_len e]; exact h
  · exact Nat.zero_le _


theorem spec_IsotropicVector (p : Int) (A : Option Addr) (n c : Nat) (xs : List Int) (w : World) (hx : Ints w A n xs) :
    Calls Try.prog 42 #[.agg #[.int .i64 p, .slice A n c]] w fun e w' => ∃ C q, e = .returned (.tuple #[.slice C (ivL p xs).length q, .int .i64 (ivC p xs)]) ∧ Own w.heap.size w' C (ivL p xs).length (ivL p xs) ∧ Below w.heap.size w w' := by
  have HX := Lib.hid hx
  have hm := hx.2.1
  have HN := Lib.hid hx.1
  clear hx
  unfold maxLen at hm
  have H2 := Lib.hid (show Below w.heap.size w (w.alloc (.cells #[.int .i64 p, .slice A n c] 28)) from (Below.refl _ _).alloc (Nat.le_refl _) _)
  by_cases hs : spaceB p xs = true
  rotate_left
  · have hs' : spaceB p xs = false := by simpa using hs
    have HS := Lib.hid hs'
    have HL := Lib.hid (show ivL p xs = [] from if_neg hs)
    have HC := Lib.hid (show ivC p xs = 1 from if_neg hs)
    rw [HL.out, HC.out]
    clear hs hs'
    go_enter Try.func42, Try.ntmps42
    have c0 : (w.alloc (.cells #[.int .i64 p, .slice A n c] 28)).cell? ⟨w.heap.size, 0, none⟩ = some (.int .i64 p) := by simp [go_sem]
    have c1 : (w.alloc (.cells #[.int .i64 p, .slice A n c] 28)).cell? ⟨w.heap.size, 1, none⟩ = some (.slice A n c) := by simp [go_sem]
    have HW := Lib.hid (Below.refl (w.alloc (.cells #[.int .i64 p, .slice A n c] 28)).heap.size (w.alloc (.cells #[.int .i64 p, .slice A n c] 28)))
    go_wp2_with fail
    refine (spec_l03Is _ _ _ _ xs _ (HX.out.keep (H2.out.trans (HW.out.mono H2.out.size)))).mono ?_
    rw [HS.out]
    rintro e v ⟨rfl, hb⟩
    replace c0 := keep_cell hb c0
    replace c1 := keep_cell hb c1
    replace HW := Lib.hid (below_then HW.out hb)
    clear hb
    go_wp2_with fail
    go_ret2
    exact ⟨none, 0, rfl, ⟨rfl, by unfold maxLen; omega, fun h => by cases h⟩, (H2.out.trans (HW.out.mono H2.out.size))⟩
  obtain ⟨hp, hl0, hl1, hn⟩ := spaceB_true hs
  rw [HN.out] at hl0 hl1
  have h0 := prime_lo hp
  have h1 := prime_hi hp
  have HNU := Lib.hid hn
  have HS := Lib.hid hs
  clear hp hn
  cases hr : isoR p xs with
  | none =>
    have HL := Lib.hid (show ivL p xs = [] from (if_pos hs).trans (by rw [hr]; rfl))
    have HC := Lib.hid (show ivC p xs = 4 from (if_pos hs).trans (by rw [hr]; rfl))
    rw [HL.out, HC.out]
    have HR := Lib.hid hr
    clear hs hr
    go_enter Try.func42, Try.ntmps42
    have c0 : (w.alloc (.cells #[.int .i64 p, .slice A n c] 28)).cell? ⟨w.heap.size, 0, none⟩ = some (.int .i64 p) := by simp [go_sem]
    have c1 : (w.alloc (.cells #[.int .i64 p, .slice A n c] 28)).cell? ⟨w.heap.size, 1, none⟩ = some (.slice A n c) := by simp [go_sem]
    have HW := Lib.hid (Below.refl (w.alloc (.cells #[.int .i64 p, .slice A n c] 28)).heap.size (w.alloc (.cells #[.int .i64 p, .slice A n c] 28)))
    go_wp2_with fail
    refine (spec_l03Is _ _ _ _ xs _ (HX.out.keep (H2.out.trans (HW.out.mono H2.out.size)))).mono ?_
    rw [HS.out]
    rintro e v ⟨rfl, hb⟩
    replace c0 := keep_cell hb c0
    replace c1 := keep_cell hb c1
    replace HW := Lib.hid (below_then HW.out hb)
    clear hb
    go_wp2_with fail
    refine (spec_l03Isotropic _ _ _ _ xs _ (HX.out.keep (H2.out.trans (HW.out.mono H2.out.size))) h0 h1 HNU.out hl0 hl1).mono ?_
    rintro e v ⟨C, m, q, rfl, hrr, hb⟩
    obtain ⟨rfl, rfl⟩ : m = 0 ∧ C = none := by
      rcases hrr with ⟨h1, h2, h3⟩ | ⟨h1, u, h2, h3⟩
      · exact ⟨h1, h3⟩
      · rw [HR.out] at h2; cases h2
    clear hrr
    replace c0 := keep_cell hb c0
    replace c1 := keep_cell hb c1
    replace HW := Lib.hid (below_then HW.out hb)
    clear hb
    go_wp2_with fail
    go_ret2
    exact ⟨none, 0, rfl, ⟨rfl, by unfold maxLen; omega, fun h => by cases h⟩, (H2.out.trans (HW.out.mono H2.out.size))⟩
  | some u =>
    have HL := Lib.hid (show ivL p xs = u from (if_pos hs).trans (by rw [hr]; rfl))
    have HC := Lib.hid (show ivC p xs = 0 from (if_pos hs).trans (by rw [hr]; rfl))
    have HUL := Lib.hid ((isoR_len hr).trans HN.out)
    rw [HL.out, HC.out, HUL.out]
    have HR := Lib.hid hr
    clear hs hr
    go_enter Try.func42, Try.ntmps42
    have c0 : (w.alloc (.cells #[.int .i64 p, .slice A n c] 28)).cell? ⟨w.heap.size, 0, none⟩ = some (.int .i64 p) := by simp [go_sem]
    have c1 : (w.alloc (.cells #[.int .i64 p, .slice A n c] 28)).cell? ⟨w.heap.size, 1, none⟩ = some (.slice A n c) := by simp [go_sem]
    have HW := Lib.hid (Below.refl (w.alloc (.cells #[.int .i64 p, .slice A n c] 28)).heap.size (w.alloc (.cells #[.int .i64 p, .slice A n c] 28)))
    go_wp2_with fail
    refine (spec_l03Is _ _ _ _ xs _ (HX.out.keep (H2.out.trans (HW.out.mono H2.out.size)))).mono ?_
    rw [HS.out]
    rintro e v ⟨rfl, hb⟩
    replace c0 := keep_cell hb c0
    replace c1 := keep_cell hb c1
    replace HW := Lib.hid (below_then HW.out hb)
    clear hb
    go_wp2_with fail
    refine (spec_l03Isotropic _ _ _ _ xs _ (HX.out.keep (H2.out.trans (HW.out.mono H2.out.size))) h0 h1 HNU.out hl0 hl1).mono ?_
    rintro e v ⟨C, m, q, rfl, hrr, hb⟩
    obtain ⟨rfl, HOU⟩ : m = n ∧ Hid (Own w.heap.size v C n u) := by
      rcases hrr with ⟨h1, h2, h3⟩ | ⟨h1, u', h2, h3⟩
      · rw [HR.out] at h2; cases h2
      · rw [HR.out] at h2
        injection h2 with h2
        subst h2
        exact ⟨h1, Lib.hid (h3.less (H2.out.trans (HW.out.mono H2.out.size)).size)⟩
    clear hrr
    replace c0 := keep_cell hb c0
    replace c1 := keep_cell hb c1
    replace HW := Lib.hid (below_then HW.out hb)
    clear hb
    have hmz : ((m : Int) == 0) = false := by simp; omega
    go_wp2_with fail
    go_ret2
    exact ⟨C, q, rfl, HOU.out, (H2.out.trans (HW.out.mono H2.out.size))⟩

end Go.Proofs.Ytincppklphahpaa
