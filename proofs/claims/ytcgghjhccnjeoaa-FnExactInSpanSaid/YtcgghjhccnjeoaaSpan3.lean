/- Contracts: SpanBasis of both. Conditions stand in each theorem. -/
import Derived.Test.YtcgghjhccnjeoaaSpan2
namespace Go.Proofs.Ytcgghjhccnjeoaa
open Go.RowKit
set_option linter.unusedVariables false
set_option linter.unusedSimpArgs false

def spnL (p : Int) (vs : List (List Int)) : List (List Int) := if spnB p vs then basisN p vs else []
def spnC (p : Int) (vs : List (List Int)) : Int := if spnB p vs then 0 else 1
theorem spn_yes {p : Int} {vs : List (List Int)} (h : spnB p vs = true) : spnL p vs = basisN p vs ∧ spnC p vs = 0 := by
  unfold spnL spnC; rw [if_pos h, if_pos h]; exact ⟨rfl, rfl⟩
theorem spn_no {p : Int} {vs : List (List Int)} (h : spnB p vs = false) : spnL p vs = [] ∧ spnC p vs = 1 := by
  unfold spnL spnC; rw [if_neg (by rw [h]; exact Bool.false_ne_true), if_neg (by rw [h]; exact Bool.false_ne_true)]; exact ⟨rfl, rfl⟩

theorem spn_parts {p : Int} {vs : List (List Int)} (h : spnB p vs = true) : primeB p = true ∧ tblB p vs = true := by
  unfold spnB at h; rwa [Bool.and_eq_true] at h

/-- a table has some row length n: its own, or 1 where it has no rows -/
theorem tbl_n {p : Int} {vs : List (List Int)} (h : tblB p vs = true) : vs.length ≤ 16 ∧ ∃ n, 0 < n ∧ n ≤ 16 ∧ TabP p n vs ∧ (0 < vs.length → (rowAt vs 0).length = n) := by
  obtain ⟨h1, h2, h3⟩ := tblB_true h
  refine ⟨h1, ?_⟩
  by_cases h0 : 0 < vs.length
  · exact ⟨_, (h3 h0).1, (h3 h0).2, h2, fun _ => rfl⟩
  · obtain rfl : vs = [] := List.eq_nil_of_length_eq_zero (by omega)
    exact ⟨1, by omega, by omega, fun r hr => absurd hr (by simp), fun h => absurd h (by simp)⟩

theorem preL_le {vs : List (List Int)} {n : Nat} (h : ∀ r ∈ vs, r.length ≤ n) (k : Nat) : preL vs k ≤ k * n := by
  induction k with
  | zero => simp [preL]
  | succ k ih =>
    have hr : (rowAt vs k).length ≤ n := by
      by_cases hk : k < vs.length
      · exact h _ (List.mem_of_getElem? (rowAt_get hk))
      · unfold rowAt
        rw [List.getElem?_eq_none (by omega)]
        exact Nat.zero_le _
    show preL vs k + _ ≤ _
    rw [Nat.succ_mul]
    omega

theorem spnL_small (p : Int) (vs : List (List Int)) : (spnL p vs).length ≤ 16 ∧ preL (spnL p vs) (spnL p vs).length ≤ 256 := by
  cases h : spnB p vs with
  | false => rw [(spn_no h).1]; exact ⟨Nat.zero_le _, Nat.zero_le _⟩
  | true =>
    rw [(spn_yes h).1]
    obtain ⟨h1, n, hn0, hn1, ht, _⟩ := tbl_n (spn_parts h).2
    have hp := prime_lo (spn_parts h).1
    have h2 := basisN_le p vs
    have h3 := preL_le (vs := basisN p vs) (n := n) (fun r hr => Nat.le_of_eq (basisN_tab (by omega) ht r hr).1) (basisN p vs).length
    refine ⟨by omega, Nat.le_trans h3 ?_⟩
    exact Nat.le_trans (Nat.mul_le_mul (Nat.le_trans h2 h1) hn1) (by omega)

theorem span_LR {B d n : Nat} {w : World} {K : Option Addr} {rows : List (List Int)} (hd : rows.length = d) (hd2 : d ≤ 16) (h : 0 < d → ∃ g A c, K = some ⟨g, 0, none⟩ ∧ Tab B w g d n rows A c ∧ Dst d A) : LR B w.heap.size w K d rows :=
  ⟨hd, by omega, Nat.le_refl _, fun h0 => by
    obtain ⟨g, A, c, e, h1, h2⟩ := h h0
    exact ⟨g, A, c, e, h1.GT h2⟩⟩

theorem GT.wide {lo lo' hi g m : Nat} {w : World} {rows : List (List Int)} {A : Nat → Option Addr} {c : Nat → Nat} (h : GT lo hi w g m rows A c) (hl : lo' ≤ lo) : GT lo' hi w g m rows A c :=
  ⟨h.len, Nat.le_trans hl h.gl, h.gh, h.hw, h.cell, fun j hj => (h.own j hj).wide hl (Nat.le_refl _) h.hw, h.ne, h.dst⟩
theorem LR.wide {lo lo' hi m : Nat} {w : World} {rows : List (List Int)} {L : Option Addr} (h : LR lo hi w L m rows) (hl : lo' ≤ lo) : LR lo' hi w L m rows :=
  ⟨h.1, h.2.1, h.2.2.1, fun hm => by
    obtain ⟨g, A, c, e, h1⟩ := h.2.2.2 hm
    exact ⟨g, A, c, e, h1.wide hl⟩⟩

theorem impl_SpanBasis (p : Int) (L : Option Addr) (m c : Nat) (vs : List (List Int)) (w : World) (hl : LL w L m vs) :
    Calls Try.prog 10 #[.int .i64 p, .slice L m c] w fun e w' => ∃ K q, e = .returned (.tuple #[.slice K (spnL p vs).length q, .int .i64 (spnC p vs)]) ∧ LR w.heap.size w'.heap.size w' K (spnL p vs).length (spnL p vs) ∧ Below w.heap.size w w' := by
  have HL := Lib.hid hl
  clear hl
  cases hp : primeB p with
  | false =>
    have HP := Lib.hid hp
    obtain ⟨e1, e2⟩ := spn_no (p := p) (vs := vs) (by unfold spnB; rw [hp]; rfl)
    rw [e1, e2]
    clear hp e1 e2
    go_enter Try.func10, Try.ntmps10
    go_wp2_with fail
    refine (impl_IsPrime _ _).mono ?_
    rw [HP.out]
    rintro e w' ⟨rfl, rfl⟩
    go_wp2_with fail
    go_ret2
    exact ⟨_, _, rfl, LR.nil _ _ _, Below.refl _ _⟩
  | true =>
    have h0 := prime_lo hp
    have h1 := prime_hi hp
    have HP := Lib.hid hp
    cases ht : tblB p vs with
    | false =>
      have HT := Lib.hid ht
      obtain ⟨e1, e2⟩ := spn_no (p := p) (vs := vs) (by unfold spnB; rw [hp, ht]; rfl)
      rw [e1, e2]
      clear hp e1 e2 ht
      go_enter Try.func10, Try.ntmps10
      go_wp2_with fail
      refine (impl_IsPrime _ _).mono ?_
      rw [HP.out]
      rintro e w' ⟨rfl, rfl⟩
      go_wp2_with fail
      refine (field_isTable p L m c vs _ HL.out (by omega) h1).mono ?_
      rw [HT.out]
      rintro e w' ⟨rfl, rfl⟩
      go_wp2_with fail
      go_ret2
      exact ⟨_, _, rfl, LR.nil _ _ _, Below.refl _ _⟩
    | true =>
      have HT := Lib.hid ht
      obtain ⟨e1, e2⟩ := spn_yes (p := p) (vs := vs) (by unfold spnB; rw [hp, ht]; rfl)
      rw [e1, e2]
      obtain ⟨k1, n, k2, k3, k4, k5⟩ := tbl_n ht
      rw [HL.out.1] at k1
      have HN := Lib.hid k4
      have HLi := Lib.hid (HL.out.lists (by omega))
      have hle := basisN_le p vs
      rw [HL.out.1] at hle
      obtain ⟨d, HD⟩ : ∃ d, Hid ((basisN p vs).length = d) := ⟨_, Lib.hid rfl⟩
      rw [HD.out] at hle ⊢
      clear hp e1 e2 ht k4 k5
      go_enter Try.func10, Try.ntmps10
      go_wp2_with fail
      refine (impl_IsPrime _ _).mono ?_
      rw [HP.out]
      rintro e w' ⟨rfl, rfl⟩
      go_wp2_with fail
      refine (field_isTable p L m c vs _ HL.out (by omega) h1).mono ?_
      rw [HT.out]
      rintro e w' ⟨rfl, rfl⟩
      go_wp2_with fail
      refine (field_basis p L m c n vs _ HLi.out HN.out HP.out k2 (by omega) (by omega)).mono ?_
      rw [HD.out]
      rintro e w' ⟨K, q, rfl, hq, htab, hb⟩
      have HTab := Lib.hid htab
      have HB := Lib.hid hb
      clear htab hb
      go_wp2_with fail
      go_ret2
      exact ⟨_, _, rfl, span_LR HD.out (by omega) (fun h => HTab.out (by omega)), HB.out⟩

theorem spec_SpanBasis (p : Int) (L : Option Addr) (m c : Nat) (vs : List (List Int)) (w : World) (hl : LL w L m vs) :
    Calls Try.prog 8 #[.int .i64 p, .slice L m c] w fun e w' => ∃ K q, e = .returned (.tuple #[.slice K (spnL p vs).length q, .int .i64 (spnC p vs)]) ∧ LR w.heap.size w'.heap.size w' K (spnL p vs).length (spnL p vs) ∧ Below w.heap.size w w' := by
  have HL := Lib.hid hl
  clear hl
  cases hs : spnB p vs with
  | false =>
    have HS := Lib.hid hs
    obtain ⟨e1, e2⟩ := spn_no hs
    rw [e1, e2]
    clear hs e1 e2
    go_enter Try.func8, Try.ntmps8
    go_wp2_with fail
    refine (spec_l02List p L m c vs _ HL.out).mono ?_
    rw [HS.out]
    rintro e w1 ⟨rfl, hb⟩
    have HB := Lib.hid hb
    have hsz := hb.size
    clear hb
    go_wp2_with fail
    go_ret2
    exact ⟨_, _, rfl, ⟨rfl, by simp, Nat.le_refl _, fun h => absurd h (by simp)⟩, HB.out⟩
  | true =>
    have HS := Lib.hid hs
    obtain ⟨e1, e2⟩ := spn_yes hs
    rw [e1, e2]
    obtain ⟨hp, ht⟩ := spn_parts hs
    have hp1 := prime_lo hp
    have HP := Lib.hid hp
    obtain ⟨k1, n, k2, k3, k4, k5⟩ := tbl_n ht
    rw [HL.out.1] at k1 k5
    have HN := Lib.hid k4
    have hle := basisN_le p vs
    rw [HL.out.1] at hle
    have HBt := Lib.hid (basisN_tab (by omega) k4)
    have HE := Lib.hid (show 0 < m → basisN p vs = (colsS p vs n).1.take (basisN p vs).length from fun h => by
      have e := basisN_len p vs
      rw [k5 h] at e
      rw [e]
      exact basisN_end (k5 h) (Nat.le_refl _) (Or.inl rfl))
    obtain ⟨d, HD⟩ : ∃ d, Hid ((basisN p vs).length = d) := ⟨_, Lib.hid rfl⟩
    rw [HD.out] at hle HE ⊢
    clear hs e1 e2 ht hp k4 k5
    go_enter Try.func8, Try.ntmps8
    go_wp2_with fail
    refine (spec_l02List p L m c vs _ HL.out).mono ?_
    rw [HS.out]
    rintro e w1 ⟨rfl, hb⟩
    have HB := Lib.hid hb
    have hsz1 := hb.size
    have HLi := Lib.hid ((HL.out.keep hb).lists (by omega))
    clear hb
    go_wp2_with fail
    refine (spec_l02Basis p L m c n vs _ HLi.out HN.out HP.out k2 (by omega) (by omega)).mono ?_
    rw [HD.out]
    rintro e w2 ⟨K, q, rfl, htab, hb⟩
    have HB2 := Lib.hid (below_then HB.out hb)
    have hsz2 := hb.size
    have HLk := Lib.hid (show Lists w2 K d (basisN p vs) from by
      by_cases h0 : 0 < d
      · obtain ⟨g, A, c', rfl, h1, h2⟩ := htab (by omega)
        have h3 := h1.take hle
        rw [← HE.out (by omega)] at h3
        exact (Tab.LL (q := 0) h3 (by unfold maxLen; omega)).lists (by omega)
      · obtain rfl : d = 0 := by omega
        rw [List.eq_nil_of_length_eq_zero HD.out]
        exact (LL.nil _ _).lists (by omega))
    clear hb htab
    go_wp2_with fail
    refine (spec_l01Own2 K d q n (basisN p vs) _ HLk.out (fun v hv => (HBt.out v hv).1) k2 (by omega)).mono ?_
    rintro e w3 ⟨K2, q2, rfl, hq, htab, hb⟩
    have HLR := Lib.hid (span_LR HD.out (by omega) htab)
    have HB3 := Lib.hid (below_then HB2.out hb)
    clear hb htab
    go_wp2_with fail
    go_ret2
    exact ⟨_, _, rfl, HLR.out.wide (by omega), HB3.out⟩
end Go.Proofs.Ytcgghjhccnjeoaa
