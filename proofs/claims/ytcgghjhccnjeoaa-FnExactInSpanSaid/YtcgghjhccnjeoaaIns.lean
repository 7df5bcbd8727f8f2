/- Contracts: InSpan of both. Conditions stand in each theorem. -/
import Derived.Test.YtcgghjhccnjeoaaSolve
namespace Go.Proofs.Ytcgghjhccnjeoaa
open Go.RowKit
set_option linter.unusedVariables false
set_option linter.unusedSimpArgs false

def insB (p : Int) (vs : List (List Int)) (v : List Int) : Bool := decide (0 < vs.length) && (decide (v.length = (rowAt vs 0).length) && numsB p v)
def insV (p : Int) (vs : List (List Int)) (v : List Int) : Bool := if spnB p vs then (if insB p vs v then inspB p vs v else false) else false
def insC (p : Int) (vs : List (List Int)) (v : List Int) : Int := if spnB p vs then (if insB p vs v then 0 else 2) else 1
theorem ins_bad {p : Int} {vs : List (List Int)} {v : List Int} (h : spnB p vs = false) : insV p vs v = false ∧ insC p vs v = 1 := by
  unfold insV insC; rw [h]; exact ⟨rfl, rfl⟩
theorem ins_range {p : Int} {vs : List (List Int)} {v : List Int} (h : spnB p vs = true) (h2 : insB p vs v = false) : insV p vs v = false ∧ insC p vs v = 2 := by
  unfold insV insC; rw [h, h2]; exact ⟨rfl, rfl⟩
theorem ins_ok {p : Int} {vs : List (List Int)} {v : List Int} (h : spnB p vs = true) (h2 : insB p vs v = true) : insV p vs v = inspB p vs v ∧ insC p vs v = 0 := by
  unfold insV insC; rw [h, h2]; exact ⟨rfl, rfl⟩

/-- a slice that came in, pushed behind rows of the call's own: as lists to be read -/
theorem RowsC.lists_push {B k n c q : Nat} {w w1 : World} {E : TypeId} {o : Value} {vs : List (List Int)} {cs : List Value} {A L : Option Addr} {v : List Int} (h : RowsC B w E o k vs cs) (hv : Ints w A n v)
    (hA : ∀ a, A = some a → o.ownBlock ≠ some a.block) (hg : w.grownBy w1 o.ownBlock) (hown : w1.ownsRow B E 1 (.slice L (k + 1) q) (k + 1) (cs ++ [.slice A n c])) (hk : k + 1 ≤ 1000) : Lists w1 L (k + 1) (vs ++ [v]) := by
  have hlen := h.clen
  refine ⟨by rw [List.length_append, h.len]; rfl, hk, fun _ => ?_⟩
  rcases hown.2 with ⟨e, h0⟩ | ⟨g, cap, cur, e, hgB, hh, hn, hc, hs, ht⟩
  · omega
  · injection e with e1 _ e3
    subst e1 e3
    refine ⟨g, 0, rfl, hown.lt g (by simp [Value.ownBlock]) |>.2, fun j u hj => ?_⟩
    have hjl : j < (vs ++ [v]).length := (List.getElem?_eq_some_iff.1 hj).1
    rw [List.length_append, h.len] at hjl
    simp at hjl
    rw [Nat.zero_add, hown.cellAt j (by omega)]
    by_cases hjk : j < vs.length
    · rw [List.getElem?_append_left hjk] at hj
      obtain ⟨A', n', c', h1, _, _, h2, h3⟩ := h.row j u hj
      exact ⟨A', n', c', by rw [List.getElem?_append_left (by have := h.len; omega)]; exact h1, (h2.grown hg (fun a ha => (h3 a ha).1)).ints⟩
    · obtain rfl : j = vs.length := by have := h.len; omega
      rw [List.getElem?_append_right (Nat.le_refl _), Nat.sub_self] at hj
      injection hj with hj
      subst hj
      exact ⟨A, n, c, by rw [h.len, ← hlen, List.getElem?_append_right (Nat.le_refl _), Nat.sub_self]; rfl, hv.grown hg hA⟩

set_option maxHeartbeats 1000000 in
theorem impl_cloneRowsR (L : Option Addr) (m q0 n : Nat) (vs : List (List Int)) (w : World) (hl : Lists w L m vs) (hv : ∀ v ∈ vs, v.length = n) (hn : 0 < n) (hn2 : n ≤ 1000) :
    Calls Try.prog 72 #[.slice L m q0] w fun e w' => ∃ K q cs, e = .returned (.slice K m q) ∧ RowsC w.heap.size w' 29 (.slice K m q) m vs cs ∧ Below w.heap.size w w' := by
  have HL := Lib.hid hl
  have HV := Lib.hid hv
  have hm := hl.2.1
  clear hl hv
  obtain ⟨j0, hj0, hy0, hy1, hy2⟩ := info_parts rows_info
  go_enter Try.func72, Try.ntmps72
  go_wp2
  go_loopw [3, 9] (fun o i wr => ∃ (k : Nat) (cs : List Value), k ≤ m ∧ i = .int .i64 k ∧ Hid (RowsC w.heap.size wr 29 o k (vs.take k) cs) ∧ Hid (Below w.heap.size w wr)) (fun _ i _ => m - (intOf i).toNat)
  case atStart => exact ⟨0, [], Nat.zero_le _, rfl, Lib.hid (RowsC.empty w 29 _ _ rfl (Nat.le_refl _)), Lib.hid (below_alloc _ _)⟩
  case round =>
    obtain ⟨k, cs, hk, rfl, HR, HB⟩ := hrel
    by_cases hlt : k < m
    · obtain ⟨b, off, v, C, n1, c1, rfl, hvk, hcell, hints⟩ := (HL.out.keep HB.out).at_ hlt
      obtain rfl : n1 = n := by rw [← hints.1]; exact HV.out v (List.mem_of_getElem? hvk)
      have HVK := Lib.hid hvk
      have HI := Lib.hid hints
      have hklt : (k : Int) < m := by omega
      clear hvk hints
      go_wp2_with fail
      refine (row_Clone _ _ _ v _ HI.out hn hn2).mono ?_
      rintro e w2 ⟨D, q2, rfl, ho, hq1, hq2, hb⟩
      have HR2 := Lib.hid (HR.out.keep hb)
      have HO2 := Lib.hid ho
      have HB2 := Lib.hid (below_then HB.out hb)
      obtain ⟨gb, go_, rfl, hg1, hg2, _, _⟩ := ho.2.2 hn
      have hsz := HB2.out.size
      clear ho hb
      go_wp2_with (at_builtin; refine wpList_append_lies _ rfl _ _ 22 rfl w.heap.size 29 j0 _ 1 24 Try.underlying22 hj0 hy0 hy1 hy2 rfl (by omega) _ k cs rfl (HR2.out.own.alloc _) ⟨_, 0, none⟩ 1 1 [.slice (some ⟨gb, go_, none⟩) n1 q2] rfl rfl (cell_one_new _ _ _) (by simp [Value.oneCell']) (by omega) (by unfold maxLen; omega) (by omega) (by simp; omega) (w2.heap.size + 1) (by simp) ?_; intro gg cap w1 hown1 hgrow hat hlt1)
      have HPU := Lib.hid (RowsC.push (HR2.out.keep (below_alloc _ _)) (((HO2.out.less (B' := w.heap.size) HB.out.size)).keep (below_alloc _ _)) hq1 hq2 (fun a ha => by
          injection ha with ha
          subst ha
          refine ⟨fun e => ?_, by simp; omega⟩
          have h1 := (HR.out.own.lt _ e).2
          simp at h1
          omega) (fun a ha j b m d hj => by
          injection ha with ha
          subst ha
          have h1 := HR.out.block j b m d hj
          show b.block ≠ gb
          omega) hgrow hown1 (by
          rcases hat with e | e
          · exact .inl e
          · exact .inr ⟨gg, rfl, by rw [e]; simp⟩))
      have HB3 := Lib.hid (below_own (HR2.out.own.alloc _) hgrow (HB2.out.alloc HB2.out.size _) (Nat.le_refl _) (by simp; omega))
      clear hown1 hgrow hat hlt1 hq1 hq2 hg1 hg2
      go_wp2
      go_roundw
      case rel => exact ⟨k + 1, _, by omega, by go_num, Lib.hid (by rw [take_snoc' HVK.out]; exact HPU.out), HB3⟩
      case measure => simp [intOf]; omega
    · obtain rfl : k = m := by omega
      have HVT := Lib.hid (show vs.take k = vs from List.take_of_length_le (by have := HL.out.1; omega))
      rw [HVT.out] at HR
      obtain ⟨K, q, rfl, hlists⟩ := HR.out.lists hm
      clear hlists
      go_wp2
      go_ret
      exact ⟨K, q, _, rfl, HR.out, HB.out⟩


set_option maxHeartbeats 1000000 in
theorem field_spans (p : Int) (L B : Option Addr) (m n q0 c : Nat) (vs : List (List Int)) (v : List Int) (w : World) (hl : Lists w L m vs) (hv : Ints w B n v) (ht : TabP p n vs) (hnum : numsB p v = true) (hp : primeB p = true) (hn : 0 < n) (hn2 : n ≤ 16) (hm2 : m ≤ 16) :
    Calls Try.prog 53 #[.int .i64 p, .slice L m q0, .slice B n c] w fun e w' => e = .returned (.bool (inspB p vs v)) ∧ Below w.heap.size w w' := by
  have HL := Lib.hid hl
  have HX := Lib.hid hv
  have HT := Lib.hid ht
  have HP := Lib.hid hp
  have HTA := Lib.hid (ht.app hv.1 hnum)
  have HV := Lib.hid (fun u hu => (ht u hu).1)
  obtain ⟨x, HXX⟩ : ∃ x, Hid ((basisN p (vs ++ [v])).length = x) := ⟨_, Lib.hid rfl⟩
  obtain ⟨y, HYY⟩ : ∃ y, Hid ((basisN p vs).length = y) := ⟨_, Lib.hid rfl⟩
  have hxb : x ≤ 17 := by have := basisN_le p (vs ++ [v]); rw [HXX.out, List.length_append, hl.1] at this; simp at this; omega
  have hyb : y ≤ 16 := by have := basisN_le p vs; rw [HYY.out, hl.1] at this; omega
  have HI := Lib.hid (show inspB p vs v = decide (x = y) by unfold inspB; rw [HXX.out, HYY.out])
  obtain ⟨b, off, rfl, hb, hcx⟩ := hv.2.2 hn
  clear hl hv ht hnum hp hcx
  obtain ⟨j0, hj0, hy0, hy1, hy2⟩ := info_parts rows_info
  go_enter Try.func53, Try.ntmps53
  go_wp2_with fail
  refine (impl_cloneRowsR L m q0 n vs _ HL.out HV.out hn (by omega)).mono ?_
  rintro e w1 ⟨K, q, cs, rfl, hr, hb1⟩
  have HR := Lib.hid hr
  have HB := Lib.hid hb1
  have hsz := hb1.size
  clear hr hb1
  go_wp2_with (at_builtin; refine wpList_append_lies _ rfl _ _ 22 rfl w.heap.size 29 j0 _ 1 24 Try.underlying22 hj0 hy0 hy1 hy2 rfl (by omega) _ m cs rfl (HR.out.own.alloc _) ⟨_, 0, none⟩ 1 1 [.slice (some ⟨b, off, none⟩) n c] rfl rfl (cell_one_new _ _ _) (by simp [Value.oneCell']) (by omega) (by unfold maxLen; omega) (by omega) (by simp; omega) (w1.heap.size + 1) (by simp) ?_; intro gg cap w2 hown1 hgrow hat hlt1)
  have HLP := Lib.hid (RowsC.lists_push (HR.out.keep (below_alloc _ _)) ((HX.out.keep HB.out).keep (below_alloc _ _)) (fun a ha e => by
      injection ha with ha
      subst ha
      have h1 := (HR.out.own.lt _ e).1
      simp at h1
      omega) hgrow hown1 (by omega))
  have HB2 := Lib.hid (below_own (HR.out.own.alloc _) hgrow (HB.out.alloc HB.out.size _) (Nat.le_refl _) (by simp; omega))
  clear hown1 hgrow hat hlt1
  go_wp2_with fail
  refine (field_basis p _ (m + 1) _ n (vs ++ [v]) _ HLP.out HTA.out HP.out hn (by omega) (by omega)).mono ?_
  rw [HXX.out]
  rintro e w3 ⟨K3, q3, rfl, _, _, hb3⟩
  have HB3 := Lib.hid (below_then HB2.out hb3)
  clear hb3
  go_wp2_with fail
  refine (field_basis p L m q0 n vs _ (HL.out.keep HB3.out) HT.out HP.out hn (by omega) (by omega)).mono ?_
  rw [HYY.out]
  rintro e w4 ⟨K4, q4, rfl, _, _, hb4⟩
  have HB4 := Lib.hid (below_then HB3.out hb4)
  clear hb4
  by_cases hxy : x = y
  · have h1 : ((x : Int) == y) = true := by rw [hxy, beq_self_eq_true]
    have HR0 := Lib.hid (show inspB p vs v = true by rw [HI.out, decide_eq_true hxy])
    clear hxy
    go_wp2
    go_ret
    exact ⟨ret_bool HR0.out.symm, HB4.out⟩
  · have h1 : ((x : Int) == y) = false := by rw [beq_eq_false_iff_ne]; omega
    have HR0 := Lib.hid (show inspB p vs v = false by rw [HI.out, decide_eq_false hxy])
    clear hxy
    go_wp2
    go_ret
    exact ⟨ret_bool HR0.out.symm, HB4.out⟩

set_option maxHeartbeats 2000000 in
theorem impl_InSpan (p : Int) (L B : Option Addr) (m n q0 c : Nat) (vs : List (List Int)) (v : List Int) (w : World) (hl : LL w L m vs) (hv : Ints w B n v) :
    Calls Try.prog 16 #[.int .i64 p, .slice L m q0, .slice B n c] w fun e w' => e = .returned (.tuple #[.bool (insV p vs v), .int .i64 (insC p vs v)]) ∧ Below w.heap.size w w' := by
  have HL := Lib.hid hl
  have HX := Lib.hid hv
  have hm := hl.2.1
  have hnm := hv.2.1
  unfold maxLen at hm hnm
  clear hl hv
  cases hp : primeB p with
  | false =>
    have HP := Lib.hid hp
    obtain ⟨e1, e2⟩ := ins_bad (p := p) (vs := vs) (v := v) (by unfold spnB; rw [hp]; rfl)
    rw [e1, e2]
    clear hp e1 e2
    go_enter Try.func16, Try.ntmps16
    go_wp2_with fail
    refine (impl_IsPrime _ _).mono ?_
    rw [HP.out]
    rintro e w' ⟨rfl, rfl⟩
    go_wp2_with fail
    go_ret2
    exact ⟨rfl, Below.refl _ _⟩
  | true =>
  have HP := Lib.hid hp
  have h0 := prime_lo hp
  have h1 := prime_hi hp
  cases ht : tblB p vs with
  | false =>
    have HT := Lib.hid ht
    obtain ⟨e1, e2⟩ := ins_bad (p := p) (vs := vs) (v := v) (by unfold spnB; rw [hp, ht]; rfl)
    rw [e1, e2]
    clear hp e1 e2 ht
    go_enter Try.func16, Try.ntmps16
    go_wp2_with fail
    refine (impl_IsPrime _ _).mono ?_
    rw [HP.out]
    rintro e w' ⟨rfl, rfl⟩
    go_wp2_with fail
    refine (field_isTable p _ m q0 vs _ HL.out (by omega) h1).mono ?_
    rw [HT.out]
    rintro e w' ⟨rfl, rfl⟩
    have HB : Hid (Below w.heap.size w w) := Lib.hid (Below.refl _ _)
    go_wp2_with fail
    go_ret2
    exact ⟨rfl, HB.out⟩
  | true =>
  have HT := Lib.hid ht
  have hs : spnB p vs = true := by unfold spnB; rw [hp, ht]; rfl
  have HS := Lib.hid hs
  obtain ⟨k1, n0, k2, k3, k4, k5⟩ := tbl_n ht
  rw [HL.out.1] at k1 k5
  have HN := Lib.hid k4
  have HVL := Lib.hid HL.out.1
  clear hp ht hs k4
  by_cases hm0 : m = 0
  · obtain ⟨e1, e2⟩ := ins_range (p := p) (vs := vs) (v := v) HS.out (by unfold insB; rw [HVL.out, hm0]; rfl)
    rw [e1, e2]
    have hmz : ((m : Int) == 0) = true := by rw [hm0]; rfl
    clear e1 e2 k5 hm0
    go_enter Try.func16, Try.ntmps16
    go_wp2_with fail
    refine (impl_IsPrime _ _).mono ?_
    rw [HP.out]
    rintro e w' ⟨rfl, rfl⟩
    go_wp2_with fail
    refine (field_isTable p _ m q0 vs _ HL.out (by omega) h1).mono ?_
    rw [HT.out]
    rintro e w' ⟨rfl, rfl⟩
    have HB : Hid (Below w.heap.size w w) := Lib.hid (Below.refl _ _)
    go_wp2_with fail
    go_ret2
    exact ⟨rfl, HB.out⟩
  have hmp : 0 < m := by omega
  have hmz : ((m : Int) == 0) = false := by rw [beq_eq_false_iff_ne]; omega
  have HK := Lib.hid (k5 hmp)
  obtain ⟨b, off, B0, c0, rfl, hb0, hcell0, hints0⟩ := HL.out.at_ hmp
  rw [Nat.add_zero, HK.out] at hcell0
  have HC0 := Lib.hid hcell0
  clear hints0 hb0 hcell0 hm0 k5
  by_cases hnn : n = n0
  rotate_left
  · obtain ⟨e1, e2⟩ := ins_range (p := p) (vs := vs) (v := v) HS.out (by unfold insB; rw [HX.out.1, HK.out, decide_eq_false hnn, Bool.false_and, Bool.and_false])
    rw [e1, e2]
    have hne : ((n : Int) != n0) = true := by rw [bne_iff_ne]; omega
    have hne2 : ((n : Int) == n0) = false := by rw [beq_eq_false_iff_ne]; omega
    clear e1 e2 hnn
    go_enter Try.func16, Try.ntmps16
    go_wp2_with fail
    refine (impl_IsPrime _ _).mono ?_
    rw [HP.out]
    rintro e w' ⟨rfl, rfl⟩
    go_wp2_with fail
    refine (field_isTable p _ m q0 vs _ HL.out (by omega) h1).mono ?_
    rw [HT.out]
    rintro e w' ⟨rfl, rfl⟩
    have HB : Hid (Below w.heap.size w w) := Lib.hid (Below.refl _ _)
    have hcell0 := keep_cell HB.out HC0.out
    go_wp2_with fail
    go_ret2
    exact ⟨rfl, HB.out⟩
  subst hnn
  have hne : ((n : Int) != n) = false := by rw [bne_self_eq_false]
  cases hnum : numsB p v with
  | false =>
    have HM := Lib.hid hnum
    obtain ⟨e1, e2⟩ := ins_range (p := p) (vs := vs) (v := v) HS.out (by unfold insB; rw [hnum, Bool.and_false, Bool.and_false])
    rw [e1, e2]
    clear e1 e2 hnum
    go_enter Try.func16, Try.ntmps16
    go_wp2_with fail
    refine (impl_IsPrime _ _).mono ?_
    rw [HP.out]
    rintro e w' ⟨rfl, rfl⟩
    go_wp2_with fail
    refine (field_isTable p _ m q0 vs _ HL.out (by omega) h1).mono ?_
    rw [HT.out]
    rintro e w' ⟨rfl, rfl⟩
    have HB : Hid (Below w.heap.size w w) := Lib.hid (Below.refl _ _)
    have hcell0 := keep_cell HB.out HC0.out
    go_wp2_with fail
    refine (impl_is p B n c v _ (by omega) h1 (HX.out.keep HB.out)).mono ?_
    rw [HM.out]
    rintro e w' ⟨rfl, rfl⟩
    go_wp2_with fail
    go_ret2
    exact ⟨rfl, HB.out⟩
  | true =>
    have HM := Lib.hid hnum
    obtain ⟨e1, e2⟩ := ins_ok (p := p) (vs := vs) (v := v) HS.out (by unfold insB; rw [hnum, HVL.out, HX.out.1, HK.out, decide_eq_true hmp, decide_eq_true rfl]; rfl)
    rw [e1, e2]
    have HLi := Lib.hid (HL.out.lists (by omega))
    clear e1 e2 hnum
    go_enter Try.func16, Try.ntmps16
    go_wp2_with fail
    refine (impl_IsPrime _ _).mono ?_
    rw [HP.out]
    rintro e w' ⟨rfl, rfl⟩
    go_wp2_with fail
    refine (field_isTable p _ m q0 vs _ HL.out (by omega) h1).mono ?_
    rw [HT.out]
    rintro e w' ⟨rfl, rfl⟩
    have HB : Hid (Below w.heap.size w w) := Lib.hid (Below.refl _ _)
    have hcell0 := keep_cell HB.out HC0.out
    go_wp2_with fail
    refine (impl_is p B n c v _ (by omega) h1 (HX.out.keep HB.out)).mono ?_
    rw [HM.out]
    rintro e w' ⟨rfl, rfl⟩
    go_wp2_with fail
    refine (field_spans p _ B m n q0 c vs v _ HLi.out HX.out HN.out HM.out HP.out k2 k3 k1).mono ?_
    rintro e w2 ⟨rfl, hb⟩
    have HB2 := Lib.hid hb
    clear hb
    go_wp2_with fail
    go_ret2
    exact ⟨rfl, HB2.out⟩

set_option maxHeartbeats 2000000 in
theorem spec_InSpan (p : Int) (L B : Option Addr) (m n q0 c : Nat) (vs : List (List Int)) (v : List Int) (w : World) (hl : LL w L m vs) (hv : Ints w B n v) :
    Calls Try.prog 14 #[.int .i64 p, .slice L m q0, .slice B n c] w fun e w' => e = .returned (.tuple #[.bool (insV p vs v), .int .i64 (insC p vs v)]) ∧ Below w.heap.size w w' := by
  have HL := Lib.hid hl
  have HX := Lib.hid hv
  have hm := hl.2.1
  have hnm := hv.2.1
  unfold maxLen at hm hnm
  clear hl hv
  cases hs : spnB p vs with
  | false =>
    have HS := Lib.hid hs
    obtain ⟨e1, e2⟩ := ins_bad (p := p) (vs := vs) (v := v) hs
    rw [e1, e2]
    clear hs e1 e2
    go_enter Try.func14, Try.ntmps14
    go_wp2_with fail
    refine (spec_l02List p _ m q0 vs _ HL.out).mono ?_
    rw [HS.out]
    rintro e w1 ⟨rfl, hb⟩
    have HB := Lib.hid hb
    clear hb
    go_wp2_with fail
    go_ret2
    exact ⟨rfl, HB.out⟩
  | true =>
  obtain ⟨hp, ht⟩ := spn_parts hs
  have HP := Lib.hid hp
  have HT := Lib.hid ht
  have h0 := prime_lo hp
  have h1 := prime_hi hp
  have HS := Lib.hid hs
  obtain ⟨k1, n0, k2, k3, k4, k5⟩ := tbl_n ht
  rw [HL.out.1] at k1 k5
  have HN := Lib.hid k4
  have HVL := Lib.hid HL.out.1
  clear hp ht hs k4
  by_cases hm0 : m = 0
  · obtain ⟨e1, e2⟩ := ins_range (p := p) (vs := vs) (v := v) HS.out (by unfold insB; rw [HVL.out, hm0]; rfl)
    rw [e1, e2]
    have hmz : ((m : Int) == 0) = true := by rw [hm0]; rfl
    clear e1 e2 k5 hm0
    go_enter Try.func14, Try.ntmps14
    go_wp2_with fail
    refine (spec_l02List p _ m q0 vs _ HL.out).mono ?_
    rw [HS.out]
    rintro e w1 ⟨rfl, hb⟩
    have HB := Lib.hid hb
    clear hb
    go_wp2_with fail
    go_ret2
    exact ⟨rfl, HB.out⟩
  have hmp : 0 < m := by omega
  have hmz : ((m : Int) == 0) = false := by rw [beq_eq_false_iff_ne]; omega
  have HK := Lib.hid (k5 hmp)
  obtain ⟨b, off, B0, c0, rfl, hb0, hcell0, hints0⟩ := HL.out.at_ hmp
  rw [Nat.add_zero, HK.out] at hcell0
  have HC0 := Lib.hid hcell0
  clear hints0 hb0 hcell0 hm0 k5
  by_cases hnn : n = n0
  rotate_left
  · obtain ⟨e1, e2⟩ := ins_range (p := p) (vs := vs) (v := v) HS.out (by unfold insB; rw [HX.out.1, HK.out, decide_eq_false hnn, Bool.false_and, Bool.and_false])
    rw [e1, e2]
    have hne : ((n : Int) != n0) = true := by rw [bne_iff_ne]; omega
    have hne2 : ((n : Int) == n0) = false := by rw [beq_eq_false_iff_ne]; omega
    clear e1 e2 hnn
    go_enter Try.func14, Try.ntmps14
    go_wp2_with fail
    refine (spec_l02List p _ m q0 vs _ HL.out).mono ?_
    rw [HS.out]
    rintro e w1 ⟨rfl, hb⟩
    have HB := Lib.hid hb
    clear hb
    have hcell0 := keep_cell HB.out HC0.out
    go_wp2_with fail
    go_ret2
    exact ⟨rfl, HB.out⟩
  subst hnn
  have hne : ((n : Int) != n) = false := by rw [bne_self_eq_false]
  cases hnum : numsB p v with
  | false =>
    have HM := Lib.hid hnum
    obtain ⟨e1, e2⟩ := ins_range (p := p) (vs := vs) (v := v) HS.out (by unfold insB; rw [hnum, Bool.and_false, Bool.and_false])
    rw [e1, e2]
    clear e1 e2 hnum
    go_enter Try.func14, Try.ntmps14
    go_wp2_with fail
    refine (spec_l02List p _ m q0 vs _ HL.out).mono ?_
    rw [HS.out]
    rintro e w1 ⟨rfl, hb⟩
    have HB := Lib.hid hb
    clear hb
    have hcell0 := keep_cell HB.out HC0.out
    go_wp2_with fail
    refine (spec_l01Numbers p B n c v _ (by omega) h1 (HX.out.keep HB.out)).mono ?_
    rw [HM.out]
    rintro e w' ⟨rfl, rfl⟩
    go_wp2_with fail
    go_ret2
    exact ⟨rfl, HB.out⟩
  | true =>
    have HM := Lib.hid hnum
    obtain ⟨e1, e2⟩ := ins_ok (p := p) (vs := vs) (v := v) HS.out (by unfold insB; rw [hnum, HVL.out, HX.out.1, HK.out, decide_eq_true hmp, decide_eq_true rfl]; rfl)
    rw [e1, e2]
    have HLi := Lib.hid (HL.out.lists (by omega))
    clear e1 e2 hnum
    go_enter Try.func14, Try.ntmps14
    go_wp2_with fail
    refine (spec_l02List p _ m q0 vs _ HL.out).mono ?_
    rw [HS.out]
    rintro e w1 ⟨rfl, hb⟩
    have HB := Lib.hid hb
    clear hb
    have hcell0 := keep_cell HB.out HC0.out
    go_wp2_with fail
    refine (spec_l01Numbers p B n c v _ (by omega) h1 (HX.out.keep HB.out)).mono ?_
    rw [HM.out]
    rintro e w' ⟨rfl, rfl⟩
    go_wp2_with fail
    refine (spec_l02Turn _ m q0 n vs _ (HLi.out.keep HB.out) (fun u hu => (HN.out u hu).1) k2 (by omega) hmp (by omega)).mono ?_
    rintro e w2 ⟨K, q, rfl, hturn, hb⟩
    have HTU := Lib.hid hturn
    have HB1 := Lib.hid (below_then HB.out hb)
    clear hb hturn
    go_wp2_with fail
    refine (spec_l02Solve p K B m n q c vs v _ HTU.out (HX.out.keep HB1.out) HN.out HVL.out HM.out HP.out k2 k3 hmp k1).mono ?_
    rintro e w3 ⟨A', n', c', rfl, hb⟩
    have HB2 := Lib.hid (below_then HB1.out hb)
    clear hb
    go_wp2_with fail
    go_ret2
    exact ⟨rfl, HB2.out⟩

end Go.Proofs.Ytcgghjhccnjeoaa
