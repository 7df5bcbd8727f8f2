/- Contracts: copies of lists of rows. Conditions stand in each theorem. -/
import Derived.Test.YtcgghjhccnjeoaaTab
namespace Go.Proofs.Ytcgghjhccnjeoaa
open Go.RowKit
set_option linter.unusedVariables false
set_option linter.unusedSimpArgs false

theorem Own.of_own2 {w : World} {base n : Nat} {e : TypeId} {v : Value} {xs : List Int} (h : w.ownsRow base e 1 v n (xs.map (Value.int .i64))) : ∃ A c, v = .slice A n c ∧ Own base w A n xs ∧ n ≤ c ∧ c ≤ maxLen := by
  obtain ⟨A, c, e1, h1⟩ := Own.of_own h
  refine ⟨A, c, e1, h1, ?_⟩
  rcases h.2 with ⟨e2, h0⟩ | ⟨g, cap, cur, e2, hg, hh, hn, hc, hs, ht⟩
  · rw [e1] at e2
    injection e2 with _ e3 e4
    rw [e4, h0]
    exact ⟨Nat.le_refl _, Nat.zero_le _⟩
  · rw [e1] at e2
    injection e2 with _ _ e4
    rw [e4]
    exact ⟨hn, hc⟩
/-- as a table of rows, one length for all -/
theorem RowsC.tab {B k n : Nat} {w : World} {E : TypeId} {o : Value} {vs : List (List Int)} {cs : List Value} (h : RowsC B w E o k vs cs) (hk : 0 < k) (hn : ∀ v ∈ vs, v.length = n) :
    ∃ g q A c, o = .slice (some ⟨g, 0, none⟩) k q ∧ k ≤ q ∧ Tab B w g k n vs A c ∧ Dst k A := by
  rcases h.own.2 with ⟨rfl, h0⟩ | ⟨g, cap, cur, rfl, hg, hh, hcn, hc, hs, ht⟩
  · omega
  · have hA : ∀ j, j < k → ∃ A c, cs[j]? = some (Value.slice A n c) ∧ Own B w A n (rowAt vs j) ∧ ∀ a : Addr, A = some a → g ≠ a.block ∧ a.block < w.heap.size := fun j hj => by
      have hx : vs[j]? = some (rowAt vs j) := rowAt_get (by have := h.len; omega)
      obtain ⟨A, m, c, h1, _, _, h2, h3⟩ := h.row j _ hx
      obtain rfl : m = n := by rw [← h2.1]; exact hn _ (List.mem_of_getElem? hx)
      exact ⟨A, c, h1, h2, fun a ha => ⟨fun e => (h3 a ha).1 (by subst e; rfl), (h3 a ha).2⟩⟩
    refine ⟨g, cap, fun j => match cs[j]? with | some (Value.slice A _ _) => A | _ => none, fun j => match cs[j]? with | some (Value.slice _ _ c) => c | _ => 0, rfl, hcn, ⟨h.len, hg, (h.own.lt g (by simp [Value.ownBlock])).2, fun j hj => ?_, fun j hj => h.own.frozenAt (cap := cap) j, fun j hj => ?_, fun j hj a ha => ?_⟩, fun i j hi hj hij a b ha hb => ?_⟩
    · obtain ⟨A, c, h1, _⟩ := hA j hj
      rw [h.own.cellAt j (by omega)]
      rw [h1]
    · obtain ⟨A, c, h1, h2, _⟩ := hA j hj
      rw [h1]
      exact h2
    · obtain ⟨A, c, h1, _, h3⟩ := hA j hj
      rw [h1] at ha
      exact fun e => (h3 a ha).1 e.symm
    · obtain ⟨A, c, h1, _⟩ := hA i hi
      obtain ⟨A', c', h2, _⟩ := hA j hj
      simp only [h1] at ha
      simp only [h2] at hb
      subst ha hb
      exact h.dist i j a b n n c c' hij h1 h2

theorem row_Clone (A : Option Addr) (n c : Nat) (xs : List Int) (w : World) (hx : Ints w A n xs) (hn : 0 < n) (hn2 : n ≤ 1000) : Calls Try.prog 80 #[.slice A n c] w fun e w' => ∃ C q, e = .returned (.slice C n q) ∧ Own w.heap.size w' C n xs ∧ n ≤ q ∧ q ≤ maxLen ∧ Below w.heap.size w w' := by
  have HX := Lib.hid hx
  obtain ⟨b, off, rfl, hb1, hc⟩ := hx.2.2 hn
  have HC := Lib.hid hc
  have HN := Lib.hid hx.1
  clear hx hc
  obtain ⟨i0, hi0, hz0, hz1, hz2⟩ := info_parts int_info
  have hoz := own_empty w 2 w.heap.size w.heap.size rfl (Nat.le_refl _)
  have HZ := Lib.hid hoz
  clear hoz
  have hq := fun (w : World) => Lib.run_eql_slice_nil (P := Try.prog) w 29 2 (some ⟨b, off, none⟩) n c 0 0 Try.underlying29
  go_enter Try.func80, Try.ntmps80
  go_wp2_with (at_builtin; go_loud (refine wpList_append_own _ rfl _ _ 29 rfl w.heap.size 2 i0 _ 1 8 Try.underlying29 hi0 hz0 hz1 hz2 rfl (by omega) _ 0 [] rfl HZ.out ⟨b, off, none⟩ n c (xs.map (Value.int .i64)) rfl (by rw [List.length_map, HN.out]; omega) (fun j u hj => by
    rw [List.getElem?_map] at hj
    cases hq : xs[j]? with
    | none => rw [hq] at hj; cases hj
    | some x => rw [hq] at hj; injection hj with hj; subst hj; exact keep_cell (below_alloc _ _) (by simpa [go_sem] using HC.out j x hq)) (fun u hu => by obtain ⟨x, _, rfl⟩ := List.mem_map.1 hu; rfl) (by unfold maxLen; omega) (by omega) (by simp) ?_; intro v' w1 hown1 hgrow _))
  obtain ⟨C, q, rfl, ho, hq1, hq2⟩ := Own.of_own2 (by simpa using hown1)
  have HO := Lib.hid ho
  have HQ := Lib.hid hq1
  have HQ2 := Lib.hid hq2
  have HB1 := Lib.hid (below_own HZ.out hgrow (below_alloc _ _) (Nat.le_refl _) (by simp))
  clear ho hown1 hgrow hq1 hq2
  go_wp2
  go_ret
  exact ⟨C, q, by simp, by simpa using HO.out, by simpa using HQ.out, HQ2.out, HB1.out⟩

theorem row_Own (A : Option Addr) (n c : Nat) (xs : List Int) (w : World) (hx : Ints w A n xs) (hn : 0 < n) (hn2 : n ≤ 1000) : Calls Try.prog 69 #[.slice A n c] w fun e w' => ∃ C q, e = .returned (.slice C n q) ∧ Own w.heap.size w' C n xs ∧ n ≤ q ∧ q ≤ maxLen ∧ Below w.heap.size w w' := by
  have HX := Lib.hid hx
  obtain ⟨b, off, rfl, hb1, hc⟩ := hx.2.2 hn
  have HC := Lib.hid hc
  have HN := Lib.hid hx.1
  clear hx hc
  obtain ⟨i0, hi0, hz0, hz1, hz2⟩ := info_parts int_info
  have hoz := own_empty w 2 w.heap.size w.heap.size rfl (Nat.le_refl _)
  have HZ := Lib.hid hoz
  clear hoz
  go_enter Try.func69, Try.ntmps69
  go_wp2_with (at_builtin; go_loud (refine wpList_append_own _ rfl _ _ 29 rfl w.heap.size 2 i0 _ 1 8 Try.underlying29 hi0 hz0 hz1 hz2 rfl (by omega) _ 0 [] rfl HZ.out ⟨b, off, none⟩ n c (xs.map (Value.int .i64)) rfl (by rw [List.length_map, HN.out]; omega) (fun j u hj => by
    rw [List.getElem?_map] at hj
    cases hq : xs[j]? with
    | none => rw [hq] at hj; cases hj
    | some x => rw [hq] at hj; injection hj with hj; subst hj; exact keep_cell (below_alloc _ _) (by simpa [go_sem] using HC.out j x hq)) (fun u hu => by obtain ⟨x, _, rfl⟩ := List.mem_map.1 hu; rfl) (by unfold maxLen; omega) (by omega) (by simp) ?_; intro v' w1 hown1 hgrow _))
  obtain ⟨C, q, rfl, ho, hq1, hq2⟩ := Own.of_own2 (by simpa using hown1)
  have HO := Lib.hid ho
  have HQ := Lib.hid hq1
  have HQ2 := Lib.hid hq2
  have HB1 := Lib.hid (below_own HZ.out hgrow (below_alloc _ _) (Nat.le_refl _) (by simp))
  clear ho hown1 hgrow hq1 hq2
  go_wp2
  go_ret
  exact ⟨C, q, by simp, by simpa using HO.out, by simpa using HQ.out, HQ2.out, HB1.out⟩

theorem take_snoc' {α : Type} {x : α} {xs : List α} {k : Nat} (hk : xs[k]? = some x) : xs.take (k + 1) = xs.take k ++ [x] := by
  rw [List.take_add_one, hk]; rfl

set_option maxHeartbeats 1000000 in
theorem impl_cloneRows (L : Option Addr) (m q0 n : Nat) (vs : List (List Int)) (w : World) (hl : Lists w L m vs) (hv : ∀ v ∈ vs, v.length = n) (hn : 0 < n) (hn2 : n ≤ 1000) :
    Calls Try.prog 72 #[.slice L m q0] w fun e w' => ∃ K q, e = .returned (.slice K m q) ∧ m ≤ q ∧ (0 < m → ∃ g A c, K = some ⟨g, 0, none⟩ ∧ Tab w.heap.size w' g m n vs A c ∧ Dst m A) ∧ Below w.heap.size w w' := by
  have HL := Lib.hid hl
  have HV := Lib.hid hv
  have hm := hl.2.1
  clear hl hv
  obtain ⟨j0, hj0, hy0, hy1, hy2⟩ := info_parts rows_info
  go_enter Try.func72, Try.ntmps72
  go_wp2
  go_loopw [3, 9] (fun o i wr => ∃ (k : Nat) (cs : List Value), k ≤ m ∧ i = .int .i64 k ∧ Hid (RowsC w.heap.size wr 29 o k (vs.take k) cs) ∧ Hid (Below w.heap.size w wr)) (fun _ i _ => m - (intOf i).toNat)
  case atStart => exact ⟨0, [], Nat.zero_le _, rfl, Lib.hid (RowsC.empty w 29 _ _ rfl (Nat.le_refl _)), Lib.hid (below_alloc _ _)⟩
  case round =>
    obtain ⟨k, cs, hk, rfl, HR, HB⟩ := hrel
    by_cases hlt : k < m
    · obtain ⟨b, off, v, C, n1, c1, rfl, hvk, hcell, hints⟩ := (HL.out.keep HB.out).at_ hlt
      obtain rfl : n1 = n := by rw [← hints.1]; exact HV.out v (List.mem_of_getElem? hvk)
      have HVK := Lib.hid hvk
      have HI := Lib.hid hints
      have hklt : (k : Int) < m := by omega
      clear hvk hints
      go_wp2_with fail
      refine (row_Clone _ _ _ v _ HI.out hn hn2).mono ?_
      rintro e w2 ⟨D, q2, rfl, ho, hq1, hq2, hb⟩
      have HR2 := Lib.hid (HR.out.keep hb)
      have HO2 := Lib.hid ho
      have HB2 := Lib.hid (below_then HB.out hb)
      obtain ⟨gb, go_, rfl, hg1, hg2, _, _⟩ := ho.2.2 hn
      have hsz := HB2.out.size
      clear ho hb
      go_wp2_with (at_builtin; refine wpList_append_lies _ rfl _ _ 22 rfl w.heap.size 29 j0 _ 1 24 Try.underlying22 hj0 hy0 hy1 hy2 rfl (by omega) _ k cs rfl (HR2.out.own.alloc _) ⟨_, 0, none⟩ 1 1 [.slice (some ⟨gb, go_, none⟩) n1 q2] rfl rfl (cell_one_new _ _ _) (by simp [Value.oneCell']) (by omega) (by unfold maxLen; omega) (by omega) (by simp; omega) (w2.heap.size + 1) (by simp) ?_; intro gg cap w1 hown1 hgrow hat hlt1)
      have HPU := Lib.hid (RowsC.push (HR2.out.keep (below_alloc _ _)) (((HO2.out.less (B' := w.heap.size) HB.out.size)).keep (below_alloc _ _)) hq1 hq2 (fun a ha => by
          injection ha with ha
          subst ha
          refine ⟨fun e => ?_, by simp; omega⟩
          have h1 := (HR.out.own.lt _ e).2
          simp at h1
          omega) (fun a ha j b m d hj => by
          injection ha with ha
          subst ha
          have h1 := HR.out.block j b m d hj
          show b.block ≠ gb
          omega) hgrow hown1 (by
          rcases hat with e | e
          · exact .inl e
          · exact .inr ⟨gg, rfl, by rw [e]; simp⟩))
      have HB3 := Lib.hid (below_own (HR2.out.own.alloc _) hgrow (HB2.out.alloc HB2.out.size _) (Nat.le_refl _) (by simp; omega))
      clear hown1 hgrow hat hlt1 hq1 hq2 hg1 hg2
      go_wp2
      go_roundw
      case rel => exact ⟨k + 1, _, by omega, by go_num, Lib.hid (by rw [take_snoc' HVK.out]; exact HPU.out), HB3⟩
      case measure => simp [intOf]; omega
    · obtain rfl : k = m := by omega
      have HVT := Lib.hid (show vs.take k = vs from List.take_of_length_le (by have := HL.out.1; omega))
      rw [HVT.out] at HR
      obtain ⟨K, q, rfl, hlists⟩ := HR.out.lists hm
      have HQ : Hid (k ≤ q ∧ (0 < k → ∃ g A c, K = some ⟨g, 0, none⟩ ∧ Tab w.heap.size wr g k n vs A c ∧ Dst k A)) := by
        by_cases h0 : 0 < k
        · obtain ⟨g, q', A, c, e, h1, h2, h3⟩ := HR.out.tab h0 HV.out
          injection e with e1 e2 e3
          subst e1 e3
          exact Lib.hid ⟨h1, fun _ => ⟨g, A, c, rfl, h2, h3⟩⟩
        · exact Lib.hid ⟨by omega, fun h => absurd h h0⟩
      clear hlists
      go_wp2
      go_ret
      exact ⟨K, q, rfl, HQ.out.1, HQ.out.2, HB.out⟩

set_option maxHeartbeats 1000000 in
theorem spec_l01Own2 (L : Option Addr) (m q0 n : Nat) (vs : List (List Int)) (w : World) (hl : Lists w L m vs) (hv : ∀ v ∈ vs, v.length = n) (hn : 0 < n) (hn2 : n ≤ 1000) :
    Calls Try.prog 43 #[.slice L m q0] w fun e w' => ∃ K q, e = .returned (.slice K m q) ∧ m ≤ q ∧ (0 < m → ∃ g A c, K = some ⟨g, 0, none⟩ ∧ Tab w.heap.size w' g m n vs A c ∧ Dst m A) ∧ Below w.heap.size w w' := by
  have HL := Lib.hid hl
  have HV := Lib.hid hv
  have hm := hl.2.1
  clear hl hv
  obtain ⟨j0, hj0, hy0, hy1, hy2⟩ := info_parts rows_info
  go_enter Try.func43, Try.ntmps43
  go_wp2
  go_loopw [3, 4] (fun o i wr => ∃ (k : Nat) (cs : List Value), k ≤ m ∧ i = .int .i64 k ∧ Hid (RowsC w.heap.size wr 29 o k (vs.take k) cs) ∧ Hid (Below w.heap.size w wr)) (fun _ i _ => m - (intOf i).toNat)
  case atStart => exact ⟨0, [], Nat.zero_le _, rfl, Lib.hid (RowsC.empty w 29 _ _ rfl (Nat.le_refl _)), Lib.hid (below_alloc _ _)⟩
  case round =>
    obtain ⟨k, cs, hk, rfl, HR, HB⟩ := hrel
    by_cases hlt : k < m
    · obtain ⟨b, off, v, C, n1, c1, rfl, hvk, hcell, hints⟩ := (HL.out.keep HB.out).at_ hlt
      obtain rfl : n1 = n := by rw [← hints.1]; exact HV.out v (List.mem_of_getElem? hvk)
      have HVK := Lib.hid hvk
      have HI := Lib.hid hints
      have hklt : (k : Int) < m := by omega
      clear hvk hints
      go_wp2_with fail
      refine (row_Own _ _ _ v _ HI.out hn hn2).mono ?_
      rintro e w2 ⟨D, q2, rfl, ho, hq1, hq2, hb⟩
      have HR2 := Lib.hid (HR.out.keep hb)
      have HO2 := Lib.hid ho
      have HB2 := Lib.hid (below_then HB.out hb)
      obtain ⟨gb, go_, rfl, hg1, hg2, _, _⟩ := ho.2.2 hn
      have hsz := HB2.out.size
      clear ho hb
      go_wp2_with (at_builtin; refine wpList_append_lies _ rfl _ _ 22 rfl w.heap.size 29 j0 _ 1 24 Try.underlying22 hj0 hy0 hy1 hy2 rfl (by omega) _ k cs rfl (HR2.out.own.alloc _) ⟨_, 0, none⟩ 1 1 [.slice (some ⟨gb, go_, none⟩) n1 q2] rfl rfl (cell_one_new _ _ _) (by simp [Value.oneCell']) (by omega) (by unfold maxLen; omega) (by omega) (by simp; omega) (w2.heap.size + 1) (by simp) ?_; intro gg cap w1 hown1 hgrow hat hlt1)
      have HPU := Lib.hid (RowsC.push (HR2.out.keep (below_alloc _ _)) (((HO2.out.less (B' := w.heap.size) HB.out.size)).keep (below_alloc _ _)) hq1 hq2 (fun a ha => by
          injection ha with ha
          subst ha
          refine ⟨fun e => ?_, by simp; omega⟩
          have h1 := (HR.out.own.lt _ e).2
          simp at h1
          omega) (fun a ha j b m d hj => by
          injection ha with ha
          subst ha
          have h1 := HR.out.block j b m d hj
          show b.block ≠ gb
          omega) hgrow hown1 (by
          rcases hat with e | e
          · exact .inl e
          · exact .inr ⟨gg, rfl, by rw [e]; simp⟩))
      have HB3 := Lib.hid (below_own (HR2.out.own.alloc _) hgrow (HB2.out.alloc HB2.out.size _) (Nat.le_refl _) (by simp; omega))
      clear hown1 hgrow hat hlt1 hq1 hq2 hg1 hg2
      go_wp2
      go_roundw
      case rel => exact ⟨k + 1, _, by omega, by go_num, Lib.hid (by rw [take_snoc' HVK.out]; exact HPU.out), HB3⟩
      case measure => simp [intOf]; omega
    · obtain rfl : k = m := by omega
      have HVT := Lib.hid (show vs.take k = vs from List.take_of_length_le (by have := HL.out.1; omega))
      rw [HVT.out] at HR
      obtain ⟨K, q, rfl, hlists⟩ := HR.out.lists hm
      have HQ : Hid (k ≤ q ∧ (0 < k → ∃ g A c, K = some ⟨g, 0, none⟩ ∧ Tab w.heap.size wr g k n vs A c ∧ Dst k A)) := by
        by_cases h0 : 0 < k
        · obtain ⟨g, q', A, c, e, h1, h2, h3⟩ := HR.out.tab h0 HV.out
          injection e with e1 e2 e3
          subst e1 e3
          exact Lib.hid ⟨h1, fun _ => ⟨g, A, c, rfl, h2, h3⟩⟩
        · exact Lib.hid ⟨by omega, fun h => absurd h h0⟩
      clear hlists
      go_wp2
      go_ret
      exact ⟨K, q, rfl, HQ.out.1, HQ.out.2, HB.out⟩
end Go.Proofs.Ytcgghjhccnjeoaa
