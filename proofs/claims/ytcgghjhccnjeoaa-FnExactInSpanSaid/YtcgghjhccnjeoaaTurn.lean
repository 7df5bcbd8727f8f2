/- Contracts: rows and columns exchanged; the first number that is not 0; a row copied, owned. Conditions stand in each theorem. -/
import Derived.Test.YtcgghjhccnjeoaaSpan3
namespace Go.Proofs.Ytcgghjhccnjeoaa
open Go.RowKit
set_option linter.unusedVariables false
set_option linter.unusedSimpArgs false

theorem turnL_len (n : Nat) (vs : List (List Int)) : (turnL n vs).length = n := by simp [turnL]
theorem turnL_get {n k : Nat} {vs : List (List Int)} (h : k < n) : (turnL n vs)[k]? = some (vs.map fun r => ent r k) := by
  unfold turnL; rw [List.getElem?_map, List.getElem?_range h]; rfl
theorem col_get {k j : Nat} {vs : List (List Int)} {v : List Int} (h : vs[j]? = some v) : (vs.map fun r => ent r k)[j]? = some (ent v k) := by
  rw [List.getElem?_map, h]; rfl

set_option maxHeartbeats 2000000 in
theorem spec_l02Turn (L : Option Addr) (m q0 n : Nat) (vs : List (List Int)) (w : World) (hl : Lists w L m vs) (hv : ∀ v ∈ vs, v.length = n) (hn : 0 < n) (hn2 : n ≤ 100) (hm : 0 < m) (hm2 : m ≤ 100) :
    Calls Try.prog 51 #[.slice L m q0] w fun e w' => ∃ K q, e = .returned (.slice K n q) ∧ Lists w' K n (turnL n vs) ∧ Below w.heap.size w w' := by
  have HL := Lib.hid hl
  have HV := Lib.hid hv
  have HN := Lib.hid hl.1
  clear hl hv
  obtain ⟨i0, hi0, hz0, hz1, hz2⟩ := info_parts int_info
  obtain ⟨j0, hj0, hy0, hy1, hy2⟩ := info_parts rows_info
  obtain ⟨b0, off0, v0, B0, nn, c0, rfl, hv0, hcell0, hints0⟩ := HL.out.at_ hm
  obtain rfl : nn = n := by rw [← hints0.1]; exact HV.out v0 (List.mem_of_getElem? hv0)
  rw [Nat.add_zero] at hcell0
  have HC0 := Lib.hid hcell0
  clear hcell0 hints0 hv0
  go_enter Try.func51, Try.ntmps51
  go_wp2
  go_loopw [3, 4] (fun o i wr => ∃ (k : Nat) (cs : List Value), k ≤ nn ∧ i = .int .i64 k ∧ Hid (RowsC w.heap.size wr 29 o k ((turnL nn vs).take k) cs) ∧ Hid (Below w.heap.size w wr)) (fun _ i _ => nn - (intOf i).toNat)
  case atStart => exact ⟨0, [], Nat.zero_le _, rfl, Lib.hid (RowsC.empty w 29 _ _ rfl (Nat.le_refl _)), Lib.hid (below_alloc _ _)⟩
  case round =>
    obtain ⟨k, cs, hk, rfl, HR, HB⟩ := hrel
    obtain ⟨u, hu⟩ : ∃ u, u = wr := ⟨_, rfl⟩
    subst hu
    have hcell0 := keep_cell HB.out HC0.out
    by_cases hlt : k < nn
    · have hklt : (k : Int) < nn := by omega
      go_wp2
      go_loopw [5, 6] (fun o2 i wq => ∃ j : Nat, j ≤ m ∧ i = .int .i64 j ∧ Hid (wq.ownsRow u.heap.size 2 1 o2 j (((vs.map fun r => ent r k).take j).map (Value.int .i64))) ∧ Hid (Below u.heap.size u wq)) (fun _ i _ => m - (intOf i).toNat)
      case atStart => exact ⟨0, Nat.zero_le _, rfl, Lib.hid (own_empty _ _ _ _ rfl (Nat.le_refl _)), Lib.hid (below_alloc _ _)⟩
      case round =>
        clear hcell0
        obtain ⟨j, hj, rfl, HO, HB2⟩ := hrel
        have hsz := HB2.out.size
        have HBB := Lib.hid (below_then HB.out HB2.out)
        by_cases hjl : j < m
        · obtain ⟨b, off, v, C, n1, c1, e1, hvj, hcell, hints⟩ := (HL.out.keep HBB.out).at_ hjl
          injection e1 with e1
          injection e1 with e1 e2
          subst e1 e2
          obtain rfl : n1 = nn := by rw [← hints.1]; exact HV.out v (List.mem_of_getElem? hvj)
          obtain ⟨b2, off2, x, rfl, hb2, hxk, hck⟩ := hints.at_ hlt
          have hx : x = ent v k := (ent_of hxk).symm
          subst hx
          obtain ⟨x, HX⟩ : ∃ x, Hid (ent v k = x) := ⟨_, Lib.hid rfl⟩
          have HS := Lib.hid (take_snoc' (col_get (k := k) hvj))
          rw [HX.out] at hck HS
          have hjlz : (j : Int) < m := by omega
          clear hints hxk hvj hb2
          go_wp2_with (at_builtin; go_loud (refine wpList_append_own _ rfl _ _ 29 rfl u.heap.size 2 i0 _ 1 8 Try.underlying29 hi0 hz0 hz1 hz2 rfl (by omega) _ j _ rfl (HO.out.alloc _) ⟨wr.heap.size, 0, none⟩ 1 1 [.int .i64 x] rfl rfl (cell_one_new _ _ _) (by simp [Value.oneCell']) (by unfold maxLen; omega) (by omega) (by simp; omega) ?_; intro v' w1 hown1 hgrow _))
          have HO1 := Lib.hid hown1
          have HB1 := Lib.hid (below_own (HO.out.alloc _) hgrow (HB2.out.alloc hsz _) (Nat.le_refl _) (by simp; omega))
          clear hown1 hgrow
          go_wp2
          go_roundw
          case rel => exact ⟨j + 1, by omega, by go_num, Lib.hid (by rw [HS.out, List.map_append]; exact HO1.out), HB1⟩
          case measure => simp [intOf]; omega
        · obtain rfl : j = m := by omega
          have ho1 := HO.out
          rw [List.take_of_length_le (by rw [List.length_map, HN.out]; exact Nat.le_refl _)] at ho1
          obtain ⟨C, q2, rfl, ho, hq1, hq2⟩ := Own.of_own2 ho1
          have HR2 := Lib.hid (HR.out.keep HB2.out)
          have HO2 := Lib.hid ho
          obtain ⟨gb, go_, rfl, hg1, hg2, _, _⟩ := ho.2.2 hm
          have hsz2 := HBB.out.size
          have HTS := Lib.hid (take_snoc' (turnL_get (vs := vs) hlt))
          clear ho ho1
          go_wp2_with (at_builtin; go_loud (refine wpList_append_lies _ rfl _ _ 22 rfl w.heap.size 29 j0 _ 1 24 Try.underlying22 hj0 hy0 hy1 hy2 rfl (by omega) _ k cs rfl (HR2.out.own.alloc _) ⟨_, 0, none⟩ 1 1 [.slice (some ⟨gb, go_, none⟩) j q2] rfl rfl (cell_one_new _ _ _) (by simp [Value.oneCell']) (by omega) (by unfold maxLen; omega) (by omega) (by simp; omega) (wr.heap.size + 1) (by simp) ?_; intro gg cap w1 hown1 hgrow hat hlt1))
          have HPU := Lib.hid (RowsC.push (HR2.out.keep (below_alloc _ _)) (((HO2.out.less (B' := w.heap.size) HB.out.size)).keep (below_alloc _ _)) hq1 hq2 (fun a ha => by
              injection ha with ha
              subst ha
              refine ⟨fun e => ?_, by simp; omega⟩
              have h1 := (HR.out.own.lt _ e).2
              simp at h1
              omega) (fun a ha j b m d hj => by
              injection ha with ha
              subst ha
              have h1 := HR.out.block j b m d hj
              show b.block ≠ gb
              omega) hgrow hown1 (by
              rcases hat with e | e
              · exact .inl e
              · exact .inr ⟨gg, rfl, by rw [e]; simp⟩))
          have HB3 := Lib.hid (below_own (HR2.out.own.alloc _) hgrow (HBB.out.alloc HBB.out.size _) (Nat.le_refl _) (by simp; omega))
          clear hown1 hgrow hat hlt1 hq1 hq2 hg1 hg2
          go_wp2
          go_roundw
          case rel => exact ⟨k + 1, _, by omega, by go_num, Lib.hid (by rw [HTS.out]; exact HPU.out), HB3⟩
          case measure => simp [intOf]; omega
    · obtain rfl : k = nn := by omega
      have HVT := Lib.hid (show (turnL k vs).take k = turnL k vs from List.take_of_length_le (by rw [turnL_len]; exact Nat.le_refl _))
      rw [HVT.out] at HR
      obtain ⟨K, q, rfl, hlists⟩ := HR.out.lists (by omega)
      have HQ := Lib.hid hlists
      clear hlists
      go_wp2
      go_ret
      exact ⟨K, q, rfl, HQ.out, HB.out⟩

theorem spec_l02First (A : Option Addr) (n c k : Nat) (xs : List Int) (w : World) (hx : Ints w A n xs) (hL : Lead xs k) (hk : k < n) (hn : n ≤ 1000) :
    Calls Try.prog 76 #[.slice A n c] w fun e w' => e = .returned (.int .i64 k) ∧ w = w' := by
  have HX := Lib.hid hx
  have HLd := Lib.hid hL
  clear hx hL
  go_enter Try.func76, Try.ntmps76
  go_wp2
  go_loop [3] (fun i => ∃ j : Nat, j ≤ k ∧ i = .int .i64 j) (fun i => n - (intOf i).toNat)
  case atStart => exact ⟨0, Nat.zero_le _, rfl⟩
  case round =>
    obtain ⟨j, hj, rfl⟩ := hrel
    obtain ⟨b, off, x, rfl, hb, hxj, hcell⟩ := HX.out.at_ (show j < n by omega)
    have hx : x = ent xs j := (ent_of hxj).symm
    have hjn : (j : Int) < n := by omega
    clear hb hxj
    by_cases hjk : j < k
    · have hx0 : x = 0 := by rw [hx]; exact HLd.out.2 j hjk
      subst hx0
      clear hx
      go_wp2
      go_round
      case rel => exact ⟨j + 1, by omega, by go_num⟩
      case measure => simp [intOf]; omega
    · obtain rfl : j = k := by omega
      have hx0 : x ≠ 0 := by rw [hx]; exact HLd.out.1
      have h1 : (x == 0) = false := by simpa using hx0
      have h2 : (x != 0) = true := by simpa using hx0
      clear hx
      go_wp2
      go_ret
      exact ⟨rfl, rfl⟩

theorem row_OwnR (A : Option Addr) (n c : Nat) (xs : List Int) (w : World) (hx : Ints w A n xs) (hn : 0 < n) (hn2 : n ≤ 1000) : Calls Try.prog 69 #[.slice A n c] w fun e w' => ∃ C q, e = .returned (.slice C n q) ∧ w'.ownsRow w.heap.size 2 1 (.slice C n q) n (xs.map (Value.int .i64)) ∧ Below w.heap.size w w' := by
  have HX := Lib.hid hx
  obtain ⟨b, off, rfl, hb1, hc⟩ := hx.2.2 hn
  have HC := Lib.hid hc
  have HN := Lib.hid hx.1
  clear hx hc
  obtain ⟨i0, hi0, hz0, hz1, hz2⟩ := info_parts int_info
  have hoz := own_empty w 2 w.heap.size w.heap.size rfl (Nat.le_refl _)
  have HZ := Lib.hid hoz
  clear hoz
  go_enter Try.func69, Try.ntmps69
  go_wp2_with (at_builtin; go_loud (refine wpList_append_own _ rfl _ _ 29 rfl w.heap.size 2 i0 _ 1 8 Try.underlying29 hi0 hz0 hz1 hz2 rfl (by omega) _ 0 [] rfl HZ.out ⟨b, off, none⟩ n c (xs.map (Value.int .i64)) rfl (by rw [List.length_map, HN.out]; omega) (fun j u hj => by
    rw [List.getElem?_map] at hj
    cases hq : xs[j]? with
    | none => rw [hq] at hj; cases hj
    | some x => rw [hq] at hj; injection hj with hj; subst hj; exact keep_cell (below_alloc _ _) (by simpa [go_sem] using HC.out j x hq)) (fun u hu => by obtain ⟨x, _, rfl⟩ := List.mem_map.1 hu; rfl) (by unfold maxLen; omega) (by omega) (by simp) ?_; intro v' w1 hown1 hgrow _))
  rw [Nat.zero_add, List.nil_append] at hown1
  obtain ⟨C, q, rfl, ho, hq1, hq2⟩ := Own.of_own2 hown1
  have HO := Lib.hid hown1
  have HB1 := Lib.hid (below_own HZ.out hgrow (below_alloc _ _) (Nat.le_refl _) (by simp))
  clear ho hown1 hgrow hq1 hq2
  go_wp2
  go_ret
  exact ⟨C, q, rfl, HO.out, HB1.out⟩
end Go.Proofs.Ytcgghjhccnjeoaa
