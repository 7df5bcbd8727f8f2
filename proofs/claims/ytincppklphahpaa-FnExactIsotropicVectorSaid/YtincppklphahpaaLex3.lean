/- Contracts: the first isotropic vector, the program's loop. Conditions stand in each theorem. -/
import Derived.Test.YtincppklphahpaaLex2
namespace Go.Proofs.Ytincppklphahpaa
open Go.RowKit
set_option linter.unusedVariables false
set_option linter.unusedSimpArgs false
set_option maxRecDepth 4096

theorem far2 {w : World} {k b j : Nat} {a : Addr} {v x : Value} (h : w.cell? a = some x) (hb : b ≠ a.block) : ((w.drewN k).setCell ⟨b, j, none⟩ v).cell? a = some x :=
  (World.cell?_setCell_far _ _ _ _ hb).trans (keep_cell (below_drewN (Below.refl _ _) k) h)
theorem frz2 {w : World} {k b j g : Nat} {v : Value} (h : w.frozen? ⟨g, 0, none⟩ = false) (hg : g < w.heap.size) : ((w.drewN k).setCell ⟨b, j, none⟩ v).frozen? ⟨g, 0, none⟩ = false := by
  rw [World.frozen?_setCell]
  exact ((below_drewN (Below.refl w.heap.size w) k).frozen (p := ⟨g, 0, none⟩) hg).trans h
theorem own2 {w : World} {B b n j : Nat} {xs : List Int} (h : Own B w (some ⟨b, 0, none⟩) n xs) (hj : j < n) (k : Nat) (v : Int) : Own B ((w.drewN k).setCell ⟨b, j, none⟩ (.int .i64 v)) (some ⟨b, 0, none⟩) n (xs.set j v) := by
  have := (h.keep (below_drewN (Below.refl _ _) k)).set_ hj v
  rwa [Nat.zero_add] at this
theorem bel2 {w0 w : World} {g k b j : Nat} {v : Value} (h : Below g w0 w) (hg : g ≤ b) : Below g w0 ((w.drewN k).setCell ⟨b, j, none⟩ v) := (below_drewN h k).setCell hg _

set_option maxHeartbeats 4000000 in
theorem Space_vectors (p : Int) (A : Option Addr) (n c g h : Nat) (xs : List Int) (X : Value) (w : World) (hx : Ints w A n xs)
    (e0 : w.cell? ⟨h, 0, none⟩ = some (.int .i64 p)) (e1 : w.cell? ⟨h, 1, none⟩ = some (.slice A n c)) (cg : w.cell? ⟨g, 0, none⟩ = some X) (fg : w.frozen? ⟨g, 0, none⟩ = false) (hgh : h < g)
    (hga : ∀ a, A = some a → a.block < g) (h0 : 3 ≤ p) (h1 : p ≤ 13) (hn : numsB p xs = true) (hl0 : 1 ≤ n) (hl1 : n ≤ 6) :
    Calls Try.prog 79 #[.agg #[.int .i64 p, .slice A n c], .func (.func 80) #[] #[.pointer (some ⟨g, 0, none⟩), .pointer (some ⟨h, 0, none⟩)]] w fun e w' => ((isoR p xs = none ∧ e = .returned (.bool false)) ∨ (∃ u C q', isoR p xs = some u ∧ e = .returned (.bool true) ∧ w'.cell? ⟨g, 0, none⟩ = some (.slice C n q') ∧ Own w.heap.size w' C n u)) ∧ Below g w w' := by
  have HX := Lib.hid hx
  have hm := hx.2.1
  have HN := Lib.hid hx.1
  clear hx
  unfold maxLen at hm
  have H2 := Lib.hid (show Below w.heap.size w (w.alloc (.cells #[.int .i64 p, .slice A n c] 28)) from (Below.refl _ _).alloc (Nat.le_refl _) _)
  have HXW := HX
  have HNX := Lib.hid hn
  have HGA := Lib.hid hga
  have hgw := World.block_lt_of_cell? _ _ cg
  clear hn hga
  have hmk := lex_make (show n ≤ 1000 by omega)
  have HE0 := Lib.hid e0
  have HE1 := Lib.hid e1
  go_enter Try.func79, Try.ntmps79
  have c0 : (w.alloc (.cells #[.int .i64 p, .slice A n c] 28)).cell? ⟨w.heap.size, 0, none⟩ = some (.int .i64 p) := by simp [go_sem]
  have c1 : (w.alloc (.cells #[.int .i64 p, .slice A n c] 28)).cell? ⟨w.heap.size, 1, none⟩ = some (.slice A n c) := by simp [go_sem]
  have HW := Lib.hid (Below.refl (w.alloc (.cells #[.int .i64 p, .slice A n c] 28)).heap.size (w.alloc (.cells #[.int .i64 p, .slice A n c] 28)))
  replace e0 := keep_cell H2.out e0
  replace e1 := keep_cell H2.out e1
  replace cg := keep_cell H2.out cg
  go_wp2_with fail
  refine (Space_dim _ _ _ _ _).mono ?_
  rintro e u ⟨rfl, hb⟩
  replace c0 := keep_cell hb c0
  replace c1 := keep_cell hb c1
  replace HW := Lib.hid (below_then HW.out hb)
  replace e0 := keep_cell hb e0
  replace e1 := keep_cell hb e1
  replace cg := keep_cell hb cg
  clear hb
  have HBU := Lib.hid (H2.out.trans (HW.out.mono H2.out.size))
  have fgu : u.frozen? ⟨g, 0, none⟩ = false := (HBU.out.frozen (p := ⟨g, 0, none⟩) hgw).trans fg
  have hwu : w.heap.size < u.heap.size := World.block_lt_of_cell? _ _ c0
  obtain ⟨b, hbu⟩ : ∃ b, b = u.heap.size := ⟨_, rfl⟩
  have HZ := Lib.hid (own_zeros u n (by unfold maxLen; omega) _ rfl 2 (w.heap.size + 1) hwu)
  rw [← hbu] at HZ
  have HAL := Lib.hid (below_alloc u (.cells (madeCells #[.int .i64 0] n) 2))
  replace c0 := keep_cell HAL.out c0
  replace c1 := keep_cell HAL.out c1
  replace cg := keep_cell HAL.out cg
  have fg1 := (HAL.out.frozen (p := ⟨g, 0, none⟩) (show g < u.heap.size by omega)).trans fgu
  have HB0 := Lib.hid ((HBU.out.trans (HAL.out.mono (by omega))).mono (B' := g) (by omega))
  go_wp2_with fail
  simp only [← hbu]
  have hgb : g ≠ b := by omega
  clear hbu hmk HW
  go_loopw [12] (fun _ wr => Hid (∃ v : List Int, ∃ f : Nat, Own (w.heap.size + 1) wr (some ⟨b, 0, none⟩) n v ∧ goN p xs f v = isoR p xs ∧ (f : Int) + rk p v = p ^ n ∧ numsB p v = true) ∧ Hid (∃ X, wr.cell? ⟨g, 0, none⟩ = some X ∧ wr.frozen? ⟨g, 0, none⟩ = false) ∧ wr.cell? ⟨w.heap.size, 0, none⟩ = some (.int .i64 p) ∧ wr.cell? ⟨w.heap.size, 1, none⟩ = some (.slice A n c) ∧ Below g w wr) (fun _ wr => (p ^ n - rk p (rdL wr b n)).toNat)
  case atStart => exact ⟨Lib.hid ⟨_, _, HZ.out, (goN_zeros _ _ _ _).trans (isoR_start p xs HN.out), by rw [rk_zero, Int.toNat_of_nonneg (Int.le_of_lt (pow_pos3 h0 n))]; omega, lex_zero h0 n⟩, Lib.hid ⟨X, cg, fg1⟩, c0, c1, HB0.out⟩
  case round =>
    clear c0 c1 HZ cg fg1 HB0 HBU HAL fgu e0 e1
    obtain ⟨HV, HG, c0, c1, hbel⟩ := hrel
    have HB := Lib.hid hbel
    clear hbel
    obtain ⟨v, f, hov, hsr, hrk, hnv⟩ := HV.out
    obtain ⟨X1, cg, fg1⟩ := HG.out
    have HO := Lib.hid hov
    have HSR := Lib.hid hsr
    have HRK := Lib.hid hrk
    have HNV := Lib.hid hnv
    have HRD := Lib.hid (rdL_own hov)
    have HBD := Lib.hid (rk_bounds (show 2 ≤ p by omega) v hnv).2
    have e0 := (HB.out.cell (p := ⟨h, 0, none⟩) hgh).trans HE0.out
    have e1 := (HB.out.cell (p := ⟨h, 1, none⟩) hgh).trans HE1.out
    have hgr := World.block_lt_of_cell? _ _ cg
    have hwr := World.block_lt_of_cell? _ _ c0
    clear hov hsr hrk hnv HV HG
    go_wp2_with fail
    refine (iso_each p A n c _ g h b xs v X1 _ (HX.out.keepB HGA.out HB.out) HO.out.ints e0 e1 cg fg1 hgh hgb (fun a e => by have := HGA.out a e; omega) h0 h1 HNX.out HNV.out hl0 hl1).mono ?_
    rintro e w2 ⟨w1, C, q', rfl, hb1, ho1, hb2⟩
    have hszz : (w1.setCell ⟨g, 0, none⟩ (.slice C n q')).heap.size = w1.heap.size := by simp [World.setCell]
    have hs1 := hb1.size
    rw [← hszz] at hb2
    have k0 := keep_cell hb2 ((World.cell?_setCell_far w1 ⟨g, 0, none⟩ ⟨w.heap.size, 0, none⟩ (.slice C n q') (by simp; omega)).trans (keep_cell hb1 c0))
    have k1 := keep_cell hb2 ((World.cell?_setCell_far w1 ⟨g, 0, none⟩ ⟨w.heap.size, 1, none⟩ (.slice C n q') (by simp; omega)).trans (keep_cell hb1 c1))
    have kg := keep_cell hb2 (World.cell?_setCell_same (v := .slice C n q') _ _ (keep_cell hb1 cg))
    have kf : w2.frozen? ⟨g, 0, none⟩ = false := (hb2.frozen (p := ⟨g, 0, none⟩) (show g < (w1.setCell ⟨g, 0, none⟩ (.slice C n q')).heap.size by omega)).trans ((World.frozen?_setCell ..).trans ((hb1.frozen (p := ⟨g, 0, none⟩) hgr).trans fg1))
    have HOV := Lib.hid (((HO.out.keep hb1).other (g := g) (fun a e => by injection e with e; subst e; exact hgb) (.slice C n q')).keep hb2)
    have HOC := Lib.hid ((ho1.other (g := g) (fun a e => by
      obtain ⟨b', off', e', hB, _⟩ := ho1.2.2 (by omega)
      rw [e'] at e
      injection e with e
      subst e
      show g ≠ b'
      omega) (.slice C n q')).keep hb2)
    have HB2 := Lib.hid (HB.out.trans ((hb1.mono (by omega)).trans (((Below.refl g w1).setCell (Nat.le_refl g) _).trans (hb2.mono (by omega)))))
    have KG := Lib.hid kg
    clear hb1 hb2 ho1 c0 c1 cg fg1 e0 e1 hszz hs1 kg HO HB
    cases ht : (!zrB v && (pairN p xs v v == 0)) with
    | true =>
      have HT := Lib.hid ht
      clear ht
      go_wp2_with fail
      go_ret
      exact ⟨Or.inr ⟨v, C, q', by rw [← HSR.out, goN_hit HT.out], rfl, KG.out, HOC.out.less (by omega)⟩, HB2.out⟩
    | false =>
      have HT := Lib.hid ht
      clear ht
      go_wp2_with fail
      go_loopw [6] (fun i wq => ∃ m : Nat, ∃ r : Int, m ≤ n ∧ i = .int .i64 r ∧ Hid (r = (m : Int) - 1) ∧ Hid (∃ pre suf, v = pre ++ suf ∧ pre.length = m ∧ (nxt p suf).2 = false ∧ Own (w.heap.size + 1) wq (some ⟨b, 0, none⟩) n (pre ++ (nxt p suf).1)) ∧ wq.cell? ⟨w.heap.size, 0, none⟩ = some (.int .i64 p) ∧ wq.cell? ⟨w.heap.size, 1, none⟩ = some (.slice A n c) ∧ Hid (∃ X, wq.cell? ⟨g, 0, none⟩ = some X ∧ wq.frozen? ⟨g, 0, none⟩ = false) ∧ Below g w wq) (fun i _ => (intOf i + 1).toNat)
      case atStart => exact ⟨n, _, Nat.le_refl _, rfl, Lib.hid rfl, Lib.hid ⟨v, [], by simp, HOV.out.1, rfl, by simpa [nxt] using HOV.out⟩, k0, k1, Lib.hid ⟨_, KG.out, kf⟩, HB2.out⟩
      case round =>
        clear k0 k1 kf KG HOC HB2
        obtain ⟨m, r, hm, rfl, HR, HS, c0, c1, HG, hbel⟩ := hrel
        have HB := Lib.hid hbel
        clear hbel
        by_cases hlt : 0 < m
        · obtain ⟨j, rfl⟩ : ∃ j, m = j + 1 := ⟨m - 1, by omega⟩
          obtain rfl : r = (j : Int) := by have := HR.out; omega
          obtain ⟨pre, suf, hv, hpl, hnx, how⟩ := HS.out
          obtain ⟨pr, d, rfl⟩ : ∃ pr d, pre = pr ++ [d] := by
            rcases List.eq_nil_or_concat pre with e | ⟨a, b, e⟩
            · subst e; simp at hpl
            · exact ⟨a, b, by rw [e, List.concat_eq_append]⟩
          have hprl : pr.length = j := by simp at hpl; exact hpl
          have hd := numB_true (numsB_at HNV.out (by rw [hv]; exact mid_at hprl))
          obtain ⟨hd0, hd1⟩ := hd
          obtain ⟨hc1, hf1, hjn, hBb⟩ := own_at how (mid_at hprl)
          have HV := Lib.hid hv
          have HPL := Lib.hid hprl
          have HNX2 := Lib.hid hnx
          have HOW := Lib.hid how
          clear hv hprl hnx how hpl HS
          have hji : (0 : Int) ≤ (j : Int) := by omega
          have hjt : decide ((0 : Int) ≤ (j : Int)) = true := decide_eq_true hji
          have hjn2 : (j : Int) < n := by omega
          cases hup : (d == p - 1) with
          | true =>
            have HUP := Lib.hid hup
            have ho3 := HOW.out.set_ (j := j) hjn 0
            rw [Nat.zero_add, mid_set HPL.out] at ho3
            have HO3 := Lib.hid ho3
            clear ho3
            go_wp2_with fail
            go_quiet (fail)
            go_wp2_with fail
            refine ⟨⟨j, _, by omega, rfl, Lib.hid rfl, Lib.hid ⟨pr, d :: suf, ?_, HPL.out, ?_, ?_⟩, ?_, ?_, ?_, ?_⟩, ?_⟩
            · rw [HV.out, List.append_assoc]; rfl
            · rw [nxt_over HNX2.out (by have := eq_of_beq HUP.out; omega)]
            · rw [nxt_over HNX2.out (by have := eq_of_beq HUP.out; omega)]
              have := fun k => own2 HOW.out hjn k 0
              simp only [mid_set HPL.out] at this
              simp only [List.append_assoc, List.singleton_append] at this
              exact this _
            · exact far2 c0 (by show b ≠ w.heap.size; omega)
            · exact far2 c1 (by show b ≠ w.heap.size; omega)
            · obtain ⟨X2, cg2, fg2⟩ := HG.out
              exact Lib.hid ⟨X2, far2 cg2 (by show b ≠ g; omega), frz2 fg2 (World.block_lt_of_cell? _ _ cg2)⟩
            · exact bel2 HB.out (by omega)
            · simp [intOf]
          | false =>
            have HUP := Lib.hid hup
            go_wp2_with fail
            go_quiet (fail)
            go_wp2_with fail
            have hnx3 : nxt p v = (pr ++ (d + 1) :: (nxt p suf).1, true) := by
              rw [HV.out, List.append_assoc, List.singleton_append]
              exact nxt_app (nxt_up HNX2.out (by have : ¬ d = p - 1 := fun e => by rw [e] at hup; simp at hup
                                                 omega)) pr
            have HN3 := Lib.hid hnx3
            have hrk2 := (rk_nxt (show 2 ≤ p by omega) v HNV.out).1 (by rw [hnx3])
            have HRK2 := Lib.hid hrk2
            have hbd := HBD.out
            have hlen := HN.out
            have hov := fun k => own2 HOW.out hjn k (d + 1)
            simp only [mid_set HPL.out] at hov
            simp only [List.append_assoc, List.singleton_append] at hov
            have hfst : (nxt p v).1 = pr ++ (d + 1) :: (nxt p suf).1 := by rw [hnx3]
            have hvl : v.length = n := by
              have h1 := HOW.out.1
              have h2 := nxt_len p suf
              rw [HV.out]
              simp only [List.length_append, List.length_singleton] at h1 ⊢
              omega
            rw [hvl] at hbd
            obtain ⟨f', rfl⟩ : ∃ f', f = f' + 1 := ⟨f - 1, by have := HRK.out; omega⟩
            refine ⟨⟨Lib.hid ⟨(nxt p v).1, f', ?_, ?_, ?_, nxt_nums (by omega) v HNV.out⟩, ?_, far2 c0 (by show b ≠ w.heap.size; omega), far2 c1 (by show b ≠ w.heap.size; omega), bel2 HB.out (by omega)⟩, ?_⟩
            · rw [hfst]; exact hov _
            · rw [← goN_on (by omega) HNV.out HT.out (by rw [hnx3])]; exact HSR.out
            · have := HRK.out; rw [hrk2]; omega
            · obtain ⟨X2, cg2, fg2⟩ := HG.out
              exact Lib.hid ⟨X2, far2 cg2 (by show b ≠ g; omega), frz2 fg2 (World.block_lt_of_cell? _ _ cg2)⟩
            · rw [rdL_own (hov _), HRD.out, ← hfst, hrk2]
              omega
        · obtain rfl : m = 0 := by omega
          obtain rfl : r = -1 := by have := HR.out; omega
          go_wp2_with fail
          go_quiet (fail)
          go_wp2_with fail
          go_ret
          obtain ⟨pre, suf, hv, hpl, hnx, how⟩ := HS.out
          have hpn : pre = [] := List.length_eq_zero_iff.1 hpl
          subst hpn
          rw [List.nil_append] at hv
          subst hv
          exact ⟨Or.inl ⟨by rw [← HSR.out, goN_end HT.out hnx], rfl⟩, below_drewN HB.out _⟩

end Go.Proofs.Ytincppklphahpaa
