/- Contracts: the numbers of a source, and the draws. Conditions stand in each theorem. -/
import Derived.Test.YtcgghjhccnjeoaaDoorSrc
import Derived.Test.YtcgghjhccnjeoaaDoorMem
import Derived.Deep.RegionHeld3
import Derived.Lib.SmallJoins
namespace Go.Proofs.YtcgghjhccnjeoaaDoor
open Go.RowKit
set_option linter.unusedVariables false
set_option linter.unusedSimpArgs false

/-- what a number costs: the state goes on, a byte of the code is used up where one was left -/
def Nxt (s : Nat) (A : Option Addr) (n c at_ : Nat) (h m r : Int) (w w' : World) : Prop :=
  ∃ a2 : Nat, Src w' s A n c a2 (lcg h) ∧ (at_ < n → a2 = at_ + 1) ∧ (at_ = n → a2 = n ∧ r = lcgX (lcg h) % m) ∧ 0 ≤ r ∧ r < m ∧ Tch s w w'

theorem spec_l01Next0 (s : Nat) (m : Int) (w : World) (hm : m < 1) :
    Calls Tryd.prog 23 #[.pointer (some ⟨s, 0, none⟩), .int .i64 m] w fun e w' => e = .returned (.int .i64 0) ∧ w = w' := by
  go_enter Tryd.func23, Tryd.ntmps23
  go_wp2
  go_ret
  exact ⟨rfl, rfl⟩

theorem src_step {w : World} {s : Nat} {A : Option Addr} {n c at_ : Nat} {h g : Int} (hs : Src w s A n c at_ h) (g0 : 0 ≤ g) (g1 : g < 18446744073709551616) : Src (w.setCell ⟨s, 2, none⟩ (.int .u64 g)) s A n c at_ g := by
  obtain ⟨c0, c1, c2, f1, f2, hle, hh0, hh1⟩ := hs
  refine ⟨?_, ?_, World.cell?_setCell_same _ _ _ c2, ?_, ?_, hle, g0, g1⟩
  · rw [World.cell?_setCell_other _ _ _ _ (by simp)]; exact c0
  · rw [World.cell?_setCell_other _ _ _ _ (by simp)]; exact c1
  · rw [World.frozen?_setCell]; exact f1
  · rw [World.frozen?_setCell]; exact f2
theorem src_pos {w : World} {s : Nat} {A : Option Addr} {n c at_ : Nat} {g : Int} (hs : Src w s A n c at_ g) (hlt : at_ < n) : Src (w.setCell ⟨s, 1, none⟩ (.int .i64 (at_ + 1))) s A n c (at_ + 1) g := by
  obtain ⟨c0, c1, c2, f1, f2, hle, hh0, hh1⟩ := hs
  refine ⟨?_, World.cell?_setCell_same _ _ _ c1, ?_, ?_, ?_, hlt, hh0, hh1⟩
  · rw [World.cell?_setCell_other _ _ _ _ (by simp)]; exact c0
  · rw [World.cell?_setCell_other _ _ _ _ (by simp)]; exact c2
  · rw [World.frozen?_setCell]; exact f1
  · rw [World.frozen?_setCell]; exact f2
theorem Src.drew {w : World} {s : Nat} {A : Option Addr} {n c at_ : Nat} {g : Int} (hs : Src w s A n c at_ g) : Src w.drew s A n c at_ g := ⟨hs.code, hs.pos, hs.hash, hs.f1, hs.f2, hs.le, hs.h0, hs.h1⟩
theorem Tch.drew {s : Nat} {w w' : World} (h : Tch s w w') : Tch s w w'.drew := h
theorem Src.drewN {w : World} {s : Nat} {A : Option Addr} {n c at_ : Nat} {g : Int} (hs : Src w s A n c at_ g) (k : Nat) : Src (w.drewN k) s A n c at_ g := hs.keep (below_drewN (Below.refl _ _) k)

theorem spec_l01Next (s : Nat) (A : Option Addr) (n c at_ : Nat) (h m : Int) (bs : List Int) (w : World) (hs : Src w s A n c at_ h) (hb : Bts w A n bs) (hA : 0 < n → ∀ a, A = some a → a.block ≠ s) (hn : n ≤ 1000000) (hm : 1 ≤ m) :
    Calls Tryd.prog 23 #[.pointer (some ⟨s, 0, none⟩), .int .i64 m] w fun e w' => ∃ r, e = .returned (.int .i64 r) ∧ Nxt s A n c at_ h m r w w' := by
  have HSR := Lib.hid hs
  obtain ⟨c0, c1, c2, f1, f2, hle, hh0, hh1⟩ := hs
  have HX := Lib.hid hb
  have HA := Lib.hid hA
  clear hb hA
  have hE : IntKind.u64.wrap (IntKind.u64.wrap (h * 6364136223846793005) + 1442695040888963407) = lcg h := by
    rw [u64_wrap, u64_wrap]; unfold lcg stp; omega
  obtain ⟨g, HG⟩ : ∃ g, Hid (lcg h = g) := ⟨_, Lib.hid rfl⟩
  obtain ⟨g0, g1⟩ := lcg_bounds h
  rw [HG.out] at g0 g1 hE
  obtain ⟨x, HXX⟩ : ∃ x, Hid (lcgX g = x) := ⟨_, Lib.hid rfl⟩
  obtain ⟨x0, x1⟩ := lcgX_bounds g
  have hBB : bits BinOp.and IntKind.u64 (g / 8589934592) 16777215 = x := by
    rw [← HXX.out]
    exact u64_and _ (by omega) (by omega)
  rw [HXX.out] at x0 x1
  have HG1 := Lib.hid g1
  have HH1 := Lib.hid hh1
  clear g1 hh1
  by_cases hlt : at_ < n
  · obtain ⟨b, off, y, rfl, hbl, hyk, hck, hy0, hy1⟩ := HX.out.at_ hlt
    have hck2 := (World.cell?_setCell_far w ⟨s, 2, none⟩ ⟨b, off + at_, none⟩ (.int .u64 g) (fun e => HA.out (by omega) ⟨b, off, none⟩ rfl e.symm)).trans hck
    have hlz : (at_ : Int) < n := by omega
    clear hck hyk hbl
    go_enter Tryd.func23, Tryd.ntmps23
    go_wp2
    go_quiet (fail)
    go_wp2
    go_quiet (fail)
    go_wp2
    go_ret
    refine ⟨_, rfl, at_ + 1, ?_, fun _ => rfl, fun h => absurd h (by omega), Int.emod_nonneg _ (by omega), Int.emod_lt_of_pos _ (by omega), ?_⟩
    · rw [HG.out]
      exact src_pos ((src_step HSR.out g0 HG1.out).drewN _) hlt
    · exact (((Tch.refl s w).set 2 _).drewN _).set 1 _
  · obtain rfl : at_ = n := by omega
    go_enter Tryd.func23, Tryd.ntmps23
    go_wp2
    go_quiet (fail)
    go_wp2
    go_ret
    refine ⟨_, rfl, at_, ?_, fun h => absurd h (by omega), fun _ => ⟨rfl, ?_⟩, Int.emod_nonneg _ (by omega), Int.emod_lt_of_pos _ (by omega), ?_⟩
    · rw [HG.out]
      exact (src_step HSR.out g0 HG1.out).drewN _
    · rw [HG.out, HXX.out]
    · exact ((Tch.refl s w).set 2 _).drewN _

/-- a source of whatever state -/
def SrcW (w : World) (s : Nat) : Prop := ∃ (A : Option Addr) (n c at_ : Nat) (h : Int) (bs : List Int), Src w s A n c at_ h ∧ Bts w A n bs ∧ (0 < n → ∀ a, A = some a → a.block ≠ s) ∧ n ≤ 1000000
theorem Bts.tch {w w' : World} {s : Nat} {A : Option Addr} {n : Nat} {bs : List Int} (h : Bts w A n bs) (ht : Tch s w w') (hA : 0 < n → ∀ a, A = some a → a.block ≠ s) : Bts w' A n bs :=
  ⟨h.1, h.2.1, fun hn => by
    obtain ⟨b, off, e, hl, hc⟩ := h.2.2 hn
    exact ⟨b, off, e, Nat.lt_of_lt_of_le hl ht.2.2.2.1, fun j x hj => ⟨ht.cell (hc j x hj).1 (show b ≠ s from hA hn ⟨b, off, none⟩ e), (hc j x hj).2⟩⟩⟩
theorem SrcW.keep {w w' : World} {s : Nat} (h : SrcW w s) (hb : Below w.heap.size w w') : SrcW w' s := by
  obtain ⟨A, n, c, at_, k, bs, h1, h2, h3, h4⟩ := h
  exact ⟨A, n, c, at_, k, bs, h1.keep hb, h2.keep hb, h3, h4⟩
theorem SrcW.lt {w : World} {s : Nat} (h : SrcW w s) : s < w.heap.size := by
  obtain ⟨A, n, c, at_, k, bs, h1, _⟩ := h
  exact World.block_lt_of_cell? _ _ h1.code

theorem next_w (s : Nat) (m : Int) (w : World) (hs : SrcW w s) :
    Calls Tryd.prog 23 #[.pointer (some ⟨s, 0, none⟩), .int .i64 m] w fun e w' => ∃ r, e = .returned (.int .i64 r) ∧ (1 ≤ m → 0 ≤ r ∧ r < m) ∧ SrcW w' s ∧ Tch s w w' := by
  by_cases hm : 1 ≤ m
  · obtain ⟨A, n, c, at_, k, bs, h1, h2, h3, h4⟩ := hs
    refine (spec_l01Next s A n c at_ k m bs w h1 h2 h3 h4 hm).mono ?_
    rintro e w' ⟨r, rfl, a2, k1, _, _, r0, r1, kt⟩
    exact ⟨r, rfl, fun _ => ⟨r0, r1⟩, ⟨A, n, c, a2, _, bs, k1, h2.tch kt h3, h3, h4⟩, kt⟩
  · refine (spec_l01Next0 s m w (by omega)).mono ?_
    rintro e w' ⟨rfl, rfl⟩
    exact ⟨0, rfl, fun h => absurd h hm, hs, Tch.refl _ _⟩

theorem spec_l01Pick (s k q : Nat) (L : Option Addr) (xs : List Int) (w : World) (hs : SrcW w s) (hx : Ints w L k xs) (hL : ∀ a, L = some a → a.block ≠ s) (hk : 1 ≤ k) :
    Calls Tryd.prog 30 #[.pointer (some ⟨s, 0, none⟩), .slice L k q] w fun e w' => ∃ x, e = .returned (.int .i64 x) ∧ x ∈ xs ∧ SrcW w' s ∧ Tch s w w' := by
  have HS := Lib.hid hs
  have HX := Lib.hid hx
  have HL := Lib.hid hL
  have hm := hx.2.1
  unfold maxLen at hm
  clear hs hx hL
  go_enter Tryd.func30, Tryd.ntmps30
  go_wp2_with fail
  refine (next_w s k w HS.out).mono ?_
  rintro e w1 ⟨r, rfl, hr, h1, ht⟩
  obtain ⟨hr0, hr1⟩ := hr (by omega)
  obtain ⟨j, rfl⟩ : ∃ j : Nat, r = j := ⟨r.toNat, by omega⟩
  have hjk : j < k := by omega
  obtain ⟨b, off, x, hLe, hbl, hxj, hcell⟩ := (HX.out.tch ht HL.out).at_ hjk
  have HXJ := Lib.hid hxj
  have HT := Lib.hid ht
  have H1 := Lib.hid h1
  subst hLe
  clear hxj ht h1 hr hbl
  go_wp2_with fail
  go_ret
  exact ⟨x, rfl, List.mem_of_getElem? HXJ.out, H1.out, HT.out⟩

theorem Ints.new (w : World) (t : TypeId) (xs : List Int) (vs : Array Value) (hv : vs = (xs.map (Value.int .i64)).toArray) (hm : xs.length ≤ 1000) : Ints (w.alloc (.cells vs t)) (some ⟨w.heap.size, 0, none⟩) xs.length xs :=
  ⟨rfl, by unfold maxLen; omega, fun _ => ⟨w.heap.size, 0, rfl, by simp, fun j x hj => by
    subst hv
    have : (xs.map (Value.int .i64))[j]? = some (.int .i64 x) := by rw [List.getElem?_map, hj]; rfl
    simp [go_sem]
    simpa using hj⟩⟩

theorem spec_l01DrawPrime (s : Nat) (w : World) (hs : SrcW w s) :
    Calls Tryd.prog 31 #[.pointer (some ⟨s, 0, none⟩)] w fun e w' => ∃ x, e = .returned (.int .i64 x) ∧ SrcW w' s ∧ Tch s w w' := by
  have HS := Lib.hid (hs.keep ((Below.refl _ _).alloc (Nat.le_refl _) (.cells #[.int .i64 3, .int .i64 5, .int .i64 7, .int .i64 11, .int .i64 13, .int .i64 3, .int .i64 5, .int .i64 7] 2)))
  have hlt := hs.lt
  clear hs
  go_enter Tryd.func31, Tryd.ntmps31
  go_wp2_with fail
  refine (spec_l01Pick s 8 _ _ [3, 5, 7, 11, 13, 3, 5, 7] _ HS.out (Ints.new w _ [3, 5, 7, 11, 13, 3, 5, 7] _ rfl (by decide)) (fun a e => by injection e with e; subst e; show w.heap.size ≠ s; omega) (by omega)).mono ?_
  rintro e w1 ⟨x, rfl, _, h1, ht⟩
  have H1 := Lib.hid h1
  have HT := Lib.hid ((Tch.of ((Below.refl _ _).alloc (Nat.le_refl _) _)).trans ht)
  clear h1 ht
  go_wp2_with fail
  go_ret
  exact ⟨x, rfl, H1.out, HT.out⟩

theorem spec_l01Bad (s : Nat) (w : World) (hs : SrcW w s) :
    Calls Tryd.prog 21 #[.pointer (some ⟨s, 0, none⟩)] w fun e w' => ∃ x, e = .returned (.int .i64 x) ∧ SrcW w' s ∧ Tch s w w' := by
  have HS := Lib.hid hs
  clear hs
  go_enter Tryd.func21, Tryd.ntmps21
  go_wp2_with fail
  refine (next_w s 24 w HS.out).mono ?_
  rintro e w1 ⟨r, rfl, hr, h1, ht⟩
  have HS1 := Lib.hid h1
  have HT := Lib.hid ht
  clear h1 ht hr
  cases hz : (r == 0) with
  | true =>
    have HZ := Lib.hid hz
    have HS2 := Lib.hid (HS1.out.keep ((Below.refl _ _).alloc (Nat.le_refl _) (.cells #[.int .i64 2, .int .i64 9, .int .i64 17, .int .i64 1, .int .i64 0, .int .i64 (-3)] 2)))
    have hlt := HS1.out.lt
    go_wp2_with fail
    refine (spec_l01Pick s 6 _ _ [2, 9, 17, 1, 0, -3] _ HS2.out (Ints.new w1 _ [2, 9, 17, 1, 0, -3] _ rfl (by decide)) (fun a e => by injection e with e; subst e; show w1.heap.size ≠ s; omega) (by omega)).mono ?_
    rintro e w2 ⟨x, rfl, _, h1, ht⟩
    have H1 := Lib.hid h1
    have HT2 := Lib.hid (HT.out.trans ((Tch.of ((Below.refl _ _).alloc (Nat.le_refl _) _)).trans ht))
    clear h1 ht
    go_wp2_with fail
    go_ret
    exact ⟨x, rfl, H1.out, HT2.out⟩
  | false =>
    have HZ := Lib.hid hz
    go_wp2_with fail
    refine (spec_l01DrawPrime s _ HS1.out).mono ?_
    rintro e w2 ⟨x, rfl, h1, ht⟩
    have H1 := Lib.hid h1
    have HT2 := Lib.hid (HT.out.trans ht)
    clear h1 ht
    go_wp2_with fail
    go_ret
    exact ⟨x, rfl, H1.out, HT2.out⟩

theorem spec_l01Spoil (s : Nat) (p : Int) (w : World) (hs : SrcW w s) :
    Calls Tryd.prog 25 #[.pointer (some ⟨s, 0, none⟩), .int .i64 p] w fun e w' => ∃ x, e = .returned (.int .i64 x) ∧ SrcW w' s ∧ Tch s w w' := by
  have HS := Lib.hid hs
  clear hs
  go_enter Tryd.func25, Tryd.ntmps25
  go_wp2_with fail
  refine (next_w s 24 w HS.out).mono ?_
  rintro e w1 ⟨r, rfl, hr, h1, ht⟩
  have HS1 := Lib.hid h1
  have HT := Lib.hid ht
  clear h1 ht hr
  cases hz : (r == 0) with
  | true =>
    have HZ := Lib.hid hz
    have HS2 := Lib.hid (HS1.out.keep ((Below.refl _ _).alloc (Nat.le_refl _) (.cells #[.int .i64 (-1), .int .i64 p, .int .i64 1099511627776, .int .i64 (-4611686018427387904)] 2)))
    have hlt := HS1.out.lt
    go_wp2_with fail
    refine (spec_l01Pick s 4 _ _ [-1, p, 1099511627776, -4611686018427387904] _ HS2.out (Ints.new w1 _ [-1, p, 1099511627776, -4611686018427387904] _ rfl (by simp)) (fun a e => by injection e with e; subst e; show w1.heap.size ≠ s; omega) (by omega)).mono ?_
    rintro e w2 ⟨x, rfl, _, h1, ht⟩
    have H1 := Lib.hid h1
    have HT2 := Lib.hid (HT.out.trans ((Tch.of ((Below.refl _ _).alloc (Nat.le_refl _) _)).trans ht))
    clear h1 ht
    go_wp2_with fail
    go_ret
    exact ⟨x, rfl, H1.out, HT2.out⟩
  | false =>
    have HZ := Lib.hid hz
    go_wp2_with fail
    refine (next_w s p _ HS1.out).mono ?_
    rintro e w2 ⟨x, rfl, _, h1, ht⟩
    have H1 := Lib.hid h1
    have HT2 := Lib.hid (HT.out.trans ht)
    clear h1 ht
    go_wp2_with fail
    go_ret
    exact ⟨x, rfl, H1.out, HT2.out⟩
end Go.Proofs.YtcgghjhccnjeoaaDoor
