/- Contract: a damaged text. Conditions stand in each theorem. -/
import Derived.Test.YtcgghjhccnjeoaaDoorDraw2
namespace Go.Proofs.YtcgghjhccnjeoaaDoor
open Go.RowKit
set_option linter.unusedVariables false
set_option linter.unusedSimpArgs false

def signsA : Array Value := #[.string ⟨#[48]⟩, .string ⟨#[49]⟩, .string ⟨#[50]⟩, .string ⟨#[53]⟩, .string ⟨#[57]⟩, .string ⟨#[45]⟩, .string ⟨#[43]⟩, .string ⟨#[42]⟩, .string ⟨#[94]⟩, .string ⟨#[46]⟩, .string ⟨#[126]⟩, .string ⟨#[40]⟩, .string ⟨#[41]⟩, .string ⟨#[101]⟩, .string ⟨#[32]⟩, .string ⟨#[44]⟩, .string ⟨#[101, 48]⟩, .string ⟨#[101, 49]⟩, .string ⟨#[120]⟩, .string ⟨#[59]⟩, .string ⟨#[58]⟩, .string ⟨#[10]⟩]
theorem signs_at (j : Nat) (h : j < 22) : ∃ s : ByteArray, signsA[j]? = some (.string s) ∧ 1 ≤ s.size ∧ s.size ≤ 2 := by
  have : ∀ j ∈ List.range 22, (match signsA[j]? with | some (.string s) => decide (1 ≤ s.size ∧ s.size ≤ 2) | _ => false) = true := by decide +kernel
  have := this j (List.mem_range.2 h)
  split at this
  · rename_i s e
    exact ⟨s, e, by simpa using this⟩
  · cases this

theorem spec_l01Damage (s : Nat) (A : Option Addr) (n c at_ : Nat) (h : Int) (bs : List Int) (t : ByteArray) (w : World) (hs : Src w s A n c at_ h) (hb : Bts w A n bs) (hA : 0 < n → ∀ a, A = some a → a.block ≠ s) (hn : n ≤ 1000000) (ht : (t.size : Int) ≤ 4611686018427387904) :
    Calls Tryd.prog 24 #[.pointer (some ⟨s, 0, none⟩), .string t] w fun e w' => ∃ (t2 : ByteArray) (a2 : Nat) (h2 : Int), e = .returned (.string t2) ∧ t2.size ≤ t.size + 2 ∧ Src w' s A n c a2 h2 ∧ (at_ < n → at_ < a2) ∧ (at_ = n → a2 = n) ∧ (h2 = lcg h ∨ h2 = lcg (lcg (lcg h))) ∧ Tch s w w' := by
  have HS := Lib.hid (hs.keep ((Below.refl _ _).alloc (Nat.le_refl _) (.cells signsA 9)))
  have HX := Lib.hid (hb.keep ((Below.refl _ _).alloc (Nat.le_refl _) (.cells signsA 9)))
  have HA := Lib.hid hA
  have hlt := World.block_lt_of_cell? _ _ hs.code
  have HT0 := Lib.hid (show Tch s w (w.alloc (.cells signsA 9)) from Tch.of ((Below.refl _ _).alloc (Nat.le_refl _) _))
  have hcell : ∀ (j : Nat) v, signsA[j]? = some v → (w.alloc (.cells signsA 9)).cell? ⟨w.heap.size, j, none⟩ = some v := fun j v hj => by simp [go_sem, hj]
  have HC := Lib.hid hcell
  clear hs hb hA hcell
  unfold signsA at HS HX HT0 HC
  go_enter Tryd.func24, Tryd.ntmps24
  go_wp2_with fail
  refine (spec_l01Next s A n c at_ h 22 bs _ HS.out HX.out HA.out hn (by omega)).mono ?_
  rintro e w1 ⟨r, rfl, a1, hs1, k1, k2, r0, r1, ht1⟩
  obtain ⟨j, rfl⟩ : ∃ j : Nat, r = j := ⟨r.toNat, by omega⟩
  obtain ⟨cs, hcs, cs1, cs2⟩ := signs_at j (by omega)
  have hcc := ht1.cell (HC.out j _ hcs) (show w.heap.size ≠ s by omega)
  have HS1 := Lib.hid hs1
  have HX1 := Lib.hid (HX.out.tch ht1 HA.out)
  have HT1 := Lib.hid (HT0.out.trans ht1)
  have K1 := Lib.hid k1
  have K2 := Lib.hid (fun h => (k2 h).1 : at_ = n → a1 = n)
  have hj22 : j < 22 := by omega
  clear hs1 ht1 k1 k2 r0 r1 hcs HS HX HT0 HC
  by_cases hz : t.size = 0
  · have hzb : ((t.size : Int) == 0) = true := by rw [hz]; rfl
    have HZ := Lib.hid hz
    clear hz
    go_wp2_with fail
    go_ret
    exact ⟨cs, a1, _, rfl, by omega, HS1.out, fun h => by have := K1.out h; omega, K2.out, .inl rfl, HT1.out⟩
  · have hzb : ((t.size : Int) == 0) = false := by rw [beq_eq_false_iff_ne]; omega
    have hz1 : 1 ≤ t.size := by omega
    clear hz
    go_wp2_with fail
    refine (spec_l01Next s A n c a1 _ t.size bs _ HS1.out HX1.out HA.out hn (by omega)).mono ?_
    rintro e w2 ⟨r, rfl, a2, hs2, k1, k2, r0, r1, ht2⟩
    obtain ⟨k, rfl⟩ : ∃ k : Nat, r = k := ⟨r.toNat, by omega⟩
    have hkt : k < t.size := by omega
    have HS2 := Lib.hid hs2
    have HX2 := Lib.hid (HX1.out.tch ht2 HA.out)
    have HT2 := Lib.hid (HT1.out.trans ht2)
    have L1 := Lib.hid k1
    have L2 := Lib.hid (fun h => (k2 h).1 : a1 = n → a2 = n)
    clear hs2 ht2 k1 k2 r0 r1
    go_wp2_with fail
    refine (spec_l01Next s A n c a2 _ 3 bs _ HS2.out HX2.out HA.out hn (by omega)).mono ?_
    rintro e w3 ⟨d, rfl, a3, hs3, k1, k2, d0, d1, ht3⟩
    have HS3 := Lib.hid hs3
    have HT3 := Lib.hid (HT2.out.trans ht3)
    have M1 := Lib.hid k1
    have M2 := Lib.hid (fun h => (k2 h).1 : a2 = n → a3 = n)
    clear hs3 ht3 k1 k2
    have F1 := Lib.hid (show at_ < n → at_ < a3 by
      intro h
      have e1 := K1.out h
      rcases Nat.lt_or_ge a1 n with h2 | h2
      · have e2 := L1.out h2
        rcases Nat.lt_or_ge a2 n with h3 | h3
        · have e3 := M1.out h3; omega
        · have e3 := M2.out (by have := HS2.out.le; omega); omega
      · have e2 := L2.out (by have := HS1.out.le; omega)
        have e3 := M2.out e2; omega)
    have F2 := Lib.hid (show at_ = n → a3 = n from fun h => M2.out (L2.out (K2.out h)))
    have hd : d = 0 ∨ d = 1 ∨ d = 2 := by omega
    clear d0 d1
    rcases hd with rfl | rfl | rfl
    · go_wp2_with fail
      go_quiet (fail)
      go_wp2_with fail
      go_ret
      refine ⟨_, a3, _, rfl, ?_, HS3.out.drewN _, F1.out, F2.out, .inr rfl, HT3.out.drewN _⟩
      simp [ByteArray.size_append, ByteArray.size_extract]
      omega
    · go_wp2_with fail
      go_quiet (fail)
      go_wp2_with fail
      go_ret
      refine ⟨_, a3, _, rfl, ?_, HS3.out.drewN _, F1.out, F2.out, .inr rfl, HT3.out.drewN _⟩
      simp [ByteArray.size_append, ByteArray.size_extract]
      omega
    · go_wp2_with fail
      go_quiet (fail)
      go_wp2_with fail
      go_ret
      refine ⟨_, a3, _, rfl, ?_, HS3.out.drewN _, F1.out, F2.out, .inr rfl, HT3.out.drewN _⟩
      simp [ByteArray.size_append, ByteArray.size_extract]
      omega
end Go.Proofs.YtcgghjhccnjeoaaDoor
