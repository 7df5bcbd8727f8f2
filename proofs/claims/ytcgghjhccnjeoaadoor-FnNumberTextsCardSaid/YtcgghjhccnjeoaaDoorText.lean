/- Contracts: the texts of numbers. Conditions stand in each theorem. -/
import Derived.Test.YtcgghjhccnjeoaaDoorTextP
import Derived.Test.YtcgghjhccnjeoaaDoorCode
import Derived.Test.YtcgghjhccnjeoaaDoorShelf
import Derived.Test.YtcgghjhccnjeoaaDoorMem
import Derived.Laws.IdiomStrings
namespace Go.Proofs.YtcgghjhccnjeoaaDoor
open Go.RowKit
set_option linter.unusedVariables false
set_option linter.unusedSimpArgs false

theorem dec_back (n : Int) (w : World) (h0 : 0 ≤ n) (h1 : n < 10) : (convert 22 9 (.slice (some ⟨w.heap.size, 0, none⟩) 1 1)).run Tryd.prog (w.alloc (.cells #[.int .u8 (48 + n)] 5)) = .ok (.string ⟨[dgt n].toArray⟩) (w.alloc (.cells #[.int .u8 (48 + n)] 5)) := by
  refine run_convert_bytes_back (P := Tryd.prog) _ 22 9 5 ⟨w.heap.size, 0, none⟩ 1 [dgt n] Tryd.underlying22 Tryd.underlying5 Tryd.underlying9 fun j hj => ?_
  obtain rfl : j = 0 := by simpa using hj
  have e : (((48 + n.toNat) % 256 : Nat) : Int) = 48 + n := by omega
  unfold dgt
  simp [go_sem, Addr.add, e]
  first | done | omega

theorem spec_l01Dec (n : Int) (w : World) (h0 : 0 ≤ n) (h1 : n < 10) :
    Calls Tryd.prog 29 #[.int .i64 n] w fun e w' => e = .returned (.string ⟨[dgt n].toArray⟩) ∧ Below w.heap.size w w' := by
  have hcv := dec_back n w h0 h1
  go_enter Tryd.func29, Tryd.ntmps29
  go_wp2
  go_ret
  exact ⟨rfl, (Below.refl _ _).alloc (Nat.le_refl _) _⟩

theorem txt_minus (u : UInt8) : (ByteArray.mk #[45] ++ ByteArray.mk [u].toArray) = ByteArray.mk [45, u].toArray := ByteArray.ext (by simp)

theorem spec_l01Text (p a : Int) (w : World) (h0 : 3 ≤ p) (h1 : p ≤ 13) (a0 : 0 ≤ a) (a1 : a < p) :
    Calls Tryd.prog 17 #[.int .i64 p, .int .i64 a] w fun e w' => e = .returned (.string ⟨(txtL p a).toArray⟩) ∧ Below w.heap.size w w' := by
  by_cases h : (p - 1) / 2 < a
  · have HT := Lib.hid (show txtL p a = [45, dgt (p - a)] from if_pos h)
    have hm := txt_minus (dgt (p - a))
    have HM := Lib.hid hm
    clear hm
    go_enter Tryd.func17, Tryd.ntmps17
    go_wp2_with fail
    refine (spec_l01Dec (p - a) _ (by omega) (by omega)).mono ?_
    rintro e w1 ⟨rfl, hb⟩
    have HB := Lib.hid hb
    clear hb
    go_wp2_with fail
    go_ret
    exact ⟨by rw [HT.out, ← HM.out]; rfl, HB.out⟩
  · have HT := Lib.hid (show txtL p a = [dgt a] from if_neg h)
    go_enter Tryd.func17, Tryd.ntmps17
    go_wp2_with fail
    refine (spec_l01Dec a _ (by omega) (by omega)).mono ?_
    rintro e w1 ⟨rfl, hb⟩
    have HB := Lib.hid hb
    clear hb
    go_wp2_with fail
    go_ret
    exact ⟨by rw [HT.out]; rfl, HB.out⟩

/-- the library's table of powers of ten -/
def Tb (w : World) : Prop := Lib.TabIs Tryd.prog w "internal/strconv.uint64pow10" .u64 Lib.pow10Tab
theorem Tb.keep {w w' : World} (h : Tb w) (hb : Below w.heap.size w w') : Tb w' := by
  unfold Tb Lib.TabIs World.var? at *
  cases hg : Tryd.prog.globalNamed "internal/strconv.uint64pow10" with
  | none => rw [hg] at h; simp at h
  | some g =>
    rw [hg] at h
    simp only [Option.bind_some] at h ⊢
    have hl : g < w.heap.size := by
      rcases Nat.lt_or_ge g w.heap.size with h' | h'
      · exact h'
      · rw [Array.getElem?_eq_none h'] at h; simp at h
    rw [hb.block g hl]
    exact h
theorem below_grow (w : World) (k : Nat) (os : Array Obj) : Below w.heap.size w (Sort.grow (w.drewN k) os) :=
  (below_drewN (Below.refl _ w) k).trans ⟨rfl, rfl, rfl, by simp [Sort.grow], fun i hi => by
    show (_ ++ os)[i]? = _
    exact Array.getElem?_append_left hi⟩

theorem impl_text (p a : Int) (w : World) (ht : Tb w) (h0 : 3 ≤ p) (h1 : p ≤ 13) (a0 : 0 ≤ a) (a1 : a < p) :
    Calls Tryd.prog 15 #[.int .i64 p, .int .i64 a] w fun e w' => e = .returned (.string ⟨(txtL p a).toArray⟩) ∧ Below w.heap.size w w' := by
  have HT := Lib.hid ht
  clear ht
  have HI := Lib.hid (itoa_txt h0 h1 a0 a1)
  rw [← HI.out]
  clear HI
  unfold sgnN
  by_cases h : (p - 1) / 2 < a
  · rw [if_pos h]
    go_enter Tryd.func15, Tryd.ntmps15
    go_wp2_with fail
    refine (Tryd.strconv_FormatInt_10 (a - p) (by omega) (by omega) _ HT.out).mono ?_
    rintro e w1 ⟨rfl, k, os, rfl⟩
    have HB := Lib.hid (below_grow w k os)
    go_wp2_with fail
    go_ret
    exact ⟨rfl, HB.out⟩
  · rw [if_neg h]
    go_enter Tryd.func15, Tryd.ntmps15
    go_wp2_with fail
    refine (Tryd.strconv_FormatInt_10 a (by omega) (by omega) _ HT.out).mono ?_
    rintro e w1 ⟨rfl, k, os, rfl⟩
    have HB := Lib.hid (below_grow w k os)
    go_wp2_with fail
    go_ret
    exact ⟨rfl, HB.out⟩

theorem impl_NumberText (p a : Int) (w : World) (ht : Tb w) :
    Calls Tryd.prog 8 #[.int .i64 p, .int .i64 a] w fun e w' => e = .returned (.tuple #[.string ⟨(ntL p a).toArray⟩, .int .i64 (codeN p [a])]) ∧ Below w.heap.size w w' := by
  by_cases hc : codeN p [a] = 0
  · obtain ⟨hp, hn⟩ := codeN_zero hc
    have h0 := prime_lo hp
    have h1 := prime_hi hp
    obtain ⟨ha0, ha1⟩ := nums1 hn
    have HV := Lib.hid (show ntL p a = txtL p a from if_pos hc)
    rw [HV.out, hc]
    have HT := Lib.hid (ht.keep ((Below.refl _ _).alloc (Nat.le_refl _) (.cells #[.int .i64 a] 2)))
    clear hp hn ht
    go_enter Tryd.func8, Tryd.ntmps8
    go_wp2_with fail
    refine (impl_checkNumbers _ _ _ _ [a] _ (Ints.mk1 _ _ _)).mono ?_
    rintro e w' ⟨rfl, rfl⟩
    go_wp2_with fail
    refine (impl_text p a _ HT.out h0 h1 ha0 ha1).mono ?_
    rintro e w1 ⟨rfl, hb⟩
    have HB := Lib.hid ((((Below.refl _ _).alloc (Nat.le_refl _) (.cells #[.int .i64 a] 2) : Below w.heap.size w _)).trans (hb.mono (by simp)))
    clear hb
    go_wp2_with fail
    go_ret2
    exact ⟨rfl, HB.out⟩
  · have HV := Lib.hid (show ntL p a = [] from if_neg hc)
    rw [HV.out]
    go_enter Tryd.func8, Tryd.ntmps8
    go_wp2_with (go_at_call 14; refine (impl_checkNumbers _ _ _ _ [a] _ (Ints.mk1 _ _ _)).mono ?_; rintro e w' ⟨rfl, rfl⟩)
    go_ret2
    exact ⟨rfl, (Below.refl _ _).alloc (Nat.le_refl _) _⟩

theorem spec_NumberText (p a : Int) (w : World) :
    Calls Tryd.prog 9 #[.int .i64 p, .int .i64 a] w fun e w' => e = .returned (.tuple #[.string ⟨(ntL p a).toArray⟩, .int .i64 (codeN p [a])]) ∧ Below w.heap.size w w' := by
  by_cases hc : codeN p [a] = 0
  · obtain ⟨hp, hn⟩ := codeN_zero hc
    have h0 := prime_lo hp
    have h1 := prime_hi hp
    obtain ⟨ha0, ha1⟩ := nums1 hn
    have HV := Lib.hid (show ntL p a = txtL p a from if_pos hc)
    rw [HV.out, hc]
    clear hp hn
    go_enter Tryd.func9, Tryd.ntmps9
    go_wp2_with fail
    refine (spec_l01Code _ _ _ _ [a] _ (Ints.mk1 _ _ _)).mono ?_
    rintro e w' ⟨rfl, rfl⟩
    go_wp2_with fail
    refine (spec_l01Text p a _ h0 h1 ha0 ha1).mono ?_
    rintro e w1 ⟨rfl, hb⟩
    have HB := Lib.hid ((((Below.refl _ _).alloc (Nat.le_refl _) (.cells #[.int .i64 a] 2) : Below w.heap.size w _)).trans (hb.mono (by simp)))
    clear hb
    go_wp2_with fail
    go_ret2
    exact ⟨rfl, HB.out⟩
  · have HV := Lib.hid (show ntL p a = [] from if_neg hc)
    rw [HV.out]
    go_enter Tryd.func9, Tryd.ntmps9
    go_wp2_with (go_at_call 16; refine (spec_l01Code _ _ _ _ [a] _ (Ints.mk1 _ _ _)).mono ?_; rintro e w' ⟨rfl, rfl⟩)
    go_ret2
    exact ⟨rfl, (Below.refl _ _).alloc (Nat.le_refl _) _⟩

theorem impl_parse (p : Int) (s : ByteArray) (w : World) (ht : Tb w) (h0 : 3 ≤ p) (h1 : p ≤ 13) :
    Calls Tryd.prog 19 #[.int .i64 p, .string s] w fun e w' => e = .returned (.tuple #[.int .i64 (rootV (parseN p s.toList)), .bool (okB (parseN p s.toList))]) ∧ Below w.heap.size w w' := by
  have HT := Lib.hid ht
  clear ht
  go_enter Tryd.func19, Tryd.ntmps19
  go_wp2
  go_loopw [8] (fun i wr => ∃ k : Int, 0 ≤ k ∧ k ≤ p ∧ i = .int .i64 k ∧ Hid (parseN p s.toList = parseFrom p s.toList k (p - k).toNat) ∧ Below w.heap.size w wr) (fun i _ => (p - intOf i).toNat)
  case atStart => exact ⟨0, by omega, by omega, rfl, Lib.hid (by simp [parseN]), Below.refl _ _⟩
  case round =>
    obtain ⟨k, hk0, hk1, rfl, HR, hbel⟩ := hrel
    have HB := Lib.hid hbel
    clear hbel
    by_cases hlt : k < p
    · by_cases he : txtL p k = s.toList
      · have HE := Lib.hid (HR.out.trans (parseFrom_hit hlt he))
        have het : (txtL p k == s.toList) = true := by simpa using he
        clear he
        go_wp2_with fail
        refine (impl_text p k _ (HT.out.keep HB.out) h0 h1 hk0 hlt).mono ?_
        rintro e w1 ⟨rfl, hb⟩
        have HB1 := Lib.hid (below_then HB.out hb)
        clear hb
        go_wp2_with fail
        go_ret2
        exact ⟨by rw [HE.out, show rootV k = k by unfold rootV; rw [if_neg (by omega)], show okB k = true by unfold okB; exact decide_eq_true hk0]; rfl, HB1.out⟩
      · have HE := Lib.hid (HR.out.trans (parseFrom_miss hlt he))
        have het : (txtL p k == s.toList) = false := by simpa using he
        clear he
        go_wp2_with fail
        refine (impl_text p k _ (HT.out.keep HB.out) h0 h1 hk0 hlt).mono ?_
        rintro e w1 ⟨rfl, hb⟩
        have HB1 := Lib.hid (below_then HB.out hb)
        clear hb
        go_wp2_with fail
        go_roundw
        case rel => exact ⟨k + 1, by omega, by omega, rfl, HE, HB1.out⟩
        case measure => simp [intOf]; omega
    · have HE := Lib.hid (HR.out.trans (parseFrom_end (by omega)))
      go_wp2_with fail
      go_ret2
      exact ⟨by rw [HE.out]; rfl, HB.out⟩

theorem impl_ParseNumber (p : Int) (s : ByteArray) (w : World) (ht : Tb w) :
    Calls Tryd.prog 10 #[.int .i64 p, .string s] w fun e w' => e = .returned (.tuple #[.int .i64 (pnV p s.toList), .int .i64 (pnC p s.toList)]) ∧ Below w.heap.size w w' := by
  have HT := Lib.hid ht
  clear ht
  by_cases hp : primeB p = true
  · have h0 := prime_lo hp
    have h1 := prime_hi hp
    by_cases hz : parseN p s.toList < 0
    · have HC := Lib.hid (show pnC p s.toList = 6 from (if_pos hp).trans (if_pos hz))
      have HV := Lib.hid (show pnV p s.toList = 0 from (if_pos hp).trans (if_pos hz))
      have hk : okB (parseN p s.toList) = false := by unfold okB; exact decide_eq_false (by omega)
      rw [HV.out, HC.out]
      clear hz
      go_enter Tryd.func10, Tryd.ntmps10
      go_wp2_with fail
      refine (impl_IsPrime _ _).mono ?_
      rintro e w' ⟨rfl, rfl⟩
      go_wp2_with fail
      refine (impl_parse p s _ HT.out h0 h1).mono ?_
      rintro e w1 ⟨rfl, hb⟩
      have HB := Lib.hid hb
      clear hb
      go_wp2_with fail
      go_ret2
      exact ⟨rfl, HB.out⟩
    · have HC := Lib.hid (show pnC p s.toList = 0 from (if_pos hp).trans (if_neg hz))
      have HV := Lib.hid (show pnV p s.toList = parseN p s.toList from (if_pos hp).trans (if_neg hz))
      have HW := Lib.hid (show rootV (parseN p s.toList) = parseN p s.toList from if_neg hz)
      have hk : okB (parseN p s.toList) = true := by unfold okB; exact decide_eq_true (by omega)
      rw [HV.out, HC.out]
      clear hz
      go_enter Tryd.func10, Tryd.ntmps10
      go_wp2_with fail
      refine (impl_IsPrime _ _).mono ?_
      rintro e w' ⟨rfl, rfl⟩
      go_wp2_with fail
      refine (impl_parse p s _ HT.out h0 h1).mono ?_
      rintro e w1 ⟨rfl, hb⟩
      have HB := Lib.hid hb
      clear hb
      go_wp2_with fail
      go_ret2
      exact ⟨ret_pair HW.out, HB.out⟩
  · have hp' : primeB p = false := by simpa using hp
    have HC := Lib.hid (show pnC p s.toList = 1 from if_neg hp)
    have HV := Lib.hid (show pnV p s.toList = 0 from if_neg hp)
    rw [HV.out, HC.out]
    clear hp
    go_enter Tryd.func10, Tryd.ntmps10
    go_wp2_with (go_at_call 18; refine (impl_IsPrime _ _).mono ?_; rintro e w' ⟨rfl, rfl⟩)
    go_ret2
    exact ⟨rfl, Below.refl _ _⟩

theorem spec_ParseNumber (p : Int) (s : ByteArray) (w : World) :
    Calls Tryd.prog 12 #[.int .i64 p, .string s] w fun e w' => e = .returned (.tuple #[.int .i64 (pnV p s.toList), .int .i64 (pnC p s.toList)]) ∧ Below w.heap.size w w' := by
  by_cases hp : primeB p = true
  · have h0 := prime_lo hp
    have h1 := prime_hi hp
    have HC := Lib.hid (show pnC p s.toList = (if parseN p s.toList < 0 then 6 else 0) from if_pos hp)
    have HV := Lib.hid (show pnV p s.toList = (if parseN p s.toList < 0 then 0 else parseN p s.toList) from if_pos hp)
    go_enter Tryd.func12, Tryd.ntmps12
    go_wp2_with fail
    refine (spec_l01Prime _ _).mono ?_
    rintro e w' ⟨rfl, rfl⟩
    go_wp2_with fail
    go_loopw [6] (fun i wr => ∃ k : Int, 0 ≤ k ∧ k ≤ p ∧ i = .int .i64 k ∧ Hid (parseN p s.toList = parseFrom p s.toList k (p - k).toNat) ∧ Below w.heap.size w wr) (fun i _ => (p - intOf i).toNat)
    case atStart => exact ⟨0, by omega, by omega, rfl, Lib.hid (by simp [parseN]), Below.refl _ _⟩
    case round =>
      obtain ⟨k, hk0, hk1, rfl, HR, hbel⟩ := hrel
      have HB := Lib.hid hbel
      clear hbel
      by_cases hlt : k < p
      · by_cases he : txtL p k = s.toList
        · have HE := Lib.hid (HR.out.trans (parseFrom_hit hlt he))
          have het : (txtL p k == s.toList) = true := by simpa using he
          clear he
          go_wp2_with fail
          refine (spec_l01Text p k _ h0 h1 hk0 hlt).mono ?_
          rintro e w1 ⟨rfl, hb⟩
          have HB1 := Lib.hid (below_then HB.out hb)
          clear hb
          go_wp2_with fail
          go_ret2
          exact ⟨by rw [HC.out, HV.out, HE.out, if_neg (by omega), if_neg (by omega)]; rfl, HB1.out⟩
        · have HE := Lib.hid (HR.out.trans (parseFrom_miss hlt he))
          have het : (txtL p k == s.toList) = false := by simpa using he
          clear he
          go_wp2_with fail
          refine (spec_l01Text p k _ h0 h1 hk0 hlt).mono ?_
          rintro e w1 ⟨rfl, hb⟩
          have HB1 := Lib.hid (below_then HB.out hb)
          clear hb
          go_wp2_with fail
          go_roundw
          case rel => exact ⟨k + 1, by omega, by omega, rfl, HE, HB1.out⟩
          case measure => simp [intOf]; omega
      · have HE := Lib.hid (HR.out.trans (parseFrom_end (by omega)))
        go_wp2_with fail
        go_ret2
        exact ⟨by rw [HC.out, HV.out, HE.out]; rfl, HB.out⟩
  · have hp' : primeB p = false := by simpa using hp
    have HC := Lib.hid (show pnC p s.toList = 1 from if_neg hp)
    have HV := Lib.hid (show pnV p s.toList = 0 from if_neg hp)
    rw [HV.out, HC.out]
    clear hp
    go_enter Tryd.func12, Tryd.ntmps12
    go_wp2_with (go_at_call 22; refine (spec_l01Prime _ _).mono ?_; rintro e w' ⟨rfl, rfl⟩)
    go_ret2
    exact ⟨rfl, Below.refl _ _⟩
end Go.Proofs.YtcgghjhccnjeoaaDoor
