/- Contracts: discriminant, regularity, multivectors as arguments. Conditions stand in each theorem. -/
import Derived.Test.YtcieohpbeckjfaaSpace
namespace Go.Proofs.Ytcieohpbeckjfaa
open Go.RowKit
set_option linter.unusedVariables false

theorem spec_l03Disc (p : Int) (A : Option Addr) (n c : Nat) (xs : List Int) (w : World) (hx : Ints w A n xs) (hp : primeB p = true) (hn : numsB p xs = true) :
    Calls Try.prog 53 #[.agg #[.int .i64 p, .slice A n c]] w fun e w' => e = .returned (.int .i64 (discN p xs)) ∧ Below w.heap.size w w' := by
  have HX := Lib.hid hx
  have hm := hx.2.1
  have HN := Lib.hid hx.1
  clear hx
  unfold maxLen at hm
  have H2 := Lib.hid (show Below w.heap.size w (w.alloc (.cells #[.int .i64 p, .slice A n c] 27)) from (Below.refl _ _).alloc (Nat.le_refl _) _)
  have h0 := prime_lo hp
  have h1 := prime_hi hp
  have HM := Lib.hid hn
  clear hn hp
  go_enter Try.func53, Try.ntmps53
  have c0 : (w.alloc (.cells #[.int .i64 p, .slice A n c] 27)).cell? ⟨w.heap.size, 0, none⟩ = some (.int .i64 p) := by simp [go_sem]
  have c1 : (w.alloc (.cells #[.int .i64 p, .slice A n c] 27)).cell? ⟨w.heap.size, 1, none⟩ = some (.slice A n c) := by simp [go_sem]
  have HW := Lib.hid (Below.refl (w.alloc (.cells #[.int .i64 p, .slice A n c] 27)).heap.size (w.alloc (.cells #[.int .i64 p, .slice A n c] 27)))
  go_wp2
  go_loopw [3, 4] (fun o i wr => ∃ (k : Nat) (d : Int), k ≤ n ∧ i = .int .i64 k ∧ o = .int .i64 d ∧ 0 ≤ d ∧ d < p ∧ d = discL p (xs.take k) 1 ∧ Below (w.alloc (.cells #[.int .i64 p, .slice A n c] 27)).heap.size (w.alloc (.cells #[.int .i64 p, .slice A n c] 27)) wr) (fun _ i _ => n - (intOf i).toNat)
  case atStart => exact ⟨0, 1, Nat.zero_le _, rfl, rfl, by omega, by omega, rfl, HW.out⟩
  case round =>
    obtain ⟨k, d, hk, rfl, rfl, hd0, hd1, hd, hbel⟩ := hrel
    have HD := Lib.hid hd
    have HV := Lib.hid hbel
    have e0 := keep_cell hbel c0
    have e1 := keep_cell hbel c1
    clear hd hbel c0 c1 HW
    by_cases hlt : k < n
    · obtain ⟨b1, off1, x, rfl, hb1, hxk, hck1⟩ := (HX.out.keep (H2.out.trans (HV.out.mono H2.out.size))).at_ hlt
      obtain ⟨hx0, hx1⟩ := numB_true (numsB_at HM.out hxk)
      obtain ⟨m0, m1⟩ := mul_bounds (a := d) (b := x) (p := p) (by omega) (by omega) (by omega) (by omega) (by omega)
      have HK := Lib.hid hxk
      clear hxk hb1
      have f1 : IntKind.i64.wrap (d * x) = d * x := IntWalk.i64_in _ (by omega)
      have f2 : (d * x).tmod p = (d * x) % p := Int.tmod_eq_emod_of_nonneg (by omega)
      go_wp2
      go_quiet (fail)
      clear f1 f2
      go_wp2
      go_roundw
      case rel => exact ⟨k + 1, (d * x) % p, by omega, by go_num, rfl, Int.emod_nonneg _ (by omega), Int.emod_lt_of_pos _ (by omega), by rw [discL_step HK.out, HD.out], below_drewN HV.out _⟩
      case measure => simp [intOf]; omega
    · obtain rfl : k = n := by omega
      go_wp2
      go_ret
      exact ⟨ret_int (by rw [HD.out, List.take_of_length_le (by have := HN.out; omega)]; rfl), H2.out.trans (HV.out.mono H2.out.size)⟩

theorem Space_discriminant (p : Int) (A : Option Addr) (n c : Nat) (xs : List Int) (w : World) (hx : Ints w A n xs) (hp : primeB p = true) (hn : numsB p xs = true) :
    Calls Try.prog 54 #[.agg #[.int .i64 p, .slice A n c]] w fun e w' => e = .returned (.int .i64 (discN p xs)) ∧ Below w.heap.size w w' := by
  have HX := Lib.hid hx
  have hm := hx.2.1
  have HN := Lib.hid hx.1
  clear hx
  unfold maxLen at hm
  have H2 := Lib.hid (show Below w.heap.size w (w.alloc (.cells #[.int .i64 p, .slice A n c] 27)) from (Below.refl _ _).alloc (Nat.le_refl _) _)
  have h0 := prime_lo hp
  have h1 := prime_hi hp
  have HM := Lib.hid hn
  clear hn hp
  go_enter Try.func54, Try.ntmps54
  have c0 : (w.alloc (.cells #[.int .i64 p, .slice A n c] 27)).cell? ⟨w.heap.size, 0, none⟩ = some (.int .i64 p) := by simp [go_sem]
  have c1 : (w.alloc (.cells #[.int .i64 p, .slice A n c] 27)).cell? ⟨w.heap.size, 1, none⟩ = some (.slice A n c) := by simp [go_sem]
  have HW := Lib.hid (Below.refl (w.alloc (.cells #[.int .i64 p, .slice A n c] 27)).heap.size (w.alloc (.cells #[.int .i64 p, .slice A n c] 27)))
  go_wp2
  go_loopw [3, 9] (fun o i wr => ∃ (k : Nat) (d : Int), k ≤ n ∧ i = .int .i64 k ∧ o = .int .i64 d ∧ 0 ≤ d ∧ d < p ∧ d = discL p (xs.take k) 1 ∧ Below (w.alloc (.cells #[.int .i64 p, .slice A n c] 27)).heap.size (w.alloc (.cells #[.int .i64 p, .slice A n c] 27)) wr) (fun _ i _ => n - (intOf i).toNat)
  case atStart => exact ⟨0, 1, Nat.zero_le _, rfl, rfl, by omega, by omega, rfl, HW.out⟩
  case round =>
    obtain ⟨k, d, hk, rfl, rfl, hd0, hd1, hd, hbel⟩ := hrel
    have HD := Lib.hid hd
    have HV := Lib.hid hbel
    have e0 := keep_cell hbel c0
    have e1 := keep_cell hbel c1
    clear hd hbel c0 c1 HW
    by_cases hlt : k < n
    · obtain ⟨b1, off1, x, rfl, hb1, hxk, hck1⟩ := (HX.out.keep (H2.out.trans (HV.out.mono H2.out.size))).at_ hlt
      obtain ⟨hx0, hx1⟩ := numB_true (numsB_at HM.out hxk)
      obtain ⟨m0, m1⟩ := mul_bounds (a := d) (b := x) (p := p) (by omega) (by omega) (by omega) (by omega) (by omega)
      have HK := Lib.hid hxk
      clear hxk hb1
      go_wp2_with fail
      refine (Space_field _ _ _ _ _).mono ?_
      rintro e v ⟨rfl, hb⟩
      replace HV := Lib.hid (below_then HV.out hb)
      clear hb
      go_wp2_with (go_at_call 58; refine (impl_num _ _ _ (by omega) (by omega)).mono ?_; rintro e w' ⟨rfl, rfl⟩)
      go_roundw
      case rel => exact ⟨k + 1, (d * x) % p, by omega, by go_num, rfl, Int.emod_nonneg _ (by omega), Int.emod_lt_of_pos _ (by omega), by rw [discL_step HK.out, HD.out], HV.out⟩
      case measure => simp [intOf]; omega
    · obtain rfl : k = n := by omega
      go_wp2
      go_ret
      exact ⟨ret_int (by rw [HD.out, List.take_of_length_le (by have := HN.out; omega)]; rfl), H2.out.trans (HV.out.mono H2.out.size)⟩

theorem slices_Index0 (A : Option Addr) (n c : Nat) (xs : List Int) (w : World) (hx : Ints w A n xs) :
    Calls Try.prog 92 #[.slice A n c, .int .i64 0] w fun e w' => ∃ r : Int, e = .returned (.int .i64 r) ∧ -1 ≤ r ∧ r < 9223372036854775807 ∧ (0 ≤ r ↔ (0 : Int) ∈ xs) ∧ w = w' := by
  have HX := Lib.hid hx
  have hm := hx.2.1
  clear hx
  unfold maxLen at hm
  go_enter Try.func92, Try.ntmps92
  go_wp2
  go_loop [8] (fun i => ∃ k : Nat, k ≤ n ∧ i = .int .i64 k ∧ ¬ (0 : Int) ∈ xs.take k) (fun i => n - (intOf i).toNat)
  case atStart => exact ⟨0, Nat.zero_le _, rfl, by simp⟩
  case round =>
    obtain ⟨k, hk, rfl, hall⟩ := hrel
    have HA := Lib.hid hall
    clear hall
    by_cases hlt : k < n
    · obtain ⟨b1, off1, x, rfl, hb1, hxk, hck1⟩ := HX.out.at_ hlt
      have HK := Lib.hid hxk
      clear hxk hb1
      by_cases h0 : x = 0
      · subst h0
        go_wp2
        go_ret
        exact ⟨k, rfl, by omega, by omega, ⟨fun _ => List.mem_of_getElem? HK.out, fun _ => by omega⟩, rfl⟩
      · have g1 : (0 == x) = false := by simp; omega
        have H0 := Lib.hid h0
        clear h0
        go_wp2
        go_round
        case rel => exact ⟨k + 1, by omega, by go_num, by rw [take_snoc HK.out]; intro h; rcases List.mem_append.1 h with h | h
                                                          · exact HA.out h
                                                          · exact H0.out (List.mem_singleton.1 h).symm⟩
        case measure => simp [intOf]; omega
    · obtain rfl : k = n := by omega
      go_wp2
      go_ret
      exact ⟨-1, rfl, by omega, by omega, ⟨fun h => by omega, fun h => by have := HA.out; rw [List.take_of_length_le (by have := HX.out.1; omega)] at this; exact absurd h this⟩, rfl⟩

theorem slices_Contains0 (A : Option Addr) (n c : Nat) (xs : List Int) (w : World) (hx : Ints w A n xs) :
    Calls Try.prog 79 #[.slice A n c, .int .i64 0] w fun e w' => e = .returned (.bool (xs.contains 0)) ∧ w = w' := by
  have HX := Lib.hid hx
  clear hx
  go_enter Try.func79, Try.ntmps79
  go_wp2_with fail
  refine (slices_Index0 _ _ _ xs _ HX.out).mono ?_
  rintro e w' ⟨r, rfl, hr0, hr1, hr, rfl⟩
  have HR := Lib.hid hr
  clear hr
  by_cases h : (0 : Int) ≤ r
  · go_wp2
    go_ret
    exact ⟨ret_bool (List.contains_iff_mem.2 (HR.out.1 h)).symm, rfl⟩
  · go_wp2
    go_ret
    exact ⟨ret_bool (by
      cases e : xs.contains 0 with
      | false => exact decide_eq_false (by omega)
      | true => have := HR.out.2 (List.contains_iff_mem.1 e); omega), rfl⟩

theorem Space_regular (p : Int) (A : Option Addr) (n c : Nat) (xs : List Int) (w : World) (hx : Ints w A n xs) :
    Calls Try.prog 55 #[.agg #[.int .i64 p, .slice A n c]] w fun e w' => e = .returned (.bool (regB xs)) ∧ Below w.heap.size w w' := by
  have HX := Lib.hid hx
  have hm := hx.2.1
  have HN := Lib.hid hx.1
  clear hx
  unfold maxLen at hm
  have H2 := Lib.hid (show Below w.heap.size w (w.alloc (.cells #[.int .i64 p, .slice A n c] 27)) from (Below.refl _ _).alloc (Nat.le_refl _) _)
  go_enter Try.func55, Try.ntmps55
  have c0 : (w.alloc (.cells #[.int .i64 p, .slice A n c] 27)).cell? ⟨w.heap.size, 0, none⟩ = some (.int .i64 p) := by simp [go_sem]
  have c1 : (w.alloc (.cells #[.int .i64 p, .slice A n c] 27)).cell? ⟨w.heap.size, 1, none⟩ = some (.slice A n c) := by simp [go_sem]
  have HW := Lib.hid (Below.refl (w.alloc (.cells #[.int .i64 p, .slice A n c] 27)).heap.size (w.alloc (.cells #[.int .i64 p, .slice A n c] 27)))
  go_wp2_with (go_at_call 79; refine (slices_Contains0 _ _ _ xs _ (HX.out.keep H2.out)).mono ?_; rintro e w' ⟨rfl, rfl⟩)
  all_goals
    go_ret
    exact ⟨ret_bool (by simp [regB]), H2.out⟩

theorem spec_DiscriminantOf (p : Int) (A : Option Addr) (n c : Nat) (xs : List Int) (w : World) (hx : Ints w A n xs) :
    Calls Try.prog 24 #[.agg #[.int .i64 p, .slice A n c]] w fun e w' => e = .returned (.tuple #[.int .i64 (okOr (codeS p xs 0 []) (discN p xs)), .int .i64 (codeS p xs 0 [])]) ∧ Below w.heap.size w w' := by
  have HX := Lib.hid hx
  have hm := hx.2.1
  have HN := Lib.hid hx.1
  clear hx
  unfold maxLen at hm
  have H2 := Lib.hid (show Below w.heap.size w (w.alloc (.cells #[.int .i64 p, .slice A n c] 27)) from (Below.refl _ _).alloc (Nat.le_refl _) _)
  by_cases hs : spaceB p xs = true
  · obtain ⟨hp, hl0, hl1, hn⟩ := spaceB_true hs
    have HC := Lib.hid (show codeS p xs 0 [] = 0 by simp [codeS, hs])
    have HV := Lib.hid (show okOr (codeS p xs 0 []) (discN p xs) = discN p xs by simp [okOr, HC.out])
    rw [HV.out, HC.out]
    have HP := Lib.hid hp
    have HM := Lib.hid hn
    go_enter Try.func24, Try.ntmps24
    have c0 : (w.alloc (.cells #[.int .i64 p, .slice A n c] 27)).cell? ⟨w.heap.size, 0, none⟩ = some (.int .i64 p) := by simp [go_sem]
    have c1 : (w.alloc (.cells #[.int .i64 p, .slice A n c] 27)).cell? ⟨w.heap.size, 1, none⟩ = some (.slice A n c) := by simp [go_sem]
    have HW := Lib.hid (Below.refl (w.alloc (.cells #[.int .i64 p, .slice A n c] 27)).heap.size (w.alloc (.cells #[.int .i64 p, .slice A n c] 27)))
    go_wp2_with fail
    refine (spec_l03Is _ _ _ _ xs _ (HX.out.keep (H2.out.trans (HW.out.mono H2.out.size)))).mono ?_
    rintro e v ⟨rfl, hb⟩
    replace c0 := keep_cell hb c0
    replace c1 := keep_cell hb c1
    replace HW := Lib.hid (below_then HW.out hb)
    clear hb
    go_wp2_with fail
    refine (spec_l03Disc _ _ _ _ xs _ (HX.out.keep (H2.out.trans (HW.out.mono H2.out.size))) HP.out HM.out).mono ?_
    rintro e v ⟨rfl, hb⟩
    replace c0 := keep_cell hb c0
    replace c1 := keep_cell hb c1
    replace HW := Lib.hid (below_then HW.out hb)
    clear hb
    go_wp2_with fail
    go_ret2
    exact ⟨rfl, (H2.out.trans (HW.out.mono H2.out.size))⟩
  · have hs' : spaceB p xs = false := by simpa using hs
    have HC := Lib.hid (show codeS p xs 0 [] = 1 by simp [codeS, hs'])
    have HV := Lib.hid (show okOr (codeS p xs 0 []) (discN p xs) = 0 by simp [HC.out, okOr])
    rw [HV.out, HC.out]
    clear hs
    go_enter Try.func24, Try.ntmps24
    have c0 : (w.alloc (.cells #[.int .i64 p, .slice A n c] 27)).cell? ⟨w.heap.size, 0, none⟩ = some (.int .i64 p) := by simp [go_sem]
    have c1 : (w.alloc (.cells #[.int .i64 p, .slice A n c] 27)).cell? ⟨w.heap.size, 1, none⟩ = some (.slice A n c) := by simp [go_sem]
    have HW := Lib.hid (Below.refl (w.alloc (.cells #[.int .i64 p, .slice A n c] 27)).heap.size (w.alloc (.cells #[.int .i64 p, .slice A n c] 27)))
    go_wp2_with fail
    refine (spec_l03Is _ _ _ _ xs _ (HX.out.keep (H2.out.trans (HW.out.mono H2.out.size)))).mono ?_
    rintro e v ⟨rfl, hb⟩
    replace c0 := keep_cell hb c0
    replace c1 := keep_cell hb c1
    replace HW := Lib.hid (below_then HW.out hb)
    clear hb
    go_wp2_with fail
    go_ret2
    exact ⟨rfl, (H2.out.trans (HW.out.mono H2.out.size))⟩

theorem impl_DiscriminantOf (p : Int) (A : Option Addr) (n c : Nat) (xs : List Int) (w : World) (hx : Ints w A n xs) :
    Calls Try.prog 25 #[.agg #[.int .i64 p, .slice A n c]] w fun e w' => e = .returned (.tuple #[.int .i64 (okOr (codeS p xs 0 []) (discN p xs)), .int .i64 (codeS p xs 0 [])]) ∧ Below w.heap.size w w' := by
  have HX := Lib.hid hx
  have hm := hx.2.1
  have HN := Lib.hid hx.1
  clear hx
  unfold maxLen at hm
  have H2 := Lib.hid (show Below w.heap.size w (w.alloc (.cells #[.int .i64 p, .slice A n c] 27)) from (Below.refl _ _).alloc (Nat.le_refl _) _)
  by_cases hs : spaceB p xs = true
  · obtain ⟨hp, hl0, hl1, hn⟩ := spaceB_true hs
    have HC := Lib.hid (show codeS p xs 0 [] = 0 by simp [codeS, hs])
    have HV := Lib.hid (show okOr (codeS p xs 0 []) (discN p xs) = discN p xs by simp [okOr, HC.out])
    rw [HV.out, HC.out]
    have HP := Lib.hid hp
    have HM := Lib.hid hn
    go_enter Try.func25, Try.ntmps25
    have c0 : (w.alloc (.cells #[.int .i64 p, .slice A n c] 27)).cell? ⟨w.heap.size, 0, none⟩ = some (.int .i64 p) := by simp [go_sem]
    have c1 : (w.alloc (.cells #[.int .i64 p, .slice A n c] 27)).cell? ⟨w.heap.size, 1, none⟩ = some (.slice A n c) := by simp [go_sem]
    have HW := Lib.hid (Below.refl (w.alloc (.cells #[.int .i64 p, .slice A n c] 27)).heap.size (w.alloc (.cells #[.int .i64 p, .slice A n c] 27)))
    go_wp2_with fail
    refine (impl_IsSpace _ _ _ _ xs _ (HX.out.keep (H2.out.trans (HW.out.mono H2.out.size)))).mono ?_
    rintro e v ⟨rfl, hb⟩
    replace c0 := keep_cell hb c0
    replace c1 := keep_cell hb c1
    replace HW := Lib.hid (below_then HW.out hb)
    clear hb
    go_wp2_with fail
    refine (Space_discriminant _ _ _ _ xs _ (HX.out.keep (H2.out.trans (HW.out.mono H2.out.size))) HP.out HM.out).mono ?_
    rintro e v ⟨rfl, hb⟩
    replace c0 := keep_cell hb c0
    replace c1 := keep_cell hb c1
    replace HW := Lib.hid (below_then HW.out hb)
    clear hb
    go_wp2_with fail
    go_ret2
    exact ⟨rfl, (H2.out.trans (HW.out.mono H2.out.size))⟩
  · have hs' : spaceB p xs = false := by simpa using hs
    have HC := Lib.hid (show codeS p xs 0 [] = 1 by simp [codeS, hs'])
    have HV := Lib.hid (show okOr (codeS p xs 0 []) (discN p xs) = 0 by simp [HC.out, okOr])
    rw [HV.out, HC.out]
    clear hs
    go_enter Try.func25, Try.ntmps25
    have c0 : (w.alloc (.cells #[.int .i64 p, .slice A n c] 27)).cell? ⟨w.heap.size, 0, none⟩ = some (.int .i64 p) := by simp [go_sem]
    have c1 : (w.alloc (.cells #[.int .i64 p, .slice A n c] 27)).cell? ⟨w.heap.size, 1, none⟩ = some (.slice A n c) := by simp [go_sem]
    have HW := Lib.hid (Below.refl (w.alloc (.cells #[.int .i64 p, .slice A n c] 27)).heap.size (w.alloc (.cells #[.int .i64 p, .slice A n c] 27)))
    go_wp2_with fail
    refine (impl_IsSpace _ _ _ _ xs _ (HX.out.keep (H2.out.trans (HW.out.mono H2.out.size)))).mono ?_
    rintro e v ⟨rfl, hb⟩
    replace c0 := keep_cell hb c0
    replace c1 := keep_cell hb c1
    replace HW := Lib.hid (below_then HW.out hb)
    clear hb
    go_wp2_with fail
    go_ret2
    exact ⟨rfl, (H2.out.trans (HW.out.mono H2.out.size))⟩

def regV (p : Int) (xs : List Int) : Bool := if spaceB p xs then regB xs else false

theorem spec_IsRegular (p : Int) (A : Option Addr) (n c : Nat) (xs : List Int) (w : World) (hx : Ints w A n xs) :
    Calls Try.prog 26 #[.agg #[.int .i64 p, .slice A n c]] w fun e w' => e = .returned (.tuple #[.bool (regV p xs), .int .i64 (codeS p xs 0 [])]) ∧ Below w.heap.size w w' := by
  have HX := Lib.hid hx
  have hm := hx.2.1
  have HN := Lib.hid hx.1
  clear hx
  unfold maxLen at hm
  have H2 := Lib.hid (show Below w.heap.size w (w.alloc (.cells #[.int .i64 p, .slice A n c] 27)) from (Below.refl _ _).alloc (Nat.le_refl _) _)
  by_cases hs : spaceB p xs = true
  · obtain ⟨hp, hl0, hl1, hn⟩ := spaceB_true hs
    have HC := Lib.hid (show codeS p xs 0 [] = 0 by simp [codeS, hs])
    have HV := Lib.hid (show regV p xs = regB xs by simp [regV, hs])
    rw [HV.out, HC.out]
    have HP := Lib.hid hp
    have HM := Lib.hid hn
    have HR := Lib.hid (regB_disc hp hn)
    rw [HR.out]
    have hd := discN_bounds (prime_lo hp) xs
    go_enter Try.func26, Try.ntmps26
    have c0 : (w.alloc (.cells #[.int .i64 p, .slice A n c] 27)).cell? ⟨w.heap.size, 0, none⟩ = some (.int .i64 p) := by simp [go_sem]
    have c1 : (w.alloc (.cells #[.int .i64 p, .slice A n c] 27)).cell? ⟨w.heap.size, 1, none⟩ = some (.slice A n c) := by simp [go_sem]
    have HW := Lib.hid (Below.refl (w.alloc (.cells #[.int .i64 p, .slice A n c] 27)).heap.size (w.alloc (.cells #[.int .i64 p, .slice A n c] 27)))
    go_wp2_with fail
    refine (spec_l03Is _ _ _ _ xs _ (HX.out.keep (H2.out.trans (HW.out.mono H2.out.size)))).mono ?_
    rintro e v ⟨rfl, hb⟩
    replace c0 := keep_cell hb c0
    replace c1 := keep_cell hb c1
    replace HW := Lib.hid (below_then HW.out hb)
    clear hb
    go_wp2_with fail
    refine (spec_l03Disc _ _ _ _ xs _ (HX.out.keep (H2.out.trans (HW.out.mono H2.out.size))) HP.out HM.out).mono ?_
    rintro e v ⟨rfl, hb⟩
    replace c0 := keep_cell hb c0
    replace c1 := keep_cell hb c1
    replace HW := Lib.hid (below_then HW.out hb)
    clear hb
    go_wp2_with fail
    all_goals
      go_ret2
      exact ⟨by first | rfl | simp, (H2.out.trans (HW.out.mono H2.out.size))⟩
  · have hs' : spaceB p xs = false := by simpa using hs
    have HC := Lib.hid (show codeS p xs 0 [] = 1 by simp [codeS, hs'])
    have HV := Lib.hid (show regV p xs = false by simp [regV, hs'])
    rw [HV.out, HC.out]
    clear hs
    go_enter Try.func26, Try.ntmps26
    have c0 : (w.alloc (.cells #[.int .i64 p, .slice A n c] 27)).cell? ⟨w.heap.size, 0, none⟩ = some (.int .i64 p) := by simp [go_sem]
    have c1 : (w.alloc (.cells #[.int .i64 p, .slice A n c] 27)).cell? ⟨w.heap.size, 1, none⟩ = some (.slice A n c) := by simp [go_sem]
    have HW := Lib.hid (Below.refl (w.alloc (.cells #[.int .i64 p, .slice A n c] 27)).heap.size (w.alloc (.cells #[.int .i64 p, .slice A n c] 27)))
    go_wp2_with fail
    refine (spec_l03Is _ _ _ _ xs _ (HX.out.keep (H2.out.trans (HW.out.mono H2.out.size)))).mono ?_
    rintro e v ⟨rfl, hb⟩
    replace c0 := keep_cell hb c0
    replace c1 := keep_cell hb c1
    replace HW := Lib.hid (below_then HW.out hb)
    clear hb
    go_wp2_with fail
    go_ret2
    exact ⟨rfl, (H2.out.trans (HW.out.mono H2.out.size))⟩

theorem impl_IsRegular (p : Int) (A : Option Addr) (n c : Nat) (xs : List Int) (w : World) (hx : Ints w A n xs) :
    Calls Try.prog 27 #[.agg #[.int .i64 p, .slice A n c]] w fun e w' => e = .returned (.tuple #[.bool (regV p xs), .int .i64 (codeS p xs 0 [])]) ∧ Below w.heap.size w w' := by
  have HX := Lib.hid hx
  have hm := hx.2.1
  have HN := Lib.hid hx.1
  clear hx
  unfold maxLen at hm
  have H2 := Lib.hid (show Below w.heap.size w (w.alloc (.cells #[.int .i64 p, .slice A n c] 27)) from (Below.refl _ _).alloc (Nat.le_refl _) _)
  by_cases hs : spaceB p xs = true
  · obtain ⟨hp, hl0, hl1, hn⟩ := spaceB_true hs
    have HC := Lib.hid (show codeS p xs 0 [] = 0 by simp [codeS, hs])
    have HV := Lib.hid (show regV p xs = regB xs by simp [regV, hs])
    rw [HV.out, HC.out]
    have HP := Lib.hid hp
    have HM := Lib.hid hn
    go_enter Try.func27, Try.ntmps27
    have c0 : (w.alloc (.cells #[.int .i64 p, .slice A n c] 27)).cell? ⟨w.heap.size, 0, none⟩ = some (.int .i64 p) := by simp [go_sem]
    have c1 : (w.alloc (.cells #[.int .i64 p, .slice A n c] 27)).cell? ⟨w.heap.size, 1, none⟩ = some (.slice A n c) := by simp [go_sem]
    have HW := Lib.hid (Below.refl (w.alloc (.cells #[.int .i64 p, .slice A n c] 27)).heap.size (w.alloc (.cells #[.int .i64 p, .slice A n c] 27)))
    go_wp2_with fail
    refine (impl_IsSpace _ _ _ _ xs _ (HX.out.keep (H2.out.trans (HW.out.mono H2.out.size)))).mono ?_
    rintro e v ⟨rfl, hb⟩
    replace c0 := keep_cell hb c0
    replace c1 := keep_cell hb c1
    replace HW := Lib.hid (below_then HW.out hb)
    clear hb
    go_wp2_with fail
    refine (Space_regular _ _ _ _ xs _ (HX.out.keep (H2.out.trans (HW.out.mono H2.out.size)))).mono ?_
    rintro e v ⟨rfl, hb⟩
    replace c0 := keep_cell hb c0
    replace c1 := keep_cell hb c1
    replace HW := Lib.hid (below_then HW.out hb)
    clear hb
    go_wp2_with fail
    go_ret2
    exact ⟨rfl, (H2.out.trans (HW.out.mono H2.out.size))⟩
  · have hs' : spaceB p xs = false := by simpa using hs
    have HC := Lib.hid (show codeS p xs 0 [] = 1 by simp [codeS, hs'])
    have HV := Lib.hid (show regV p xs = false by simp [regV, hs'])
    rw [HV.out, HC.out]
    clear hs
    go_enter Try.func27, Try.ntmps27
    have c0 : (w.alloc (.cells #[.int .i64 p, .slice A n c] 27)).cell? ⟨w.heap.size, 0, none⟩ = some (.int .i64 p) := by simp [go_sem]
    have c1 : (w.alloc (.cells #[.int .i64 p, .slice A n c] 27)).cell? ⟨w.heap.size, 1, none⟩ = some (.slice A n c) := by simp [go_sem]
    have HW := Lib.hid (Below.refl (w.alloc (.cells #[.int .i64 p, .slice A n c] 27)).heap.size (w.alloc (.cells #[.int .i64 p, .slice A n c] 27)))
    go_wp2_with fail
    refine (impl_IsSpace _ _ _ _ xs _ (HX.out.keep (H2.out.trans (HW.out.mono H2.out.size)))).mono ?_
    rintro e v ⟨rfl, hb⟩
    replace c0 := keep_cell hb c0
    replace c1 := keep_cell hb c1
    replace HW := Lib.hid (below_then HW.out hb)
    clear hb
    go_wp2_with fail
    go_ret2
    exact ⟨rfl, (H2.out.trans (HW.out.mono H2.out.size))⟩
end Go.Proofs.Ytcieohpbeckjfaa
