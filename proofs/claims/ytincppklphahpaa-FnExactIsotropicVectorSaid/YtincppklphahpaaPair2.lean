/- Contracts: products and norms of vectors. Conditions stand in each theorem. -/
import Derived.Test.YtincppklphahpaaPair
namespace Go.Proofs.Ytincppklphahpaa
open Go.RowKit
set_option linter.unusedVariables false
set_option maxRecDepth 4096

theorem Space_pair (p : Int) (A B C : Option Addr) (n c d r : Nat) (xs ys zs : List Int) (w : World) (hx : Ints w A n xs) (hy : Ints w B n ys) (hz : Ints w C n zs) (h0 : 3 ≤ p) (h1 : p ≤ 13) (hn : numsB p xs = true) (hn' : numsB p ys = true) (hn'' : numsB p zs = true) (hn6 : n ≤ 6) :
    Calls Try.prog 103 #[.agg #[.int .i64 p, .slice A n c], .slice B n d, .slice C n r] w fun e w' => e = .returned (.int .i64 (pairN p xs ys zs)) ∧ Below w.heap.size w w' := by
  have HX := Lib.hid hx
  have hm := hx.2.1
  have HN := Lib.hid hx.1
  clear hx
  unfold maxLen at hm
  have H2 := Lib.hid (show Below w.heap.size w (w.alloc (.cells #[.int .i64 p, .slice A n c] 28)) from (Below.refl _ _).alloc (Nat.le_refl _) _)
  have HY := Lib.hid hy
  have HZ := Lib.hid hz
  have HN1 := Lib.hid hn
  have HN2 := Lib.hid hn'
  have HN3 := Lib.hid hn''
  have hx' := HX.out
  have hlx := hx'.1
  have hly := hy.1
  have hlz := hz.1
  have HE := Lib.hid (show dotL ((weightL p ys (xs.take n)).take n) (zs.take n) % p = pairN p xs ys zs by
    rw [List.take_of_length_le (l := xs) (by omega), List.take_of_length_le (l := zs) (by omega), List.take_of_length_le (by rw [weightL_len _ _ _ (by omega)]; omega)]
    exact dot_weight p ys xs zs)
  have HWN := Lib.hid (weightL_nums h0 ys (xs.take n))
  clear hy hz hn hn' hn'' hlx hly hlz hx'
  go_enter Try.func103, Try.ntmps103
  have c0 : (w.alloc (.cells #[.int .i64 p, .slice A n c] 28)).cell? ⟨w.heap.size, 0, none⟩ = some (.int .i64 p) := by simp [go_sem]
  have c1 : (w.alloc (.cells #[.int .i64 p, .slice A n c] 28)).cell? ⟨w.heap.size, 1, none⟩ = some (.slice A n c) := by simp [go_sem]
  have HW := Lib.hid (Below.refl (w.alloc (.cells #[.int .i64 p, .slice A n c] 28)).heap.size (w.alloc (.cells #[.int .i64 p, .slice A n c] 28)))
  go_wp2_with fail
  go_region_held3 (fun w' => w'.cell? ⟨w.heap.size, 0, none⟩ = some (.int .i64 p) ∧ w'.cell? ⟨w.heap.size, 1, none⟩ = some (.slice A n c) ∧ Ints w' A n xs ∧ Ints w' B n ys ∧ Ints w' C n zs ∧ Below (w.alloc (.cells #[.int .i64 p, .slice A n c] 28)).heap.size (w.alloc (.cells #[.int .i64 p, .slice A n c] 28)) w')
    (first
      | exact ⟨c0, c1, Ints.drew (HX.out.keep (H2.out.trans (HW.out.mono H2.out.size))), Ints.drew (HY.out.keep (H2.out.trans (HW.out.mono H2.out.size))), Ints.drew (HZ.out.keep (H2.out.trans (HW.out.mono H2.out.size))), HW.out.drew⟩
      | (go_split_ands; exact ⟨‹_›, ‹_›, ‹_›, ‹_›, ‹_›, ‹_›⟩)
      | (go_split_ands; exact ⟨keep_cell hbz ‹_›, keep_cell hbz ‹_›, Ints.keep ‹_› hbz, Ints.keep ‹_› hbz, Ints.keep ‹_› hbz, below_then ‹_› hbz⟩)
      | go_keep)
    (first
      | (go_at_call 62; refine (Space_field _ _ _ _ _).mono ?_; rintro e vz ⟨rfl, hbz⟩; have hbf := hbz)
      | (go_at_call 108; refine (Space_weighted _ _ _ _ _ _ _ xs ys _ (by go_split_ands; assumption) (by go_split_ands; assumption) h0 h1 HN1.out HN2.out hn6 (Nat.le_refl _)).mono ?_; rintro e vz ⟨CC, qq, rfl, ho, hbz⟩)
      | (go_at_call 107; refine (impl_dot _ _ _ _ _ _ _ (weightL p ys (xs.take n)) zs _ h0 h1 (by first | exact ho.ints | exact (ho.keep hbf).ints) (by go_split_ands; assumption) (Nat.le_refl _) (by omega) HWN.out HN3.out).mono ?_; rw [HE.out]; rintro e vx ⟨rfl, rfl⟩))
  rename_i hh
  obtain ⟨c0, c1, jq, mq0, mq1, hbw⟩ := hh
  replace HW := Lib.hid hbw
  clear hbw jq mq0 mq1
  all_goals
    go_wp2
    go_ret
    exact ⟨rfl, (H2.out.trans (HW.out.mono H2.out.size))⟩

theorem Space_norm (p : Int) (A B : Option Addr) (n c d : Nat) (xs ys : List Int) (w : World) (hx : Ints w A n xs) (hy : Ints w B n ys) (h0 : 3 ≤ p) (h1 : p ≤ 13) (hn : numsB p xs = true) (hn' : numsB p ys = true) (hn6 : n ≤ 6) :
    Calls Try.prog 83 #[.agg #[.int .i64 p, .slice A n c], .slice B n d] w fun e w' => e = .returned (.int .i64 (pairN p xs ys ys)) ∧ Below w.heap.size w w' := by
  have HX := Lib.hid hx
  have hm := hx.2.1
  have HN := Lib.hid hx.1
  clear hx
  unfold maxLen at hm
  have H2 := Lib.hid (show Below w.heap.size w (w.alloc (.cells #[.int .i64 p, .slice A n c] 28)) from (Below.refl _ _).alloc (Nat.le_refl _) _)
  have HY := Lib.hid hy
  have HN1 := Lib.hid hn
  have HN2 := Lib.hid hn'
  clear hy hn hn'
  go_enter Try.func83, Try.ntmps83
  have c0 : (w.alloc (.cells #[.int .i64 p, .slice A n c] 28)).cell? ⟨w.heap.size, 0, none⟩ = some (.int .i64 p) := by simp [go_sem]
  have c1 : (w.alloc (.cells #[.int .i64 p, .slice A n c] 28)).cell? ⟨w.heap.size, 1, none⟩ = some (.slice A n c) := by simp [go_sem]
  have HW := Lib.hid (Below.refl (w.alloc (.cells #[.int .i64 p, .slice A n c] 28)).heap.size (w.alloc (.cells #[.int .i64 p, .slice A n c] 28)))
  go_wp2_with fail
  refine (Space_pair _ _ _ _ _ _ _ _ xs ys ys _ (HX.out.keep (H2.out.trans (HW.out.mono H2.out.size))) (HY.out.keep (H2.out.trans (HW.out.mono H2.out.size))) (HY.out.keep (H2.out.trans (HW.out.mono H2.out.size))) h0 h1 HN1.out HN2.out HN2.out hn6).mono ?_
  rintro e v ⟨rfl, hb⟩
  replace c0 := keep_cell hb c0
  replace c1 := keep_cell hb c1
  replace HW := Lib.hid (below_then HW.out hb)
  clear hb
  go_wp2_with fail
  go_ret
  exact ⟨rfl, (H2.out.trans (HW.out.mono H2.out.size))⟩

theorem mod_bounds (a : Int) {p : Int} (h : 3 ≤ p) : 0 ≤ a % p ∧ a % p < p := ⟨Int.emod_nonneg _ (by omega), Int.emod_lt_of_pos _ (by omega)⟩

theorem spec_l03Pair (p : Int) (A B C : Option Addr) (n c d r : Nat) (xs ys zs : List Int) (w : World) (hx : Ints w A n xs) (hy : Ints w B n ys) (hz : Ints w C n zs) (h0 : 3 ≤ p) (h1 : p ≤ 13) (hn : numsB p xs = true) (hn' : numsB p ys = true) (hn'' : numsB p zs = true) (hn6 : n ≤ 6) :
    Calls Try.prog 101 #[.agg #[.int .i64 p, .slice A n c], .slice B n d, .slice C n r] w fun e w' => e = .returned (.int .i64 (pairN p xs ys zs)) ∧ Below w.heap.size w w' := by
  have HX := Lib.hid hx
  have hm := hx.2.1
  have HN := Lib.hid hx.1
  clear hx
  unfold maxLen at hm
  have H2 := Lib.hid (show Below w.heap.size w (w.alloc (.cells #[.int .i64 p, .slice A n c] 28)) from (Below.refl _ _).alloc (Nat.le_refl _) _)
  have HY := Lib.hid hy
  have HZ := Lib.hid hz
  have HN1 := Lib.hid hn
  have HN2 := Lib.hid hn'
  have HN3 := Lib.hid hn''
  clear hy hz hn hn' hn''
  go_enter Try.func101, Try.ntmps101
  have c0 : (w.alloc (.cells #[.int .i64 p, .slice A n c] 28)).cell? ⟨w.heap.size, 0, none⟩ = some (.int .i64 p) := by simp [go_sem]
  have c1 : (w.alloc (.cells #[.int .i64 p, .slice A n c] 28)).cell? ⟨w.heap.size, 1, none⟩ = some (.slice A n c) := by simp [go_sem]
  have HW := Lib.hid (Below.refl (w.alloc (.cells #[.int .i64 p, .slice A n c] 28)).heap.size (w.alloc (.cells #[.int .i64 p, .slice A n c] 28)))
  go_wp2
  go_loopw [7, 8] (fun o i wr => ∃ (k : Nat) (s : Int), k ≤ n ∧ i = .int .i64 k ∧ o = .int .i64 s ∧ 0 ≤ s ∧ s < p ∧ s = triL (ys.take k) (zs.take k) (xs.take k) % p ∧ Below (w.alloc (.cells #[.int .i64 p, .slice A n c] 28)).heap.size (w.alloc (.cells #[.int .i64 p, .slice A n c] 28)) wr) (fun _ i _ => n - (intOf i).toNat)
  case atStart => exact ⟨0, 0, Nat.zero_le _, rfl, rfl, by omega, by omega, by simp [triL], HW.out⟩
  case round =>
    obtain ⟨k, s, hk, rfl, rfl, hs0, hs1, hs, hbel⟩ := hrel
    have HS := Lib.hid hs
    clear hs c0 c1 HW
    have HW := Lib.hid hbel
    have c0 : wr.cell? ⟨w.heap.size, 0, none⟩ = some (.int .i64 p) := keep_cell hbel (by simp [go_sem])
    have c1 : wr.cell? ⟨w.heap.size, 1, none⟩ = some (.slice A n c) := keep_cell hbel (by simp [go_sem])
    clear hbel
    by_cases hlt : k < n
    · obtain ⟨b1, off1, x, rfl, hb1, hxk, hck1⟩ := (HX.out.keep (H2.out.trans (HW.out.mono H2.out.size))).at_ hlt
      obtain ⟨b2, off2, y, rfl, hb2, hyk, hck2⟩ := (HY.out.keep (H2.out.trans (HW.out.mono H2.out.size))).at_ hlt
      obtain ⟨b3, off3, z, rfl, hb3, hzk, hck3⟩ := (HZ.out.keep (H2.out.trans (HW.out.mono H2.out.size))).at_ hlt
      obtain ⟨hx0, hx1⟩ := numB_true (numsB_at HN1.out hxk)
      obtain ⟨hy0, hy1⟩ := numB_true (numsB_at HN2.out hyk)
      obtain ⟨hz0, hz1⟩ := numB_true (numsB_at HN3.out hzk)
      obtain ⟨m0, m1⟩ := mul_bounds (a := y) (b := z) (p := p) (by omega) (by omega) (by omega) (by omega) (by omega)
      obtain ⟨t0, t1⟩ := mod_bounds (y * z) h0
      obtain ⟨n0, n1⟩ := mul_bounds (a := y * z % p) (b := x) (p := p) (by omega) (by omega) (by omega) (by omega) (by omega)
      have HK1 := Lib.hid hxk
      have HK2 := Lib.hid hyk
      have HK3 := Lib.hid hzk
      clear hxk hyk hzk hb1 hb2 hb3
      have hkn : (k : Int) < n := by omega
      have e1 : IntKind.i64.wrap (y * z) = y * z := IntWalk.i64_in _ (by omega)
      have e2 : (y * z).tmod p = y * z % p := Int.tmod_eq_emod_of_nonneg m0
      have e3 : IntKind.i64.wrap (y * z % p * x) = y * z % p * x := IntWalk.i64_in _ (by omega)
      have e4 : IntKind.i64.wrap (s + y * z % p * x) = s + y * z % p * x := IntWalk.i64_in _ (by omega)
      have e5 : (s + y * z % p * x).tmod p = (s + y * z % p * x) % p := Int.tmod_eq_emod_of_nonneg (by omega)
      go_wp2
      go_quiet (fail)
      clear e1 e2 e3 e4 e5
      go_wp2
      go_roundw
      case rel => exact ⟨k + 1, (s + y * z % p * x) % p, by omega, by go_num, rfl, Int.emod_nonneg _ (by omega), Int.emod_lt_of_pos _ (by omega), by
        rw [triL_step HK2.out HK3.out HK1.out, HS.out, Int.emod_add_emod, Int.add_emod, Int.mul_emod, Int.emod_emod_of_dvd _ (Int.dvd_refl p), ← Int.mul_emod, ← Int.add_emod], below_drewN HW.out _⟩
      case measure => simp [intOf]; omega
    · obtain rfl : k = n := by omega
      go_wp2
      go_ret
      exact ⟨ret_int (by have a1 := HX.out.1; have a2 := HY.out.1; have a3 := HZ.out.1; rw [HS.out, List.take_of_length_le (l := ys) (by omega), List.take_of_length_le (l := zs) (by omega), List.take_of_length_le (l := xs) (by omega)]; rfl), (H2.out.trans (HW.out.mono H2.out.size))⟩

theorem spec_l03Vector (p : Int) (A B : Option Addr) (n c m d : Nat) (ys : List Int) (w : World) (hy : Ints w B m ys) (h0 : 3 ≤ p) (h1 : p ≤ 13) :
    Calls Try.prog 55 #[.agg #[.int .i64 p, .slice A n c], .slice B m d] w fun e w' => e = .returned (.bool (lstB p n ys)) ∧ Below w.heap.size w w' := by
  have HY := Lib.hid hy
  have HM := Lib.hid hy.1
  clear hy
  have h0' : 1 ≤ p := by omega
  have h1' : p ≤ 13 := by omega
  have H2 := Lib.hid (show Below w.heap.size w (w.alloc (.cells #[.int .i64 p, .slice A n c] 28)) from (Below.refl _ _).alloc (Nat.le_refl _) _)
  rcases lstB_cases p n ys with ⟨hl, hlen, hnum⟩ | ⟨hl, hlen⟩ | ⟨hl, hlen, hnum⟩
  · rw [hl]
    have q1 : ((m : Int) == (n : Int)) = true := by simp; rw [← HM.out, hlen]
    clear hl hlen
    go_enter Try.func55, Try.ntmps55
    have c0 : (w.alloc (.cells #[.int .i64 p, .slice A n c] 28)).cell? ⟨w.heap.size, 0, none⟩ = some (.int .i64 p) := by simp [go_sem]
    have c1 : (w.alloc (.cells #[.int .i64 p, .slice A n c] 28)).cell? ⟨w.heap.size, 1, none⟩ = some (.slice A n c) := by simp [go_sem]
    have HW := Lib.hid (Below.refl (w.alloc (.cells #[.int .i64 p, .slice A n c] 28)).heap.size (w.alloc (.cells #[.int .i64 p, .slice A n c] 28)))
    go_wp2_with (go_at_call 85; refine (spec_l01Numbers _ _ _ _ ys _ h0' h1' (HY.out.keep (H2.out.trans (HW.out.mono H2.out.size)))).mono ?_; rintro e w' ⟨rfl, rfl⟩)
    go_ret
    exact ⟨rfl, (H2.out.trans (HW.out.mono H2.out.size))⟩
  · rw [hl]
    have q1 : ((m : Int) == (n : Int)) = false := by simp; rw [← HM.out]; omega
    clear hl hlen
    go_enter Try.func55, Try.ntmps55
    have c0 : (w.alloc (.cells #[.int .i64 p, .slice A n c] 28)).cell? ⟨w.heap.size, 0, none⟩ = some (.int .i64 p) := by simp [go_sem]
    have c1 : (w.alloc (.cells #[.int .i64 p, .slice A n c] 28)).cell? ⟨w.heap.size, 1, none⟩ = some (.slice A n c) := by simp [go_sem]
    have HW := Lib.hid (Below.refl (w.alloc (.cells #[.int .i64 p, .slice A n c] 28)).heap.size (w.alloc (.cells #[.int .i64 p, .slice A n c] 28)))
    go_wp2_with fail
    go_ret
    exact ⟨rfl, (H2.out.trans (HW.out.mono H2.out.size))⟩
  · rw [hl]
    have q1 : ((m : Int) == (n : Int)) = true := by simp; rw [← HM.out, hlen]
    clear hl hlen
    go_enter Try.func55, Try.ntmps55
    have c0 : (w.alloc (.cells #[.int .i64 p, .slice A n c] 28)).cell? ⟨w.heap.size, 0, none⟩ = some (.int .i64 p) := by simp [go_sem]
    have c1 : (w.alloc (.cells #[.int .i64 p, .slice A n c] 28)).cell? ⟨w.heap.size, 1, none⟩ = some (.slice A n c) := by simp [go_sem]
    have HW := Lib.hid (Below.refl (w.alloc (.cells #[.int .i64 p, .slice A n c] 28)).heap.size (w.alloc (.cells #[.int .i64 p, .slice A n c] 28)))
    go_wp2_with (go_at_call 85; refine (spec_l01Numbers _ _ _ _ ys _ h0' h1' (HY.out.keep (H2.out.trans (HW.out.mono H2.out.size)))).mono ?_; rintro e w' ⟨rfl, rfl⟩)
    go_ret
    exact ⟨rfl, (H2.out.trans (HW.out.mono H2.out.size))⟩

def pairV (p : Int) (xs ys zs : List Int) : Int := okOr (codeS p xs xs.length [ys, zs]) (pairN p xs ys zs)

def normV (p : Int) (xs ys : List Int) : Int := okOr (codeS p xs xs.length [ys]) (pairN p xs ys ys)

theorem codeS_twice (p : Int) (xs ys : List Int) (n : Nat) : codeS p xs n [ys, ys] = codeS p xs n [ys] := by simp [codeS]

end Go.Proofs.Ytincppklphahpaa
