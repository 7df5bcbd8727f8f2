/- Words and contracts: lists of lists that a call has made: copied, marked, and the marks found again. Conditions stand in each theorem. -/
import Derived.Test.YtcgghjhccnjeoaaLL
namespace Go.Proofs.Ytcgghjhccnjeoaa
open Go.RowKit
set_option linter.unusedVariables false
set_option linter.unusedSimpArgs false

/-- no two rows that hold numbers share a block -/
def GD (m : Nat) (rows : List (List Int)) (A : Nat → Option Addr) : Prop := ∀ i j, i < m → j < m → i ≠ j → 0 < (rowAt rows i).length → 0 < (rowAt rows j).length → ∀ a b, A i = some a → A j = some b → a.block ≠ b.block
/-- block g holds m slices, which read as the rows; all lie between two block numbers -/
structure GT (lo hi : Nat) (w : World) (g m : Nat) (rows : List (List Int)) (A : Nat → Option Addr) (c : Nat → Nat) : Prop where
  len : rows.length = m
  gl : lo ≤ g
  gh : g < hi
  hw : hi ≤ w.heap.size
  cell : ∀ j, j < m → w.cell? ⟨g, j, none⟩ = some (.slice (A j) (rowAt rows j).length (c j))
  own : ∀ j, j < m → OwnIn lo hi w (A j) (rowAt rows j).length (rowAt rows j)
  ne : ∀ j, j < m → 0 < (rowAt rows j).length → ∀ a, A j = some a → a.block ≠ g
  dst : GD m rows A
def LR (lo hi : Nat) (w : World) (L : Option Addr) (m : Nat) (rows : List (List Int)) : Prop :=
  rows.length = m ∧ m ≤ 1048576 ∧ hi ≤ w.heap.size ∧ (0 < m → ∃ g A c, L = some ⟨g, 0, none⟩ ∧ GT lo hi w g m rows A c)
section
variable {lo hi lo' hi' g m : Nat} {w w' : World} {rows : List (List Int)} {A : Nat → Option Addr} {c : Nat → Nat} {L : Option Addr}
theorem GT.keep (h : GT lo hi w g m rows A c) (hb : Below w.heap.size w w') : GT lo hi w' g m rows A c :=
  ⟨h.len, h.gl, h.gh, Nat.le_trans h.hw hb.size, fun j hj => (hb.cell (p := ⟨g, j, none⟩) (Nat.lt_of_lt_of_le h.gh h.hw)).trans (h.cell j hj), fun j hj => (h.own j hj).keep hb, h.ne, h.dst⟩
theorem GT.far (h : GT lo hi w g m rows A c) (ht : Touch lo' hi' w w') (hd : hi ≤ lo' ∨ hi' ≤ lo) : GT lo hi w' g m rows A c :=
  ⟨h.len, h.gl, h.gh, Nat.le_trans h.hw ht.2.2.2.1, fun j hj => cell_touch (h.cell j hj) ht (by have h1 := h.gl; have h2 := h.gh; show g < lo' ∨ hi' ≤ g; omega), fun j hj => (h.own j hj).far ht hd, h.ne, h.dst⟩
theorem GT.LL (h : GT lo hi w g m rows A c) (hm : m ≤ maxLen) : LL w (some ⟨g, 0, none⟩) m rows :=
  ⟨h.len, hm, fun _ => ⟨g, 0, rfl, Nat.lt_of_lt_of_le h.gh h.hw, fun j hj => ⟨A j, c j, by rw [Nat.zero_add]; exact h.cell j hj, (h.own j hj).ints⟩⟩⟩
theorem Tab.GT {B n : Nat} (h : Tab B w g m n rows A c) (hd : Dst m A) : GT B w.heap.size w g m rows A c :=
  ⟨h.len, h.gB, h.glt, Nat.le_refl _, fun j hj => by rw [(h.own j hj).1]; exact h.cell j hj, fun j hj => by have := OwnIn.of (h.own j hj); rwa [← (h.own j hj).1] at this, fun j hj _ => h.ne j hj, fun i j hi hj hij _ _ => hd i j hi hj hij⟩
theorem LR.nil (lo : Nat) (w : World) (L : Option Addr) : LR lo w.heap.size w L 0 [] := ⟨rfl, by omega, Nat.le_refl _, fun h => absurd h (by omega)⟩
theorem LR.keep (h : LR lo hi w L m rows) (hb : Below w.heap.size w w') : LR lo hi w' L m rows :=
  ⟨h.1, h.2.1, Nat.le_trans h.2.2.1 hb.size, fun hm => by
    obtain ⟨g, A, c, e, h1⟩ := h.2.2.2 hm
    exact ⟨g, A, c, e, h1.keep hb⟩⟩
theorem LR.far (h : LR lo hi w L m rows) (ht : Touch lo' hi' w w') (hd : hi ≤ lo' ∨ hi' ≤ lo) : LR lo hi w' L m rows :=
  ⟨h.1, h.2.1, Nat.le_trans h.2.2.1 ht.2.2.2.1, fun hm => by
    obtain ⟨g, A, c, e, h1⟩ := h.2.2.2 hm
    exact ⟨g, A, c, e, h1.far ht hd⟩⟩
theorem LR.LL (h : LR lo hi w L m rows) : LL w L m rows :=
  ⟨h.1, by have := h.2.1; unfold maxLen; omega, fun hm => by
    obtain ⟨g, A, c, rfl, h1⟩ := h.2.2.2 hm
    exact (h1.LL (by have := h.2.1; unfold maxLen; omega)).2.2 hm⟩
theorem Touch.wide (h : Touch lo' hi' w w') (h1 : lo ≤ lo') (h2 : hi' ≤ hi) : Touch lo hi w w' :=
  ⟨h.1, h.2.1, h.2.2.1, h.2.2.2.1, fun i hi hn => h.2.2.2.2 i hi (by omega)⟩
theorem OwnIn.off {b n : Nat} {O : Option Addr} {xs : List Int} (h : OwnIn lo hi w O n xs) (ht : Touch b (b + 1) w w') (hb : 0 < n → ∀ a, O = some a → a.block ≠ b) : OwnIn lo hi w' O n xs :=
  ⟨h.1, h.2.1, Nat.le_trans h.2.2.1 ht.2.2.2.1, fun hn => by
    obtain ⟨b', off, e, h1, h2, hc, hf⟩ := h.2.2.2 hn
    have hne : b' ≠ b := hb hn _ e
    have hbl := ht.2.2.2.2 b' (Nat.lt_of_lt_of_le h2 h.2.2.1) (by omega)
    exact ⟨b', off, e, h1, h2, fun j x hj => (World.cell?_of_block hbl).trans (hc j x hj), fun j hj => (World.frozen?_of_block hbl).trans (hf j hj)⟩⟩
theorem OwnIn.thin {b off n : Nat} {xs : List Int} (h : OwnIn lo hi w (some ⟨b, off, none⟩) n xs) (hn : 0 < n) : OwnIn b (b + 1) w (some ⟨b, off, none⟩) n xs ∧ lo ≤ b ∧ b < hi := by
  obtain ⟨b', off', e, h1, h2, hc, hf⟩ := h.2.2.2 hn
  injection e with e
  injection e with e1 e2
  subst e1 e2
  exact ⟨⟨h.1, h.2.1, by have := h.2.2.1; omega, fun _ => ⟨b, off, rfl, Nat.le_refl _, by omega, hc, hf⟩⟩, h1, h2⟩
theorem OwnIn.wide {n : Nat} {O : Option Addr} {xs : List Int} (h : OwnIn lo' hi' w O n xs) (h1 : lo ≤ lo') (h2 : hi' ≤ hi) (h3 : hi ≤ w.heap.size) : OwnIn lo hi w O n xs :=
  ⟨h.1, h.2.1, h3, fun hn => by
    obtain ⟨b, off, e, k1, k2, hc, hf⟩ := h.2.2.2 hn
    exact ⟨b, off, e, by omega, by omega, hc, hf⟩⟩
end

theorem rows_make {m : Nat} (hm : m ≤ 1048576) (w : World) : (Instr.makeSlice 22 (.int .i64 m) (.int .i64 m)).run Try.prog w = .ok (.slice (some ⟨w.heap.size, 0, none⟩) m m) (w.alloc (.cells (madeCells #[.slice none 0 0] m) 29)) :=
  run_make_row' (P := Try.prog) 22 29 (.slice none 0 0) 24 Try.underlying22 rows_info rfl .i64 .i64 m (by omega) (by omega) w

theorem laws_toInt64SS (L : Option Addr) (m c : Nat) (vs : List (List Int)) (w : World) (hl : LL w L m vs) (hm : m + preL vs m ≤ 1048576) :
    Calls Try.prog 9 #[.slice L m c] w fun e w' => ∃ K, e = .returned (.slice K m m) ∧ LR w.heap.size w'.heap.size w' K m vs ∧ Below w.heap.size w w' := by
  have HL := Lib.hid hl
  have HM := Lib.hid (show ∀ j, j < m → (rowAt vs j).length ≤ 1048576 from fun j hj => by
    have := preL_mono vs (show j + 1 ≤ m by omega)
    have : preL vs (j + 1) = preL vs j + (rowAt vs j).length := rfl
    omega)
  have hmk := rows_make (show m ≤ 1048576 by omega)
  have hm1 : m ≤ 1048576 := by omega
  clear hl hm
  go_enter Try.func9, Try.ntmps9
  go_wp2_with fail
  go_loopw [4] (fun i wr => ∃ (k : Nat) (A : Nat → Option Addr) (c' : Nat → Nat), k ≤ m ∧ i = .int .i64 k ∧ Hid (wr.rowIs w.heap.size 29 m (fun j => if j < k then .slice (A j) (rowAt vs j).length (c' j) else .slice none 0 0)) ∧ Hid (∀ j, j < k → Own w.heap.size wr (A j) (rowAt vs j).length (rowAt vs j) ∧ (0 < (rowAt vs j).length → ∀ a, A j = some a → a.block ≠ w.heap.size ∧ a.block < wr.heap.size)) ∧ Hid (GD k vs A) ∧ Hid (Below w.heap.size w wr)) (fun i _ => m - (intOf i).toNat)
  case atStart => exact ⟨0, fun _ => none, fun _ => 0, Nat.zero_le _, rfl, Lib.hid ((World.rowIs_made w (.slice none 0 0) m 29).congr fun j _ => by rw [if_neg (by omega)]), Lib.hid (fun j hj => absurd hj (by omega)), Lib.hid (fun i j hi => absurd hi (by omega)), Lib.hid ((Below.refl _ _).alloc (Nat.le_refl _) _)⟩
  case round =>
    clear hmk
    obtain ⟨k, A, c', hk, rfl, HR, HO, HD, HB⟩ := hrel
    by_cases hlt : k < m
    · obtain ⟨b, off, B, c1, rfl, hb, hcell, hints⟩ := (HL.out.keep HB.out).at_ hlt
      have HI := Lib.hid hints
      have hklt : (k : Int) < m := by omega
      obtain ⟨n, HN⟩ : ∃ n, Hid ((rowAt vs k).length = n) := ⟨_, Lib.hid rfl⟩
      have hn8 : n * 8 ≤ 281474976710656 := by have := HM.out k hlt; rw [HN.out] at this; omega
      rw [HN.out] at hcell HI
      clear hints hb
      go_wp2_with fail
      refine (laws_toInt64S _ n _ (rowAt vs k) _ HI.out hn8).mono ?_
      rintro e w2 ⟨b2, rfl, ho, hb2⟩
      have HR2 := Lib.hid (HR.out.of_block (hb2.block _ HR.out.lt))
      have hc2 := HR2.out.cell hlt
      have hf2 := HR2.out.frozen k
      have hgs := HR2.out.lt
      have HO2 := Lib.hid ho
      have HB2 := Lib.hid (below_then HB.out hb2)
      have HBX := Lib.hid hb2
      have hb2s : 0 < n → wr.heap.size ≤ b2 ∧ b2 < w2.heap.size := fun hn => by
        obtain ⟨b', off', e, h1, h2, _⟩ := ho.2.2 hn
        injection e with e
        injection e with e _
        subst e
        exact ⟨h1, h2⟩
      have HBS := Lib.hid hb2s
      have hgr := HR.out.lt
      clear ho hb2 hb2s
      go_wp2_with fail
      go_roundw
      case rel =>
        refine ⟨k + 1, upd A k (some ⟨b2, 0, none⟩), upd c' k n, by omega, by go_num, Lib.hid ((HR2.out.set k _).congr fun j hj => ?_), Lib.hid fun j hj => ?_, Lib.hid fun i j hi hj hij hli hlj a b' ha hb' => ?_, Lib.hid (HB2.out.setCell (p := ⟨w.heap.size, k, none⟩) (Nat.le_refl _) _)⟩
        · by_cases e : j = k
          · subst e
            rw [if_pos rfl, if_pos (by omega), upd_eq, upd_eq, HN.out]
          · rw [if_neg e, upd_ne e, upd_ne e]
            by_cases e2 : j < k
            · rw [if_pos e2, if_pos (by omega)]
            · rw [if_neg e2, if_neg (by omega)]
        · by_cases e : j = k
          · subst e
            rw [upd_eq, HN.out]
            by_cases hn : 0 < n
            · have hne : b2 ≠ w.heap.size := by have := (HBS.out hn).1; omega
              exact ⟨(HO2.out.less HB.out.size).farBlk (fun a ha => by injection ha with ha; subst ha; exact hne), fun _ a ha => by
                injection ha with ha
                subst ha
                exact ⟨hne, by simpa [World.setCell] using (HBS.out hn).2⟩⟩
            · obtain rfl : n = 0 := by omega
              exact ⟨⟨HO2.out.1, HO2.out.2.1, fun h => absurd h (by omega)⟩, fun h => absurd h (by omega)⟩
          · rw [upd_ne e]
            obtain ⟨o1, o2⟩ := HO.out j (by omega)
            refine ⟨?_, fun hn a ha => ⟨(o2 hn a ha).1, by have h1 := (o2 hn a ha).2; have h2 := HBX.out.size; simp [World.setCell]; omega⟩⟩
            by_cases hn : 0 < (rowAt vs j).length
            · exact (o1.keep HBX.out).farBlk (fun a ha => (o2 hn a ha).1)
            · exact ⟨o1.1, o1.2.1, fun h => absurd h hn⟩
        · by_cases e1 : i = k
          · subst e1
            have e2 : j ≠ i := fun e => hij e.symm
            rw [upd_eq] at ha
            rw [upd_ne e2] at hb'
            injection ha with ha
            subst ha
            have h1 := (HBS.out (by rw [← HN.out]; exact hli)).1
            have h2 := ((HO.out j (by omega)).2 hlj b' hb').2
            show b2 ≠ b'.block
            omega
          · rw [upd_ne e1] at ha
            by_cases e2 : j = k
            · subst e2
              rw [upd_eq] at hb'
              injection hb' with hb'
              subst hb'
              have h1 := (HBS.out (by rw [← HN.out]; exact hlj)).1
              have h2 := ((HO.out i (by omega)).2 hli a ha).2
              show a.block ≠ b2
              omega
            · rw [upd_ne e2] at hb'
              exact HD.out i j (by omega) (by omega) hij hli hlj a b' ha hb'
      case measure => simp [intOf]; omega
    · obtain rfl : k = m := by omega
      go_wp2_with fail
      go_ret
      refine ⟨_, rfl, ⟨HL.out.1, hm1, Nat.le_refl _, fun _ => ⟨w.heap.size, A, c', rfl, HL.out.1, Nat.le_refl _, HR.out.lt, Nat.le_refl _, fun j hj => ?_, fun j hj => OwnIn.of (HO.out j hj).1, fun j hj hn a ha => ((HO.out j hj).2 hn a ha).1, HD.out⟩⟩, HB.out⟩
      have := HR.out.cell hj
      simp only [if_pos hj] at this
      exact this

/-- the rows before j marked, from k0 on -/
def mkR (k0 : Int) (vs : List (List Int)) (j : Nat) : List (List Int) := (List.range vs.length).map fun r => if r < j then marksL (k0 + preL vs r) (rowAt vs r).length else rowAt vs r
theorem mkR_len (k0 : Int) (vs : List (List Int)) (j : Nat) : (mkR k0 vs j).length = vs.length := by simp [mkR]
theorem mkR_at {k0 : Int} {vs : List (List Int)} {j r : Nat} (h : r < vs.length) : rowAt (mkR k0 vs j) r = if r < j then marksL (k0 + preL vs r) (rowAt vs r).length else rowAt vs r :=
  rowAt_of (by unfold mkR; rw [List.getElem?_map, List.getElem?_range h]; rfl)
theorem marksL_len (k : Int) (n : Nat) : (marksL k n).length = n := by simp [marksL]
theorem mkR_rl {k0 : Int} {vs : List (List Int)} {j r : Nat} (h : r < vs.length) : (rowAt (mkR k0 vs j) r).length = (rowAt vs r).length := by
  rw [mkR_at h]
  split
  · exact marksL_len _ _
  · rfl
theorem mkR_zero (k0 : Int) (vs : List (List Int)) : mkR k0 vs 0 = vs := by
  refine List.ext_getElem? fun r => ?_
  by_cases hr : r < vs.length
  · rw [rowAt_get (by rw [mkR_len]; exact hr), mkR_at hr, if_neg (by omega), rowAt_get hr]
  · rw [List.getElem?_eq_none (by rw [mkR_len]; omega), List.getElem?_eq_none (by omega)]

theorem laws_markInt64SS (L : Option Addr) (m c : Nat) (vs : List (List Int)) (lo hi : Nat) (w : World) (hl : LR lo hi w L m vs) (hm : preL vs m ≤ 1048576) (hlo : lo ≤ hi) :
    Calls Try.prog 12 #[.slice L m c, .int .i64 1] w fun e w' => e = .returned (.int .i64 (1 + preL vs m)) ∧ LR lo hi w' L m (mkR 1 vs m) ∧ Touch lo hi w w' := by
  have hm1 := hl.2.1
  have HVL := Lib.hid hl.1
  have HHW := Lib.hid hl.2.2.1
  by_cases hm0 : m = 0
  · subst hm0
    have hvs : vs = [] := List.eq_nil_of_length_eq_zero HVL.out
    subst hvs
    clear hl hm
    go_enter Try.func12, Try.ntmps12
    go_wp2_with fail
    go_loopw [1, 5] (fun q i wr => q = .int .i64 1 ∧ i = .int .i64 0 ∧ wr = w) (fun _ _ _ => 0)
    case atStart => exact ⟨rfl, rfl, rfl⟩
    case round =>
      obtain ⟨rfl, rfl, rfl⟩ := hrel
      go_wp2_with fail
      go_ret
      exact ⟨rfl, ⟨rfl, by omega, HHW.out, fun h => absurd h (by omega)⟩, Touch.refl _⟩
  · obtain ⟨g, A, c', rfl, hgt⟩ := hl.2.2.2 (by omega)
    have HG := Lib.hid hgt
    have HM := Lib.hid (show ∀ j, j ≤ m → preL vs j ≤ 1048576 from fun j hj => Nat.le_trans (preL_mono vs hj) hm)
    clear hl hgt hm hm0
    go_enter Try.func12, Try.ntmps12
    go_wp2_with fail
    go_loopw [1, 5] (fun q i wr => ∃ (j : Nat) (r : Int), j ≤ m ∧ i = .int .i64 j ∧ q = .int .i64 r ∧ 1 ≤ r ∧ r ≤ 1048577 ∧ Hid (r = 1 + preL vs j) ∧ Hid (GT lo hi wr g m (mkR 1 vs j) A c') ∧ Hid (Touch lo hi w wr)) (fun _ i _ => m - (intOf i).toNat)
    case atStart => exact ⟨0, 1, Nat.zero_le _, rfl, rfl, by omega, by omega, Lib.hid rfl, Lib.hid (by rw [mkR_zero]; exact HG.out), Lib.hid (Touch.refl w)⟩
    case round =>
      obtain ⟨j, r, hj, rfl, rfl, hr0, hr1, HR, HGJ, HT⟩ := hrel
      by_cases hlt : j < m
      · have hjl : j < vs.length := by rw [HVL.out]; exact hlt
        have hcell := HGJ.out.cell j hlt
        have HOJ := Lib.hid (HGJ.out.own j hlt)
        obtain ⟨n, HN⟩ : ∃ n, Hid ((rowAt vs j).length = n) := ⟨_, Lib.hid rfl⟩
        have HRL := Lib.hid (show (rowAt (mkR 1 vs j) j).length = n from (mkR_rl hjl).trans HN.out)
        rw [HRL.out] at hcell HOJ
        have hjz : (j : Int) < m := by omega
        have HP := Lib.hid (show preL vs (j + 1) = preL vs j + n by rw [← HN.out]; rfl)
        have hn1 : n ≤ 1048576 := by have h1 := HM.out (j + 1) (by omega); rw [HP.out] at h1; omega
        by_cases hn : 0 < n
        · obtain ⟨b, off, hAj, _⟩ := HOJ.out.2.2.2 hn
          have h1 := HOJ.out
          rw [hAj] at h1 hcell
          obtain ⟨h2, h3, h4⟩ := h1.thin hn
          have HO := Lib.hid h2
          have HAJ := Lib.hid hAj
          have hbg : b ≠ g := HGJ.out.ne j hlt (by rw [HRL.out]; exact hn) _ hAj
          clear h1 h2 hAj HOJ
          go_wp2_with fail
          refine (laws_markInt64S _ n _ (rowAt (mkR 1 vs j) j) r b (b + 1) _ HO.out (by omega) (by omega) (by omega)).mono ?_
          rintro e w2 ⟨rfl, ho2, ht2⟩
          have HT2 := Lib.hid ht2
          have HG2 := Lib.hid (show GT lo hi w2 g m (mkR 1 vs (j + 1)) A c' by
            have hG := HGJ.out
            have hrow : ∀ t, t < m → (rowAt (mkR 1 vs (j + 1)) t).length = (rowAt (mkR 1 vs j) t).length := fun t ht => (mkR_rl (by rw [HVL.out]; exact ht)).trans (mkR_rl (by rw [HVL.out]; exact ht)).symm
            refine ⟨by rw [mkR_len]; exact HVL.out, hG.gl, hG.gh, Nat.le_trans hG.hw HT2.out.2.2.2.1, fun t ht => ?_, fun t ht => ?_, fun t ht h0 => ?_, fun t u ht hu htu h5 h6 => ?_⟩
            · rw [hrow t ht]
              exact cell_touch (hG.cell t ht) HT2.out (by show g < b ∨ b + 1 ≤ g; omega)
            · by_cases e : t = j
              · subst e
                rw [mkR_at hjl, if_pos (by omega), marksL_len, HN.out, ← HR.out, HAJ.out]
                exact ho2.wide h3 (by omega) (Nat.le_trans hG.hw HT2.out.2.2.2.1)
              · have he : rowAt (mkR 1 vs (j + 1)) t = rowAt (mkR 1 vs j) t := by
                  rw [mkR_at (by rw [HVL.out]; exact ht), mkR_at (by rw [HVL.out]; exact ht)]
                  by_cases h7 : t < j
                  · rw [if_pos h7, if_pos (by omega)]
                  · rw [if_neg h7, if_neg (by omega)]
                rw [he]
                exact (hG.own t ht).off HT2.out (fun h0 a ha => hG.dst t j ht hlt e h0 (by rw [HRL.out]; exact hn) a ⟨b, off, none⟩ ha HAJ.out)
            · rw [hrow t ht] at h0
              exact hG.ne t ht h0
            · rw [hrow t ht] at h5
              rw [hrow u hu] at h6
              exact hG.dst t u ht hu htu h5 h6)
          have HTW := Lib.hid (HT.out.trans (HT2.out.wide h3 (show b + 1 ≤ hi by omega)))
          obtain ⟨r2, HR2⟩ : ∃ r2, Hid (r + (n : Int) = r2) := ⟨_, Lib.hid rfl⟩
          have HR3 := Lib.hid (show r2 = 1 + preL vs (j + 1) by have h5 := HR.out; have h6 := HR2.out; rw [HP.out]; omega)
          have hr2 : 1 ≤ r2 ∧ r2 ≤ 1048577 := by have h5 := HR3.out; have h6 := HM.out (j + 1) (by omega); omega
          obtain ⟨hr20, hr21⟩ := hr2
          rw [HR2.out]
          clear ho2 ht2
          go_wp2_with fail
          go_roundw
          case rel => exact ⟨j + 1, r2, by omega, by go_num, rfl, hr20, hr21, HR3, HG2, HTW⟩
          case measure => simp [intOf]; omega
        · obtain rfl : n = 0 := by omega
          have HO := Lib.hid (show OwnIn 0 0 wr (A j) 0 (rowAt (mkR 1 vs j) j) from ⟨HOJ.out.1, HOJ.out.2.1, Nat.zero_le _, fun h => absurd h hn⟩)
          have HSK := Lib.hid (show mkR 1 vs (j + 1) = mkR 1 vs j by
            refine List.ext_getElem? fun t => ?_
            by_cases ht : t < vs.length
            · rw [rowAt_get (by rw [mkR_len]; exact ht), rowAt_get (by rw [mkR_len]; exact ht), mkR_at ht, mkR_at ht]
              congr 1
              by_cases h7 : t < j
              · rw [if_pos h7, if_pos (by omega)]
              · rw [if_neg h7]
                by_cases h8 : t = j
                · subst h8
                  rw [if_pos (by omega), HN.out, List.eq_nil_of_length_eq_zero HN.out]
                  rfl
                · rw [if_neg (by omega)]
            · rw [List.getElem?_eq_none (by rw [mkR_len]; omega), List.getElem?_eq_none (by rw [mkR_len]; omega)])
          clear HOJ
          go_wp2_with fail
          refine (laws_markInt64S _ 0 _ (rowAt (mkR 1 vs j) j) r 0 0 _ HO.out (by omega) (by omega) (by omega)).mono ?_
          rintro e w2 ⟨rfl, ho2, ht2⟩
          have HG2 := Lib.hid (show GT lo hi w2 g m (mkR 1 vs (j + 1)) A c' by rw [HSK.out]; exact HGJ.out.far ht2 (.inr (Nat.zero_le _)))
          have HTW := Lib.hid (show Touch lo hi w w2 from HT.out.trans ⟨ht2.1, ht2.2.1, ht2.2.2.1, ht2.2.2.2.1, fun i hi _ => ht2.2.2.2.2 i hi (by omega)⟩)
          obtain ⟨r2, HR2⟩ : ∃ r2, Hid (r + ((0 : Nat) : Int) = r2) := ⟨_, Lib.hid rfl⟩
          have HR3 := Lib.hid (show r2 = 1 + preL vs (j + 1) by have h5 := HR.out; have h6 := HR2.out; rw [HP.out]; omega)
          have hr2 : 1 ≤ r2 ∧ r2 ≤ 1048577 := by have h5 := HR3.out; have h6 := HM.out (j + 1) (by omega); omega
          obtain ⟨hr20, hr21⟩ := hr2
          rw [HR2.out]
          clear ho2 ht2
          go_wp2_with fail
          go_roundw
          case rel => exact ⟨j + 1, r2, by omega, by go_num, rfl, hr20, hr21, HR3, HG2, HTW⟩
          case measure => simp [intOf]; omega
      · obtain rfl : j = m := by omega
        go_wp2_with fail
        go_ret
        exact ⟨ret_int HR.out, ⟨by rw [mkR_len]; exact HVL.out, hm1, HGJ.out.hw, fun _ => ⟨g, A, c', rfl, HGJ.out⟩⟩, HT.out⟩

theorem laws_heldInt64SS (L : Option Addr) (m c : Nat) (vs : List (List Int)) (w : World) (hl : LL w L m (mkR 1 vs m)) (hv : vs.length = m) (hm : preL vs m ≤ 1048576) (hm1 : m ≤ 1048576) :
    Calls Try.prog 13 #[.slice L m c, .int .i64 1] w fun e w' => e = .returned (.int .i64 (1 + preL vs m)) ∧ w = w' := by
  have HL := Lib.hid hl
  have HV := Lib.hid hv
  have HM := Lib.hid (show ∀ j, j ≤ m → preL vs j ≤ 1048576 from fun j hj => Nat.le_trans (preL_mono vs hj) hm)
  clear hl hv hm
  go_enter Try.func13, Try.ntmps13
  go_wp2_with fail
  go_loop [1, 5] (fun q i => ∃ (j : Nat) (r : Int), j ≤ m ∧ i = .int .i64 j ∧ q = .int .i64 r ∧ 1 ≤ r ∧ r ≤ 1048577 ∧ Hid (r = 1 + preL vs j)) (fun _ i => m - (intOf i).toNat)
  case atStart => exact ⟨0, 1, Nat.zero_le _, rfl, rfl, by omega, by omega, Lib.hid rfl⟩
  case round =>
    obtain ⟨j, r, hj, rfl, rfl, hr0, hr1, HR⟩ := hrel
    by_cases hlt : j < m
    · obtain ⟨b, off, B, c1, rfl, hb, hcell, hints⟩ := HL.out.at_ hlt
      have hjz : (j : Int) < m := by omega
      obtain ⟨n, HN⟩ : ∃ n, Hid ((rowAt vs j).length = n) := ⟨_, Lib.hid rfl⟩
      have HE := Lib.hid (show rowAt (mkR 1 vs m) j = marksL r n by rw [mkR_at (by rw [HV.out]; exact hlt), if_pos hlt, HN.out, HR.out])
      rw [HE.out, marksL_len] at hcell hints
      have HI := Lib.hid hints
      have HP := Lib.hid (show preL vs (j + 1) = preL vs j + n by rw [← HN.out]; rfl)
      have hn1 : n ≤ 1048576 := by have h1 := HM.out (j + 1) (by omega); rw [HP.out] at h1; omega
      obtain ⟨r2, HR2⟩ : ∃ r2, Hid (r + (n : Int) = r2) := ⟨_, Lib.hid rfl⟩
      have HR3 := Lib.hid (show r2 = 1 + preL vs (j + 1) by have h5 := HR.out; have h6 := HR2.out; rw [HP.out]; omega)
      have hr2 : 1 ≤ r2 ∧ r2 ≤ 1048577 := by have h5 := HR3.out; have h6 := HM.out (j + 1) (by omega); omega
      obtain ⟨hr20, hr21⟩ := hr2
      clear hints hb
      go_wp2_with fail
      refine (laws_heldInt64S _ n _ r _ HI.out (by omega) (by omega) (by omega)).mono ?_
      rw [HR2.out]
      rintro e w2 ⟨rfl, rfl⟩
      go_wp2_with fail
      go_round
      case rel => exact ⟨j + 1, r2, by omega, by go_num, rfl, hr20, hr21, HR3⟩
      case measure => simp [intOf]; omega
    · obtain rfl : j = m := by omega
      go_wp2_with fail
      go_ret
      exact ⟨ret_int HR.out, rfl⟩
end Go.Proofs.Ytcgghjhccnjeoaa
