/- Plain: how many vectors have a norm. No program in sight. -/
import Derived.Test.YtcieohpbeckjfaaSpaceP
namespace Go.Proofs.Ytcieohpbeckjfaa

def idxN (P c x : Nat) (sq : Int) : Nat := (((c : Int) + (x : Int) * x * sq) % (P : Int)).toNat
def cntI (P : Nat) (sq v : Int) (c : Nat) (L : List Int) : Nat → List Int
  | 0 => L
  | x + 1 => (cntI P sq v c L x).set (idxN P c x sq) ((cntI P sq v c L x).getD (idxN P c x sq) 0 + v)
def cntO (P : Nat) (sq : Int) (M : List Int) : Nat → List Int
  | 0 => List.replicate P 0
  | c + 1 => cntI P sq (M.getD c 0) c (cntO P sq M c) P
def cntS (P : Nat) (sqs : List Int) : Nat → List Int
  | 0 => (List.replicate P 0).set 0 1
  | k + 1 => cntO P (sqs.getD k 0) (cntS P sqs k) P
theorem idxN_lt {P c x : Nat} {sq : Int} (hP : 0 < P) : idxN P c x sq < P := by
  unfold idxN
  have h1 := Int.emod_nonneg ((c : Int) + (x : Int) * x * sq) (show (P : Int) ≠ 0 by omega)
  have h2 := Int.emod_lt_of_pos ((c : Int) + (x : Int) * x * sq) (show (0 : Int) < P by omega)
  omega
theorem idxN_eq {P c x : Nat} {sq : Int} (hP : 0 < P) : ((c : Int) + (x : Int) * x * sq) % (P : Int) = ((idxN P c x sq : Nat) : Int) := by
  unfold idxN
  have h1 := Int.emod_nonneg ((c : Int) + (x : Int) * x * sq) (show (P : Int) ≠ 0 by omega)
  omega
theorem idxN_eq2 {P c x : Nat} {sq : Int} (hP : 0 < P) : ((c : Int) + (x : Int) * x % (P : Int) * sq) % (P : Int) = ((idxN P c x sq : Nat) : Int) := by
  rw [← idxN_eq hP, Int.add_emod, Int.mul_emod, Int.emod_emod_of_dvd _ (Int.dvd_refl _), ← Int.mul_emod, ← Int.add_emod]
theorem cntI_len (P : Nat) (sq v : Int) (c : Nat) (L : List Int) (x : Nat) : (cntI P sq v c L x).length = L.length := by
  induction x with
  | zero => rfl
  | succ x ih => unfold cntI; rw [List.length_set, ih]
theorem cntO_len (P : Nat) (sq : Int) (M : List Int) (c : Nat) : (cntO P sq M c).length = P := by
  induction c with
  | zero => exact List.length_replicate
  | succ c ih => unfold cntO; rw [cntI_len, ih]
theorem cntS_len (P : Nat) (sqs : List Int) (k : Nat) : (cntS P sqs k).length = P := by
  cases k with
  | zero => unfold cntS; rw [List.length_set, List.length_replicate]
  | succ k => unfold cntS; rw [cntO_len]
def bnd (L : List Int) (B : Int) : Prop := ∀ e ∈ L, 0 ≤ e ∧ e ≤ B
theorem bnd_get {L : List Int} {B : Int} (h : bnd L B) (hB : 0 ≤ B) (j : Nat) : 0 ≤ L.getD j 0 ∧ L.getD j 0 ≤ B := by
  rw [List.getD_eq_getElem?_getD]
  cases e : L[j]? with
  | none => exact ⟨Int.le_refl _, hB⟩
  | some x => exact h x (List.mem_of_getElem? e)
theorem bnd_mono {L : List Int} {B C : Int} (h : bnd L B) (hC : B ≤ C) : bnd L C := fun e he => by have := h e he; omega
theorem bnd_set {L : List Int} {B C : Int} (h : bnd L B) (hC : B ≤ C) {j : Nat} {v : Int} (h0 : 0 ≤ v) (h1 : v ≤ C) : bnd (L.set j v) C := fun e he => by
  rcases List.mem_or_eq_of_mem_set he with h2 | h2
  · have := h e h2; omega
  · omega
theorem cntI_bnd {P c : Nat} {sq v B V : Int} {L : List Int} (hL : bnd L B) (hB : 0 ≤ B) (h0 : 0 ≤ v) (h1 : v ≤ V) (x : Nat) : bnd (cntI P sq v c L x) (B + x * V) := by
  have hV : 0 ≤ V := by omega
  induction x with
  | zero => simpa [cntI] using hL
  | succ x ih =>
    have hx : 0 ≤ (x : Int) * V := Int.mul_nonneg (by omega) hV
    have e : B + ((x + 1 : Nat) : Int) * V = B + x * V + V := by rw [Int.natCast_add, Int.add_mul]; omega
    have hg := bnd_get ih (by omega) (idxN P c x sq)
    unfold cntI
    rw [e]
    exact bnd_set ih (by omega) (by omega) (by omega)
theorem cntO_bnd {P : Nat} {sq V : Int} {M : List Int} (hM : bnd M V) (hV : 0 ≤ V) (c : Nat) : bnd (cntO P sq M c) (c * (P * V)) := by
  induction c with
  | zero => intro e he; rw [(List.mem_replicate.1 he).2]; simp
  | succ c ih =>
    have hPV : 0 ≤ (P : Int) * V := Int.mul_nonneg (by omega) hV
    have hc : 0 ≤ (c : Int) * (P * V) := Int.mul_nonneg (by omega) hPV
    have hg := bnd_get hM hV c
    have e : ((c + 1 : Nat) : Int) * (P * V) = c * (P * V) + P * V := by rw [Int.natCast_add, Int.add_mul]; omega
    unfold cntO
    rw [e]
    exact cntI_bnd ih hc hg.1 hg.2 P
theorem cntS_bnd {P : Nat} (hP : P ≤ 13) (sqs : List Int) (k : Nat) : bnd (cntS P sqs k) (169 ^ k) := by
  induction k with
  | zero =>
    intro e he
    rcases List.mem_or_eq_of_mem_set he with h | h
    · rw [(List.mem_replicate.1 h).2]; simp
    · rw [h]; simp
  | succ k ih =>
    have hV : (0 : Int) ≤ 169 ^ k := Int.pow_nonneg (by decide)
    have h := cntO_bnd (P := P) (sq := sqs.getD k 0) ih hV P
    have h1 : (P : Int) * 169 ^ k ≤ 13 * 169 ^ k := Int.mul_le_mul_of_nonneg_right (by omega) hV
    have h2 : (P : Int) * (P * 169 ^ k) ≤ 13 * (13 * 169 ^ k) := Int.mul_le_mul (by omega) h1 (Int.mul_nonneg (by omega) hV) (by decide)
    unfold cntS
    refine bnd_mono h (Int.le_trans h2 ?_)
    rw [Int.pow_succ]; omega
theorem pow_le5 {k : Nat} (hk : k ≤ 5) : (0 : Int) ≤ 169 ^ k ∧ (169 : Int) ^ k ≤ 137858491849 := by
  have : k = 0 ∨ k = 1 ∨ k = 2 ∨ k = 3 ∨ k = 4 ∨ k = 5 := by omega
  rcases this with rfl | rfl | rfl | rfl | rfl | rfl <;> decide
/-- the numbers that the rounds meet -/
theorem cnt_bounds {P k c x : Nat} {sqs : List Int} {sq : Int} (hP : P ≤ 13) (hk : k ≤ 5) (hc : c < P) (hx : x < P) (j : Nat) :
    (0 ≤ (cntS P sqs k).getD c 0 ∧ (cntS P sqs k).getD c 0 ≤ 137858491849) ∧
    (0 ≤ (cntI P sq ((cntS P sqs k).getD c 0) c (cntO P sq (cntS P sqs k) c) x).getD j 0 ∧ (cntI P sq ((cntS P sqs k).getD c 0) c (cntO P sq (cntS P sqs k) c) x).getD j 0 ≤ 23298085122481) := by
  obtain ⟨v0, v1⟩ := pow_le5 hk
  have hM := bnd_mono (cntS_bnd hP sqs k) v1
  have g := bnd_get hM (by decide) c
  refine ⟨g, ?_⟩
  have hO := cntO_bnd (P := P) (sq := sq) hM (by decide) c
  have hI := cntI_bnd (P := P) (c := c) (sq := sq) hO (Int.mul_nonneg (by omega) (Int.mul_nonneg (by omega) (by decide))) g.1 g.2 x
  have g2 := bnd_get hI (by
    have a : 0 ≤ (c : Int) * (P * 137858491849) := Int.mul_nonneg (by omega) (Int.mul_nonneg (by omega) (by decide))
    omega) j
  refine ⟨g2.1, Int.le_trans g2.2 ?_⟩
  have a1 : (c : Int) * (P * 137858491849) ≤ 12 * (13 * 137858491849) := Int.mul_le_mul (by omega) (by omega) (by omega) (by decide)
  omega
def cvC (p : Int) (xs : List Int) (c : Int) : Int := if spaceB p xs then (if numB p c then 0 else 2) else 1
def cvV (p : Int) (xs : List Int) (c : Int) : Int := if cvC p xs c = 0 then (cntS p.toNat xs xs.length).getD c.toNat 0 else 0
end Go.Proofs.Ytcieohpbeckjfaa
