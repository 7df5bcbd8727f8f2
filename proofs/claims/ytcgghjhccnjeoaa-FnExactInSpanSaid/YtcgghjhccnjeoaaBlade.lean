/- Contracts: the zero multivector, blades, vectors. Conditions stand in each theorem. -/
import Derived.Test.YtcgghjhccnjeoaaLists
import Derived.Test.YtcgghjhccnjeoaaMark
namespace Go.Proofs.Ytcgghjhccnjeoaa
open Go.RowKit
set_option linter.unusedVariables false

theorem toNat_pow (n : Nat) : ((2 : Int) ^ n).toNat = 2 ^ n := by rw [ipow_cast]; exact Int.toNat_natCast _
theorem make_pow {n : Nat} (hn : n ≤ 6) (w : World) : (Instr.makeSlice 29 (.int .i64 (2 ^ n)) (.int .i64 (2 ^ n))).run Try.prog w = .ok (.slice (some ⟨w.heap.size, 0, none⟩) (2 ^ n) (2 ^ n)) (w.alloc (.cells (madeCells #[.int .i64 0] (2 ^ n)) 2)) := by
  have h := pow_le6 hn
  rw [ipow_cast]
  exact run_make_row' (P := Try.prog) 29 2 (.int .i64 0) 8 Try.underlying29 int_info rfl .i64 .i64 (2 ^ n) (by omega) (by omega) w
theorem own_zeros (w : World) (n : Nat) (hn : n ≤ maxLen) (b : Nat) (hb : b = w.heap.size) (t : TypeId) (B : Nat) (hB : B ≤ b) : Own B (w.alloc (.cells (madeCells #[.int .i64 0] n) t)) (some ⟨b, 0, none⟩) n (List.replicate n 0) := by
  subst hb
  exact Own.of_row (World.rowIs_made w (.int .i64 0) n t) (by simp) hn hB (fun i x hi => by
    have h := List.mem_of_getElem? hi
    rw [(List.mem_replicate.1 h).2])
theorem Own.set_ {w : World} {B n b off j : Nat} {xs : List Int} (h : Own B w (some ⟨b, off, none⟩) n xs) (hj : j < n) (v : Int) : Own B (w.setCell ⟨b, off + j, none⟩ (.int .i64 v)) (some ⟨b, off, none⟩) n (xs.set j v) := by
  have h1 := (OwnIn.of h).set_ hj v
  exact ⟨h1.1, h1.2.1, fun hn => by
    obtain ⟨b', off', e, h2, h3, h4, h5⟩ := h1.2.2.2 hn
    exact ⟨b', off', e, h2, by simpa [World.setCell] using h3, h4, h5⟩⟩
theorem Own.fresh_set {w w' : World} {b off j : Nat} (hb : Below w.heap.size w w') (h : w.heap.size ≤ b) (v : Value) : Below w.heap.size w (w'.setCell ⟨b, off + j, none⟩ v) := hb.setCell h v

end Go.Proofs.Ytcgghjhccnjeoaa
