/- Plain: the states of a code's source, and that a loop over its numbers ends. No program in sight. -/
namespace Go.Proofs.YtcgghjhccnjeoaaDoor

/-- one step, with no remainder taken -/
def stp (h : Int) : Int := h * 6364136223846793005 + 1442695040888963407
/-- the next state -/
def lcg (h : Int) : Int := stp h % 18446744073709551616
/-- the number that a state hands out -/
def lcgX (h : Int) : Int := h / 8589934592 % 16777216
theorem lcgX_bounds (h : Int) : 0 ≤ lcgX h ∧ lcgX h < 16777216 := by unfold lcgX; omega
theorem lcg_bounds (h : Int) : 0 ≤ lcg h ∧ lcg h < 18446744073709551616 := by unfold lcg; omega
def its : Nat → Int → Int
  | 0, h => h
  | j + 1, h => its j (stp h)
theorem its_add (i : Nat) : ∀ (j : Nat) (h : Int), its (j + i) h = its i (its j h)
  | 0, h => by rw [Nat.zero_add]; rfl
  | j + 1, h => by rw [Nat.succ_add]; exact its_add i j (stp h)
/-- congruent states -/
def Cg (M x y : Int) : Prop := ∃ q, x = y + M * q
theorem Cg.refl (M x : Int) : Cg M x x := ⟨0, by omega⟩
theorem Cg.symm {M x y : Int} (h : Cg M x y) : Cg M y x := by obtain ⟨q, e⟩ := h; exact ⟨-q, by rw [Int.mul_neg]; omega⟩
theorem Cg.trans {M x y z : Int} (h : Cg M x y) (k : Cg M y z) : Cg M x z := by
  obtain ⟨q, e⟩ := h
  obtain ⟨r, f⟩ := k
  exact ⟨q + r, by rw [Int.mul_add]; omega⟩
theorem cg_stp {M x y : Int} (h : Cg M x y) : Cg M (stp x) (stp y) := by
  obtain ⟨q, e⟩ := h
  exact ⟨q * 6364136223846793005, by unfold stp; subst e; grind⟩
theorem cg_its {M : Int} : ∀ (j : Nat) {x y : Int}, Cg M x y → Cg M (its j x) (its j y)
  | 0, _, _, h => h
  | j + 1, _, _, h => cg_its j (cg_stp h)
theorem cg_lcg (x : Int) : Cg 144115188075855872 (lcg x) (stp x) := ⟨-(stp x / 18446744073709551616 * 128), by unfold lcg; omega⟩
theorem cg_x {x y : Int} (h : Cg 144115188075855872 x y) : lcgX x = lcgX y := by
  obtain ⟨q, e⟩ := h
  unfold lcgX
  omega
theorem its_pow : ∀ n : Nat, ∃ k m : Int, ∀ h, its (2 ^ n) h = h * (1 + 4 * 2 ^ n * k) + 2 ^ n * (1 + 2 * m)
  | 0 => ⟨1591034055961698251, 721347520444481703, fun h => by show stp h = _; unfold stp; omega⟩
  | n + 1 => by
    obtain ⟨k, m, ih⟩ := its_pow n
    refine ⟨k + 2 * 2 ^ n * k * k, m + 2 ^ n * k + 2 * m * 2 ^ n * k, fun h => ?_⟩
    rw [show 2 ^ (n + 1) = 2 ^ n + 2 ^ n by omega, its_add, ih, ih, Int.pow_succ]
    generalize (2 : Int) ^ n = N
    grind
theorem its_reach (h r : Int) : ∀ n : Nat, ∃ j : Nat, j < 2 ^ n ∧ Cg (2 ^ n) (its j h) r
  | 0 => ⟨0, by simp, h - r, by simp [its]; omega⟩
  | n + 1 => by
    obtain ⟨j, hj, q, e⟩ := its_reach h r n
    rcases Int.emod_two_eq q with hq | hq
    · obtain ⟨t, rfl⟩ : ∃ t, q = 2 * t := ⟨q / 2, by omega⟩
      exact ⟨j, by omega, t, by rw [e, Int.pow_succ]; grind⟩
    · obtain ⟨t, rfl⟩ : ∃ t, q = 2 * t + 1 := ⟨q / 2, by omega⟩
      obtain ⟨k, m, ih⟩ := its_pow n
      refine ⟨j + 2 ^ n, by omega, t + 1 + m + 2 * k * (r + 2 ^ n * (2 * t + 1)), ?_⟩
      rw [its_add, ih, e, Int.pow_succ]
      generalize (2 : Int) ^ n = N
      grind
/-- the loop's test at a state -/
def Tst (h : Int) : Prop := ¬ lcgX (stp h) % 3 = 0
theorem Tst.cg {x y : Int} (h : Cg 144115188075855872 x y) (t : Tst y) : Tst x := by
  unfold Tst at *
  rw [cg_x (cg_stp h)]
  exact t
theorem tst_0 : Tst 0 ∧ Tst (its 2 0) := by unfold Tst; decide
theorem tst_1 : Tst 1 ∧ Tst (its 2 1) := by unfold Tst; decide
/-- within g rounds the loop ends, however many steps, 2 or 4, a round takes -/
def Rdy (g : Nat) (h : Int) : Prop := Tst h ∨ ∃ d r, 2 * d + 1 ≤ g ∧ (r = 0 ∨ r = 1) ∧ Cg 144115188075855872 (its (2 * d) h) r
theorem par_its : ∀ (j : Nat) (h : Int), (its j h - h - j) % 2 = 0
  | 0, h => by simp [its]
  | j + 1, h => by
    have := par_its j (stp h)
    have e : (stp h - h - 1) % 2 = 0 := by unfold stp; omega
    show (its j (stp h) - h - ((j + 1 : Nat) : Int)) % 2 = 0
    omega
theorem rdy_start (h : Int) : Rdy (2 ^ 57) h := by
  have hr : h % 2 = 0 ∨ h % 2 = 1 := by omega
  obtain ⟨j, hj, hc⟩ := its_reach h (h % 2) 57
  obtain ⟨q, e⟩ := hc
  have hp := par_its j h
  rw [e] at hp
  have h57 : (2 : Int) ^ 57 = 144115188075855872 := by decide
  rw [h57] at e hp
  obtain ⟨d, rfl⟩ : ∃ d, j = 2 * d := ⟨j / 2, by omega⟩
  exact .inr ⟨d, h % 2, by omega, hr, q, e⟩
theorem rdy_step {g : Nat} {h h2 h4 : Int} (r : Rdy g h) (hn : ¬ Tst h) (c2 : Cg 144115188075855872 h2 (its 2 h)) (c4 : Cg 144115188075855872 h4 (its 4 h)) : 1 ≤ g ∧ Rdy (g - 1) h2 ∧ Rdy (g - 1) h4 := by
  rcases r with t | ⟨d, r, hg, hr, hc⟩
  · exact absurd t hn
  · refine ⟨by omega, ?_⟩
    have t0 : Tst r ∧ Tst (its 2 r) := by
      rcases hr with rfl | rfl
      · exact tst_0
      · exact tst_1
    obtain _ | _ | d := d
    · exact absurd (t0.1.cg hc) hn
    · have e2 : Cg 144115188075855872 h2 r := c2.trans hc
      have e4 : Cg 144115188075855872 h4 (its 2 r) := c4.trans (by rw [show (4 : Nat) = 2 * (0 + 1) + 2 from rfl, its_add]; exact cg_its 2 hc)
      exact ⟨.inl (t0.1.cg e2), .inl (t0.2.cg e4)⟩
    · refine ⟨.inr ⟨d + 1, r, by omega, hr, ?_⟩, .inr ⟨d, r, by omega, hr, ?_⟩⟩
      · refine (cg_its (2 * (d + 1)) c2).trans ?_
        rw [← its_add, show 2 + 2 * (d + 1) = 2 * (d + 1 + 1) by omega]
        exact hc
      · refine (cg_its (2 * d) c4).trans ?_
        rw [← its_add, show 4 + 2 * d = 2 * (d + 1 + 1) by omega]
        exact hc
/-- as Rdy, where bytes of the code are still to come -/
def Fuel (n at_ g : Nat) (h : Int) : Prop := (at_ < n ∧ n - at_ + 2 ^ 57 ≤ g) ∨ (at_ = n ∧ Rdy g h)
theorem fuel_start {n : Nat} (at_ : Nat) (h : Int) (ha : at_ ≤ n) : Fuel n at_ (n - at_ + 2 ^ 57) h := by
  by_cases hl : at_ < n
  · exact .inl ⟨hl, Nat.le_refl _⟩
  · obtain rfl : at_ = n := by omega
    rw [Nat.sub_self, Nat.zero_add]
    exact .inr ⟨rfl, rdy_start h⟩
theorem Rdy.more {g g' : Nat} {h : Int} (r : Rdy g h) (hg : g ≤ g') : Rdy g' h := by
  rcases r with t | ⟨d, r, h1, h2⟩
  · exact .inl t
  · exact .inr ⟨d, r, by omega, h2⟩
theorem lcg2 (h : Int) : Cg 144115188075855872 (lcg (lcg h)) (its 2 h) := (cg_lcg _).trans (cg_stp (cg_lcg h))
theorem lcg4 (h : Int) : Cg 144115188075855872 (lcg (lcg (lcg (lcg h)))) (its 4 h) := (lcg2 _).trans (by rw [show (4 : Nat) = 2 + 2 from rfl, its_add]; exact cg_its 2 (lcg2 h))
/-- a round: the test's number was 0 by 3 (where no byte was left, the state's own number) -/
theorem fuel_step {n a a2 g : Nat} {h h2 : Int} (f : Fuel n a g h) (ht : a = n → lcgX (lcg h) % 3 = 0) (ha : a2 ≤ n) (ha2 : a < n → a < a2) (ha3 : a = n → a2 = n) (h2e : h2 = lcg (lcg h) ∨ h2 = lcg (lcg (lcg (lcg h)))) : ∃ g', g' < g ∧ Fuel n a2 g' h2 := by
  rcases f with ⟨h1, h3⟩ | ⟨rfl, r⟩
  · have := ha2 h1
    exact ⟨n - a2 + 2 ^ 57, by omega, fuel_start a2 h2 ha⟩
  · have hn : ¬ Tst h := by unfold Tst; rw [← cg_x (cg_lcg h)]; exact fun t => t (ht rfl)
    obtain ⟨g1, r2, r4⟩ := rdy_step r hn (lcg2 h) (lcg4 h)
    obtain rfl := ha3 rfl
    refine ⟨g - 1, by omega, .inr ⟨rfl, ?_⟩⟩
    rcases h2e with rfl | rfl
    · exact r2
    · exact r4
end Go.Proofs.YtcgghjhccnjeoaaDoor
