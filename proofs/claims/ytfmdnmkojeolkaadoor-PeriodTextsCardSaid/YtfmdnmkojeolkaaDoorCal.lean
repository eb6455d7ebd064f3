/-
  Plain facts on the days of 2000 to 2099: the number of a date, and the date of a number. No program in sight.
-/
namespace Go.Proofs.YtfmdnmkojeolkaaDoor.Cal

def dim (y m : Int) : Int := if m = 2 then (if y % 4 = 0 then 29 else 28) else if m = 4 ∨ m = 6 ∨ m = 9 ∨ m = 11 then 30 else 31
def lp (y : Int) : Int := if y % 4 = 0 then 1 else 0
def fst (y : Int) : Int := 365 * (y - 2000) + (y - 2000 + 3) / 4
def cum (y : Int) : Nat → Int
  | 0 => 0
  | k + 1 => cum y k + dim y ((k : Int) + 1)
def vld (y m d : Int) : Bool := decide (2000 ≤ y ∧ y ≤ 2099 ∧ 1 ≤ m ∧ m ≤ 12 ∧ 1 ≤ d ∧ d ≤ dim y m)
def num (y m d : Int) : Int := fst y + (d - 1) + cum y (m - 1).toNat

theorem vld_iff {y m d : Int} : vld y m d = true ↔ 2000 ≤ y ∧ y ≤ 2099 ∧ 1 ≤ m ∧ m ≤ 12 ∧ 1 ≤ d ∧ d ≤ dim y m := by simp [vld]
theorem dim_bd (y m : Int) : 28 ≤ dim y m ∧ dim y m ≤ 31 := by
  unfold dim; repeat' split
  all_goals omega
theorem cum_bd (y : Int) (k : Nat) : 28 * (k : Int) ≤ cum y k ∧ cum y k ≤ 31 * (k : Int) := by
  induction k with
  | zero => simp [cum]
  | succ k ih => have := dim_bd y ((k : Int) + 1); unfold cum; omega
theorem cum_succ (y : Int) (k : Nat) : cum y (k + 1) = cum y k + dim y ((k : Int) + 1) := rfl
theorem cum_mono (y : Int) {j k : Nat} (h : j ≤ k) : cum y j ≤ cum y k := by
  induction k with
  | zero => obtain rfl : j = 0 := by omega
            exact Int.le_refl _
  | succ k ih =>
    by_cases e : j = k + 1
    · subst e; exact Int.le_refl _
    · have := ih (by omega); have := dim_bd y ((k : Int) + 1); rw [cum_succ]; omega
theorem cum_12 (y : Int) : cum y 12 = 365 + lp y := by
  unfold lp; simp [cum, dim]; split <;> omega
theorem fst_succ (y : Int) : fst (y + 1) = fst y + 365 + lp y := by
  unfold fst lp; split <;> omega
theorem fst_bd (y : Int) (h : 2000 ≤ y) (h' : y ≤ 2100) : 0 ≤ fst y ∧ fst y ≤ 36525 := by unfold fst; omega
theorem fst_mono {a b : Int} (h : a ≤ b) : fst a ≤ fst b := by unfold fst; omega
theorem fst_2100 : fst 2100 = 36525 := by decide
theorem fst_2000 : fst 2000 = 0 := by decide
theorem lp_01 (y : Int) : 0 ≤ lp y ∧ lp y ≤ 1 := by unfold lp; split <;> omega
theorem dim_last (y : Int) : cum y 11 + dim y 12 = 365 + lp y := by have := cum_12 y; simpa [cum] using this

/-- A number lies in the year of its date. -/
theorem num_in {y m d : Int} (h : vld y m d = true) : fst y ≤ num y m d ∧ num y m d < fst (y + 1) := by
  obtain ⟨a, b, c, e, f, g⟩ := vld_iff.1 h
  obtain ⟨k, hk⟩ : ∃ k : Nat, m = (k : Int) + 1 := ⟨(m - 1).toNat, by omega⟩
  subst hk
  have h1 := cum_bd y k
  have h2 := cum_mono y (show k + 1 ≤ 12 by omega)
  have h3 := cum_12 y
  have h4 := fst_succ y
  unfold num
  rw [show ((k : Int) + 1 - 1).toNat = k by omega]
  rw [cum_succ] at h2
  omega
theorem num_bd {y m d : Int} (h : vld y m d = true) : 0 ≤ num y m d ∧ num y m d < 36525 := by
  have h1 := num_in h
  obtain ⟨a, b, -⟩ := vld_iff.1 h
  have h2 := fst_mono (show y + 1 ≤ 2100 by omega)
  have h3 := fst_mono a
  rw [fst_2100] at h2; rw [fst_2000] at h3
  omega

/-! The date of a number. -/
def yr (n : Int) : Int := 2000 + 4 * n / 1461
def monAt (y r : Int) : Nat → Int
  | 0 => 1
  | k + 1 => if cum y k ≤ r then (k : Int) + 1 else monAt y r k
def inR (n : Int) : Bool := decide (0 ≤ n ∧ n < 36525)
def Y (n : Int) : Int := if inR n then yr n else 0
def M (n : Int) : Int := if inR n then monAt (yr n) (n - fst (yr n)) 12 else 0
def D (n : Int) : Int := if inR n then n - fst (yr n) - cum (yr n) (monAt (yr n) (n - fst (yr n)) 12 - 1).toNat + 1 else 0

theorem yr_of {n y : Int} (h : fst y ≤ n) (h' : n < fst (y + 1)) (_a : 2000 ≤ y) (_b : y ≤ 2099) : yr n = y := by
  unfold fst at h h'; unfold yr; omega
theorem monAt_of {y r : Int} {k : Nat} (h : cum y k ≤ r) (h' : r < cum y (k + 1)) (j : Nat) (hj : k + 1 ≤ j) : monAt y r j = (k : Int) + 1 := by
  induction j with
  | zero => omega
  | succ j ih =>
    unfold monAt
    by_cases e : j = k
    · subst e; rw [if_pos h]
    · have := cum_mono y (show k + 1 ≤ j by omega)
      rw [if_neg (by omega)]
      exact ih (by omega)
theorem date_of {y m d n : Int} (h : vld y m d = true) (e : num y m d = n) : Y n = y ∧ M n = m ∧ D n = d := by
  have hn := num_in h
  have hb := num_bd h
  obtain ⟨a, b, c, e', f, g⟩ := vld_iff.1 h
  have hy : yr n = y := yr_of (by omega) (by omega) a b
  have hr : inR n = true := by simp [inR]; omega
  obtain ⟨k, hk⟩ : ∃ k : Nat, m = (k : Int) + 1 := ⟨(m - 1).toNat, by omega⟩
  subst hk
  unfold num at e
  rw [show ((k : Int) + 1 - 1).toNat = k by omega] at e
  have hm : monAt y (n - fst y) 12 = (k : Int) + 1 := monAt_of (by omega) (by rw [cum_succ]; omega) 12 (by omega)
  refine ⟨by simp [Y, hr, hy], by simp [M, hr, hy, hm], ?_⟩
  simp only [D, hr, hy, hm, if_true]
  rw [show ((k : Int) + 1 - 1).toNat = k by omega]
  omega
theorem out {n : Int} (h : ¬ (0 ≤ n ∧ n < 36525)) : Y n = 0 ∧ M n = 0 ∧ D n = 0 := by
  have hr : inR n = false := by simp [inR]; omega
  simp [Y, M, D, hr]
/-- Every number in range has a date: by going up. -/
theorem has (n : Int) (h : 0 ≤ n) (h' : n < 36525) : vld (Y n) (M n) (D n) = true ∧ num (Y n) (M n) (D n) = n := by
  have hy : fst (yr n) ≤ n ∧ n < fst (yr n + 1) := by unfold yr fst; omega
  have hyb : 2000 ≤ yr n ∧ yr n ≤ 2099 := by unfold yr; omega
  have hs := fst_succ (yr n)
  have h12 := cum_12 (yr n)
  have key : ∀ j : Nat, n - fst (yr n) < cum (yr n) j → ∃ k : Nat, k < j ∧ cum (yr n) k ≤ n - fst (yr n) ∧ n - fst (yr n) < cum (yr n) (k + 1) := by
    intro j
    induction j with
    | zero => intro hj; simp [cum] at hj; omega
    | succ j ih =>
      intro hj
      by_cases hc : n - fst (yr n) < cum (yr n) j
      · obtain ⟨k, hk, h1, h2⟩ := ih hc
        exact ⟨k, by omega, h1, h2⟩
      · exact ⟨j, by omega, by omega, hj⟩
  obtain ⟨k, hk, h1, h2⟩ := key 12 (by omega)
  have v : vld (yr n) ((k : Int) + 1) (n - fst (yr n) - cum (yr n) k + 1) = true := by
    rw [cum_succ] at h2
    exact vld_iff.2 ⟨hyb.1, hyb.2, by omega, by omega, by omega, by omega⟩
  have e : num (yr n) ((k : Int) + 1) (n - fst (yr n) - cum (yr n) k + 1) = n := by
    unfold num
    rw [show ((k : Int) + 1 - 1).toNat = k by omega]
    omega
  obtain ⟨a, b, c⟩ := date_of v e
  rw [a, b, c]
  exact ⟨v, e⟩

/-! Go's quotient and remainder, which truncate toward zero, in Euclid's. -/
theorem tmod_pos {d n : Int} (h : 0 ≤ d) : d.tmod n = d % n := Int.tmod_eq_emod_of_nonneg h
theorem tdiv_pos {d n : Int} (h : 0 ≤ d) : d.tdiv n = d / n := Int.tdiv_eq_ediv_of_nonneg h
theorem tmod_neg {d n : Int} (h : d < 0) : d.tmod n = -((-d) % n) := by
  have := Int.neg_tmod (-d) n
  rw [Int.neg_neg] at this
  rw [this, tmod_pos (by omega)]
theorem tdiv_neg {d n : Int} (h : d < 0) : d.tdiv n = -((-d) / n) := by
  have := Int.neg_tdiv (-d) n
  rw [Int.neg_neg] at this
  rw [this, tdiv_pos (by omega)]
/-- The weekday of a day. -/
def wd (d : Int) : Int := (d + 5) % 7
theorem wd_bd (d : Int) : 0 ≤ wd d ∧ wd d ≤ 6 := by unfold wd; omega
theorem tmod7_bd (d : Int) : -7 < d.tmod 7 ∧ d.tmod 7 < 7 := by
  by_cases h : 0 ≤ d
  · rw [tmod_pos h]; omega
  · rw [tmod_neg (by omega)]; omega
theorem wd_of (d : Int) : (d.tmod 7 + 12) % 7 = wd d := by
  unfold wd
  by_cases h : 0 ≤ d
  · rw [tmod_pos h]; omega
  · rw [tmod_neg (by omega)]; omega
theorem split_neg {d : Int} (h : d.tmod 1440 < 0) : d.tdiv 1440 - 1 = d / 1440 ∧ d.tmod 1440 + 1440 = d % 1440 := by
  by_cases h0 : 0 ≤ d
  · rw [tmod_pos h0] at h; omega
  · rw [tmod_neg (by omega), tdiv_neg (by omega)]; rw [tmod_neg (by omega)] at h; omega
theorem split_pos {d : Int} (h : 0 ≤ d.tmod 1440) : d.tdiv 1440 = d / 1440 ∧ d.tmod 1440 = d % 1440 := by
  by_cases h0 : 0 ≤ d
  · rw [tmod_pos h0, tdiv_pos h0]; omega
  · rw [tmod_neg (by omega), tdiv_neg (by omega)]; rw [tmod_neg (by omega)] at h; omega
theorem split_bd (d : Int) : -1440 < d.tmod 1440 ∧ d.tmod 1440 < 1440 := by
  by_cases h0 : 0 ≤ d
  · rw [tmod_pos h0]; omega
  · rw [tmod_neg (by omega)]; omega
theorem tdiv_bd {d : Int} (h0 : -9223372036854775808 ≤ d) (h1 : d ≤ 9223372036854775807) : -6405119470038040 ≤ d.tdiv 1440 ∧ d.tdiv 1440 ≤ 6405119470038040 := by
  by_cases h : 0 ≤ d
  · rw [tdiv_pos h]; omega
  · rw [tdiv_neg (by omega)]; omega
end Go.Proofs.YtfmdnmkojeolkaaDoor.Cal
