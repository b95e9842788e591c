/- The plain mathematics of the calendar: months numbered from January 1900, their first days, the month of a day. No program in sight. -/
namespace Cal

def leap (y : Int) : Bool := y.tmod 4 == 0 && (y.tmod 100 != 0 || y.tmod 400 == 0)

def tab (m : Int) : Int := if m = 2 then 28 else if m = 4 ∨ m = 6 ∨ m = 9 ∨ m = 11 then 30 else 31

def lenI (y m : Int) : Int := if m < 1 ∨ 12 < m then 0 else if m = 2 ∧ leap y = true then 29 else tab m

def lps (y : Int) : Int := y / 4 - y / 100 + y / 400

def cum (y : Int) : Nat → Int
  | 0 => 0
  | k + 1 => cum y k + lenI y (k + 1)

def yr (n : Nat) : Int := 1900 + (n / 12 : Nat)
def mn (n : Nat) : Int := (n % 12 : Nat) + 1

def st (n : Nat) : Int := 365 * (n / 12 : Nat) + lps (yr n - 1) - lps 1899 + cum (yr n) (n % 12)

theorem leap_emod (y : Int) (h : 0 ≤ y) : leap y = (y % 4 == 0 && (y % 100 != 0 || y % 400 == 0)) := by
  unfold leap
  rw [Int.tmod_eq_emod_of_nonneg h, Int.tmod_eq_emod_of_nonneg h, Int.tmod_eq_emod_of_nonneg h]

theorem leap_iff (y : Int) (h : 0 ≤ y) : leap y = true ↔ (y % 4 = 0 ∧ (y % 100 ≠ 0 ∨ y % 400 = 0)) := by
  rw [leap_emod y h]; simp

theorem lps_succ (y : Int) (h : 0 ≤ y) : lps y = lps (y - 1) + if leap y = true then 1 else 0 := by
  have := leap_iff y h
  unfold lps
  by_cases hl : leap y = true
  · rw [if_pos hl]; rw [this] at hl; omega
  · rw [if_neg hl]; rw [this] at hl; omega

theorem len_lo (y m : Int) (h1 : 1 ≤ m) (h2 : m ≤ 12) : 28 ≤ lenI y m ∧ lenI y m ≤ 31 := by
  unfold lenI tab
  rw [if_neg (by omega)]
  split
  · omega
  · split
    · omega
    · split <;> omega

theorem len_out (y m : Int) (h : m < 1 ∨ 12 < m) : lenI y m = 0 := by
  unfold lenI; rw [if_pos h]

theorem len_le (y m : Int) : 0 ≤ lenI y m ∧ lenI y m ≤ 31 := by
  by_cases h : m < 1 ∨ 12 < m
  · rw [len_out y m h]; omega
  · have := len_lo y m (by omega) (by omega); omega

theorem cum_le (y : Int) (k : Nat) : 0 ≤ cum y k ∧ cum y k ≤ 31 * k := by
  induction k with
  | zero => simp [cum]
  | succ k ih => have := len_le y (k + 1); simp only [cum]; omega

theorem cum_year (y : Int) : cum y 12 = 365 + if leap y = true then 1 else 0 := by
  simp only [cum]
  by_cases h : leap y = true <;> simp [lenI, tab, h]

theorem yr_next (n : Nat) (h : n % 12 = 11) : yr (n + 1) = yr n + 1 := by
  unfold yr; omega
theorem yr_same (n : Nat) (h : n % 12 ≠ 11) : yr (n + 1) = yr n := by
  unfold yr; omega
theorem yr_pos (n : Nat) : 1900 ≤ yr n := by unfold yr; omega
theorem mn_bd (n : Nat) : 1 ≤ mn n ∧ mn n ≤ 12 := by unfold mn; omega

theorem st_succ (n : Nat) : st (n + 1) = st n + lenI (yr n) (mn n) := by
  by_cases h : n % 12 = 11
  · have e1 : (n + 1) % 12 = 0 := by omega
    have e2 : (n + 1) / 12 = n / 12 + 1 := by omega
    have e3 := cum_year (yr n)
    have e4 : cum (yr n) 12 = cum (yr n) 11 + lenI (yr n) (mn n) := by
      show cum (yr n) 11 + lenI (yr n) ((11 : Nat) + 1) = _
      unfold mn; rw [h]
    have e5 := lps_succ (yr n) (by have := yr_pos n; omega)
    unfold st
    rw [e1, e2, yr_next n h, h]
    have e6 : yr n + 1 - 1 = yr n := by omega
    rw [e6, e5]
    simp only [show cum (yr n + 1) 0 = 0 from rfl]
    omega
  · have e1 : (n + 1) % 12 = n % 12 + 1 := by omega
    have e2 : (n + 1) / 12 = n / 12 := by omega
    unfold st
    rw [e1, e2, yr_same n h]
    show _ - _ + (cum (yr n) (n % 12) + lenI (yr n) ((n % 12 : Nat) + 1)) = _
    unfold mn
    omega

theorem st_zero : st 0 = 0 := by decide
theorem st_2153 : st 2153 = 65530 := by decide +kernel
theorem st_2154 : st 2154 = 65560 := by decide +kernel

theorem st_step (n : Nat) : st n + 28 ≤ st (n + 1) ∧ st (n + 1) ≤ st n + 31 := by
  have := len_lo (yr n) (mn n) (mn_bd n).1 (mn_bd n).2
  rw [st_succ]; omega

theorem st_add (n k : Nat) : st n + 28 * k ≤ st (n + k) ∧ st (n + k) ≤ st n + 31 * k := by
  induction k with
  | zero => simp
  | succ k ih => have := st_step (n + k); rw [show n + (k + 1) = n + k + 1 from rfl]; omega

theorem st_le {n m : Nat} (h : n ≤ m) : st n ≤ st m := by
  obtain ⟨k, rfl⟩ := Nat.exists_eq_add_of_le h
  have := st_add n k; omega

theorem st_lt {n m : Nat} (h : n < m) : st n + 28 ≤ st m := by
  have h1 := st_le (show n + 1 ≤ m from h)
  have := st_step n; omega

theorem st_nonneg (n : Nat) : 0 ≤ st n := by
  have := st_le (Nat.zero_le n); rw [st_zero] at this; exact this

theorem st_inv {n m : Nat} {d : Int} (h1 : st n ≤ d) (h2 : d < st m) : n < m := by
  rcases Nat.lt_or_ge n m with h | h
  · exact h
  · have := st_le h; omega

theorem st_uniq {n m : Nat} {d : Int} (h1 : st n ≤ d) (h2 : d < st (n + 1)) (h3 : st m ≤ d) (h4 : d < st (m + 1)) : n = m := by
  have := st_inv h1 h4; have := st_inv h3 h2; omega

theorem st_ex (N : Nat) (d : Int) (h0 : 0 ≤ d) (h : d < st N) : ∃ n, n < N ∧ st n ≤ d ∧ d < st (n + 1) := by
  induction N with
  | zero => rw [st_zero] at h; omega
  | succ N ih =>
    by_cases h1 : d < st N
    · obtain ⟨n, a, b⟩ := ih h1; exact ⟨n, by omega, b⟩
    · exact ⟨N, by omega, by omega, h⟩

/-- The month of a day. -/
noncomputable def mo (d : Int) : Nat := Classical.epsilon fun n : Nat => st n ≤ d ∧ d < st (n + 1)

theorem mo_is (d : Int) (h0 : 0 ≤ d) (N : Nat) (h : d < st N) : st (mo d) ≤ d ∧ d < st (mo d + 1) := by
  obtain ⟨n, _, b⟩ := st_ex N d h0 h
  exact Classical.epsilon_spec (p := fun n : Nat => st n ≤ d ∧ d < st (n + 1)) ⟨n, b⟩

theorem mo_spec (d : Int) (h0 : 0 ≤ d) (h : d < 65536) : st (mo d) ≤ d ∧ d < st (mo d + 1) ∧ mo d ≤ 2153 := by
  have h1 := mo_is d h0 2154 (by rw [st_2154]; omega)
  have := st_inv h1.1 (show d < st 2154 by rw [st_2154]; omega)
  exact ⟨h1.1, h1.2, by omega⟩

theorem mo_eq {d : Int} {n : Nat} (h1 : st n ≤ d) (h2 : d < st (n + 1)) : mo d = n := by
  have h0 : 0 ≤ d := by have := st_nonneg n; omega
  have h3 := mo_is d h0 (n + 1) h2
  exact st_uniq h3.1 h3.2 h1 h2

end Cal
