/- What the calendar's functions answer, as plain functions. -/
import Derived.Test.YthleaigkndfdaaaDoorCalPlain
namespace Cal

def IsD (d : Int) : Prop := 0 ≤ d ∧ d < 65536
instance (d : Int) : Decidable (IsD d) := inferInstanceAs (Decidable (_ ∧ _))

noncomputable def yv (d : Int) : Int := if IsD d then yr (mo d) else 0
noncomputable def mv (d : Int) : Int := if IsD d then mn (mo d) else 0
noncomputable def dv (d : Int) : Int := if IsD d then d - st (mo d) + 1 else 0
def ev (d : Int) : Int := if IsD d then 0 else 2
noncomputable def nv (d : Int) : Int := if IsD d then (mo d : Int) else 0
def wv (d : Int) : Int := if IsD d then d % 7 + 1 else 0

def IsM (n : Int) : Prop := 0 ≤ n ∧ n < 2154
instance (d : Int) : Decidable (IsM d) := inferInstanceAs (Decidable (_ ∧ _))
def fv (n : Int) : Int := if IsM n then st n.toNat else 0
def fe (n : Int) : Int := if IsM n then 0 else 2

/-- The month with a year's and a month's number. -/
def mnum (y m : Int) : Nat := (12 * (y - 1900) + m - 1).toNat
def DayOk (y m d : Int) : Prop := 1900 ≤ y ∧ y ≤ 2079 ∧ 1 ≤ m ∧ m ≤ 12 ∧ 1 ≤ d ∧ d ≤ lenI y m ∧ st (mnum y m) + d - 1 < 65536
instance (y m d : Int) : Decidable (DayOk y m d) := inferInstanceAs (Decidable (_ ∧ _))
def dayv (y m d : Int) : Int := if DayOk y m d then st (mnum y m) + d - 1 else 0
def daye (y m d : Int) : Int := if DayOk y m d then 0 else 2

/-- The day of the month number k that has the place of a, or the last one. -/
noncomputable def into (a : Int) (k : Nat) : Int := st k + min (a - st (mo a)) (lenI (yr k) (mn k) - 1)
def AddOk (a n : Int) : Prop := 0 ≤ (mo a : Int) + n ∧ (mo a : Int) + n < 2154 ∧ into a ((mo a : Int) + n).toNat < 65536
noncomputable instance (a n : Int) : Decidable (AddOk a n) := inferInstanceAs (Decidable (_ ∧ _))
noncomputable def addv (a n : Int) : Int := if IsD a ∧ AddOk a n then into a ((mo a : Int) + n).toNat else 0
noncomputable def adde (a n : Int) : Int := if IsD a then (if AddOk a n then 0 else 30) else 2

/-- The whole months from a to b, where a is not later. -/
noncomputable def months (a b : Int) : Int := (mo b : Int) - mo a - if into a (mo b) ≤ b then 0 else 1
noncomputable def betv (a b : Int) : Int := if IsD a ∧ IsD b then (if b < a then -months b a else months a b) else 0
def bete (a b : Int) : Int := if IsD a ∧ IsD b then 0 else 2
noncomputable def agev (a b : Int) : Int := if IsD a ∧ IsD b ∧ a ≤ b then months a b / 12 else 0
def agee (a b : Int) : Int := if IsD a ∧ IsD b ∧ a ≤ b then 0 else 2

theorem len_month (n : Nat) : st (n + 1) - st n = lenI (yr n) (mn n) := by rw [st_succ]; omega

theorem mo_mono {a b : Int} (ha : IsD a) (hb : IsD b) (h : a ≤ b) : mo a ≤ mo b := by
  have h1 := mo_spec a ha.1 ha.2
  have h2 := mo_spec b hb.1 hb.2
  have := st_inv (show st (mo a) ≤ b by omega) h2.2.1
  omega

theorem into_bd {a : Int} (ha : IsD a) (k : Nat) : st k ≤ into a k ∧ into a k < st (k + 1) := by
  have h1 := mo_spec a ha.1 ha.2
  have h2 := len_month k
  have h3 := len_lo (yr k) (mn k) (mn_bd k).1 (mn_bd k).2
  unfold into
  omega

theorem into_self {a : Int} (ha : IsD a) : into a (mo a) = a := by
  have h1 := mo_spec a ha.1 ha.2
  have h2 := len_month (mo a)
  unfold into
  omega

theorem mo_into {a : Int} (ha : IsD a) (k : Nat) : mo (into a k) = k := mo_eq (into_bd ha k).1 (into_bd ha k).2

theorem months_bd {a b : Int} (ha : IsD a) (hb : IsD b) (h : a ≤ b) : 0 ≤ months a b ∧ months a b ≤ 2153 := by
  have h1 := mo_mono ha hb h
  have h2 := mo_spec b hb.1 hb.2
  unfold months
  by_cases e : mo b = mo a
  · rw [e, into_self ha, if_pos h]; omega
  · split <;> omega

theorem into_nonneg {a : Int} (ha : IsD a) (k : Nat) : 0 ≤ into a k := by
  have := into_bd ha k; have := st_nonneg k; omega

theorem mnum_eq (y m : Int) (h1 : 1900 ≤ y) (h2 : 1 ≤ m) (h3 : m ≤ 12) : yr (mnum y m) = y ∧ mn (mnum y m) = m := by
  unfold yr mn mnum; omega

theorem mnum_of (n : Nat) : mnum (yr n) (mn n) = n := by
  unfold yr mn mnum; omega

theorem yv_bd (d : Int) (h : IsD d) : 1900 ≤ yv d ∧ yv d ≤ 2079 ∧ 1 ≤ mv d ∧ mv d ≤ 12 ∧ 1 ≤ dv d ∧ dv d ≤ 31 := by
  have h1 := mo_spec d h.1 h.2
  have h2 := st_step (mo d)
  unfold yv mv dv
  rw [if_pos h, if_pos h, if_pos h]
  unfold yr mn
  omega

theorem mo_of_ym (d : Int) (h : IsD d) : 12 * (yv d - 1900) + mv d - 1 = (mo d : Int) := by
  unfold yv mv
  rw [if_pos h, if_pos h]
  unfold yr mn
  omega

theorem months_of {a b : Int} (ha : IsD a) (hb : IsD b) (n : Nat) (h1 : into a (mo a + n) ≤ b) (h2 : b < into a (mo a + n + 1)) : months a b = n := by
  have b1 := into_bd ha (mo a + n)
  have b2 := into_bd ha (mo a + n + 1)
  have hs := mo_spec b hb.1 hb.2
  have c1 := st_inv (show st (mo a + n) ≤ b by omega) hs.2.1
  have c2 := st_inv hs.1 (show b < st (mo a + n + 1 + 1) by omega)
  unfold months
  rcases (show mo b = mo a + n ∨ mo b = mo a + n + 1 by omega) with e | e
  · rw [e, if_pos h1]; omega
  · rw [e, if_neg (by omega)]; omega

theorem day_into {a : Int} (ha : IsD a) (k : Nat) (hk : k ≤ 5000) (d' : Int) (hd : d' = min (dv a) (lenI (1900 + (k : Int) / 12) ((k : Int) % 12 + 1))) :
    (k < 2154 → into a k < 65536 → dayv (1900 + (k : Int) / 12) ((k : Int) % 12 + 1) d' = into a k ∧ daye (1900 + (k : Int) / 12) ((k : Int) % 12 + 1) d' = 0) ∧
    ((2154 ≤ k ∨ 65536 ≤ into a k) → dayv (1900 + (k : Int) / 12) ((k : Int) % 12 + 1) d' = 0 ∧ daye (1900 + (k : Int) / 12) ((k : Int) % 12 + 1) d' = 2) := by
  have hn : mnum (1900 + (k : Int) / 12) ((k : Int) % 12 + 1) = k := by unfold mnum; omega
  have hy : yr k = 1900 + (k : Int) / 12 ∧ mn k = (k : Int) % 12 + 1 := by unfold yr mn; omega
  have hl := len_lo (1900 + (k : Int) / 12) ((k : Int) % 12 + 1) (by omega) (by omega)
  have hb := yv_bd a ha
  have hv : st k + d' - 1 = into a k := by
    unfold into; rw [hy.1, hy.2, hd]; unfold dv; rw [if_pos ha]; omega
  have hd1 : 1 ≤ d' ∧ d' ≤ lenI (1900 + (k : Int) / 12) ((k : Int) % 12 + 1) := by omega
  constructor
  · intro h1 h2
    have hok : DayOk (1900 + (k : Int) / 12) ((k : Int) % 12 + 1) d' := ⟨by omega, by omega, by omega, by omega, hd1.1, hd1.2, by rw [hn, hv]; exact h2⟩
    unfold dayv daye
    rw [if_pos hok, if_pos hok, hn, hv]
    exact ⟨rfl, rfl⟩
  · intro h
    have hok : ¬ DayOk (1900 + (k : Int) / 12) ((k : Int) % 12 + 1) d' := fun x => by
      have x7 := x.2.2.2.2.2.2
      rw [hn, hv] at x7
      rcases h with h | h
      · have := st_le h
        rw [st_2154] at this
        have := into_bd ha k
        omega
      · omega
    unfold dayv daye
    rw [if_neg hok, if_neg hok]
    exact ⟨rfl, rfl⟩

end Cal
