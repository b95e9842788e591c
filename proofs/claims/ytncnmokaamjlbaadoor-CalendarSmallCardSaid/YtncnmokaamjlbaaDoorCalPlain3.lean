/- Plain laws of the calendar: the next day, ages, months between, leap years. -/
import Derived.Test.YtncnmokaamjlbaaDoorCalPlain2
namespace Cal

theorem isD_val {d : Int} (h : IsD d) : yv d = yr (mo d) ∧ mv d = mn (mo d) ∧ dv d = d - st (mo d) + 1 ∧ ev d = 0 ∧ nv d = (mo d : Int) ∧ wv d = d % 7 + 1 := by
  unfold yv mv dv ev nv wv
  simp only [if_pos h, and_self]

theorem notD_val {d : Int} (h : ¬ IsD d) : yv d = 0 ∧ mv d = 0 ∧ dv d = 0 ∧ ev d = 2 ∧ nv d = 0 ∧ wv d = 0 := by
  unfold yv mv dv ev nv wv
  simp only [if_neg h, and_self]

theorem day_back {d : Int} (h : IsD d) : dayv (yv d) (mv d) (dv d) = d ∧ daye (yv d) (mv d) (dv d) = 0 ∧ dv d ≤ lenI (yv d) (mv d) := by
  obtain ⟨h1, h2, h3⟩ := mo_spec d h.1 h.2
  obtain ⟨e1, e2, e3, _⟩ := isD_val h
  have hb := yv_bd d h
  have hl := len_month (mo d)
  have hn : mnum (yv d) (mv d) = mo d := by rw [e1, e2]; exact mnum_of _
  have hle : dv d ≤ lenI (yv d) (mv d) := by rw [e1, e2, e3]; omega
  have hv : st (mnum (yv d) (mv d)) + dv d - 1 = d := by rw [hn, e3]; omega
  have hok : DayOk (yv d) (mv d) (dv d) := ⟨by omega, by omega, by omega, by omega, by omega, hle, by rw [hv]; exact h.2⟩
  unfold dayv daye
  rw [if_pos hok, if_pos hok, hv]
  exact ⟨rfl, rfl, hle⟩

theorem first_back {d : Int} (h : IsD d) : fv (nv d) = d - dv d + 1 ∧ fe (nv d) = 0 := by
  obtain ⟨h1, h2, h3⟩ := mo_spec d h.1 h.2
  obtain ⟨_, _, e3, _, e5, _⟩ := isD_val h
  have hm : IsM (nv d) := by rw [e5]; exact ⟨by omega, by omega⟩
  unfold fv fe
  rw [if_pos hm, if_pos hm, e5, e3, Int.toNat_natCast]
  exact ⟨by omega, rfl⟩

theorem zero_vals : yv 0 = 1900 ∧ mv 0 = 1 ∧ dv 0 = 1 ∧ wv 0 = 1 ∧ nv 0 = 0 := by
  have h0 : IsD 0 := by decide
  have hm : mo 0 = 0 := mo_eq (by decide) (by decide)
  obtain ⟨e1, e2, e3, _, e5, e6⟩ := isD_val h0
  rw [e1, e2, e3, e5, e6, hm]
  decide

theorem prev_day {d : Int} (h : IsD d) (h0 : 0 < d) (h1 : 1 < dv d) : yv (d - 1) = yv d ∧ mv (d - 1) = mv d ∧ dv (d - 1) = dv d - 1 ∧ nv (d - 1) = nv d := by
  have h' : IsD (d - 1) := ⟨by omega, by have := h.2; omega⟩
  obtain ⟨s1, s2, s3⟩ := mo_spec d h.1 h.2
  obtain ⟨e1, e2, e3, _, e5, _⟩ := isD_val h
  obtain ⟨f1, f2, f3, _, f5, _⟩ := isD_val h'
  rw [e3] at h1
  have hm : mo (d - 1) = mo d := mo_eq (by omega) (by omega)
  rw [f1, f2, f3, f5, hm, e1, e2, e3, e5]
  exact ⟨rfl, rfl, by omega, rfl⟩

theorem prev_month {d : Int} (h : IsD d) (h0 : 0 < d) (h1 : dv d ≤ 1) : ∃ n : Nat, mo d = n + 1 ∧ mo (d - 1) = n ∧ dv (d - 1) = lenI (yr n) (mn n) := by
  have h' : IsD (d - 1) := ⟨by omega, by have := h.2; omega⟩
  obtain ⟨s1, s2, s3⟩ := mo_spec d h.1 h.2
  obtain ⟨e1, e2, e3, _, e5, _⟩ := isD_val h
  obtain ⟨f1, f2, f3, _, f5, _⟩ := isD_val h'
  rw [e3] at h1
  have hne : mo d ≠ 0 := fun e => by rw [e, st_zero] at s1 h1; omega
  obtain ⟨n, hn⟩ : ∃ n, mo d = n + 1 := ⟨mo d - 1, by omega⟩
  have hs := st_step n
  rw [hn] at s1 h1
  have hm : mo (d - 1) = n := mo_eq (by omega) (by omega)
  refine ⟨n, hn, hm, ?_⟩
  rw [f3, hm, ← len_month]
  omega

theorem prev_m {d : Int} (h : IsD d) (h0 : 0 < d) (h1 : dv d ≤ 1) (h2 : 1 < mv d) : yv (d - 1) = yv d ∧ mv (d - 1) = mv d - 1 ∧ dv (d - 1) = lenI (yv d) (mv d - 1) ∧ nv (d - 1) = nv d - 1 := by
  have h' : IsD (d - 1) := ⟨by omega, by have := h.2; omega⟩
  obtain ⟨n, a, b, c⟩ := prev_month h h0 h1
  obtain ⟨e1, e2, e3, _, e5, _⟩ := isD_val h
  obtain ⟨f1, f2, f3, _, f5, _⟩ := isD_val h'
  rw [e2, a] at h2
  have hy : yr (n + 1) = yr n ∧ mn (n + 1) - 1 = mn n := by unfold yr mn at *; omega
  rw [c, f1, f2, f5, e1, e2, e5, a, b, hy.1, hy.2]
  exact ⟨rfl, rfl, rfl, by omega⟩

theorem prev_y {d : Int} (h : IsD d) (h0 : 0 < d) (h1 : dv d ≤ 1) (h2 : mv d ≤ 1) : yv (d - 1) = yv d - 1 ∧ mv (d - 1) = 12 ∧ dv (d - 1) = 31 ∧ nv (d - 1) = nv d - 1 := by
  have h' : IsD (d - 1) := ⟨by omega, by have := h.2; omega⟩
  obtain ⟨n, a, b, c⟩ := prev_month h h0 h1
  obtain ⟨e1, e2, e3, _, e5, _⟩ := isD_val h
  obtain ⟨f1, f2, f3, _, f5, _⟩ := isD_val h'
  rw [e2, a] at h2
  have hy : yr (n + 1) - 1 = yr n ∧ mn n = 12 := by unfold yr mn at *; omega
  rw [c, f1, f2, f5, e1, e5, a, b, hy.1, hy.2]
  exact ⟨rfl, rfl, rfl, by omega⟩

theorem week_next (d : Int) (h : IsD d) (h0 : 0 < d) : wv d = wv (d - 1) % 7 + 1 := by
  have h' : IsD (d - 1) := ⟨by omega, by have := h.2; omega⟩
  obtain ⟨_, _, _, _, _, e6⟩ := isD_val h
  obtain ⟨_, _, _, _, _, f6⟩ := isD_val h'
  rw [e6, f6]; omega

theorem leap_all (y : Int) : leap y = true ↔ (y % 4 = 0 ∧ (y % 100 ≠ 0 ∨ y % 400 = 0)) := by
  have h : ∀ k : Int, y.tmod k = 0 ↔ y % k = 0 := fun k => by
    rw [← Int.dvd_iff_tmod_eq_zero, Int.dvd_iff_emod_eq_zero]
  unfold leap
  simp [h]

theorem lps_succ_all (y : Int) : lps (y + 1) = lps y + if leap (y + 1) = true then 1 else 0 := by
  have := leap_all (y + 1)
  unfold lps
  by_cases hl : leap (y + 1) = true
  · rw [if_pos hl]; rw [this] at hl; omega
  · rw [if_neg hl]; rw [this] at hl; omega

theorem lps_400 (y : Int) : lps (y + 400) = lps y + 97 := by unfold lps; omega
theorem leap_400 (y : Int) : leap (y + 400) = leap y := by
  have h1 := leap_all (y + 400)
  have h2 := leap_all y
  have : leap (y + 400) = true ↔ leap y = true := by rw [h1, h2]; omega
  exact Bool.eq_iff_iff.2 this

theorem months_spec {a b : Int} (ha : IsD a) (hb : IsD b) (h : a ≤ b) : ∃ k : Nat, months a b = k ∧ mo a + k ≤ 2153 ∧ into a (mo a + k) ≤ b ∧ b < into a (mo a + k + 1) ∧ a ≤ into a (mo a + k) := by
  have hm := mo_mono ha hb h
  have hs := mo_spec b hb.1 hb.2
  have hs' := mo_spec a ha.1 ha.2
  have hge : ∀ k, a ≤ into a (mo a + k) := fun k => by
    rcases Nat.eq_zero_or_pos k with e | e
    · subst e; rw [Nat.add_zero, into_self ha]; omega
    · have h1 := into_bd ha (mo a + k)
      have h2 := st_le (show mo a + 1 ≤ mo a + k by omega)
      omega
  by_cases c : into a (mo b) ≤ b
  · refine ⟨mo b - mo a, ?_, by omega, ?_, ?_, hge _⟩
    · unfold months; rw [if_pos c]; omega
    · rw [show mo a + (mo b - mo a) = mo b by omega]; exact c
    · rw [show mo a + (mo b - mo a) = mo b by omega]; have := into_bd ha (mo b + 1); omega
  · have hne : mo a ≠ mo b := fun e => by rw [← e, into_self ha] at c; omega
    have hb1 := into_bd ha (mo a + (mo b - mo a - 1))
    rw [show mo a + (mo b - mo a - 1) + 1 = mo b by omega] at hb1
    refine ⟨mo b - mo a - 1, ?_, by omega, by omega, ?_, hge _⟩
    · unfold months; rw [if_neg c]; omega
    · rw [show mo a + (mo b - mo a - 1) + 1 = mo b by omega]; omega

theorem addE {a n : Int} (ha : IsD a) (k : Nat) (hk : (mo a : Int) + n = k) (h : into a k < 65536) (h1 : k ≤ 2153) : addv a n = into a k ∧ adde a n = 0 := by
  have hok : AddOk a n := ⟨by omega, by omega, by rw [hk, Int.toNat_natCast]; exact h⟩
  unfold addv adde
  rw [if_pos ⟨ha, hok⟩, if_pos ha, if_pos hok, hk, Int.toNat_natCast]
  exact ⟨rfl, rfl⟩

theorem add_cases {a : Int} (ha : IsD a) (n : Int) : (addv a n = 0 ∧ adde a n = 30 ∧ ¬ AddOk a n) ∨ (∃ k : Nat, (mo a : Int) + n = k ∧ k ≤ 2153 ∧ into a k < 65536 ∧ addv a n = into a k ∧ adde a n = 0) := by
  by_cases h : AddOk a n
  · obtain ⟨k, hk⟩ : ∃ k : Nat, (mo a : Int) + n = k := Int.eq_ofNat_of_zero_le h.1
    have h3 := h.2.2
    rw [hk, Int.toNat_natCast] at h3
    have := addE ha k hk h3 (by have := h.2.1; omega)
    exact .inr ⟨k, hk, by have := h.2.1; omega, h3, this.1, this.2⟩
  · refine .inl ⟨?_, ?_, h⟩
    · unfold addv; rw [if_neg (fun x => h x.2)]
    · unfold adde; rw [if_pos ha, if_neg h]

theorem add_ends {a n : Int} (ha : IsD a) (h : ¬ AddOk a n) : n < -(mo a : Int) ∨ 2153 - (mo a : Int) < n ∨ (n = 2153 - (mo a : Int) ∧ 6 < dv a) := by
  by_cases c1 : (mo a : Int) + n < 0
  · left; omega
  by_cases c2 : 2153 < (mo a : Int) + n
  · right; left; omega
  obtain ⟨k, hk⟩ : ∃ k : Nat, (mo a : Int) + n = k := Int.eq_ofNat_of_zero_le (by omega)
  have h3 : 65536 ≤ into a k := Int.not_lt.mp fun x => h ⟨by omega, by omega, by rw [hk, Int.toNat_natCast]; exact x⟩
  have h4 := into_bd ha k
  have hk2 : k = 2153 := by
    rcases Nat.lt_or_ge k 2153 with x | x
    · have := st_le (show k + 1 ≤ 2153 from x); rw [st_2153] at this; omega
    · omega
  subst hk2
  right; right
  refine ⟨by omega, ?_⟩
  obtain ⟨_, _, e3, _⟩ := isD_val ha
  rw [e3]
  unfold into at h3
  rw [st_2153] at h3
  omega

theorem into_mono {a b : Int} (ha : IsD a) (hb : IsD b) (h : a ≤ b) (n : Int) (k l : Nat) (hk : (mo a : Int) + n = k) (hl : (mo b : Int) + n = l) : into a k ≤ into b l := by
  have hm := mo_mono ha hb h
  by_cases e : mo a = mo b
  · have : k = l := by omega
    subst this
    unfold into
    rw [e]; omega
  · have h1 := into_bd ha k
    have h2 := into_bd hb l
    have h3 := st_le (show k + 1 ≤ l by omega)
    omega

theorem last_vals : nv 65535 = 2153 ∧ dv 65535 = 6 ∧ ev 65535 = 0 := by
  have h0 : IsD 65535 := by decide
  have hm : mo 65535 = 2153 := mo_eq (by decide +kernel) (by decide +kernel)
  obtain ⟨e1, e2, e3, e4, e5, e6⟩ := isD_val h0
  rw [e3, e4, e5, hm]
  decide +kernel

theorem into_isD {a : Int} (ha : IsD a) (k : Nat) (h : into a k < 65536) : IsD (into a k) := ⟨into_nonneg ha k, h⟩

theorem into_vals {a : Int} (ha : IsD a) (k : Nat) (h : into a k < 65536) : nv (into a k) = k ∧ dv (into a k) = min (dv a) (lenI (yv (into a k)) (mv (into a k))) ∧ ev (into a k) = 0 := by
  have hI := into_isD ha k h
  obtain ⟨e1, e2, e3, e4, e5, e6⟩ := isD_val hI
  obtain ⟨_, _, f3, _⟩ := isD_val ha
  refine ⟨?_, ?_, e4⟩
  · rw [e5, mo_into ha]
  · rw [e3, e1, e2, mo_into ha, f3]
    unfold into
    omega

theorem bet_vals {a b : Int} (ha : IsD a) (hb : IsD b) (h : a ≤ b) : betv a b = months a b ∧ bete a b = 0 ∧ betv b a = -months a b ∧ bete b a = 0 ∧ agev a b = months a b / 12 ∧ agee a b = 0 := by
  refine ⟨?_, ?_, ?_, ?_, ?_, ?_⟩
  · unfold betv; rw [if_pos ⟨ha, hb⟩, if_neg (by omega)]
  · unfold bete; rw [if_pos ⟨ha, hb⟩]
  · unfold betv; rw [if_pos ⟨hb, ha⟩]
    by_cases e : a < b
    · rw [if_pos e]
    · obtain rfl : a = b := by omega
      rw [if_neg e]
      have : months a a = 0 := by unfold months; rw [into_self ha, if_pos (by omega)]; omega
      rw [this]; rfl
  · unfold bete; rw [if_pos ⟨hb, ha⟩]
  · unfold agev; rw [if_pos ⟨ha, hb, h⟩]
  · unfold agee; rw [if_pos ⟨ha, hb, h⟩]

end Cal
