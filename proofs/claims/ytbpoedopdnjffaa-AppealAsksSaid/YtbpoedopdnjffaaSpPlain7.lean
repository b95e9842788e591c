/- Plain: numbers of days, counts. -/
import Derived.Test.YtbpoedopdnjffaaSpPlain6
namespace Sp

theorem bef_low {l : Sps} {p d : Int} (h : validFrom p l = true) (hd : d ≤ p + 1) : bef l d = 0 := by
  induction l generalizing p with
  | nil => rfl
  | cons s l ih =>
    rw [validFrom_cons] at h
    rw [bef, if_neg (by omega), ih h.2.2.2 (by omega)]; rfl

theorem bef_high {l : Sps} {p d : Int} (h : validFrom p l = true) (hd : 65536 ≤ d) : bef l d = bef l 65536 := by
  induction l generalizing p with
  | nil => rfl
  | cons s l ih =>
    rw [validFrom_cons] at h
    rw [bef, bef, if_pos (by omega), if_pos (by omega), ih h.2.2.2]; omega

theorem nth_spec {l : Sps} : ∀ {p n d : Int}, validFrom p l = true → 0 ≤ n → nth l n = some d → mem l d = true ∧ bef l d = n := by
  induction l with
  | nil => intro p n d _ _ h; cases h
  | cons s l ih =>
    intro p n d hv hn h
    rw [validFrom_cons] at hv
    rw [nth] at h
    split at h
    · cases h
      refine ⟨by rw [mem_cons_iff]; left; omega, ?_⟩
      rw [bef, bef_low hv.2.2.2 (by omega)]
      split <;> omega
    · obtain ⟨h1, h2⟩ := ih hv.2.2.2 (by omega) h
      have h3 := mem_bd hv.2.2.2 _ h1
      refine ⟨by rw [mem_cons_iff]; right; exact h1, ?_⟩
      rw [bef, h2, if_pos (by omega)]; omega

theorem nth_lt {s : Int × Int} {l : Sps} {n : Int} (h : n < s.2 - s.1) : nth (s :: l) n = some (s.1 + n) := by rw [nth, if_pos h]
theorem nth_not {s : Int × Int} {l : Sps} {n : Int} (h : ¬ n < s.2 - s.1) : nth (s :: l) n = nth l (n - (s.2 - s.1)) := by rw [nth, if_neg h]
theorem bef_far {s : Int × Int} {l : Sps} {d : Int} (h : s.2 ≤ d) (h1 : s.1 < s.2) : bef (s :: l) d = s.2 - s.1 + bef l d := by
  rw [bef, if_pos (by omega)]; omega
theorem bef_near {s : Int × Int} {l : Sps} {d : Int} (hv : validFrom s.2 l = true) (h : d ≤ s.2) (h1 : s.1 ≤ d) : bef (s :: l) d = d - s.1 := by
  rw [bef, bef_low hv (by omega)]; split <;> omega
theorem bef_ahead {s : Int × Int} {l : Sps} {d : Int} (hv : validFrom s.2 l = true) (h : d ≤ s.1) (h1 : s.1 < s.2) : bef (s :: l) d = 0 := by
  rw [bef, bef_low hv (by omega), if_neg (by omega)]; rfl

theorem nth_some {l : Sps} : ∀ {p n : Int}, validFrom p l = true → 0 ≤ n → (nth l n).isSome = decide (n < bef l 65536) := by
  induction l with
  | nil => intro p n _ h; rw [nth, bef, Option.isSome_none]; symm; rw [decide_eq_false_iff_not]; omega
  | cons s l ih =>
    intro p n hv hn
    rw [validFrom_cons] at hv
    have h0 := (bef_bd hv.2.2.2 65536).1
    rw [bef_far hv.2.2.1 hv.2.1]
    by_cases c : n < s.2 - s.1
    · rw [nth_lt c, Option.isSome_some]; symm; rw [decide_eq_true_eq]; omega
    · rw [nth_not c, ih hv.2.2.2 (by omega)]
      rw [decide_eq_decide]; omega

theorem nth_bef {l : Sps} : ∀ {p d : Int}, validFrom p l = true → mem l d = true → nth l (bef l d) = some d := by
  induction l with
  | nil => intro p d _ h; cases h
  | cons s l ih =>
    intro p d hv h
    rw [validFrom_cons] at hv
    rw [mem_cons_iff] at h
    have h0 := (bef_bd hv.2.2.2 d).1
    rcases h with h | h
    · rw [bef_near hv.2.2.2 (by omega) h.1, nth_lt (by omega)]
      congr 1; omega
    · have h3 := mem_bd hv.2.2.2 _ h
      rw [bef_far (by omega) hv.2.1, nth_not (by omega)]
      have e : s.2 - s.1 + bef l d - (s.2 - s.1) = bef l d := by omega
      rw [e]; exact ih hv.2.2.2 h

theorem nth_ge {l : Sps} : ∀ {p d x : Int}, validFrom p l = true → nth l (bef l d) = some x → d ≤ x := by
  induction l with
  | nil => intro p d x _ h; cases h
  | cons s l ih =>
    intro p d x hv h
    rw [validFrom_cons] at hv
    have h0 := (bef_bd hv.2.2.2 d).1
    by_cases c : d < s.2
    · by_cases c1 : s.1 ≤ d
      · rw [bef_near hv.2.2.2 (by omega) c1, nth_lt (by omega)] at h
        cases h; omega
      · rw [bef_ahead hv.2.2.2 (by omega) hv.2.1, nth_lt (by omega)] at h
        cases h; omega
    · rw [bef_far (by omega) hv.2.1, nth_not (by omega)] at h
      have e : s.2 - s.1 + bef l d - (s.2 - s.1) = bef l d := by omega
      rw [e] at h
      exact ih hv.2.2.2 h

/-! ### Counts -/

/-- How many of the first n days have p. -/
def cnt (p : Int → Bool) : Nat → Int
  | 0 => 0
  | n + 1 => cnt p n + if p n then 1 else 0

theorem part_succ (x y d : Int) (h : x < y) : (if x < d + 1 then min y (d + 1) - x else 0) = (if x < d then min y d - x else 0) + if (decide (x ≤ d) && decide (d < y)) = true then 1 else 0 := by
  simp only [Bool.and_eq_true, decide_eq_true_eq]
  by_cases c1 : x < d
  · by_cases c2 : d < y
    · rw [if_pos (by omega), if_pos c1, if_pos (by omega)]; omega
    · rw [if_pos (by omega), if_pos c1, if_neg (by omega)]; omega
  · by_cases c2 : x = d
    · rw [if_pos (by omega), if_neg c1, if_pos (by omega)]; omega
    · rw [if_neg (by omega), if_neg c1, if_neg (by omega)]; rfl

theorem bef_succ {l : Sps} {p : Int} (h : validFrom p l = true) (d : Int) : bef l (d + 1) = bef l d + if mem l d then 1 else 0 := by
  induction l generalizing p with
  | nil => rfl
  | cons s l ih =>
    rw [validFrom_cons] at h
    have h1 := ih h.2.2.2
    have h2 := mem_bd h.2.2.2 d
    rw [bef, bef, h1, mem_cons, part_succ _ _ _ h.2.1]
    generalize (if s.1 < d then min s.2 d - s.1 else 0) = z
    cases hm : mem l d with
    | true =>
      have := h2 hm
      have hf : (decide (s.1 ≤ d) && decide (d < s.2)) = false := by simp; omega
      rw [hf]; simp; omega
    | false =>
      cases (decide (s.1 ≤ d) && decide (d < s.2)) <;> simp <;> omega

theorem bef_cnt {l : Sps} (h : validB l = true) (n : Nat) : bef l n = cnt (mem l) n := by
  induction n with
  | zero => exact bef_low h (by omega)
  | succ n ih =>
    have := bef_succ h n
    rw [cnt, ← ih, ← this]
    congr 1

theorem bef_all {l : Sps} (h : validB l = true) : bef l 65536 = cnt (mem l) 65536 := bef_cnt h 65536

theorem cnt_or_and (p q : Int → Bool) (n : Nat) : cnt (fun d => p d || q d) n + cnt (fun d => p d && q d) n = cnt p n + cnt q n := by
  induction n with
  | zero => rfl
  | succ n ih => simp only [cnt]; rcases Bool.eq_false_or_eq_true (p n) with hp | hp <;> rcases Bool.eq_false_or_eq_true (q n) with hq | hq <;> simp [hp, hq] <;> omega

theorem cnt_parts (p q : Int → Bool) (n : Nat) : cnt (fun d => p d && !q d) n + cnt (fun d => q d && !p d) n + cnt (fun d => p d && q d) n = cnt (fun d => p d || q d) n := by
  induction n with
  | zero => rfl
  | succ n ih => simp only [cnt]; rcases Bool.eq_false_or_eq_true (p n) with hp | hp <;> rcases Bool.eq_false_or_eq_true (q n) with hq | hq <;> simp [hp, hq] <;> omega

theorem cnt_le {p q : Int → Bool} (h : ∀ d, p d = true → q d = true) (n : Nat) : cnt p n ≤ cnt q n := by
  induction n with
  | zero => exact Int.le_refl _
  | succ n ih =>
    simp only [cnt]
    have := h n
    cases hp : p n
    · cases q n <;> simp <;> omega
    · rw [this hp]; simp; omega

theorem cnt_eq {p q : Int → Bool} (h : ∀ d, p d = true → q d = true) : ∀ n : Nat, cnt p n = cnt q n → ∀ d : Nat, d < n → p d = q d := by
  intro n
  induction n with
  | zero => intro _ d hd; omega
  | succ n ih =>
    intro he d hd
    have hle := cnt_le h n
    simp only [cnt] at he
    have hn := h n
    have hpq : p n = q n := by
      cases hp : p n
      · cases hq : q n
        · rfl
        · rw [hp, hq] at he; simp at he; omega
      · exact (hn hp).symm
    rcases Nat.lt_or_ge d n with c | c
    · refine ih ?_ d c
      rw [hpq] at he; omega
    · obtain rfl : d = n := by omega
      exact hpq

theorem cnt_congr {p q : Int → Bool} (h : ∀ d, p d = q d) (n : Nat) : cnt p n = cnt q n := by
  induction n with
  | zero => rfl
  | succ n ih => simp only [cnt]; rw [ih, h n]

theorem empty_iff {l : Sps} (h : validB l = true) : l = [] ↔ ∀ d, mem l d = false := by
  constructor
  · rintro rfl d; rfl
  · intro h'
    cases l with
    | nil => rfl
    | cons s l =>
      unfold validB at h
      rw [validFrom_cons] at h
      have := h' s.1
      rw [← Bool.not_eq_true, mem_cons_iff] at this
      exact absurd (.inl ⟨by omega, by omega⟩) this

theorem count_union {a b u v : Sps} (ha : validB a = true) (hb : validB b = true) (hu : IsSet (fun d => mem a d || mem b d) u) (hv : IsSet (fun d => mem a d && mem b d) v) : bef u 65536 + bef v 65536 = bef a 65536 + bef b 65536 := by
  rw [bef_all ha, bef_all hb, bef_all hu.valid, bef_all hv.valid, cnt_congr hu.mem, cnt_congr hv.mem]
  exact cnt_or_and _ _ _

theorem count_parts {a b u v w x : Sps} (hu : IsSet (fun d => mem a d || mem b d) u) (hv : IsSet (fun d => mem a d && mem b d) v) (hw : IsSet (fun d => mem a d && !mem b d) w) (hx : IsSet (fun d => mem b d && !mem a d) x) : bef w 65536 + bef x 65536 + bef v 65536 = bef u 65536 := by
  rw [bef_all hw.valid, bef_all hx.valid, bef_all hu.valid, bef_all hv.valid, cnt_congr hu.mem, cnt_congr hv.mem, cnt_congr hw.mem, cnt_congr hx.mem]
  exact cnt_parts _ _ _

theorem within_meet {a b v : Sps} (ha : validB a = true) (hv : IsSet (fun d => mem a d && mem b d) v) : withinB v a = true := by
  rw [within_iff hv.valid ha]
  intro d h
  rw [hv.mem] at h
  simp at h
  exact h.1

theorem within_union {a b u : Sps} (ha : validB a = true) (hu : IsSet (fun d => mem a d || mem b d) u) : withinB a u = true := by
  rw [within_iff ha hu.valid]
  intro d h
  rw [hu.mem, h]; rfl

theorem within_minus {a b w : Sps} (ha : validB a = true) (hb : validB b = true) (hw : IsSet (fun d => mem a d && !mem b d) w) : withinB a b = decide (w.length = 0) := by
  rw [Bool.eq_iff_iff, within_iff ha hb, decide_eq_true_eq, List.length_eq_zero_iff, empty_iff hw.valid]
  constructor
  · intro h d
    rw [hw.mem]
    cases hm : mem a d
    · rfl
    · rw [h d hm]; rfl
  · intro h d hd
    have := h d
    rw [hw.mem, hd] at this
    simpa using this

theorem within_days {a b v : Sps} (ha : validB a = true) (hb : validB b = true) (hv : IsSet (fun d => mem a d && mem b d) v) : withinB b a = decide (bef v 65536 = bef b 65536) := by
  rw [Bool.eq_iff_iff, within_iff hb ha, decide_eq_true_eq, bef_all hv.valid, bef_all hb, cnt_congr hv.mem]
  constructor
  · intro h
    refine cnt_congr (fun d => ?_) _
    cases hm : mem b d
    · simp
    · rw [h d hm]; rfl
  · intro h d hd
    have hd' := mem_bd hb d hd
    have := cnt_eq (fun d h => by simp at h; exact h.2) 65536 h d.toNat (by omega)
    rw [show ((d.toNat : Nat) : Int) = d by omega, hd] at this
    simpa using this

end Sp
