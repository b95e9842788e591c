/- Plain: what bridging fills. -/
import Derived.Test.YtbpoedopdnjffaaSpPlain7
namespace Sp

theorem lastTo_take' (p : Int) (l : Sps) (k : Nat) (hk : k ≤ l.length) (h0 : 0 < k) : lastTo p (l.take k) = (l[k - 1]'(by omega)).2 := by
  have : l.take k = l.take (k - 1) ++ [l[k - 1]'(by omega)] := by
    have := List.take_succ_eq_append_getElem (l := l) (i := k - 1) (by omega)
    rw [show k - 1 + 1 = k by omega] at this
    exact this
  rw [this, lastTo_snoc]

/-- A day in a gap of at most n days. -/
def Gap (n : Int) (l : Sps) (k : Nat) (d : Int) : Prop := ∃ i, i + 1 < k ∧ ∃ h : i + 1 < l.length, (l[i]'(by omega)).2 ≤ d ∧ d < l[i + 1].1 ∧ l[i + 1].1 - (l[i]'(by omega)).2 ≤ n

theorem brg_mem {l : Sps} {n : Int} (hv : validB l = true) : ∀ k, k ≤ l.length → ∀ d, mem (brg n (l.take k)) d = true ↔ mem (l.take k) d = true ∨ Gap n l k d := by
  intro k
  induction k with
  | zero =>
    intro _ d
    simp only [List.take_zero]
    constructor
    · intro h; exact .inl h
    · rintro (h | ⟨i, h, _⟩)
      · exact h
      · omega
  | succ k ih =>
    intro hk d
    have h1 := ih (by omega) d
    obtain ⟨hbv, hbl⟩ := brg_valid (n := n) hv k (by omega)
    have hg := valid_get hv (k := k) (by omega)
    rw [take_succ_snoc (by omega), brg_snoc, mem_append, Bool.or_eq_true]
    have hsucc : Gap n l (k + 1) d ↔ Gap n l k d ∨ ∃ h0 : 0 < k, ∃ h : k < l.length, (l[k - 1]'(by omega)).2 ≤ d ∧ d < l[k].1 ∧ l[k].1 - (l[k - 1]'(by omega)).2 ≤ n := by
      constructor
      · rintro ⟨i, hi, hil, h⟩
        by_cases c : i + 1 < k
        · exact .inl ⟨i, c, hil, h⟩
        · obtain rfl : k = i + 1 := by omega
          exact .inr ⟨by omega, by omega, h⟩
      · rintro (⟨i, hi, hil, h⟩ | ⟨h0, hkl, h⟩)
        · exact ⟨i, by omega, hil, h⟩
        · obtain ⟨j, rfl⟩ : ∃ j, k = j + 1 := ⟨k - 1, by omega⟩
          exact ⟨j, by omega, hkl, h⟩
    rw [hsucc]
    have hone : mem [l[k]'(by omega)] d = true ↔ (l[k]'(by omega)).1 ≤ d ∧ d < (l[k]'(by omega)).2 := by
      rw [mem_cons, mem_nil, Bool.or_false]; simp
    rw [hone]
    generalize hset : brg n (l.take k) = set at h1 hbv hbl
    rcases List.eq_nil_or_concat set with rfl | ⟨s0, t, rfl⟩
    · have hk0 : k = 0 := by
        rcases Nat.eq_zero_or_pos k with c | c
        · exact c
        · rw [lastTo_nil, lastTo_take' _ _ _ (by omega) c] at hbl
          have := valid_get hv (k := k - 1) (by omega)
          omega
      subst hk0
      rw [bst_nil, hone]
      rw [mem_nil] at h1
      constructor
      · intro h; exact .inl (.inr h)
      · rintro ((h | h) | (h | ⟨h, _⟩))
        · have := h1.2 (.inl h); cases this
        · exact h
        · have := h1.2 (.inr h); cases this
        · omega
    · rw [List.concat_eq_append] at h1 hbv hbl ⊢
      have hk0 : 0 < k := by
        rcases Nat.eq_zero_or_pos k with c | c
        · subst c; simp [brg] at hset
        · exact c
      rw [lastTo_snoc, lastTo_take' _ _ _ (by omega) hk0] at hbl
      have hvm := valid_mono hv (i := k - 1) (j := k) (by omega) (by omega)
      rw [mem_append, Bool.or_eq_true] at h1
      have ht : mem [t] d = true ↔ t.1 ≤ d ∧ d < t.2 := by rw [mem_cons, mem_nil, Bool.or_false]; simp
      rw [ht] at h1
      rw [validFrom_snoc] at hbv
      by_cases h : (l[k]'(by omega)).1 - t.2 ≤ n
      · rw [bst_near _ _ _ h, mem_append, Bool.or_eq_true]
        have ht2 : mem [(t.1, (l[k]'(by omega)).2)] d = true ↔ t.1 ≤ d ∧ d < (l[k]'(by omega)).2 := by rw [mem_cons, mem_nil, Bool.or_false]; simp
        rw [ht2]
        constructor
        · rintro (h2 | h2)
          · rcases h1.1 (.inl h2) with h3 | h3
            · exact .inl (.inl h3)
            · exact .inr (.inl h3)
          · by_cases c : d < t.2
            · rcases h1.1 (.inr ⟨h2.1, c⟩) with h3 | h3
              · exact .inl (.inl h3)
              · exact .inr (.inl h3)
            · by_cases c2 : (l[k]'(by omega)).1 ≤ d
              · exact .inl (.inr ⟨c2, h2.2⟩)
              · exact .inr (.inr ⟨hk0, by omega, by omega, by omega, by omega⟩)
        · rintro ((h2 | h2) | (h2 | ⟨_, _, h3, h4, h5⟩))
          · rcases h1.2 (.inl h2) with h3 | h3
            · exact .inl h3
            · exact .inr ⟨h3.1, by omega⟩
          · exact .inr ⟨by omega, h2.2⟩
          · rcases h1.2 (.inr h2) with h3 | h3
            · exact .inl h3
            · exact .inr ⟨h3.1, by omega⟩
          · exact .inr ⟨by omega, by omega⟩
      · rw [bst_far _ _ _ h, mem_append, Bool.or_eq_true, mem_append, Bool.or_eq_true, hone, ht]
        constructor
        · rintro (h2 | h2)
          · rcases h1.1 h2 with h3 | h3
            · exact .inl (.inl h3)
            · exact .inr (.inl h3)
          · exact .inl (.inr h2)
        · rintro ((h2 | h2) | (h2 | ⟨_, _, h3, h4, h5⟩))
          · exact .inl (h1.2 (.inl h2))
          · exact .inr h2
          · exact .inl (h1.2 (.inr h2))
          · omega

/-- No gap of at most n days. -/
def Far (n : Int) (l : Sps) : Prop := ∀ i, (h : i + 1 < l.length) → n < l[i + 1].1 - (l[i]'(by omega)).2

theorem far_snoc {n : Int} {s0 : Sps} {t : Int × Int} (h : Far n s0) (h' : s0 ≠ [] → n < t.1 - lastTo (-1) s0) : Far n (s0 ++ [t]) := by
  intro i hi
  rw [List.length_append, List.length_singleton] at hi
  by_cases c : i + 1 < s0.length
  · rw [List.getElem_append_left c, List.getElem_append_left (by omega)]
    exact h i c
  · have e : i + 1 = s0.length := by omega
    rw [List.getElem_append_right (by omega), List.getElem_append_left (by omega)]
    have hne : s0 ≠ [] := by rintro rfl; simp at e
    have h3 := h' hne
    have h4 : lastTo (-1) s0 = (s0[s0.length - 1]'(by omega)).2 := by
      have := lastTo_take' (-1) s0 s0.length (Nat.le_refl _) (by omega)
      rwa [List.take_length] at this
    rw [h4] at h3
    have : s0.length - 1 = i := by omega
    simp only [this] at h3
    simp only [List.getElem_singleton]
    exact h3

theorem far_init {n : Int} {s0 : Sps} {t : Int × Int} (h : Far n (s0 ++ [t])) : Far n s0 ∧ (s0 ≠ [] → n < t.1 - lastTo (-1) s0) := by
  constructor
  · intro i hi
    have := h i (by simp; omega)
    rw [List.getElem_append_left hi, List.getElem_append_left (by omega)] at this
    exact this
  · intro hne
    have hl : 0 < s0.length := List.length_pos_iff.2 hne
    have := h (s0.length - 1) (by simp; omega)
    have h4 : lastTo (-1) s0 = (s0[s0.length - 1]'(by omega)).2 := by
      have := lastTo_take' (-1) s0 s0.length (Nat.le_refl _) (by omega)
      rwa [List.take_length] at this
    rw [h4]
    rw [List.getElem_append_right (by omega), List.getElem_append_left (by omega)] at this
    simpa using this

theorem brg_far {l : Sps} {n : Int} : ∀ k, k ≤ l.length → Far n (brg n (l.take k)) := by
  intro k
  induction k with
  | zero => intro _ i h; simp [brg] at h
  | succ k ih =>
    intro hk
    have h1 := ih (by omega)
    rw [take_succ_snoc (by omega), brg_snoc]
    generalize brg n (l.take k) = set at h1
    rcases List.eq_nil_or_concat set with rfl | ⟨s0, t, rfl⟩
    · rw [bst_nil]; intro i h; simp at h
    · rw [List.concat_eq_append] at h1 ⊢
      by_cases h : (l[k]'(by omega)).1 - t.2 ≤ n
      · rw [bst_near _ _ _ h]
        have := far_init h1
        exact far_snoc this.1 this.2
      · rw [bst_far _ _ _ h]
        exact far_snoc h1 fun _ => by rw [lastTo_snoc]; omega

theorem brg_self {b : Sps} {n : Int} (h : Far n b) : ∀ k, k ≤ b.length → brg n (b.take k) = b.take k := by
  intro k
  induction k with
  | zero => intro _; rfl
  | succ k ih =>
    intro hk
    rw [take_succ_snoc (by omega), brg_snoc, ih (by omega)]
    rcases Nat.eq_zero_or_pos k with c | c
    · subst c; rfl
    · have e : b.take k = b.take (k - 1) ++ [b[k - 1]'(by omega)] := by
        have := take_succ_snoc (l := b) (k := k - 1) (by omega)
        rw [show k - 1 + 1 = k by omega] at this
        exact this
      rw [e]
      have := h (k - 1) (by omega)
      simp only [show k - 1 + 1 = k by omega] at this
      exact bst_far _ _ _ (by omega)

theorem brg_first {l : Sps} {n : Int} (h0 : 0 < l.length) : ∀ k, 0 < k → k ≤ l.length → ∃ y r, brg n (l.take k) = (l[0].1, y) :: r := by
  intro k
  induction k with
  | zero => intro h; omega
  | succ k ih =>
    intro _ hk
    rw [take_succ_snoc (by omega), brg_snoc]
    rcases Nat.eq_zero_or_pos k with c | c
    · subst c; exact ⟨_, [], rfl⟩
    · obtain ⟨y, r, h1⟩ := ih c (by omega)
      rw [h1]
      rcases List.eq_nil_or_concat r with rfl | ⟨r, t, rfl⟩
      · have e : [(l[0].1, y)] = ([] : Sps) ++ [(l[0].1, y)] := rfl
        rw [e]
        by_cases h : (l[k]'(by omega)).1 - (l[0].1, y).2 ≤ n
        · rw [bst_near _ _ _ h]; exact ⟨_, [], rfl⟩
        · rw [bst_far _ _ _ h]; exact ⟨_, _, rfl⟩
      · have e : (l[0].1, y) :: r.concat t = ((l[0].1, y) :: r) ++ [t] := by rw [List.concat_eq_append]; rfl
        rw [e]
        by_cases h : (l[k]'(by omega)).1 - t.2 ≤ n
        · rw [bst_near _ _ _ h]; exact ⟨_, _, rfl⟩
        · rw [bst_far _ _ _ h]; exact ⟨_, _, rfl⟩

/-- A span of a set ends where its days end. -/
theorem set_edges {r : Sps} (hv : validB r = true) {i : Nat} (h : i < r.length) : mem r (r[i].1 - 1) = false ∧ mem r r[i].2 = false := by
  have hg := valid_get hv h
  constructor
  all_goals
    rw [← Bool.not_eq_true, mem_iff]
    rintro ⟨s, hs, h1, h2⟩
    obtain ⟨j, hj, rfl⟩ := List.getElem_of_mem hs
    have hg2 := valid_get hv hj
    rcases Nat.lt_trichotomy i j with c | c | c
    · have := valid_mono hv c hj; omega
    · subst c; omega
    · have := valid_mono hv c h; omega

structure Bridged (n : Int) (l b : Sps) : Prop where
  valid : validB b = true
  within : withinB l b = true
  again : brg n b = b
  far : Far n b
  rest : ∀ r, IsSet (fun d => mem b d && !mem l d) r → ∀ i, (h : i < r.length) → r[i].2 - r[i].1 ≤ n ∧ mem l (r[i].1 - 1) = true ∧ mem l r[i].2 = true
  len0 : l.length = 0 ↔ b.length = 0
  first : ∀ (h : 0 < l.length) (h' : 0 < b.length), b[0].1 = l[0].1
  last : ∀ (h : 0 < l.length) (h' : 0 < b.length), (b[b.length - 1]'(by omega)).2 = (l[l.length - 1]'(by omega)).2
  le : b.length ≤ l.length

theorem bridged {l : Sps} {n : Int} (hv : validB l = true) : Bridged n l (brg n l) := by
  have h1 := brg_valid (n := n) hv l.length (Nat.le_refl _)
  have h2 := brg_mem (n := n) hv l.length (Nat.le_refl _)
  have h3 := brg_far (l := l) (n := n) l.length (Nat.le_refl _)
  have h4 := brg_first (l := l) (n := n)
  have h5 := brg_length n l l.length (Nat.le_refl _)
  rw [List.take_length] at h1 h2 h3 h5
  have hw : ∀ d, mem l d = true → mem (brg n l) d = true := fun d h => (h2 d).2 (.inl h)
  have hlen : l.length = 0 ↔ (brg n l).length = 0 := by
    constructor
    · intro h; have := List.eq_nil_of_length_eq_zero h; subst this; rfl
    · intro h
      rcases Nat.eq_zero_or_pos l.length with c | c
      · exact c
      · obtain ⟨y, r, hr⟩ := h4 c l.length c (Nat.le_refl _)
        rw [List.take_length] at hr
        rw [hr] at h; simp at h
  refine ⟨h1.1, (within_iff hv h1.1).2 hw, ?_, h3, ?_, hlen, ?_, ?_, h5⟩
  · have := brg_self h3 _ (Nat.le_refl _)
    rwa [List.take_length] at this
  · intro r hr i hi
    have hg := valid_get hr.valid hi
    have he := set_edges hr.valid hi
    rw [hr.mem, hr.mem] at he
    have hin : ∀ d, r[i].1 ≤ d → d < r[i].2 → mem (brg n l) d = true ∧ mem l d = false := fun d hd1 hd2 => by
      have : mem r d = true := (mem_iff r d).2 ⟨r[i], List.getElem_mem hi, hd1, hd2⟩
      rw [hr.mem] at this
      simpa using this
    obtain ⟨m1, m2⟩ := hin r[i].1 (by omega) hg.2.1
    rcases (h2 r[i].1).1 m1 with c | ⟨j, hj, hjl, g1, g2, g3⟩
    · rw [m2] at c; cases c
    have hgap : ∀ d, (l[j]'(by omega)).2 ≤ d → d < l[j + 1].1 → (mem (brg n l) d && !mem l d) = true := fun d hd1 hd2 => by
      have e1 : mem (brg n l) d = true := (h2 d).2 (.inr ⟨j, hj, hjl, hd1, hd2, g3⟩)
      have e2 : mem l d = false := by
        rw [← Bool.not_eq_true, mem_iff]
        rintro ⟨s, hs, a1, a2⟩
        obtain ⟨k, hk, rfl⟩ := List.getElem_of_mem hs
        have hg2 := valid_get hv hk
        have hgj := valid_get hv (k := j) (by omega)
        rcases Nat.lt_trichotomy k j with c | c | c
        · have := valid_mono hv c (by omega); omega
        · subst c; omega
        · rcases Nat.eq_or_lt_of_le (show j + 1 ≤ k from c) with c2 | c2
          · subst c2; omega
          · have := valid_mono hv c2 hk
            have := valid_get hv hjl
            omega
      rw [e1, e2]; rfl
    have hgj := valid_get hv (k := j) (by omega)
    have hgj1 := valid_get hv hjl
    have x1 : r[i].1 = (l[j]'(by omega)).2 := by
      rcases Int.lt_or_le (l[j]'(by omega)).2 r[i].1 with c | c
      · have := hgap (r[i].1 - 1) (by omega) (by omega)
        rw [he.1] at this; cases this
      · omega
    have x2 : r[i].2 = l[j + 1].1 := by
      rcases Int.lt_trichotomy r[i].2 l[j + 1].1 with c | c | c
      · have := hgap r[i].2 (by omega) c
        rw [he.2] at this; cases this
      · exact c
      · have := (hin l[j + 1].1 (by omega) c).2
        rw [← Bool.not_eq_true, mem_iff] at this
        exact absurd ⟨l[j + 1], List.getElem_mem hjl, by omega, by omega⟩ this
    refine ⟨by omega, ?_, ?_⟩
    · rw [mem_iff]; exact ⟨l[j]'(by omega), List.getElem_mem _, by omega, by omega⟩
    · rw [mem_iff]; exact ⟨l[j + 1], List.getElem_mem hjl, by omega, by omega⟩
  · intro h h'
    obtain ⟨y, r, hr⟩ := h4 h l.length h (Nat.le_refl _)
    rw [List.take_length] at hr
    simp only [hr, List.getElem_cons_zero]
  · intro h h'
    have e1 := lastTo_take' (-1) (brg n l) (brg n l).length (Nat.le_refl _) h'
    have e2 := lastTo_take' (-1) l l.length (Nat.le_refl _) h
    rw [List.take_length] at e1 e2
    rw [← e1, ← e2, h1.2]

end Sp
