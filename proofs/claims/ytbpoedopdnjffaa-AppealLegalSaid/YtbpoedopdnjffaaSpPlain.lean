/- The plain mathematics of sets of days: lists of spans, their members, and that a set has one list. No program in sight. -/
namespace Sp

abbrev Sps := List (Int × Int)

/-- A day is in one of some spans. -/
def mem (l : Sps) (d : Int) : Bool := l.any fun s => decide (s.1 ≤ d) && decide (d < s.2)

/-- A set whose first day is greater than p. -/
def validFrom (p : Int) : Sps → Bool
  | [] => true
  | s :: l => decide (p < s.1) && decide (s.1 < s.2) && decide (s.2 ≤ 65536) && validFrom s.2 l

def validB (l : Sps) : Bool := validFrom (-1) l

theorem mem_nil (d : Int) : mem [] d = false := rfl
theorem mem_cons (s : Int × Int) (l : Sps) (d : Int) : mem (s :: l) d = (decide (s.1 ≤ d) && decide (d < s.2) || mem l d) := rfl
theorem mem_cons_iff (s : Int × Int) (l : Sps) (d : Int) : mem (s :: l) d = true ↔ (s.1 ≤ d ∧ d < s.2) ∨ mem l d = true := by
  rw [mem_cons]; simp
theorem mem_append (a b : Sps) (d : Int) : mem (a ++ b) d = (mem a d || mem b d) := by
  unfold mem; rw [List.any_append]
theorem mem_iff (l : Sps) (d : Int) : mem l d = true ↔ ∃ s ∈ l, s.1 ≤ d ∧ d < s.2 := by
  unfold mem; simp

theorem validFrom_cons {p : Int} {s : Int × Int} {l : Sps} : validFrom p (s :: l) = true ↔ p < s.1 ∧ s.1 < s.2 ∧ s.2 ≤ 65536 ∧ validFrom s.2 l = true := by
  simp [validFrom, and_assoc]

theorem validFrom_mono {p q : Int} (h : q ≤ p) {l : Sps} (hl : validFrom p l = true) : validFrom q l = true := by
  cases l with
  | nil => rfl
  | cons s l => rw [validFrom_cons] at *; exact ⟨by omega, hl.2⟩

/-- Members of a set are greater than what is ahead of it, and days. -/
theorem mem_bd {l : Sps} : ∀ {p : Int}, validFrom p l = true → ∀ d, mem l d = true → p < d ∧ d < 65536 := by
  induction l with
  | nil => intro p _ d h; cases h
  | cons s l ih =>
    intro p h d hd
    rw [validFrom_cons] at h
    rw [mem_cons_iff] at hd
    rcases hd with hd | hd
    · omega
    · have := ih h.2.2.2 d hd; omega

theorem uniq : ∀ {a b : Sps} {p q : Int}, validFrom p a = true → validFrom q b = true → (∀ d, mem a d = mem b d) → a = b := by
  intro a
  induction a with
  | nil =>
    intro b p q _ hb h
    cases b with
    | nil => rfl
    | cons t b =>
      rw [validFrom_cons] at hb
      have := h t.1
      rw [mem_nil, eq_comm, ← Bool.not_eq_true, mem_cons_iff] at this
      exact absurd (.inl ⟨by omega, by omega⟩) this
  | cons s a ih =>
    intro b p q ha hb h
    cases b with
    | nil =>
      rw [validFrom_cons] at ha
      have := h s.1
      rw [mem_nil, ← Bool.not_eq_true, mem_cons_iff] at this
      exact absurd (.inl ⟨by omega, by omega⟩) this
    | cons t b =>
      rw [validFrom_cons] at ha hb
      have ba := mem_bd ha.2.2.2
      have bb := mem_bd hb.2.2.2
      have hm : ∀ d, ((s.1 ≤ d ∧ d < s.2) ∨ mem a d = true) ↔ ((t.1 ≤ d ∧ d < t.2) ∨ mem b d = true) := fun d => by
        rw [← mem_cons_iff, ← mem_cons_iff, h d]
      have e1 : s.1 = t.1 := by
        have h1 := (hm s.1).1 (.inl ⟨by omega, by omega⟩)
        have h2 := (hm t.1).2 (.inl ⟨by omega, by omega⟩)
        rcases h1 with h1 | h1
        · rcases h2 with h2 | h2
          · omega
          · have := ba _ h2; omega
        · rcases h2 with h2 | h2
          · have := bb _ h1; omega
          · have := ba _ h2; have := bb _ h1; omega
      have e2 : s.2 = t.2 := by
        rcases Int.lt_trichotomy s.2 t.2 with c | c | c
        · have h1 := (hm s.2).2 (.inl ⟨by omega, by omega⟩)
          rcases h1 with h1 | h1
          · omega
          · have := ba _ h1; omega
        · exact c
        · have h1 := (hm t.2).1 (.inl ⟨by omega, by omega⟩)
          rcases h1 with h1 | h1
          · omega
          · have := bb _ h1; omega
      have es : s = t := Prod.ext e1 e2
      subst es
      congr 1
      refine ih ha.2.2.2 hb.2.2.2 fun d => ?_
      have := hm d
      rw [Bool.eq_iff_iff]
      constructor
      · intro x
        have := ba _ x
        rcases (hm d).1 (.inr x) with y | y
        · omega
        · exact y
      · intro x
        have := bb _ x
        rcases (hm d).2 (.inr x) with y | y
        · omega
        · exact y

/-- The list l is the set of the days with p. -/
structure IsSet (p : Int → Bool) (l : Sps) : Prop where
  valid : validB l = true
  mem : ∀ d, mem l d = p d

theorem IsSet.uniq {p : Int → Bool} {a b : Sps} (ha : IsSet p a) (hb : IsSet p b) : a = b :=
  Sp.uniq ha.valid hb.valid fun d => (ha.mem d).trans (hb.mem d).symm

theorem IsSet.congr {p q : Int → Bool} {a : Sps} (ha : IsSet p a) (h : ∀ d, p d = q d) : IsSet q a := ⟨ha.valid, fun d => (ha.mem d).trans (h d)⟩

theorem IsSet.self {l : Sps} (h : validB l = true) : IsSet (Sp.mem l) l := ⟨h, fun _ => rfl⟩

/-- A set, one more span behind it. -/
def lastTo (p : Int) (l : Sps) : Int := (l.getLast?.map (·.2)).getD p

theorem lastTo_nil (p : Int) : lastTo p [] = p := rfl
theorem lastTo_snoc (p : Int) (l : Sps) (s : Int × Int) : lastTo p (l ++ [s]) = s.2 := by
  unfold lastTo; rw [List.getLast?_append]; simp
theorem lastTo_cons (p : Int) (s : Int × Int) (l : Sps) : lastTo p (s :: l) = lastTo s.2 l := by
  unfold lastTo
  cases l with
  | nil => rfl
  | cons t l => rw [List.getLast?_cons_cons]; rw [List.getLast?_eq_some_getLast (List.cons_ne_nil t l)]; rfl

theorem validFrom_append {p : Int} {a b : Sps} : validFrom p (a ++ b) = true ↔ validFrom p a = true ∧ validFrom (lastTo p a) b = true := by
  induction a generalizing p with
  | nil => simp [validFrom, lastTo_nil]
  | cons s a ih => rw [List.cons_append, validFrom_cons, validFrom_cons, ih, lastTo_cons]; simp [and_assoc]

theorem validFrom_snoc {p : Int} {a : Sps} {s : Int × Int} : validFrom p (a ++ [s]) = true ↔ validFrom p a = true ∧ lastTo p a < s.1 ∧ s.1 < s.2 ∧ s.2 ≤ 65536 := by
  rw [validFrom_append, validFrom_cons]; simp [validFrom]

/-- Members of a set are below its end. -/
theorem mem_last {p : Int} {l : Sps} (h : validFrom p l = true) (d : Int) (hd : mem l d = true) : d < lastTo p l := by
  induction l generalizing p d with
  | nil => cases hd
  | cons s l ih =>
    rw [validFrom_cons] at h
    rw [lastTo_cons]
    rw [mem_cons_iff] at hd
    rcases hd with hd | hd
    · have : s.2 ≤ lastTo s.2 l := by
        cases l with
        | nil => rw [lastTo_nil]; omega
        | cons t l =>
          have h2 := h.2.2.2
          rw [validFrom_cons] at h2
          have := ih h.2.2.2 t.1 (by rw [mem_cons_iff]; left; omega)
          omega
      omega
    · exact ih h.2.2.2 d hd

end Sp
