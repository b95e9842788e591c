/- The plain mathematics of sets of days: lists of spans, their members, and that a set has one list. No program in sight. The plain mathematics of span.choose: the borders of two sets, merged; the set of the days whose membership is kept. The plain mathematics of dockets: cases, filings, time that passes. No program in sight. Plain: how many days are before a day; the day with a number. The plain mathematics of dockets: filings that are well-formed, what they do, and what a docket has led to. No program in sight. The plain laws of time that passes: in two steps or at once. No program in sight. The plain dockets that Built makes of notes. No program in sight. Plain: finding a span; within. Plain: bridging short gaps. Plain: the set of spans that are sorted by their first days. Plain: numbers of days, counts. Plain: what bridging fills. Days that are marked, one by one: the set of them (the reference's way). The plain invariants of a docket's cases: what holds behind the last accepted filing. No program in sight. The plain laws of the reference: time that passes day by day comes to the same as time that passes at once. No program in sight. The plain laws of the reference, continued: a list of cases half way through a day; settling day by day. -/
namespace Sp

abbrev Sps := List (Int × Int)

/-- A day is in one of some spans. -/
def mem (l : Sps) (d : Int) : Bool := l.any fun s => decide (s.1 ≤ d) && decide (d < s.2)

/-- A set whose first day is greater than p. -/
def validFrom (p : Int) : Sps → Bool
  | [] => true
  | s :: l => decide (p < s.1) && decide (s.1 < s.2) && decide (s.2 ≤ 65536) && validFrom s.2 l

def validB (l : Sps) : Bool := validFrom (-1) l

theorem mem_nil (d : Int) : mem [] d = false := rfl
theorem mem_cons (s : Int × Int) (l : Sps) (d : Int) : mem (s :: l) d = (decide (s.1 ≤ d) && decide (d < s.2) || mem l d) := rfl
theorem mem_cons_iff (s : Int × Int) (l : Sps) (d : Int) : mem (s :: l) d = true ↔ (s.1 ≤ d ∧ d < s.2) ∨ mem l d = true := by
  rw [mem_cons]; simp
theorem mem_append (a b : Sps) (d : Int) : mem (a ++ b) d = (mem a d || mem b d) := by
  unfold mem; rw [List.any_append]
theorem mem_iff (l : Sps) (d : Int) : mem l d = true ↔ ∃ s ∈ l, s.1 ≤ d ∧ d < s.2 := by
  unfold mem; simp

theorem validFrom_cons {p : Int} {s : Int × Int} {l : Sps} : validFrom p (s :: l) = true ↔ p < s.1 ∧ s.1 < s.2 ∧ s.2 ≤ 65536 ∧ validFrom s.2 l = true := by
  simp [validFrom, and_assoc]

theorem validFrom_mono {p q : Int} (h : q ≤ p) {l : Sps} (hl : validFrom p l = true) : validFrom q l = true := by
  cases l with
  | nil => rfl
  | cons s l => rw [validFrom_cons] at *; exact ⟨by omega, hl.2⟩

/-- Members of a set are greater than what is ahead of it, and days. -/
theorem mem_bd {l : Sps} : ∀ {p : Int}, validFrom p l = true → ∀ d, mem l d = true → p < d ∧ d < 65536 := by
  induction l with
  | nil => intro p _ d h; cases h
  | cons s l ih =>
    intro p h d hd
    rw [validFrom_cons] at h
    rw [mem_cons_iff] at hd
    rcases hd with hd | hd
    · omega
    · have := ih h.2.2.2 d hd; omega

theorem uniq : ∀ {a b : Sps} {p q : Int}, validFrom p a = true → validFrom q b = true → (∀ d, mem a d = mem b d) → a = b := by
  intro a
  induction a with
  | nil =>
    intro b p q _ hb h
    cases b with
    | nil => rfl
    | cons t b =>
      rw [validFrom_cons] at hb
      have := h t.1
      rw [mem_nil, eq_comm, ← Bool.not_eq_true, mem_cons_iff] at this
      exact absurd (.inl ⟨by omega, by omega⟩) this
  | cons s a ih =>
    intro b p q ha hb h
    cases b with
    | nil =>
      rw [validFrom_cons] at ha
      have := h s.1
      rw [mem_nil, ← Bool.not_eq_true, mem_cons_iff] at this
      exact absurd (.inl ⟨by omega, by omega⟩) this
    | cons t b =>
      rw [validFrom_cons] at ha hb
      have ba := mem_bd ha.2.2.2
      have bb := mem_bd hb.2.2.2
      have hm : ∀ d, ((s.1 ≤ d ∧ d < s.2) ∨ mem a d = true) ↔ ((t.1 ≤ d ∧ d < t.2) ∨ mem b d = true) := fun d => by
        rw [← mem_cons_iff, ← mem_cons_iff, h d]
      have e1 : s.1 = t.1 := by
        have h1 := (hm s.1).1 (.inl ⟨by omega, by omega⟩)
        have h2 := (hm t.1).2 (.inl ⟨by omega, by omega⟩)
        rcases h1 with h1 | h1
        · rcases h2 with h2 | h2
          · omega
          · have := ba _ h2; omega
        · rcases h2 with h2 | h2
          · have := bb _ h1; omega
          · have := ba _ h2; have := bb _ h1; omega
      have e2 : s.2 = t.2 := by
        rcases Int.lt_trichotomy s.2 t.2 with c | c | c
        · have h1 := (hm s.2).2 (.inl ⟨by omega, by omega⟩)
          rcases h1 with h1 | h1
          · omega
          · have := ba _ h1; omega
        · exact c
        · have h1 := (hm t.2).1 (.inl ⟨by omega, by omega⟩)
          rcases h1 with h1 | h1
          · omega
          · have := bb _ h1; omega
      have es : s = t := Prod.ext e1 e2
      subst es
      congr 1
      refine ih ha.2.2.2 hb.2.2.2 fun d => ?_
      have := hm d
      rw [Bool.eq_iff_iff]
      constructor
      · intro x
        have := ba _ x
        rcases (hm d).1 (.inr x) with y | y
        · omega
        · exact y
      · intro x
        have := bb _ x
        rcases (hm d).2 (.inr x) with y | y
        · omega
        · exact y

/-- The list l is the set of the days with p. -/
structure IsSet (p : Int → Bool) (l : Sps) : Prop where
  valid : validB l = true
  mem : ∀ d, mem l d = p d

theorem IsSet.uniq {p : Int → Bool} {a b : Sps} (ha : IsSet p a) (hb : IsSet p b) : a = b :=
  Sp.uniq ha.valid hb.valid fun d => (ha.mem d).trans (hb.mem d).symm

theorem IsSet.congr {p q : Int → Bool} {a : Sps} (ha : IsSet p a) (h : ∀ d, p d = q d) : IsSet q a := ⟨ha.valid, fun d => (ha.mem d).trans (h d)⟩

theorem IsSet.self {l : Sps} (h : validB l = true) : IsSet (Sp.mem l) l := ⟨h, fun _ => rfl⟩

/-- A set, one more span behind it. -/
def lastTo (p : Int) (l : Sps) : Int := (l.getLast?.map (·.2)).getD p

theorem lastTo_nil (p : Int) : lastTo p [] = p := rfl
theorem lastTo_snoc (p : Int) (l : Sps) (s : Int × Int) : lastTo p (l ++ [s]) = s.2 := by
  unfold lastTo; rw [List.getLast?_append]; simp
theorem lastTo_cons (p : Int) (s : Int × Int) (l : Sps) : lastTo p (s :: l) = lastTo s.2 l := by
  unfold lastTo
  cases l with
  | nil => rfl
  | cons t l => rw [List.getLast?_cons_cons]; rw [List.getLast?_eq_some_getLast (List.cons_ne_nil t l)]; rfl

theorem validFrom_append {p : Int} {a b : Sps} : validFrom p (a ++ b) = true ↔ validFrom p a = true ∧ validFrom (lastTo p a) b = true := by
  induction a generalizing p with
  | nil => simp [validFrom, lastTo_nil]
  | cons s a ih => rw [List.cons_append, validFrom_cons, validFrom_cons, ih, lastTo_cons]; simp [and_assoc]

theorem validFrom_snoc {p : Int} {a : Sps} {s : Int × Int} : validFrom p (a ++ [s]) = true ↔ validFrom p a = true ∧ lastTo p a < s.1 ∧ s.1 < s.2 ∧ s.2 ≤ 65536 := by
  rw [validFrom_append, validFrom_cons]; simp [validFrom]

/-- Members of a set are below its end. -/
theorem mem_last {p : Int} {l : Sps} (h : validFrom p l = true) (d : Int) (hd : mem l d = true) : d < lastTo p l := by
  induction l generalizing p d with
  | nil => cases hd
  | cons s l ih =>
    rw [validFrom_cons] at h
    rw [lastTo_cons]
    rw [mem_cons_iff] at hd
    rcases hd with hd | hd
    · have : s.2 ≤ lastTo s.2 l := by
        cases l with
        | nil => rw [lastTo_nil]; omega
        | cons t l =>
          have h2 := h.2.2.2
          rw [validFrom_cons] at h2
          have := ih h.2.2.2 t.1 (by rw [mem_cons_iff]; left; omega)
          omega
      omega
    · exact ih h.2.2.2 d hd

end Sp

namespace Sp

/-- The borders of a set. -/
def bl : Sps → List Int
  | [] => []
  | s :: l => s.1 :: s.2 :: bl l

abbrev Ev := Int × Bool × Bool

/-- The days at which membership changes, and the membership from then on. -/
def evs : List Int → List Int → Bool → Bool → List Ev
  | [], [], _, _ => []
  | x :: xs, [], pa, pb => (x, !pa, pb) :: evs xs [] (!pa) pb
  | [], y :: ys, pa, pb => (y, pa, !pb) :: evs [] ys pa (!pb)
  | x :: xs, y :: ys, pa, pb =>
    if x < y then (x, !pa, pb) :: evs xs (y :: ys) (!pa) pb
    else if y < x then (y, pa, !pb) :: evs (x :: xs) ys pa (!pb)
    else (x, !pa, !pb) :: evs xs ys (!pa) (!pb)
termination_by xs ys => xs.length + ys.length

/-- Strictly ascending, all greater than p. -/
def asc (p : Int) : List Int → Prop
  | [] => True
  | x :: xs => p < x ∧ x ≤ 65536 ∧ asc x xs

theorem asc_mono {p q : Int} (h : q ≤ p) {l : List Int} (hl : asc p l) : asc q l := by
  cases l with
  | nil => trivial
  | cons x l => exact ⟨by have := hl.1; omega, hl.2⟩

theorem asc_bl {p : Int} {l : Sps} (h : validFrom p l = true) : asc p (bl l) := by
  induction l generalizing p with
  | nil => trivial
  | cons s l ih =>
    rw [validFrom_cons] at h
    exact ⟨h.1, by omega, h.2.1, h.2.2.1, ih h.2.2.2⟩

/-- Membership by the borders: turned at each border that is not greater than the day. -/
def mb : List Int → Bool → Int → Bool
  | [], p, _ => p
  | x :: xs, p, d => if x ≤ d then mb xs (!p) d else p

theorem mb_hit {x d : Int} (h : x ≤ d) (xs : List Int) (p : Bool) : mb (x :: xs) p d = mb xs (!p) d := by rw [mb, if_pos h]
theorem mb_miss {x d : Int} (h : ¬ x ≤ d) (xs : List Int) (p : Bool) : mb (x :: xs) p d = p := by rw [mb, if_neg h]

theorem mb_low {p : Bool} {q d : Int} {l : List Int} (h : asc q l) (hd : d ≤ q) : mb l p d = p := by
  cases l with
  | nil => rfl
  | cons x l => rw [mb, if_neg (by have := h.1; omega)]

theorem mb_bl {p : Int} {l : Sps} (h : validFrom p l = true) (d : Int) : mb (bl l) false d = mem l d := by
  induction l generalizing p with
  | nil => rfl
  | cons s l ih =>
    rw [validFrom_cons] at h
    have hm := mem_bd h.2.2.2 d
    rw [bl, mb, mb, mem_cons]
    by_cases h1 : s.1 ≤ d
    · by_cases h2 : s.2 ≤ d
      · rw [if_pos h1, if_pos h2]
        show mb (bl l) false d = _
        rw [ih h.2.2.2]
        simp [show ¬ d < s.2 by omega]
      · rw [if_pos h1, if_neg h2]
        simp [h1, show d < s.2 by omega]
    · rw [if_neg h1]
      have : mem l d = false := by
        rw [← Bool.not_eq_true]; intro x; have := hm x; omega
      simp [h1, this]

/-- The memberships at a day, by the changes. -/
def at' : List Ev → Bool → Bool → Int → Bool × Bool
  | [], a, b, _ => (a, b)
  | e :: es, a, b, d => if e.1 ≤ d then at' es e.2.1 e.2.2 d else (a, b)

def ascE (p : Int) : List Ev → Prop
  | [] => True
  | x :: xs => p < x.1 ∧ x.1 ≤ 65536 ∧ ascE x.1 xs

theorem evs_asc : ∀ (n : Nat) (xs ys : List Int) (pa pb : Bool) (p : Int), xs.length + ys.length = n → asc p xs → asc p ys → ascE p (evs xs ys pa pb) := by
  intro n
  induction n using Nat.strongRecOn with
  | _ n ih =>
    intro xs ys pa pb p hn hx hy
    cases xs with
    | nil =>
      cases ys with
      | nil => rw [evs]; trivial
      | cons y ys => rw [evs]; exact ⟨hy.1, hy.2.1, ih _ (by simp at hn ⊢; omega) _ _ _ _ _ rfl trivial hy.2.2⟩
    | cons x xs =>
      cases ys with
      | nil => rw [evs]; exact ⟨hx.1, hx.2.1, ih _ (by simp at hn ⊢; omega) _ _ _ _ _ rfl hx.2.2 trivial⟩
      | cons y ys =>
        rw [evs]
        split
        · rename_i h
          exact ⟨hx.1, hx.2.1, ih _ (by simp at hn ⊢; omega) _ _ _ _ _ rfl hx.2.2 ⟨h, hy.2⟩⟩
        · split
          · rename_i h
            exact ⟨hy.1, hy.2.1, ih _ (by simp at hn ⊢; omega) _ _ _ _ _ rfl ⟨h, hx.2⟩ hy.2.2⟩
          · obtain rfl : x = y := by omega
            exact ⟨hx.1, hx.2.1, ih _ (by simp at hn ⊢; omega) _ _ _ _ _ rfl hx.2.2 hy.2.2⟩

theorem evs_at : ∀ (n : Nat) (xs ys : List Int) (pa pb : Bool) (p : Int) (d : Int), xs.length + ys.length = n → asc p xs → asc p ys → at' (evs xs ys pa pb) pa pb d = (mb xs pa d, mb ys pb d) := by
  intro n
  induction n using Nat.strongRecOn with
  | _ n ih =>
    intro xs ys pa pb p d hn hx hy
    cases xs with
    | nil =>
      cases ys with
      | nil => rw [evs]; rfl
      | cons y ys =>
        rw [evs, at', mb, mb]
        split
        · rename_i h
          exact ih _ (by simp at hn ⊢; omega) _ _ _ _ _ _ rfl trivial hy.2.2
        · rfl
    | cons x xs =>
      cases ys with
      | nil =>
        rw [evs, at', mb, mb]
        split
        · exact ih _ (by simp at hn ⊢; omega) _ _ _ _ _ _ rfl hx.2.2 trivial
        · rfl
      | cons y ys =>
        rw [evs]
        split
        · rename_i h
          rw [at']
          split
          · rename_i h'
            have := ih _ (by simp at hn ⊢; omega) xs (y :: ys) (!pa) pb x d rfl hx.2.2 ⟨h, hy.2⟩
            dsimp only at h' ⊢
            rw [this, mb_hit h']
          · rename_i h'
            dsimp only at h'
            rw [mb_miss h', mb_miss (by omega)]
        · split
          · rename_i h
            rw [at']
            split
            · rename_i h'
              have := ih _ (by simp at hn ⊢; omega) (x :: xs) ys pa (!pb) y d rfl ⟨h, hx.2⟩ hy.2.2
              dsimp only at h' ⊢
              rw [this, mb_hit h']
            · rename_i h'
              dsimp only at h'
              rw [mb_miss h', mb_miss (by omega)]
          · obtain rfl : x = y := by omega
            rw [at']
            split
            · rename_i h'
              have := ih _ (by simp at hn ⊢; omega) xs ys (!pa) (!pb) x d rfl hx.2.2 hy.2.2
              dsimp only at h' ⊢
              rw [this, mb_hit h', mb_hit h']
            · rename_i h'
              dsimp only at h'
              rw [mb_miss h', mb_miss h']

/-- What the loop of choose makes of the changes: (from, inside, the set). -/
def stp (keep : Bool → Bool → Bool) (st : Int × Bool × Sps) (e : Ev) : Int × Bool × Sps :=
  (if keep e.2.1 e.2.2 && !st.2.1 then e.1 else st.1, keep e.2.1 e.2.2, if st.2.1 && !keep e.2.1 e.2.2 then st.2.2 ++ [(st.1, e.1)] else st.2.2)

def run (keep : Bool → Bool → Bool) (es : List Ev) : Int × Bool × Sps := es.foldl (stp keep) (0, false, [])

theorem run_snoc (keep : Bool → Bool → Bool) (es : List Ev) (e : Ev) : run keep (es ++ [e]) = stp keep (run keep es) e := by
  unfold run; rw [List.foldl_append]; rfl

theorem run_length (keep : Bool → Bool → Bool) (es : List Ev) : (run keep es).2.2.length ≤ es.length := by
  suffices h : ∀ (es : List Ev) st, (es.foldl (stp keep) st).2.2.length ≤ st.2.2.length + es.length by
    have := h es (0, false, [])
    simpa [run] using this
  intro es
  induction es with
  | nil => intro st; simp
  | cons e es ih =>
    intro st
    have := ih (stp keep st e)
    have h2 : (stp keep st e).2.2.length ≤ st.2.2.length + 1 := by
      unfold stp; dsimp only; split <;> simp
    rw [List.foldl_cons, List.length_cons]
    omega

/-- The value of keep at a day. -/
def cur (keep : Bool → Bool → Bool) : List Ev → Bool → Int → Bool
  | [], v, _ => v
  | e :: es, v, d => if e.1 ≤ d then cur keep es (keep e.2.1 e.2.2) d else v

theorem cur_at (keep : Bool → Bool → Bool) (es : List Ev) (a b : Bool) (d : Int) : cur keep es (keep a b) d = keep (at' es a b d).1 (at' es a b d).2 := by
  induction es generalizing a b with
  | nil => rfl
  | cons e es ih =>
    rw [cur, at']
    split
    · exact ih _ _
    · rfl

theorem cur_low {keep : Bool → Bool → Bool} {es : List Ev} {v : Bool} {p d : Int} (h : ascE p es) (hd : d ≤ p) : cur keep es v d = v := by
  cases es with
  | nil => rfl
  | cons e es => rw [cur, if_neg (by have := h.1; omega)]

/-- The loop's invariant, by the rest of the changes. -/
theorem run_rest (keep : Bool → Bool → Bool) : ∀ (es : List Ev) (fr : Int) (ins : Bool) (set : Sps) (p : Int), ascE p es → validFrom (-1) set = true →
    lastTo (-1) set ≤ p → (ins = true → lastTo (-1) set < fr ∧ fr ≤ p) → (∀ d, 65536 ≤ d → cur keep es ins d = false) →
    validFrom (-1) (es.foldl (stp keep) (fr, ins, set)).2.2 = true ∧
    ∀ d, mem (es.foldl (stp keep) (fr, ins, set)).2.2 d = (mem set d || (cur keep es ins d && (!ins || decide (fr ≤ d)))) := by
  intro es
  induction es with
  | nil =>
    intro fr ins set p _ hv _ _ hc
    have := hc 65536 (by omega)
    rw [cur] at this
    subst this
    exact ⟨hv, fun d => by simp [cur]⟩
  | cons e es ih =>
    intro fr ins set p ha hv hl hi hc
    obtain ⟨d0, a, b⟩ := e
    obtain ⟨h1, h2, h3⟩ := ha
    dsimp only at h1 h2 h3
    have hc' : ∀ d, 65536 ≤ d → cur keep es (keep a b) d = false := fun d hd => by
      have := hc d hd
      rw [cur, if_pos (by dsimp only; omega)] at this
      exact this
    rw [List.foldl_cons]
    have hcur : ∀ d, cur keep ((d0, a, b) :: es) ins d = if d0 ≤ d then cur keep es (keep a b) d else ins := fun d => rfl
    cases ins with
    | false =>
      cases hk : keep a b with
      | false =>
        rw [hk] at hc'
        have e1 : stp keep (fr, false, set) (d0, a, b) = (fr, false, set) := by simp [stp, hk]
        rw [e1]
        obtain ⟨i1, i2⟩ := ih fr false set d0 h3 hv (by omega) (fun h => by cases h) hc'
        refine ⟨i1, fun d => ?_⟩
        rw [i2, hcur, hk]
        split
        · rfl
        · rename_i hd
          rw [cur_low h3 (by omega)]
      | true =>
        rw [hk] at hc'
        have e1 : stp keep (fr, false, set) (d0, a, b) = (d0, true, set) := by simp [stp, hk]
        rw [e1]
        obtain ⟨i1, i2⟩ := ih d0 true set d0 h3 hv (by omega) (fun _ => ⟨by omega, by omega⟩) hc'
        refine ⟨i1, fun d => ?_⟩
        rw [i2, hcur, hk]
        split
        · rename_i hd; simp [hd]
        · rename_i hd; simp [hd]
    | true =>
      have hi' := hi rfl
      cases hk : keep a b with
      | false =>
        rw [hk] at hc'
        have e1 : stp keep (fr, true, set) (d0, a, b) = (fr, false, set ++ [(fr, d0)]) := by simp [stp, hk]
        rw [e1]
        obtain ⟨i1, i2⟩ := ih fr false (set ++ [(fr, d0)]) d0 h3 (validFrom_snoc.2 ⟨hv, hi'.1, by dsimp only; omega, h2⟩) (by rw [lastTo_snoc]; dsimp only; omega) (fun h => by cases h) hc'
        refine ⟨i1, fun d => ?_⟩
        rw [i2, hcur, hk, mem_append, mem_cons, mem_nil]
        split
        · rename_i hd; simp [show ¬ d < d0 by omega, show fr ≤ d by omega]
        · rename_i hd
          rw [cur_low h3 (by omega)]
          simp [show d < d0 by omega]
      | true =>
        rw [hk] at hc'
        have e1 : stp keep (fr, true, set) (d0, a, b) = (fr, true, set) := by simp [stp, hk]
        rw [e1]
        obtain ⟨i1, i2⟩ := ih fr true set d0 h3 hv (by omega) (fun _ => ⟨hi'.1, by omega⟩) hc'
        refine ⟨i1, fun d => ?_⟩
        rw [i2, hcur, hk]
        split
        · rfl
        · rename_i hd
          rw [cur_low h3 (by omega)]

/-- The changes of two sets. -/
def chg (a b : Sps) : List Ev := evs (bl a) (bl b) false false

/-- **What choose answers is the set of the days whose membership is kept.** -/
theorem choose_set (keep : Bool → Bool → Bool) (hk : keep false false = false) (a b : Sps) (ha : validB a = true) (hb : validB b = true) :
    IsSet (fun d => keep (mem a d) (mem b d)) (run keep (chg a b)).2.2 := by
  have xa := asc_bl ha
  have xb := asc_bl hb
  have e1 := evs_asc _ (bl a) (bl b) false false (-1) rfl xa xb
  have hm : ∀ d, cur keep (evs (bl a) (bl b) false false) false d = keep (mem a d) (mem b d) := fun d => by
    have := cur_at keep (evs (bl a) (bl b) false false) false false d
    rw [hk] at this
    rw [this, evs_at _ (bl a) (bl b) false false (-1) d rfl xa xb, mb_bl ha, mb_bl hb]
  have big : ∀ l, validB l = true → ∀ d, 65536 ≤ d → mem l d = false := fun l hl d hd => by
    rw [← Bool.not_eq_true]; intro x; have := mem_bd hl d x; omega
  obtain ⟨r1, r2⟩ := run_rest keep (evs (bl a) (bl b) false false) 0 false [] (-1) e1 rfl (by rw [lastTo_nil]; omega) (fun h => by cases h)
    (fun d hd => by rw [hm, big a ha d hd, big b hb d hd, hk])
  refine ⟨r1, fun d => ?_⟩
  have := r2 d
  rw [mem_nil, hm] at this
  simpa [run, chg] using this

theorem bl_length (l : Sps) : (bl l).length = 2 * l.length := by
  induction l with
  | nil => rfl
  | cons s l ih => rw [bl, List.length_cons, List.length_cons, ih, List.length_cons]; omega

theorem evs_length : ∀ (n : Nat) (xs ys : List Int) (pa pb : Bool), xs.length + ys.length = n → (evs xs ys pa pb).length ≤ n := by
  intro n
  induction n using Nat.strongRecOn with
  | _ n ih =>
    intro xs ys pa pb hn
    cases xs with
    | nil =>
      cases ys with
      | nil => rw [evs]; simp
      | cons y ys =>
        rw [evs]
        have := ih ([] ++ ys).length (by simp at hn ⊢; omega) [] ys pa (!pb) (by simp)
        simp at hn this ⊢; omega
    | cons x xs =>
      cases ys with
      | nil =>
        rw [evs]
        have := ih xs.length (by simp at hn ⊢; omega) xs [] (!pa) pb (by simp)
        simp at hn this ⊢; omega
      | cons y ys =>
        rw [evs]
        simp only [List.length_cons] at hn
        split
        · have := ih _ (by simp; omega) xs (y :: ys) (!pa) pb rfl
          simp at this ⊢; omega
        · split
          · have := ih _ (by simp; omega) (x :: xs) ys pa (!pb) rfl
            simp at this ⊢; omega
          · have := ih _ (by omega) xs ys (!pa) (!pb) rfl
            simp at this ⊢; omega

/-- The border with number i. -/
def bord (l : Sps) (i : Nat) : Int := if i % 2 = 0 then (l.getD (i / 2) (0, 0)).1 else (l.getD (i / 2) (0, 0)).2

theorem bl_drop (l : Sps) : ∀ i, i < 2 * l.length → (bl l).drop i = bord l i :: (bl l).drop (i + 1) := by
  induction l with
  | nil => intro i hi; simp at hi
  | cons s l ih =>
    intro i hi
    rcases i with _ | _ | i
    · rfl
    · rfl
    · have := ih i (by simp at hi; omega)
      rw [bl, List.drop_succ_cons, List.drop_succ_cons, List.drop_succ_cons, List.drop_succ_cons, this]
      congr 1
      unfold bord
      rw [show (i + 1 + 1) % 2 = i % 2 by omega, show (i + 1 + 1) / 2 = i / 2 + 1 by omega]
      rfl

theorem bl_end (l : Sps) (i : Nat) (h : 2 * l.length ≤ i) : (bl l).drop i = [] := List.drop_eq_nil_of_le (by rw [bl_length]; omega)

theorem asc_mem {p x : Int} {l : List Int} (h : asc p l) (hx : x ∈ l) : p < x ∧ x ≤ 65536 := by
  induction l generalizing p with
  | nil => cases hx
  | cons y l ih =>
    rcases List.mem_cons.1 hx with rfl | hx
    · exact ⟨h.1, h.2.1⟩
    · have := ih h.2.2 hx; have := h.1; omega

theorem bord_bd {l : Sps} (h : validB l = true) {i : Nat} (hi : i < 2 * l.length) : 0 ≤ bord l i ∧ bord l i ≤ 65536 := by
  have := asc_mem (asc_bl h) (x := bord l i) (List.mem_of_mem_drop (i := i) (by rw [bl_drop l i hi]; simp))
  omega

theorem evs_nn (pa pb : Bool) : evs [] [] pa pb = [] := by rw [evs]
theorem evs_xn (x : Int) (xs : List Int) (pa pb : Bool) : evs (x :: xs) [] pa pb = (x, !pa, pb) :: evs xs [] (!pa) pb := by rw [evs]
theorem evs_ny (y : Int) (ys : List Int) (pa pb : Bool) : evs [] (y :: ys) pa pb = (y, pa, !pb) :: evs [] ys pa (!pb) := by rw [evs]
theorem evs_lt {x y : Int} (h : x < y) (xs ys : List Int) (pa pb : Bool) : evs (x :: xs) (y :: ys) pa pb = (x, !pa, pb) :: evs xs (y :: ys) (!pa) pb := by rw [evs, if_pos h]
theorem evs_gt {x y : Int} (h : y < x) (xs ys : List Int) (pa pb : Bool) : evs (x :: xs) (y :: ys) pa pb = (y, pa, !pb) :: evs (x :: xs) ys pa (!pb) := by rw [evs, if_neg (by omega), if_pos h]
theorem evs_eq (x : Int) (xs ys : List Int) (pa pb : Bool) : evs (x :: xs) (x :: ys) pa pb = (x, !pa, !pb) :: evs xs ys (!pa) (!pb) := by rw [evs, if_neg (by omega), if_neg (by omega)]

end Sp

namespace Sp

/-- The union of two sets. -/
def un (a b : Sps) : Sps := (run (fun x y => x || y) (chg a b)).2.2
theorem un_set {a b : Sps} (ha : validB a = true) (hb : validB b = true) : IsSet (fun d => mem a d || mem b d) (un a b) := choose_set (fun x y => x || y) rfl a b ha hb
theorem un_len (a b : Sps) : (un a b).length ≤ 2 * a.length + 2 * b.length := by
  unfold un
  have h1 := run_length (fun x y => x || y) (chg a b)
  have h2 := evs_length _ (bl a) (bl b) false false rfl
  unfold chg at h1 ⊢
  rw [bl_length, bl_length] at h2
  omega

/-- A case. -/
structure Cs where
  el : Bool
  st : Int
  opened : Int
  days : Int
  choice : Int
  level : Int
  due : Int
  hold : Bool
  since : Int
  held : Sps

/-- A filing. -/
structure Fl where
  kind : Int
  day : Int
  case : Int
  n : Int
  til : Int
  hold : Bool

/-- How many spans may have been held by a level. -/
def hb (k : Int) : Nat := if k ≤ 0 then 0 else if k ≤ 1 then 2 else if k ≤ 2 then 6 else 14
theorem hb_mono {a b : Int} (h : a ≤ b) : hb a ≤ hb b := by unfold hb; (repeat' split) <;> omega

/-- What is true of a case throughout. -/
structure Cs.Ok (c : Cs) : Prop where
  vh : validB c.held = true
  st : 1 ≤ c.st ∧ c.st ≤ 5
  days : 1 ≤ c.days ∧ c.days ≤ 400
  lev : 0 ≤ c.level ∧ c.level ≤ 3
  lev2 : c.st = 2 → c.level ≤ 2
  lev3 : c.st = 3 → 1 ≤ c.level
  due : 0 ≤ c.due ∧ c.due ≤ 66302
  due1 : c.st = 1 → c.due ≤ 65535
  due2 : c.st = 2 → c.due ≤ 66301
  due3 : c.st = 3 → c.due ≤ 65900
  hold : c.hold = true → c.st = 3 ∧ 0 ≤ c.since ∧ c.since ≤ 65535
  len : c.held.length ≤ hb (if c.hold then c.level - 1 else c.level)

theorem hb_max {k : Int} : hb k ≤ 14 := by unfold hb; (repeat' split) <;> omega
/-- What a hold needs, whatever the state. -/
structure Cs.HOk (c : Cs) : Prop where
  vh : validB c.held = true
  hold : c.hold = true → 0 ≤ c.since ∧ c.since ≤ 65535
  len : c.held.length ≤ 14
theorem Cs.Ok.h {c : Cs} (h : c.Ok) : c.HOk := ⟨h.vh, fun e => (h.hold e).2, Nat.le_trans h.len hb_max⟩

/-- The days on which payments were held before a day. -/
def heldP (c : Cs) (d : Int) : Sps := if c.hold = true ∧ c.since < d then un c.held [(c.since, min d 65536)] else c.held
theorem heldP_valid {c : Cs} (h : c.Ok) (d : Int) : validB (heldP c d) = true := by
  unfold heldP
  split
  · rename_i hh
    have := h.hold hh.1
    exact (un_set h.vh (by unfold validB; rw [validFrom_cons]; dsimp only; exact ⟨by omega, by omega, by omega, rfl⟩)).valid
  · exact h.vh
theorem heldP_len {c : Cs} (h : c.Ok) (d : Int) : (heldP c d).length ≤ hb c.level := by
  have hl := h.len
  unfold heldP
  split
  · rename_i hh
    have h3 := h.lev3 (h.hold hh.1).1
    have h4 := h.lev
    rw [if_pos hh.1] at hl
    have := un_len c.held [(c.since, min d 65536)]
    simp only [List.length_singleton] at this
    have h5 : 2 * hb (c.level - 1) + 2 ≤ hb c.level := by
      have : c.level = 1 ∨ c.level = 2 ∨ c.level = 3 := by omega
      rcases this with e | e | e <;> rw [e] <;> decide
    omega
  · split at hl
    · exact Nat.le_trans hl (hb_mono (by omega))
    · exact hl

def endHoldP (c : Cs) (d : Int) : Cs := if c.hold = true then { c with held := heldP c d, hold := false, since := 0 } else c
def upholdP (c : Cs) (d : Int) : Cs :=
  let e := endHoldP c d
  if 3 ≤ e.level then { e with st := 4, due := d } else { e with st := 2, due := d + e.days }
def endsP (c : Cs) : Bool := c.st == 1 || c.st == 2 || c.st == 3
def nextP (c : Cs) : Cs := if c.st = 3 then upholdP c (c.due + 1) else { c with st := 4, due := c.due + 1 }
def goP (c : Cs) (d : Int) : Bool := endsP c && decide (c.due < d)
def passP (c : Cs) (d : Int) : Cs := if goP c d = true then (if goP (nextP c) d = true then nextP (nextP c) else nextP c) else c

theorem endHoldP_level (c : Cs) (d : Int) : (endHoldP c d).level = c.level ∧ (endHoldP c d).days = c.days ∧ (endHoldP c d).hold = false ∧ (endHoldP c d).st = c.st ∧ (endHoldP c d).due = c.due ∧ (endHoldP c d).el = c.el ∧ (endHoldP c d).opened = c.opened ∧ (endHoldP c d).choice = c.choice := by
  unfold endHoldP
  split
  · exact ⟨rfl, rfl, rfl, rfl, rfl, rfl, rfl, rfl⟩
  · rename_i h
    exact ⟨rfl, rfl, by simpa using h, rfl, rfl, rfl, rfl, rfl⟩
theorem endHoldP_len {c : Cs} (h : c.Ok) (d : Int) : (endHoldP c d).held.length ≤ hb c.level := by
  unfold endHoldP
  split
  · exact heldP_len h d
  · rename_i hh
    have := h.len
    rwa [if_neg hh] at this
theorem endHoldP_valid {c : Cs} (h : c.Ok) (d : Int) : validB (endHoldP c d).held = true := by
  unfold endHoldP
  split
  · exact heldP_valid h d
  · exact h.vh
theorem upholdP_ok {c : Cs} (h : c.Ok) (d : Int) (hd : 0 ≤ d ∧ d ≤ 65901) : (upholdP c d).Ok ∧ ((upholdP c d).st = 4 ∨ (upholdP c d).st = 2) := by
  obtain ⟨e1, e2, e3, e4, e5, _⟩ := endHoldP_level c d
  have hl := h.lev
  have hdd := h.days
  have h1 := endHoldP_len h d
  unfold upholdP
  dsimp only
  split
  · refine ⟨⟨endHoldP_valid h d, by simp, by dsimp only; omega, by dsimp only; omega, by simp, by simp, by dsimp only; omega, by simp, by simp, by simp, by dsimp only; rw [e3]; simp, by dsimp only; rw [e3, e1]; exact h1⟩, .inl rfl⟩
  · refine ⟨⟨endHoldP_valid h d, by simp, by dsimp only; omega, by dsimp only; omega, by dsimp only; omega, by simp, by dsimp only; omega, by simp, by dsimp only; omega, by simp, by dsimp only; rw [e3]; simp, by dsimp only; rw [e3, e1]; exact h1⟩, .inr rfl⟩
theorem endsP_iff (c : Cs) : endsP c = true ↔ c.st = 1 ∨ c.st = 2 ∨ c.st = 3 := by
  unfold endsP; simp [or_assoc]
theorem nextP_ok {c : Cs} (h : c.Ok) (he : endsP c = true) : (nextP c).Ok ∧ ((nextP c).st = 4 ∨ (nextP c).st = 2 ∧ c.st = 3) := by
  unfold nextP
  have hst := (endsP_iff c).1 he
  have hdue := h.due
  split
  · rename_i h3
    have := h.due3 h3
    obtain ⟨h1, h2⟩ := upholdP_ok h (c.due + 1) (by omega)
    exact ⟨h1, h2.imp id fun h => ⟨h, h3⟩⟩
  · rename_i h3
    have hh : c.hold = false := by
      rw [← Bool.not_eq_true]; intro h4; exact h3 (h.hold h4).1
    have hd : c.due ≤ 66301 := by
      rcases hst with h4 | h4 | h4
      · have := h.due1 h4; omega
      · exact h.due2 h4
      · exact absurd h4 h3
    refine ⟨⟨h.vh, by simp, h.days, h.lev, by simp, by simp, by dsimp only; omega, by simp, by simp, by simp, by dsimp only; rw [hh]; simp, h.len⟩, .inl rfl⟩
theorem goP_iff (c : Cs) (d : Int) : goP c d = true ↔ endsP c = true ∧ c.due < d := by unfold goP; simp
theorem passP_next {c : Cs} (h : c.Ok) {d : Int} (hg : goP c d = true) : passP (nextP c) d = passP c d := by
  have he := (goP_iff c d).1 hg
  have hn := nextP_ok h he.1
  unfold passP
  rw [if_pos hg]
  by_cases h1 : goP (nextP c) d = true
  · rw [if_pos h1]
    have he1 := ((goP_iff _ d).1 h1).1
    have hn1 := nextP_ok hn.1 he1
    have h2 : ¬ goP (nextP (nextP c)) d = true := by
      intro h3
      have h4 := (endsP_iff _).1 ((goP_iff _ d).1 h3).1
      have h5 := (endsP_iff _).1 he1
      rcases hn1.2 with h6 | h6
      · omega
      · rcases hn.2 with h7 | h7 <;> omega
    rw [if_neg h2, if_pos h1]
  · rw [if_neg h1, if_neg h1]
theorem passP_stop {c : Cs} {d : Int} (h : ¬ goP c d = true) : passP c d = c := by unfold passP; rw [if_neg h]
theorem passP_ok {c : Cs} (h : c.Ok) (d : Int) : (passP c d).Ok := by
  unfold passP
  split
  · rename_i hg
    have h1 := (nextP_ok h ((goP_iff c d).1 hg).1).1
    split
    · rename_i hg1
      exact (nextP_ok h1 ((goP_iff _ d).1 hg1).1).1
    · exact h1
  · exact h
/-- How many times the state of a case may still end by itself. -/
def rankP (st : Int) : Nat := if st = 3 then 2 else if st = 1 ∨ st = 2 then 1 else 0
theorem rankP_next {c : Cs} (h : c.Ok) (he : endsP c = true) : rankP (nextP c).st < rankP c.st := by
  have hst := (endsP_iff c).1 he
  have hn := (nextP_ok h he).2
  unfold rankP
  rcases hn with h1 | ⟨h1, h2⟩
  · rw [h1]
    rcases hst with h4 | h4 | h4 <;> rw [h4] <;> decide
  · rw [h1, h2]; decide

end Sp

namespace Sp

/-- The days of spans that are less than a day. -/
def bef : Sps → Int → Int
  | [], _ => 0
  | s :: l, d => (if s.1 < d then min s.2 d - s.1 else 0) + bef l d

theorem bef_snoc (l : Sps) (s : Int × Int) (d : Int) : bef (l ++ [s]) d = bef l d + (if s.1 < d then min s.2 d - s.1 else 0) := by
  induction l with
  | nil => simp [bef]
  | cons t l ih => rw [List.cons_append, bef, bef, ih]; omega

theorem bef_bd {l : Sps} : ∀ {p : Int}, validFrom p l = true → ∀ d, 0 ≤ bef l d ∧ (p ≤ 65536 → bef l d ≤ 65536 - p) := by
  induction l with
  | nil => intro p _ d; exact ⟨by simp [bef], fun h => by simp [bef]; omega⟩
  | cons s l ih =>
    intro p h d
    rw [validFrom_cons] at h
    have := ih h.2.2.2 d
    rw [bef]
    split <;> omega

theorem take_succ_snoc {l : Sps} {k : Nat} (h : k < l.length) : l.take (k + 1) = l.take k ++ [l[k]] := List.take_succ_eq_append_getElem h

theorem valid_take {l : Sps} (h : validB l = true) (k : Nat) : validB (l.take k) = true := by
  unfold validB at *
  rw [← List.take_append_drop k l, validFrom_append] at h
  exact h.1

theorem valid_get {l : Sps} (h : validB l = true) {k : Nat} (hk : k < l.length) : 0 ≤ l[k].1 ∧ l[k].1 < l[k].2 ∧ l[k].2 ≤ 65536 := by
  have h1 := valid_take h (k + 1)
  unfold validB at h1
  rw [take_succ_snoc hk, validFrom_snoc] at h1
  have h2 : (-1 : Int) ≤ lastTo (-1) (l.take k) := by
    by_cases h0 : l.take k = []
    · rw [h0, lastTo_nil]; omega
    · obtain ⟨s, t, e⟩ := List.exists_cons_of_ne_nil h0
      have h3 := h1.1
      have h4 : mem (l.take k) s.1 = true := by rw [e] at h3 ⊢; rw [validFrom_cons] at h3; rw [mem_cons_iff]; left; omega
      have := mem_last h3 _ h4
      have := mem_bd h3 _ h4
      omega
  omega

/-- The day with number n. -/
def nth : Sps → Int → Option Int
  | [], _ => none
  | s :: l, n => if n < s.2 - s.1 then some (s.1 + n) else nth l (n - (s.2 - s.1))

end Sp

namespace Sp

/-- A filing is well-formed. -/
def wf (f : Fl) : Bool :=
  (decide (0 ≤ f.day) && decide (f.day ≤ 65535)) &&
    (if f.kind = 1 then f.case == 0 && !f.hold && (decide (2 ≤ f.n) && decide (f.n ≤ 9)) && (decide (f.day ≤ f.til) && decide (f.til ≤ 65535))
     else if f.kind = 4 then f.case == 0 && f.til == 0 && !f.hold && (decide (1 ≤ f.n) && decide (f.n ≤ 400))
     else decide (1 ≤ f.case) && (f.til == 0 &&
       (if f.kind = 2 then !f.hold && (decide (1 ≤ f.n) && decide (f.n ≤ 9))
        else if f.kind = 3 ∨ f.kind = 7 then f.n == 0 && !f.hold
        else if f.kind = 5 then f.n == 0
        else if f.kind = 6 then !f.hold && (f.n == 1 || f.n == 2)
        else false)))

/-- What numbers a filing in memory may hold. -/
structure Fl.Bd (f : Fl) : Prop where
  kind : 0 ≤ f.kind ∧ f.kind ≤ 255
  day : -9223372036854775808 ≤ f.day ∧ f.day ≤ 9223372036854775807
  case : -9223372036854775808 ≤ f.case ∧ f.case ≤ 9223372036854775807
  n : -9223372036854775808 ≤ f.n ∧ f.n ≤ 9223372036854775807
  til : -9223372036854775808 ≤ f.til ∧ f.til ≤ 9223372036854775807

/-- What wellFormed says, kind by kind. -/
structure Fl.Wf (f : Fl) : Prop where
  day : 0 ≤ f.day ∧ f.day ≤ 65535
  kind : 1 ≤ f.kind ∧ f.kind ≤ 7
  k1 : f.kind = 1 → f.case = 0 ∧ f.hold = false ∧ 2 ≤ f.n ∧ f.n ≤ 9 ∧ f.day ≤ f.til ∧ f.til ≤ 65535
  k4 : f.kind = 4 → f.case = 0 ∧ f.til = 0 ∧ f.hold = false ∧ 1 ≤ f.n ∧ f.n ≤ 400
  kc : f.kind ≠ 1 → f.kind ≠ 4 → 1 ≤ f.case ∧ f.til = 0
  k2 : f.kind = 2 → f.hold = false ∧ 1 ≤ f.n ∧ f.n ≤ 9
  k37 : f.kind = 3 ∨ f.kind = 7 → f.n = 0 ∧ f.hold = false
  k5 : f.kind = 5 → f.n = 0
  k6 : f.kind = 6 → f.hold = false ∧ (f.n = 1 ∨ f.n = 2)

theorem wf_iff (f : Fl) : wf f = true ↔ f.Wf := by
  unfold wf
  constructor
  · intro h
    simp only [Bool.and_eq_true, decide_eq_true_eq] at h
    obtain ⟨h0, h1⟩ := h
    split at h1
    · rename_i e
      simp only [Bool.and_eq_true, decide_eq_true_eq, beq_iff_eq, Bool.not_eq_true'] at h1
      exact ⟨h0, by omega, fun _ => by simp [h1], fun _ => by omega, fun h => absurd e h, fun _ => by omega, fun _ => by omega, fun _ => by omega, fun _ => by omega⟩
    · rename_i e
      split at h1
      · rename_i e4
        simp only [Bool.and_eq_true, decide_eq_true_eq, beq_iff_eq, Bool.not_eq_true'] at h1
        exact ⟨h0, by omega, fun _ => by omega, fun _ => by simp [h1], fun _ h => absurd e4 h, fun _ => by omega, fun _ => by omega, fun _ => by omega, fun _ => by omega⟩
      · rename_i e4
        simp only [Bool.and_eq_true, decide_eq_true_eq, beq_iff_eq] at h1
        obtain ⟨hc, ht, h2⟩ := h1
        split at h2
        · simp only [Bool.and_eq_true, decide_eq_true_eq, Bool.not_eq_true'] at h2
          exact ⟨h0, by omega, fun _ => by omega, fun _ => by omega, fun _ _ => ⟨hc, ht⟩, fun _ => by simp [h2], fun _ => by omega, fun _ => by omega, fun _ => by omega⟩
        · split at h2
          · simp only [Bool.and_eq_true, beq_iff_eq, Bool.not_eq_true'] at h2
            exact ⟨h0, by omega, fun _ => by omega, fun _ => by omega, fun _ _ => ⟨hc, ht⟩, fun _ => by omega, fun _ => by simp [h2], fun _ => by omega, fun _ => by omega⟩
          · split at h2
            · simp only [beq_iff_eq] at h2
              exact ⟨h0, by omega, fun _ => by omega, fun _ => by omega, fun _ _ => ⟨hc, ht⟩, fun _ => by omega, fun _ => by omega, fun _ => h2, fun _ => by omega⟩
            · split at h2
              · simp only [Bool.and_eq_true, Bool.or_eq_true, beq_iff_eq, Bool.not_eq_true'] at h2
                exact ⟨h0, by omega, fun _ => by omega, fun _ => by omega, fun _ _ => ⟨hc, ht⟩, fun _ => by omega, fun _ => by omega, fun _ => by omega, fun _ => h2⟩
              · cases h2
  · rintro ⟨h0, hk, k1, k4, kc, k2, k37, k5, k6⟩
    simp only [Bool.and_eq_true, decide_eq_true_eq]
    refine ⟨h0, ?_⟩
    split
    · rename_i e
      have := k1 e
      simp [this]
    · rename_i e
      split
      · rename_i e4
        have := k4 e4
        simp [this]
      · rename_i e4
        have := kc e e4
        split
        · rename_i e2
          have := k2 e2
          simp [*]
        · split
          · rename_i e2
            have := k37 e2
            simp [*]
          · split
            · rename_i e2
              have := k5 e2
              simp [*]
            · split
              · rename_i e2
                have := k6 e2
                simp [*]
              · omega

/-- The case that a filing opens. -/
def newCase (f : Fl) : Cs := if f.kind = 1 then ⟨true, 1, f.day, f.n, 1, 0, f.til, false, 0, []⟩ else ⟨false, 2, f.day, f.n, 0, 0, f.day + f.n, false, 0, []⟩
/-- The state that a filing about a case requires. -/
def needP (k : Int) : Int := if k = 2 ∨ k = 3 then 1 else if k = 5 then 2 else 3
/-- What an accepted filing makes of its case. -/
def effP (f : Fl) (c : Cs) : Cs :=
  if f.kind = 2 then { c with choice := f.n }
  else if f.kind = 3 then { c with st := 4, due := f.day }
  else if f.kind = 5 then (if f.hold = true then { c with st := 3, due := f.day + 365, level := c.level + 1, hold := true, since := f.day } else { c with st := 3, due := f.day + 365, level := c.level + 1 })
  else if f.kind = 6 then (if f.n = 1 then upholdP c f.day else endHoldP { c with st := 5, due := f.day } f.day)
  else endHoldP { c with st := 4, due := f.day } f.day

def opensP (f : Fl) : Bool := f.kind == 1 || f.kind == 4
/-- The case of a filing, on its day. -/
def ownP (L : List Cs) (f : Fl) : Cs := passP (L.getD (f.case.toNat - 1) (newCase f)) f.day
/-- The error of a well-formed filing on a day that is not too early. -/
def errL (L : List Cs) (f : Fl) : Int :=
  if opensP f = true then (if 100 ≤ L.length then 4 else 0)
  else if (L.length : Int) < f.case then 6
  else if (ownP L f).st ≠ needP f.kind then 401
  else if f.kind = 2 ∧ (ownP L f).days < f.n then 402 else 0
/-- The cases behind a filing that is accepted. -/
def effL (L : List Cs) (f : Fl) : List Cs :=
  if opensP f = true then L ++ [newCase f] else L.set (f.case.toNat - 1) (effP f (ownP L f))

/-- What a docket has led to: how many filings, the cases as of the last accepted filing about each, the day of the last accepted filing. -/
structure Dk where
  num : Nat
  cs : List Cs
  last : Int

def errD (D : Dk) (f : Fl) : Int :=
  if 1000 ≤ D.num then 5 else if wf f = true then (if f.day < D.last then 400 else errL D.cs f) else 2
def stepD (D : Dk) (f : Fl) : Dk := if errD D f = 0 then ⟨D.num + 1, effL D.cs f, f.day⟩ else ⟨D.num + 1, D.cs, D.last⟩
def runD (l : List Fl) : Dk := l.foldl stepD ⟨0, [], -1⟩
def errsFrom (D : Dk) : List Fl → List Int
  | [] => []
  | f :: l => errD D f :: errsFrom (stepD D f) l
def errsD (l : List Fl) : List Int := errsFrom ⟨0, [], -1⟩ l

theorem runD_snoc (l : List Fl) (f : Fl) : runD (l ++ [f]) = stepD (runD l) f := by unfold runD; rw [List.foldl_append]; rfl
theorem errsFrom_snoc (D : Dk) (l : List Fl) (f : Fl) : errsFrom D (l ++ [f]) = errsFrom D l ++ [errD (l.foldl stepD D) f] := by
  induction l generalizing D with
  | nil => rfl
  | cons g l ih => rw [List.cons_append, errsFrom, ih]; rfl
theorem errsD_snoc (l : List Fl) (f : Fl) : errsD (l ++ [f]) = errsD l ++ [errD (runD l) f] := errsFrom_snoc _ l f
theorem errsFrom_length (D : Dk) (l : List Fl) : (errsFrom D l).length = l.length := by
  induction l generalizing D with
  | nil => rfl
  | cons g l ih => rw [errsFrom, List.length_cons, ih]; rfl
theorem errsD_length (l : List Fl) : (errsD l).length = l.length := errsFrom_length _ l
theorem errsFrom_append (D : Dk) (a b : List Fl) : errsFrom D (a ++ b) = errsFrom D a ++ errsFrom (a.foldl stepD D) b := by
  induction a generalizing D with
  | nil => rfl
  | cons g l ih => rw [List.cons_append, errsFrom, ih]; rfl
theorem errsD_get (l : List Fl) (i : Nat) (h : i < l.length) (h2 : i < (errsD l).length) : (errsD l)[i] = errD (runD (l.take i)) l[i] := by
  have e : l = l.take i ++ l[i] :: l.drop (i + 1) := by rw [List.getElem_cons_drop, List.take_append_drop]
  have h3 : errsD l = errsD (l.take i) ++ errD (runD (l.take i)) l[i] :: errsFrom (stepD (runD (l.take i)) l[i]) (l.drop (i + 1)) := by
    conv => lhs; rw [e]
    exact errsFrom_append _ _ _
  simp only [h3]
  rw [List.getElem_append_right (by rw [errsD_length]; simp; omega)]
  simp [errsD_length, Nat.min_eq_left (Nat.le_of_lt h)]

/-- What is true of a docket throughout. -/
structure Dk.Ok (D : Dk) : Prop where
  cs : ∀ c ∈ D.cs, c.Ok
  len : D.cs.length ≤ 100
  last : -1 ≤ D.last ∧ D.last ≤ 65535

theorem newCase_ok {f : Fl} (h : f.Wf) (ho : opensP f = true) : (newCase f).Ok := by
  have h0 := h.day
  unfold newCase
  split
  · rename_i e
    have := h.k1 e
    exact ⟨rfl, by simp, by dsimp only; omega, by simp, by simp, by simp, by dsimp only; omega, by dsimp only; omega, by simp, by simp, by simp, by simp⟩
  · rename_i e
    unfold opensP at ho
    simp at ho
    have := h.k4 (by omega)
    exact ⟨rfl, by simp, by dsimp only; omega, by simp, by simp, by simp, by dsimp only; omega, by simp, by dsimp only; omega, by simp, by simp, by simp⟩

theorem effP_ok {f : Fl} (h : f.Wf) (_ho : opensP f = false) {c : Cs} (hc : c.Ok) (hst : c.st = needP f.kind) : (effP f c).Ok := by
  have h0 := h.day
  have hk := h.kind
  have hl := hc.lev
  have hd := hc.days
  have hdu := hc.due
  have hsn : c.st ≠ 3 → c.hold = false := by
    intro h3; rw [← Bool.not_eq_true]; intro h4; exact h3 (hc.hold h4).1
  unfold opensP at _ho
  simp at _ho
  unfold effP
  split
  · exact ⟨hc.vh, hc.st, hc.days, hc.lev, hc.lev2, hc.lev3, hc.due, hc.due1, hc.due2, hc.due3, hc.hold, hc.len⟩
  · split
    · rename_i _ e
      have h1 : c.hold = false := hsn (by rw [hst, e]; decide)
      refine ⟨hc.vh, by simp, hc.days, hc.lev, by simp, by simp, by dsimp only; omega, by simp, by simp, by simp, by dsimp only; rw [h1]; simp, hc.len⟩
    · split
      · rename_i _ _ e
        have h2 : c.st = 2 := by rw [hst, e]; decide
        have h1 : c.hold = false := hsn (by omega)
        have h3 := hc.lev2 h2
        have h4 := hc.len
        rw [if_neg (by rw [h1]; decide)] at h4
        split
        · refine ⟨hc.vh, by simp, hc.days, by dsimp only; omega, by simp, by intro _; dsimp only; omega, by dsimp only; omega, by simp, by simp, by intro _; dsimp only; omega, by intro _; dsimp only; omega, ?_⟩
          dsimp only
          rw [if_pos rfl, Int.add_sub_cancel]; exact h4
        · refine ⟨hc.vh, by simp, hc.days, by dsimp only; omega, by simp, by intro _; dsimp only; omega, by dsimp only; omega, by simp, by simp, by intro _; dsimp only; omega, by dsimp only; rw [h1]; simp, ?_⟩
          dsimp only
          rw [h1, if_neg (by decide)]
          exact Nat.le_trans h4 (hb_mono (by omega))
      · have h3 : c.st = 3 := by
          rw [hst]; unfold needP
          rw [if_neg (by omega), if_neg (by omega)]
        have key : ∀ x : Int, x = 4 ∨ x = 5 → (endHoldP { c with st := x, due := f.day } f.day).Ok := by
          intro x hx
          have e := endHoldP_level { c with st := x, due := f.day } f.day
          have eh : (endHoldP { c with st := x, due := f.day } f.day).held = (endHoldP c f.day).held := by
            unfold endHoldP heldP; dsimp only; split <;> rfl
          refine ⟨by rw [eh]; exact endHoldP_valid hc _, by rw [e.2.2.2.1]; dsimp only; omega, by rw [e.2.1]; exact hd, by rw [e.1]; exact hl, by rw [e.2.2.2.1]; dsimp only; omega, by rw [e.2.2.2.1]; dsimp only; omega, by rw [e.2.2.2.2.1]; dsimp only; omega,
            by rw [e.2.2.2.1]; dsimp only; omega, by rw [e.2.2.2.1]; dsimp only; omega, by rw [e.2.2.2.1]; dsimp only; omega, by rw [e.2.2.1]; simp, ?_⟩
          rw [e.2.2.1, if_neg (by decide), e.1, eh]
          exact endHoldP_len hc _
        split
        · split
          · exact (upholdP_ok hc _ (by omega)).1
          · exact key 5 (.inr rfl)
        · exact key 4 (.inl rfl)

theorem ownP_ok {D : Dk} (h : D.Ok) {f : Fl} (h1 : 1 ≤ f.case) (h2 : f.case ≤ D.cs.length) : (ownP D.cs f).Ok := by
  unfold ownP
  refine passP_ok (h.cs _ ?_) _
  rw [List.getD_eq_getElem?_getD, List.getElem?_eq_getElem (by omega)]
  exact List.getElem_mem _

/-- What an accepted filing about a case says. -/
theorem errL_own {L : List Cs} {f : Fl} (ho : opensP f = false) (he : errL L f = 0) : f.case ≤ L.length ∧ (ownP L f).st = needP f.kind ∧ (f.kind = 2 → f.n ≤ (ownP L f).days) := by
  unfold errL at he
  rw [if_neg (by rw [ho]; decide)] at he
  split at he
  · omega
  · split at he
    · omega
    · rename_i h1 h2
      refine ⟨by omega, by simpa using h2, fun h3 => ?_⟩
      split at he
      · omega
      · rename_i h4
        omega

theorem stepD_ok {D : Dk} (h : D.Ok) (f : Fl) : (stepD D f).Ok := by
  unfold stepD
  split
  · rename_i he
    unfold errD at he
    split at he
    · omega
    · split at he
      · rename_i hw
        have W := (wf_iff f).1 hw
        have hd := W.day
        split at he
        · omega
        · unfold effL
          cases ho : opensP f with
          | true =>
            unfold errL at he
            rw [if_pos ho] at he
            rw [if_pos rfl]
            refine ⟨fun c hc => ?_, ?_, by dsimp only; omega⟩
            · rcases List.mem_append.1 hc with hc | hc
              · exact h.cs c hc
              · rw [List.mem_singleton.1 hc]; exact newCase_ok W ho
            · dsimp only
              rw [List.length_append, List.length_singleton]
              split at he
              · omega
              · omega
          | false =>
            obtain ⟨h1, h2, h3⟩ := errL_own ho he
            unfold opensP at ho
            have hc := W.kc (by intro e; rw [e] at ho; simp at ho) (by intro e; rw [e] at ho; simp at ho)
            rw [if_neg (by decide)]
            refine ⟨fun c hm => ?_, by dsimp only; rw [List.length_set]; exact h.len, by dsimp only; omega⟩
            rcases List.mem_or_eq_of_mem_set hm with hm | rfl
            · exact h.cs c hm
            · exact effP_ok W ho (ownP_ok h hc.1 h1) h2
      · omega
  · exact ⟨h.cs, h.len, h.last⟩
theorem runD_ok (l : List Fl) : (runD l).Ok := by
  unfold runD
  suffices ∀ D : Dk, D.Ok → (l.foldl stepD D).Ok from this _ ⟨by simp, by simp, by decide⟩
  induction l with
  | nil => intro D h; exact h
  | cons f l ih => intro D h; exact ih _ (stepD_ok h f)
theorem runD_num (l : List Fl) : (runD l).num = l.length := by
  unfold runD
  suffices ∀ D : Dk, (l.foldl stepD D).num = D.num + l.length by simpa using this ⟨0, [], -1⟩
  induction l with
  | nil => intro D; rfl
  | cons f l ih => intro D; rw [List.foldl_cons, ih]; simp only [List.length_cons]; unfold stepD; split <;> dsimp only <;> omega

/-- A case on a day, as At returns it. -/
def atP (c : Cs) (d : Int) : Cs := { passP c d with held := heldP (passP c d) (d + 1) }
/-- The error of At. -/
def atErr (l : List Fl) (d : Int) : Int := if 0 ≤ d ∧ d ≤ 65535 then (if d < (runD l).last then 400 else 0) else 2
def atD (l : List Fl) (d : Int) : List Cs := if atErr l d = 0 then (runD l).cs.map fun c => atP c d else []
/-- The answer of Held. -/
def heldD (l : List Fl) (n d : Int) : Bool :=
  let x := max d (runD l).last
  (decide (0 ≤ x) && decide (x ≤ 65535)) && (decide (1 ≤ n) && decide (n ≤ (runD l).cs.length)) && mem (atP ((runD l).cs.getD (n.toNat - 1) ⟨false, 4, 0, 0, 0, 0, 0, false, 0, []⟩) x).held d
/-- The day on which a case settles. -/
def setlP (c : Cs) : Cs := passP c 100000
end Sp

namespace Sp

theorem passP_done {c : Cs} (h : c.Ok) (d : Int) : goP (passP c d) d = false := by
  unfold passP
  split
  · rename_i hg
    have he := (goP_iff c d).1 hg
    have hn := nextP_ok h he.1
    split
    · rename_i h1
      have he1 := ((goP_iff _ d).1 h1).1
      have hn1 := nextP_ok hn.1 he1
      rw [← Bool.not_eq_true]
      intro h3
      have h4 := (endsP_iff _).1 ((goP_iff _ d).1 h3).1
      have h5 := (endsP_iff _).1 he1
      rcases hn1.2 with h6 | h6
      · omega
      · rcases hn.2 with h7 | h7 <;> omega
    · rename_i h1; simpa using h1
  · rename_i hg; simpa using hg
theorem goP_mono {c : Cs} {d e : Int} (h : d ≤ e) (hg : goP c d = true) : goP c e = true := by
  rw [goP_iff] at *; exact ⟨hg.1, by omega⟩
theorem passP_trans {c : Cs} (h : c.Ok) {d e : Int} (hde : d ≤ e) : passP (passP c d) e = passP c e := by
  by_cases hg : goP c d = true
  · have h1 := (nextP_ok h ((goP_iff c d).1 hg).1).1
    have e1 := passP_next h (goP_mono hde hg)
    by_cases hg1 : goP (nextP c) d = true
    · have e2 : passP c d = nextP (nextP c) := by unfold passP; rw [if_pos hg, if_pos hg1]
      rw [e2, passP_next h1 (goP_mono hde hg1), e1]
    · have e2 : passP c d = nextP c := by unfold passP; rw [if_pos hg, if_neg hg1]
      rw [e2, e1]
  · rw [passP_stop hg]
theorem passP_stay {c : Cs} {d : Int} (h : endsP c = true → d ≤ c.due) : passP c d = c := by
  refine passP_stop fun hg => ?_
  rw [goP_iff] at hg
  have := h hg.1
  omega
theorem passP_due {c : Cs} (h : c.Ok) (d : Int) : endsP (passP c d) = true → d ≤ (passP c d).due := by
  intro he
  have := passP_done h d
  rw [← Bool.not_eq_true, goP_iff] at this
  by_cases hd : (passP c d).due < d
  · exact absurd ⟨he, hd⟩ this
  · omega
/-- From one day to the next one at most one state ends. -/
theorem passP_succ {c : Cs} (h : c.Ok) (d : Int) : passP c (d + 1) = if goP (passP c d) (d + 1) = true then nextP (passP c d) else passP c d := by
  rw [← passP_trans h (show d ≤ d + 1 by omega)]
  have hp := passP_ok h d
  have hdue := passP_due h d
  generalize passP c d = x at *
  split
  · rename_i hg
    have he := (goP_iff _ _).1 hg
    have := hdue he.1
    have e1 : x.due = d := by omega
    have h2 : ¬ goP (nextP x) (d + 1) = true := by
      rw [goP_iff]
      intro h3
      have hn := (nextP_ok hp he.1).2
      have h4 := (endsP_iff _).1 h3.1
      rcases hn with h5 | ⟨h5, h6⟩
      · omega
      · have h7 : (nextP x).due = x.due + 1 + x.days := by
          unfold nextP upholdP at h5 ⊢
          rw [if_pos h6] at h5 ⊢
          dsimp only at h5 ⊢
          split at h5
          · simp at h5
          · rename_i h8
            rw [if_neg h8]
            dsimp only
            rw [(endHoldP_level x _).2.1]
        have := hp.days
        omega
    unfold passP
    rw [if_pos hg, if_neg h2]
  · rename_i hg
    exact passP_stop hg

theorem nextP_same (c : Cs) : (nextP c).el = c.el ∧ (nextP c).opened = c.opened ∧ (nextP c).days = c.days ∧ (nextP c).choice = c.choice ∧ (nextP c).level = c.level := by
  unfold nextP upholdP
  have e := endHoldP_level c (c.due + 1)
  split
  · dsimp only
    split
    · exact ⟨e.2.2.2.2.2.1, e.2.2.2.2.2.2.1, e.2.1, e.2.2.2.2.2.2.2, e.1⟩
    · exact ⟨e.2.2.2.2.2.1, e.2.2.2.2.2.2.1, e.2.1, e.2.2.2.2.2.2.2, e.1⟩
  · exact ⟨rfl, rfl, rfl, rfl, rfl⟩
theorem passP_same (c : Cs) (d : Int) : (passP c d).el = c.el ∧ (passP c d).opened = c.opened ∧ (passP c d).days = c.days ∧ (passP c d).choice = c.choice ∧ (passP c d).level = c.level := by
  unfold passP
  have e1 := nextP_same c
  have e2 := nextP_same (nextP c)
  split
  · split
    · exact ⟨e2.1.trans e1.1, e2.2.1.trans e1.2.1, e2.2.2.1.trans e1.2.2.1, e2.2.2.2.1.trans e1.2.2.2.1, e2.2.2.2.2.trans e1.2.2.2.2⟩
    · exact e1
  · exact ⟨rfl, rfl, rfl, rfl, rfl⟩
theorem atP_held_valid {c : Cs} (h : c.Ok) (d : Int) : validB (atP c d).held = true := heldP_valid (passP_ok h d) _
end Sp

namespace Sp

/-- A filing in small numbers. -/
structure Nt where
  kind : Int
  gap : Int
  case : Int
  n : Int
  hold : Bool
structure Nt.Bd (x : Nt) : Prop where
  kind : 0 ≤ x.kind ∧ x.kind ≤ 255
  gap : 0 ≤ x.gap ∧ x.gap ≤ 255
  case : 0 ≤ x.case ∧ x.case ≤ 255
  n : 0 ≤ x.n ∧ x.n ≤ 255

/-- The day of a note. -/
def bday (d : Int) (x : Nt) : Int := if 240 ≤ x.gap then d + x.gap % 48 + 300 else if x.gap = 239 then d + x.gap % 48 - 1 else d + x.gap % 48
/-- The filing of a note on a day. -/
def noteF (d : Int) (x : Nt) : Fl :=
  if x.kind % 7 = 0 then ⟨1, d, 0, 2 + x.n % 8, d + x.n, false⟩
  else if x.kind % 7 = 3 then ⟨4, d, 0, 1 + x.n, 0, false⟩
  else if x.kind % 7 = 1 then ⟨2, d, 1 + x.case % 4, 1 + x.n % 9, 0, false⟩
  else if x.kind % 7 = 5 then ⟨6, d, 1 + x.case % 4, 1 + x.n % 2, 0, false⟩
  else if x.kind % 7 = 4 then ⟨5, d, 1 + x.case % 4, 0, 0, x.hold⟩
  else ⟨1 + x.kind % 7, d, 1 + x.case % 4, 0, 0, false⟩
def builtFrom (d : Int) : List Nt → List Fl
  | [] => []
  | x :: l => noteF (bday d x) x :: builtFrom (bday d x) l
def bdays (d : Int) (l : List Nt) : Int := l.foldl bday d
def builtP (l : List Nt) : List Fl := builtFrom 0 (l.take 30)
theorem builtFrom_snoc (d : Int) (l : List Nt) (x : Nt) : builtFrom d (l ++ [x]) = builtFrom d l ++ [noteF (bday (bdays d l) x) x] := by
  induction l generalizing d with
  | nil => rfl
  | cons y l ih => rw [List.cons_append, builtFrom, ih]; rfl
theorem bdays_snoc (d : Int) (l : List Nt) (x : Nt) : bdays d (l ++ [x]) = bday (bdays d l) x := by unfold bdays; rw [List.foldl_append]; rfl
theorem builtFrom_length (d : Int) (l : List Nt) : (builtFrom d l).length = l.length := by
  induction l generalizing d with
  | nil => rfl
  | cons y l ih => rw [builtFrom, List.length_cons, ih]; rfl
theorem builtP_len (l : List Nt) : (builtP l).length ≤ 30 := by unfold builtP; rw [builtFrom_length, List.length_take]; omega
theorem bday_bd {d : Int} {x : Nt} (h : x.Bd) (_hd : 0 ≤ d) : d ≤ bday d x ∧ bday d x ≤ d + 347 := by
  have := h.gap
  unfold bday
  split
  · omega
  · split
    · rename_i e; rw [e]; omega
    · omega
theorem bdays_bd {l : List Nt} (h : ∀ x ∈ l, x.Bd) {d : Int} (hd : 0 ≤ d) : d ≤ bdays d l ∧ bdays d l ≤ d + 347 * l.length := by
  induction l generalizing d with
  | nil => simp [bdays]
  | cons y l ih =>
    have h1 := bday_bd (h y (List.mem_cons_self ..)) hd
    have h2 := ih (fun x hx => h x (List.mem_cons_of_mem _ hx)) (d := bday d y) (by omega)
    unfold bdays at h2 ⊢
    rw [List.foldl_cons, List.length_cons]
    omega
theorem noteF_wf {d : Int} {x : Nt} (h : x.Bd) (hd : 0 ≤ d ∧ d ≤ 20000) : (noteF d x).Wf := by
  have h1 := h.kind
  have h2 := h.case
  have h3 := h.n
  have hk : 0 ≤ x.kind % 7 ∧ x.kind % 7 < 7 := by omega
  unfold noteF
  split
  · exact ⟨by dsimp only; omega, by dsimp only; omega, by intro _; dsimp only; exact ⟨rfl, rfl, by omega, by omega, by omega, by omega⟩, by dsimp only; omega, by dsimp only; omega, by dsimp only; omega, by dsimp only; omega, by dsimp only; omega, by dsimp only; omega⟩
  · split
    · exact ⟨by dsimp only; omega, by dsimp only; omega, by dsimp only; omega, by intro _; dsimp only; exact ⟨rfl, rfl, rfl, by omega, by omega⟩, by dsimp only; omega, by dsimp only; omega, by dsimp only; omega, by dsimp only; omega, by dsimp only; omega⟩
    · split
      · exact ⟨by dsimp only; omega, by dsimp only; omega, by dsimp only; omega, by dsimp only; omega, by dsimp only; omega, by intro _; dsimp only; exact ⟨rfl, by omega, by omega⟩, by dsimp only; omega, by dsimp only; omega, by dsimp only; omega⟩
      · split
        · exact ⟨by dsimp only; omega, by dsimp only; omega, by dsimp only; omega, by dsimp only; omega, by dsimp only; omega, by dsimp only; omega, by dsimp only; omega, by dsimp only; omega, by intro _; dsimp only; exact ⟨rfl, by omega⟩⟩
        · split
          · exact ⟨by dsimp only; omega, by dsimp only; omega, by dsimp only; omega, by dsimp only; omega, by dsimp only; omega, by dsimp only; omega, by dsimp only; omega, by dsimp only; omega, by dsimp only; omega⟩
          · exact ⟨by dsimp only; omega, by dsimp only; omega, by dsimp only; omega, by dsimp only; omega, by dsimp only; omega, by dsimp only; omega, by intro _; exact ⟨rfl, rfl⟩, by dsimp only; omega, by dsimp only; omega⟩
theorem noteF_day (d : Int) (x : Nt) : (noteF d x).day = d := by unfold noteF; (repeat' split) <;> rfl
theorem builtFrom_wf {l : List Nt} (h : ∀ x ∈ l, x.Bd) : ∀ {d : Int}, 0 ≤ d → d + 347 * l.length ≤ 20000 → ∀ f ∈ builtFrom d l, f.Wf ∧ f.day ≤ 20000 := by
  induction l with
  | nil => intro d _ _ f hf; cases hf
  | cons y l ih =>
    intro d hd hb f hf
    have h1 := bday_bd (h y (List.mem_cons_self ..)) hd
    rw [List.length_cons] at hb
    rw [builtFrom] at hf
    rcases List.mem_cons.1 hf with rfl | hf
    · exact ⟨noteF_wf (h y (List.mem_cons_self ..)) (by omega), by rw [noteF_day]; omega⟩
    · exact ih (fun x hx => h x (List.mem_cons_of_mem _ hx)) (by omega) (by omega) f hf
theorem builtP_wf {l : List Nt} (h : ∀ x ∈ l, x.Bd) : ∀ f ∈ builtP l, f.Wf ∧ f.day ≤ 20000 :=
  builtFrom_wf (fun x hx => h x (List.mem_of_mem_take hx)) (Int.le_refl _) (by rw [List.length_take]; omega)
theorem Fl.Wf.bd {f : Fl} (h : f.Wf) (hc : f.case ≤ 9223372036854775807) : f.Bd := by
  have h1 := h.kind
  have h2 := h.day
  by_cases k1 : f.kind = 1
  · have := h.k1 k1; exact ⟨by omega, by omega, by omega, by omega, by omega⟩
  · by_cases k4 : f.kind = 4
    · have := h.k4 k4; exact ⟨by omega, by omega, by omega, by omega, by omega⟩
    · have h3 := h.kc k1 k4
      have h4 := h.k2
      have h5 := h.k37
      have h6 := h.k5
      have h7 := h.k6
      refine ⟨by omega, by omega, by omega, ?_, by omega⟩
      rcases (show f.kind = 2 ∨ (f.kind = 3 ∨ f.kind = 7) ∨ f.kind = 5 ∨ f.kind = 6 by omega) with e | e | e | e
      · have := h4 e; omega
      · have := h5 e; omega
      · have := h6 e; omega
      · have := h7 e; omega
theorem noteF_case {d : Int} {x : Nt} (h : x.Bd) : (noteF d x).case ≤ 4 := by
  have := h.case
  unfold noteF
  (repeat' split) <;> dsimp only <;> omega
theorem builtFrom_case {l : List Nt} (h : ∀ x ∈ l, x.Bd) : ∀ {d : Int}, ∀ f ∈ builtFrom d l, f.case ≤ 4 := by
  induction l with
  | nil => intro d f hf; cases hf
  | cons y l ih =>
    intro d f hf
    rw [builtFrom] at hf
    rcases List.mem_cons.1 hf with rfl | hf
    · exact noteF_case (h y (List.mem_cons_self ..))
    · exact ih (fun x hx => h x (List.mem_cons_of_mem _ hx)) f hf
theorem builtP_bd {l : List Nt} (h : ∀ x ∈ l, x.Bd) : ∀ f ∈ builtP l, f.Bd := fun f hf =>
  (builtP_wf h f hf).1.bd (by have := builtFrom_case (fun x hx => h x (List.mem_of_mem_take hx)) f hf; omega)
end Sp

namespace Sp

theorem valid_mono {l : Sps} (h : validB l = true) {i j : Nat} (hij : i < j) (hj : j < l.length) : (l[i]'(by omega)).2 < l[j].1 := by
  have h1 := valid_take h (j + 1)
  unfold validB at h1
  rw [take_succ_snoc hj, validFrom_snoc] at h1
  have h3 := h1.1
  have hi' : i < (l.take j).length := by rw [List.length_take]; omega
  have h4 : mem (l.take j) ((l[i]'(by omega)).2 - 1) = true := by
    rw [mem_iff]
    have hg := valid_get h (k := i) (by omega)
    refine ⟨l[i]'(by omega), ?_, by omega, by omega⟩
    have := List.getElem_mem hi'
    rw [List.getElem_take] at this
    exact this
  have := mem_last h3 _ h4
  omega

/-- k is the index of the first span that ends behind the day. -/
structure Fnd (l : Sps) (d : Int) (k : Nat) : Prop where
  le : k ≤ l.length
  lo : ∀ i, (h : i < l.length) → i < k → l[i].2 ≤ d
  hi : ∀ i, (h : i < l.length) → k ≤ i → d < l[i].2

theorem Fnd.mem {l : Sps} {d : Int} {k : Nat} (hv : validB l = true) (h : Fnd l d k) : mem l d = true ↔ ∃ hk : k < l.length, l[k].1 ≤ d := by
  rw [mem_iff]
  constructor
  · rintro ⟨s, hs, h1, h2⟩
    obtain ⟨i, hi, rfl⟩ := List.getElem_of_mem hs
    have hki : k ≤ i := by
      rcases Nat.lt_or_ge i k with c | c
      · have := h.lo i hi c; omega
      · exact c
    refine ⟨by omega, ?_⟩
    rcases Nat.eq_or_lt_of_le hki with e | c
    · subst e; exact h1
    · have h3 := valid_mono hv c hi
      have := valid_get hv (k := k) (by omega)
      omega
  · rintro ⟨hk, h1⟩
    exact ⟨l[k], List.getElem_mem hk, h1, h.hi k hk (Nat.le_refl _)⟩

/-- A span lies in one of some spans. -/
def inOne (b : Sps) (s : Int × Int) : Bool := b.any fun t => decide (t.1 ≤ s.1) && decide (s.2 ≤ t.2)
def withinB (a b : Sps) : Bool := a.all (inOne b)

theorem inOne_iff (b : Sps) (s : Int × Int) : inOne b s = true ↔ ∃ t ∈ b, t.1 ≤ s.1 ∧ s.2 ≤ t.2 := by
  unfold inOne; simp

theorem Fnd.inOne {b : Sps} {s : Int × Int} {k : Nat} (hv : validB b = true) (hs : s.1 < s.2) (h : Fnd b s.1 k) : Sp.inOne b s = true ↔ ∃ hk : k < b.length, b[k].1 ≤ s.1 ∧ s.2 ≤ b[k].2 := by
  rw [inOne_iff]
  constructor
  · rintro ⟨t, ht, h1, h2⟩
    obtain ⟨i, hi, rfl⟩ := List.getElem_of_mem ht
    have hki : k ≤ i := by
      rcases Nat.lt_or_ge i k with c | c
      · have := h.lo i hi c; omega
      · exact c
    rcases Nat.eq_or_lt_of_le hki with e | c
    · subst e; exact ⟨hi, h1, h2⟩
    · have h3 := valid_mono hv c hi
      have h4 := h.hi k (by omega) (Nat.le_refl _)
      omega
  · rintro ⟨hk, h1, h2⟩
    exact ⟨b[k], List.getElem_mem hk, h1, h2⟩

/-- Days one after another that are all in a set are in one span of it. -/
theorem one_span {b : Sps} (hv : validB b = true) {x y : Int} (hxy : x < y) (h : ∀ d, x ≤ d → d < y → mem b d = true) : ∃ t ∈ b, t.1 ≤ x ∧ y ≤ t.2 := by
  have hx := h x (by omega) hxy
  rw [mem_iff] at hx
  obtain ⟨t, ht, h1, h2⟩ := hx
  refine ⟨t, ht, h1, ?_⟩
  rcases Int.lt_or_le t.2 y with c | c
  · have h3 := h t.2 (by omega) c
    rw [mem_iff] at h3
    obtain ⟨u, hu, h4, h5⟩ := h3
    obtain ⟨i, hi, rfl⟩ := List.getElem_of_mem ht
    obtain ⟨j, hj, rfl⟩ := List.getElem_of_mem hu
    rcases Nat.lt_trichotomy i j with e | e | e
    · have := valid_mono hv e hj; omega
    · subst e; omega
    · have := valid_mono hv e hi; omega
  · exact c

theorem within_iff {a b : Sps} (ha : validB a = true) (hb : validB b = true) : withinB a b = true ↔ ∀ d, mem a d = true → mem b d = true := by
  unfold withinB
  rw [List.all_eq_true]
  constructor
  · intro h d hd
    rw [mem_iff] at hd ⊢
    obtain ⟨s, hs, h1, h2⟩ := hd
    obtain ⟨t, ht, h3, h4⟩ := (inOne_iff b s).1 (h s hs)
    exact ⟨t, ht, by omega, by omega⟩
  · intro h s hs
    rw [inOne_iff]
    obtain ⟨i, hi, rfl⟩ := List.getElem_of_mem hs
    have := valid_get ha hi
    exact one_span hb this.2.1 fun d h1 h2 => h d ((mem_iff a d).2 ⟨a[i], hs, h1, h2⟩)

end Sp

namespace Sp

/-- One span more, bridged. -/
def bst (n : Int) (set : Sps) (s : Int × Int) : Sps :=
  match set.getLast? with
  | none => [s]
  | some t => if s.1 - t.2 ≤ n then set.dropLast ++ [(t.1, s.2)] else set ++ [s]

def brg (n : Int) (l : Sps) : Sps := l.foldl (bst n) []

theorem bst_nil (n : Int) (s : Int × Int) : bst n [] s = [s] := rfl
theorem bst_near {n : Int} (set : Sps) (t s : Int × Int) (h : s.1 - t.2 ≤ n) : bst n (set ++ [t]) s = set ++ [(t.1, s.2)] := by
  unfold bst; rw [List.getLast?_concat]; simp [h]
theorem bst_far {n : Int} (set : Sps) (t s : Int × Int) (h : ¬ s.1 - t.2 ≤ n) : bst n (set ++ [t]) s = set ++ [t] ++ [s] := by
  unfold bst; rw [List.getLast?_concat]; simp [h]
theorem brg_snoc (n : Int) (l : Sps) (s : Int × Int) : brg n (l ++ [s]) = bst n (brg n l) s := by
  unfold brg; rw [List.foldl_append]; rfl

theorem bst_length (n : Int) (set : Sps) (s : Int × Int) : (bst n set s).length ≤ set.length + 1 := by
  rcases List.eq_nil_or_concat set with rfl | ⟨set, t, rfl⟩
  · simp [bst]
  · by_cases h : s.1 - t.2 ≤ n
    · rw [List.concat_eq_append, bst_near set t s h]; simp
    · rw [List.concat_eq_append, bst_far set t s h]; simp

theorem brg_length (n : Int) (l : Sps) : ∀ k, k ≤ l.length → (brg n (l.take k)).length ≤ k := by
  intro k
  induction k with
  | zero => intro _; simp [brg]
  | succ k ih =>
    intro hk
    have h1 := ih (by omega)
    rw [take_succ_snoc (by omega), brg_snoc]
    have := bst_length n (brg n (l.take k)) (l[k]'(by omega))
    omega

/-- Between the set and its bridge: it ends where the set ends, and begins where it begins. -/
theorem brg_valid {l : Sps} {n : Int} (hv : validB l = true) : ∀ k, k ≤ l.length → validFrom (-1) (brg n (l.take k)) = true ∧ lastTo (-1) (brg n (l.take k)) = lastTo (-1) (l.take k) := by
  intro k
  induction k with
  | zero => intro _; simp [brg, validFrom]
  | succ k ih =>
    intro hk
    obtain ⟨h1, h2⟩ := ih (by omega)
    have h3 := valid_take hv (k + 1)
    unfold validB at h3
    rw [take_succ_snoc (by omega), validFrom_snoc] at h3
    rw [take_succ_snoc (by omega), brg_snoc, lastTo_snoc]
    generalize brg n (l.take k) = set at h1 h2
    rcases List.eq_nil_or_concat set with rfl | ⟨set, t, rfl⟩
    · rw [bst_nil]
      refine ⟨?_, rfl⟩
      rw [validFrom_cons]
      rw [lastTo_nil] at h2
      refine ⟨by omega, h3.2.2.1, h3.2.2.2, rfl⟩
    · rw [List.concat_eq_append] at h1 h2 ⊢
      rw [lastTo_snoc] at h2
      by_cases h : (l[k]'(by omega)).1 - t.2 ≤ n
      · rw [bst_near _ _ _ h, lastTo_snoc]
        rw [validFrom_snoc] at h1
        exact ⟨validFrom_snoc.2 ⟨h1.1, h1.2.1, by dsimp only; omega, by dsimp only; omega⟩, rfl⟩
      · rw [bst_far _ _ _ h, lastTo_snoc]
        exact ⟨validFrom_snoc.2 ⟨h1, by rw [lastTo_snoc]; omega, by omega, by omega⟩, rfl⟩

end Sp

namespace Sp

/-- One span more, its first day not less than the others'. -/
def mst (set : Sps) (s : Int × Int) : Sps :=
  match set.getLast? with
  | none => [s]
  | some t => if s.1 ≤ t.2 then set.dropLast ++ [(t.1, max t.2 s.2)] else set ++ [s]

def mk (l : Sps) : Sps := l.foldl mst []

theorem mst_nil (s : Int × Int) : mst [] s = [s] := rfl
theorem mst_near (set : Sps) (t s : Int × Int) (h : s.1 ≤ t.2) : mst (set ++ [t]) s = set ++ [(t.1, max t.2 s.2)] := by
  unfold mst; rw [List.getLast?_concat]; simp [h]
theorem mst_far (set : Sps) (t s : Int × Int) (h : ¬ s.1 ≤ t.2) : mst (set ++ [t]) s = set ++ [t] ++ [s] := by
  unfold mst; rw [List.getLast?_concat]; simp [h]
theorem mk_snoc (l : Sps) (s : Int × Int) : mk (l ++ [s]) = mst (mk l) s := by
  unfold mk; rw [List.foldl_append]; rfl

theorem mst_length (set : Sps) (s : Int × Int) : (mst set s).length ≤ set.length + 1 := by
  rcases List.eq_nil_or_concat set with rfl | ⟨set, t, rfl⟩
  · simp [mst]
  · by_cases h : s.1 ≤ t.2
    · rw [List.concat_eq_append, mst_near set t s h]; simp
    · rw [List.concat_eq_append, mst_far set t s h]; simp

theorem mk_length (l : Sps) : ∀ k, k ≤ l.length → (mk (l.take k)).length ≤ k := by
  intro k
  induction k with
  | zero => intro _; simp [mk]
  | succ k ih =>
    intro hk
    have h1 := ih (by omega)
    rw [take_succ_snoc (by omega), mk_snoc]
    have := mst_length (mk (l.take k)) (l[k]'(by omega))
    omega

/-- Spans that are not empty. -/
def Fine (l : Sps) : Prop := ∀ s ∈ l, 0 ≤ s.1 ∧ s.1 < s.2 ∧ s.2 ≤ 65536
/-- Sorted by the first days. -/
def Srt (l : Sps) : Prop := ∀ i j, (h : j < l.length) → (h' : i < j) → (l[i]'(by omega)).1 ≤ l[j].1

theorem mk_law {l : Sps} (hf : Fine l) (hs : Srt l) : ∀ k, k ≤ l.length → validFrom (-1) (mk (l.take k)) = true ∧ (∀ d, mem (mk (l.take k)) d = mem (l.take k) d) ∧ ∀ set t, mk (l.take k) = set ++ [t] → ∃ i, i < k ∧ ∃ h : i < l.length, t.1 = l[i].1 := by
  intro k
  induction k with
  | zero => intro _; exact ⟨rfl, fun _ => rfl, fun set t h => by simp [mk] at h⟩
  | succ k ih =>
    intro hk
    obtain ⟨h1, h2, h3⟩ := ih (by omega)
    have hg := hf (l[k]'(by omega)) (List.getElem_mem _)
    rw [take_succ_snoc (by omega), mk_snoc]
    generalize hset : mk (l.take k) = set at h1 h2 h3
    rcases List.eq_nil_or_concat set with rfl | ⟨s0, t, rfl⟩
    · rw [mst_nil]
      refine ⟨by rw [validFrom_cons]; exact ⟨by omega, hg.2.1, hg.2.2, rfl⟩, fun d => ?_, fun set t h => ?_⟩
      · rw [mem_append, ← h2 d, mem_nil, Bool.false_or]
      · have := congrArg List.getLast? h
        rw [List.getLast?_concat] at this
        simp at this
        exact ⟨k, by omega, by omega, by rw [← this]⟩
    · rw [List.concat_eq_append] at h1 h2 h3 ⊢
      obtain ⟨i, hi, hi', ht⟩ := h3 s0 t rfl
      have hsi := hs i k (by omega) hi
      rw [← ht] at hsi
      rw [validFrom_snoc] at h1
      by_cases h : (l[k]'(by omega)).1 ≤ t.2
      · rw [mst_near _ _ _ h]
        refine ⟨validFrom_snoc.2 ⟨h1.1, h1.2.1, by dsimp only; omega, by dsimp only; omega⟩, fun d => ?_, fun set u hu => ?_⟩
        · rw [mem_append, mem_append, ← h2 d, mem_append, Bool.or_assoc]
          congr 1
          rw [mem_cons, mem_nil, mem_cons, mem_nil, mem_cons, mem_nil, Bool.or_false, Bool.or_false, Bool.or_false, Bool.eq_iff_iff]
          simp only [Bool.or_eq_true, Bool.and_eq_true, decide_eq_true_eq]
          omega
        · have := congrArg List.getLast? hu
          rw [List.getLast?_concat, List.getLast?_concat] at this
          simp at this
          exact ⟨i, by omega, hi', by rw [← this, ← ht]⟩
      · rw [mst_far _ _ _ h]
        refine ⟨validFrom_snoc.2 ⟨validFrom_snoc.2 h1, by rw [lastTo_snoc]; omega, hg.2.1, hg.2.2⟩, fun d => ?_, fun set u hu => ?_⟩
        · rw [mem_append (s0 ++ [t]), mem_append (l.take k), h2 d]
        · have := congrArg List.getLast? hu
          rw [List.getLast?_concat, List.getLast?_concat] at this
          simp at this
          exact ⟨k, by omega, by omega, by rw [← this]⟩

theorem mk_set {l : Sps} (hf : Fine l) (hs : Srt l) : IsSet (mem l) (mk l) := by
  have := mk_law hf hs l.length (Nat.le_refl _)
  rw [List.take_length] at this
  exact ⟨this.1, this.2.1⟩

theorem mem_perm {a b : Sps} (h : a.Perm b) (d : Int) : mem a d = mem b d := by
  rw [Bool.eq_iff_iff, mem_iff, mem_iff]
  exact ⟨fun ⟨s, hs, h'⟩ => ⟨s, h.mem_iff.1 hs, h'⟩, fun ⟨s, hs, h'⟩ => ⟨s, h.mem_iff.2 hs, h'⟩⟩

/-- The spans that are not empty. -/
def full (l : Sps) : Sps := l.filter fun s => decide (s.1 < s.2)

theorem mem_full (l : Sps) (d : Int) : mem (full l) d = mem l d := by
  rw [Bool.eq_iff_iff, mem_iff, mem_iff]
  unfold full
  constructor
  · rintro ⟨s, hs, h'⟩
    exact ⟨s, (List.mem_filter.1 hs).1, h'⟩
  · rintro ⟨s, hs, h'⟩
    exact ⟨s, List.mem_filter.2 ⟨hs, by simp; omega⟩, h'⟩

theorem full_snoc (l : Sps) (s : Int × Int) : full (l ++ [s]) = if s.1 < s.2 then full l ++ [s] else full l := by
  unfold full; rw [List.filter_append]; by_cases h : s.1 < s.2 <;> simp [h]

theorem full_length (l : Sps) : (full l).length ≤ l.length := List.length_filter_le _ _

end Sp

namespace Sp

theorem bef_low {l : Sps} {p d : Int} (h : validFrom p l = true) (hd : d ≤ p + 1) : bef l d = 0 := by
  induction l generalizing p with
  | nil => rfl
  | cons s l ih =>
    rw [validFrom_cons] at h
    rw [bef, if_neg (by omega), ih h.2.2.2 (by omega)]; rfl

theorem bef_high {l : Sps} {p d : Int} (h : validFrom p l = true) (hd : 65536 ≤ d) : bef l d = bef l 65536 := by
  induction l generalizing p with
  | nil => rfl
  | cons s l ih =>
    rw [validFrom_cons] at h
    rw [bef, bef, if_pos (by omega), if_pos (by omega), ih h.2.2.2]; omega

theorem nth_spec {l : Sps} : ∀ {p n d : Int}, validFrom p l = true → 0 ≤ n → nth l n = some d → mem l d = true ∧ bef l d = n := by
  induction l with
  | nil => intro p n d _ _ h; cases h
  | cons s l ih =>
    intro p n d hv hn h
    rw [validFrom_cons] at hv
    rw [nth] at h
    split at h
    · cases h
      refine ⟨by rw [mem_cons_iff]; left; omega, ?_⟩
      rw [bef, bef_low hv.2.2.2 (by omega)]
      split <;> omega
    · obtain ⟨h1, h2⟩ := ih hv.2.2.2 (by omega) h
      have h3 := mem_bd hv.2.2.2 _ h1
      refine ⟨by rw [mem_cons_iff]; right; exact h1, ?_⟩
      rw [bef, h2, if_pos (by omega)]; omega

theorem nth_lt {s : Int × Int} {l : Sps} {n : Int} (h : n < s.2 - s.1) : nth (s :: l) n = some (s.1 + n) := by rw [nth, if_pos h]
theorem nth_not {s : Int × Int} {l : Sps} {n : Int} (h : ¬ n < s.2 - s.1) : nth (s :: l) n = nth l (n - (s.2 - s.1)) := by rw [nth, if_neg h]
theorem bef_far {s : Int × Int} {l : Sps} {d : Int} (h : s.2 ≤ d) (h1 : s.1 < s.2) : bef (s :: l) d = s.2 - s.1 + bef l d := by
  rw [bef, if_pos (by omega)]; omega
theorem bef_near {s : Int × Int} {l : Sps} {d : Int} (hv : validFrom s.2 l = true) (h : d ≤ s.2) (h1 : s.1 ≤ d) : bef (s :: l) d = d - s.1 := by
  rw [bef, bef_low hv (by omega)]; split <;> omega
theorem bef_ahead {s : Int × Int} {l : Sps} {d : Int} (hv : validFrom s.2 l = true) (h : d ≤ s.1) (h1 : s.1 < s.2) : bef (s :: l) d = 0 := by
  rw [bef, bef_low hv (by omega), if_neg (by omega)]; rfl

theorem nth_some {l : Sps} : ∀ {p n : Int}, validFrom p l = true → 0 ≤ n → (nth l n).isSome = decide (n < bef l 65536) := by
  induction l with
  | nil => intro p n _ h; rw [nth, bef, Option.isSome_none]; symm; rw [decide_eq_false_iff_not]; omega
  | cons s l ih =>
    intro p n hv hn
    rw [validFrom_cons] at hv
    have h0 := (bef_bd hv.2.2.2 65536).1
    rw [bef_far hv.2.2.1 hv.2.1]
    by_cases c : n < s.2 - s.1
    · rw [nth_lt c, Option.isSome_some]; symm; rw [decide_eq_true_eq]; omega
    · rw [nth_not c, ih hv.2.2.2 (by omega)]
      rw [decide_eq_decide]; omega

theorem nth_bef {l : Sps} : ∀ {p d : Int}, validFrom p l = true → mem l d = true → nth l (bef l d) = some d := by
  induction l with
  | nil => intro p d _ h; cases h
  | cons s l ih =>
    intro p d hv h
    rw [validFrom_cons] at hv
    rw [mem_cons_iff] at h
    have h0 := (bef_bd hv.2.2.2 d).1
    rcases h with h | h
    · rw [bef_near hv.2.2.2 (by omega) h.1, nth_lt (by omega)]
      congr 1; omega
    · have h3 := mem_bd hv.2.2.2 _ h
      rw [bef_far (by omega) hv.2.1, nth_not (by omega)]
      have e : s.2 - s.1 + bef l d - (s.2 - s.1) = bef l d := by omega
      rw [e]; exact ih hv.2.2.2 h

theorem nth_ge {l : Sps} : ∀ {p d x : Int}, validFrom p l = true → nth l (bef l d) = some x → d ≤ x := by
  induction l with
  | nil => intro p d x _ h; cases h
  | cons s l ih =>
    intro p d x hv h
    rw [validFrom_cons] at hv
    have h0 := (bef_bd hv.2.2.2 d).1
    by_cases c : d < s.2
    · by_cases c1 : s.1 ≤ d
      · rw [bef_near hv.2.2.2 (by omega) c1, nth_lt (by omega)] at h
        cases h; omega
      · rw [bef_ahead hv.2.2.2 (by omega) hv.2.1, nth_lt (by omega)] at h
        cases h; omega
    · rw [bef_far (by omega) hv.2.1, nth_not (by omega)] at h
      have e : s.2 - s.1 + bef l d - (s.2 - s.1) = bef l d := by omega
      rw [e] at h
      exact ih hv.2.2.2 h

/-! ### Counts -/

/-- How many of the first n days have p. -/
def cnt (p : Int → Bool) : Nat → Int
  | 0 => 0
  | n + 1 => cnt p n + if p n then 1 else 0

theorem part_succ (x y d : Int) (h : x < y) : (if x < d + 1 then min y (d + 1) - x else 0) = (if x < d then min y d - x else 0) + if (decide (x ≤ d) && decide (d < y)) = true then 1 else 0 := by
  simp only [Bool.and_eq_true, decide_eq_true_eq]
  by_cases c1 : x < d
  · by_cases c2 : d < y
    · rw [if_pos (by omega), if_pos c1, if_pos (by omega)]; omega
    · rw [if_pos (by omega), if_pos c1, if_neg (by omega)]; omega
  · by_cases c2 : x = d
    · rw [if_pos (by omega), if_neg c1, if_pos (by omega)]; omega
    · rw [if_neg (by omega), if_neg c1, if_neg (by omega)]; rfl

theorem bef_succ {l : Sps} {p : Int} (h : validFrom p l = true) (d : Int) : bef l (d + 1) = bef l d + if mem l d then 1 else 0 := by
  induction l generalizing p with
  | nil => rfl
  | cons s l ih =>
    rw [validFrom_cons] at h
    have h1 := ih h.2.2.2
    have h2 := mem_bd h.2.2.2 d
    rw [bef, bef, h1, mem_cons, part_succ _ _ _ h.2.1]
    generalize (if s.1 < d then min s.2 d - s.1 else 0) = z
    cases hm : mem l d with
    | true =>
      have := h2 hm
      have hf : (decide (s.1 ≤ d) && decide (d < s.2)) = false := by simp; omega
      rw [hf]; simp; omega
    | false =>
      cases (decide (s.1 ≤ d) && decide (d < s.2)) <;> simp <;> omega

theorem bef_cnt {l : Sps} (h : validB l = true) (n : Nat) : bef l n = cnt (mem l) n := by
  induction n with
  | zero => exact bef_low h (by omega)
  | succ n ih =>
    have := bef_succ h n
    rw [cnt, ← ih, ← this]
    congr 1

theorem bef_all {l : Sps} (h : validB l = true) : bef l 65536 = cnt (mem l) 65536 := bef_cnt h 65536

theorem cnt_or_and (p q : Int → Bool) (n : Nat) : cnt (fun d => p d || q d) n + cnt (fun d => p d && q d) n = cnt p n + cnt q n := by
  induction n with
  | zero => rfl
  | succ n ih => simp only [cnt]; rcases Bool.eq_false_or_eq_true (p n) with hp | hp <;> rcases Bool.eq_false_or_eq_true (q n) with hq | hq <;> simp [hp, hq] <;> omega

theorem cnt_parts (p q : Int → Bool) (n : Nat) : cnt (fun d => p d && !q d) n + cnt (fun d => q d && !p d) n + cnt (fun d => p d && q d) n = cnt (fun d => p d || q d) n := by
  induction n with
  | zero => rfl
  | succ n ih => simp only [cnt]; rcases Bool.eq_false_or_eq_true (p n) with hp | hp <;> rcases Bool.eq_false_or_eq_true (q n) with hq | hq <;> simp [hp, hq] <;> omega

theorem cnt_le {p q : Int → Bool} (h : ∀ d, p d = true → q d = true) (n : Nat) : cnt p n ≤ cnt q n := by
  induction n with
  | zero => exact Int.le_refl _
  | succ n ih =>
    simp only [cnt]
    have := h n
    cases hp : p n
    · cases q n <;> simp <;> omega
    · rw [this hp]; simp; omega

theorem cnt_eq {p q : Int → Bool} (h : ∀ d, p d = true → q d = true) : ∀ n : Nat, cnt p n = cnt q n → ∀ d : Nat, d < n → p d = q d := by
  intro n
  induction n with
  | zero => intro _ d hd; omega
  | succ n ih =>
    intro he d hd
    have hle := cnt_le h n
    simp only [cnt] at he
    have hn := h n
    have hpq : p n = q n := by
      cases hp : p n
      · cases hq : q n
        · rfl
        · rw [hp, hq] at he; simp at he; omega
      · exact (hn hp).symm
    rcases Nat.lt_or_ge d n with c | c
    · refine ih ?_ d c
      rw [hpq] at he; omega
    · obtain rfl : d = n := by omega
      exact hpq

theorem cnt_congr {p q : Int → Bool} (h : ∀ d, p d = q d) (n : Nat) : cnt p n = cnt q n := by
  induction n with
  | zero => rfl
  | succ n ih => simp only [cnt]; rw [ih, h n]

theorem empty_iff {l : Sps} (h : validB l = true) : l = [] ↔ ∀ d, mem l d = false := by
  constructor
  · rintro rfl d; rfl
  · intro h'
    cases l with
    | nil => rfl
    | cons s l =>
      unfold validB at h
      rw [validFrom_cons] at h
      have := h' s.1
      rw [← Bool.not_eq_true, mem_cons_iff] at this
      exact absurd (.inl ⟨by omega, by omega⟩) this

theorem count_union {a b u v : Sps} (ha : validB a = true) (hb : validB b = true) (hu : IsSet (fun d => mem a d || mem b d) u) (hv : IsSet (fun d => mem a d && mem b d) v) : bef u 65536 + bef v 65536 = bef a 65536 + bef b 65536 := by
  rw [bef_all ha, bef_all hb, bef_all hu.valid, bef_all hv.valid, cnt_congr hu.mem, cnt_congr hv.mem]
  exact cnt_or_and _ _ _

theorem count_parts {a b u v w x : Sps} (hu : IsSet (fun d => mem a d || mem b d) u) (hv : IsSet (fun d => mem a d && mem b d) v) (hw : IsSet (fun d => mem a d && !mem b d) w) (hx : IsSet (fun d => mem b d && !mem a d) x) : bef w 65536 + bef x 65536 + bef v 65536 = bef u 65536 := by
  rw [bef_all hw.valid, bef_all hx.valid, bef_all hu.valid, bef_all hv.valid, cnt_congr hu.mem, cnt_congr hv.mem, cnt_congr hw.mem, cnt_congr hx.mem]
  exact cnt_parts _ _ _

theorem within_meet {a b v : Sps} (ha : validB a = true) (hv : IsSet (fun d => mem a d && mem b d) v) : withinB v a = true := by
  rw [within_iff hv.valid ha]
  intro d h
  rw [hv.mem] at h
  simp at h
  exact h.1

theorem within_union {a b u : Sps} (ha : validB a = true) (hu : IsSet (fun d => mem a d || mem b d) u) : withinB a u = true := by
  rw [within_iff ha hu.valid]
  intro d h
  rw [hu.mem, h]; rfl

theorem within_minus {a b w : Sps} (ha : validB a = true) (hb : validB b = true) (hw : IsSet (fun d => mem a d && !mem b d) w) : withinB a b = decide (w.length = 0) := by
  rw [Bool.eq_iff_iff, within_iff ha hb, decide_eq_true_eq, List.length_eq_zero_iff, empty_iff hw.valid]
  constructor
  · intro h d
    rw [hw.mem]
    cases hm : mem a d
    · rfl
    · rw [h d hm]; rfl
  · intro h d hd
    have := h d
    rw [hw.mem, hd] at this
    simpa using this

theorem within_days {a b v : Sps} (ha : validB a = true) (hb : validB b = true) (hv : IsSet (fun d => mem a d && mem b d) v) : withinB b a = decide (bef v 65536 = bef b 65536) := by
  rw [Bool.eq_iff_iff, within_iff hb ha, decide_eq_true_eq, bef_all hv.valid, bef_all hb, cnt_congr hv.mem]
  constructor
  · intro h
    refine cnt_congr (fun d => ?_) _
    cases hm : mem b d
    · simp
    · rw [h d hm]; rfl
  · intro h d hd
    have hd' := mem_bd hb d hd
    have := cnt_eq (fun d h => by simp at h; exact h.2) 65536 h d.toNat (by omega)
    rw [show ((d.toNat : Nat) : Int) = d by omega, hd] at this
    simpa using this

end Sp

namespace Sp

theorem lastTo_take' (p : Int) (l : Sps) (k : Nat) (hk : k ≤ l.length) (h0 : 0 < k) : lastTo p (l.take k) = (l[k - 1]'(by omega)).2 := by
  have : l.take k = l.take (k - 1) ++ [l[k - 1]'(by omega)] := by
    have := List.take_succ_eq_append_getElem (l := l) (i := k - 1) (by omega)
    rw [show k - 1 + 1 = k by omega] at this
    exact this
  rw [this, lastTo_snoc]

/-- A day in a gap of at most n days. -/
def Gap (n : Int) (l : Sps) (k : Nat) (d : Int) : Prop := ∃ i, i + 1 < k ∧ ∃ h : i + 1 < l.length, (l[i]'(by omega)).2 ≤ d ∧ d < l[i + 1].1 ∧ l[i + 1].1 - (l[i]'(by omega)).2 ≤ n

theorem brg_mem {l : Sps} {n : Int} (hv : validB l = true) : ∀ k, k ≤ l.length → ∀ d, mem (brg n (l.take k)) d = true ↔ mem (l.take k) d = true ∨ Gap n l k d := by
  intro k
  induction k with
  | zero =>
    intro _ d
    simp only [List.take_zero]
    constructor
    · intro h; exact .inl h
    · rintro (h | ⟨i, h, _⟩)
      · exact h
      · omega
  | succ k ih =>
    intro hk d
    have h1 := ih (by omega) d
    obtain ⟨hbv, hbl⟩ := brg_valid (n := n) hv k (by omega)
    have hg := valid_get hv (k := k) (by omega)
    rw [take_succ_snoc (by omega), brg_snoc, mem_append, Bool.or_eq_true]
    have hsucc : Gap n l (k + 1) d ↔ Gap n l k d ∨ ∃ h0 : 0 < k, ∃ h : k < l.length, (l[k - 1]'(by omega)).2 ≤ d ∧ d < l[k].1 ∧ l[k].1 - (l[k - 1]'(by omega)).2 ≤ n := by
      constructor
      · rintro ⟨i, hi, hil, h⟩
        by_cases c : i + 1 < k
        · exact .inl ⟨i, c, hil, h⟩
        · obtain rfl : k = i + 1 := by omega
          exact .inr ⟨by omega, by omega, h⟩
      · rintro (⟨i, hi, hil, h⟩ | ⟨h0, hkl, h⟩)
        · exact ⟨i, by omega, hil, h⟩
        · obtain ⟨j, rfl⟩ : ∃ j, k = j + 1 := ⟨k - 1, by omega⟩
          exact ⟨j, by omega, hkl, h⟩
    rw [hsucc]
    have hone : mem [l[k]'(by omega)] d = true ↔ (l[k]'(by omega)).1 ≤ d ∧ d < (l[k]'(by omega)).2 := by
      rw [mem_cons, mem_nil, Bool.or_false]; simp
    rw [hone]
    generalize hset : brg n (l.take k) = set at h1 hbv hbl
    rcases List.eq_nil_or_concat set with rfl | ⟨s0, t, rfl⟩
    · have hk0 : k = 0 := by
        rcases Nat.eq_zero_or_pos k with c | c
        · exact c
        · rw [lastTo_nil, lastTo_take' _ _ _ (by omega) c] at hbl
          have := valid_get hv (k := k - 1) (by omega)
          omega
      subst hk0
      rw [bst_nil, hone]
      rw [mem_nil] at h1
      constructor
      · intro h; exact .inl (.inr h)
      · rintro ((h | h) | (h | ⟨h, _⟩))
        · have := h1.2 (.inl h); cases this
        · exact h
        · have := h1.2 (.inr h); cases this
        · omega
    · rw [List.concat_eq_append] at h1 hbv hbl ⊢
      have hk0 : 0 < k := by
        rcases Nat.eq_zero_or_pos k with c | c
        · subst c; simp [brg] at hset
        · exact c
      rw [lastTo_snoc, lastTo_take' _ _ _ (by omega) hk0] at hbl
      have hvm := valid_mono hv (i := k - 1) (j := k) (by omega) (by omega)
      rw [mem_append, Bool.or_eq_true] at h1
      have ht : mem [t] d = true ↔ t.1 ≤ d ∧ d < t.2 := by rw [mem_cons, mem_nil, Bool.or_false]; simp
      rw [ht] at h1
      rw [validFrom_snoc] at hbv
      by_cases h : (l[k]'(by omega)).1 - t.2 ≤ n
      · rw [bst_near _ _ _ h, mem_append, Bool.or_eq_true]
        have ht2 : mem [(t.1, (l[k]'(by omega)).2)] d = true ↔ t.1 ≤ d ∧ d < (l[k]'(by omega)).2 := by rw [mem_cons, mem_nil, Bool.or_false]; simp
        rw [ht2]
        constructor
        · rintro (h2 | h2)
          · rcases h1.1 (.inl h2) with h3 | h3
            · exact .inl (.inl h3)
            · exact .inr (.inl h3)
          · by_cases c : d < t.2
            · rcases h1.1 (.inr ⟨h2.1, c⟩) with h3 | h3
              · exact .inl (.inl h3)
              · exact .inr (.inl h3)
            · by_cases c2 : (l[k]'(by omega)).1 ≤ d
              · exact .inl (.inr ⟨c2, h2.2⟩)
              · exact .inr (.inr ⟨hk0, by omega, by omega, by omega, by omega⟩)
        · rintro ((h2 | h2) | (h2 | ⟨_, _, h3, h4, h5⟩))
          · rcases h1.2 (.inl h2) with h3 | h3
            · exact .inl h3
            · exact .inr ⟨h3.1, by omega⟩
          · exact .inr ⟨by omega, h2.2⟩
          · rcases h1.2 (.inr h2) with h3 | h3
            · exact .inl h3
            · exact .inr ⟨h3.1, by omega⟩
          · exact .inr ⟨by omega, by omega⟩
      · rw [bst_far _ _ _ h, mem_append, Bool.or_eq_true, mem_append, Bool.or_eq_true, hone, ht]
        constructor
        · rintro (h2 | h2)
          · rcases h1.1 h2 with h3 | h3
            · exact .inl (.inl h3)
            · exact .inr (.inl h3)
          · exact .inl (.inr h2)
        · rintro ((h2 | h2) | (h2 | ⟨_, _, h3, h4, h5⟩))
          · exact .inl (h1.2 (.inl h2))
          · exact .inr h2
          · exact .inl (h1.2 (.inr h2))
          · omega

/-- No gap of at most n days. -/
def Far (n : Int) (l : Sps) : Prop := ∀ i, (h : i + 1 < l.length) → n < l[i + 1].1 - (l[i]'(by omega)).2

theorem far_snoc {n : Int} {s0 : Sps} {t : Int × Int} (h : Far n s0) (h' : s0 ≠ [] → n < t.1 - lastTo (-1) s0) : Far n (s0 ++ [t]) := by
  intro i hi
  rw [List.length_append, List.length_singleton] at hi
  by_cases c : i + 1 < s0.length
  · rw [List.getElem_append_left c, List.getElem_append_left (by omega)]
    exact h i c
  · have e : i + 1 = s0.length := by omega
    rw [List.getElem_append_right (by omega), List.getElem_append_left (by omega)]
    have hne : s0 ≠ [] := by rintro rfl; simp at e
    have h3 := h' hne
    have h4 : lastTo (-1) s0 = (s0[s0.length - 1]'(by omega)).2 := by
      have := lastTo_take' (-1) s0 s0.length (Nat.le_refl _) (by omega)
      rwa [List.take_length] at this
    rw [h4] at h3
    have : s0.length - 1 = i := by omega
    simp only [this] at h3
    simp only [List.getElem_singleton]
    exact h3

theorem far_init {n : Int} {s0 : Sps} {t : Int × Int} (h : Far n (s0 ++ [t])) : Far n s0 ∧ (s0 ≠ [] → n < t.1 - lastTo (-1) s0) := by
  constructor
  · intro i hi
    have := h i (by simp; omega)
    rw [List.getElem_append_left hi, List.getElem_append_left (by omega)] at this
    exact this
  · intro hne
    have hl : 0 < s0.length := List.length_pos_iff.2 hne
    have := h (s0.length - 1) (by simp; omega)
    have h4 : lastTo (-1) s0 = (s0[s0.length - 1]'(by omega)).2 := by
      have := lastTo_take' (-1) s0 s0.length (Nat.le_refl _) (by omega)
      rwa [List.take_length] at this
    rw [h4]
    rw [List.getElem_append_right (by omega), List.getElem_append_left (by omega)] at this
    simpa using this

theorem brg_far {l : Sps} {n : Int} : ∀ k, k ≤ l.length → Far n (brg n (l.take k)) := by
  intro k
  induction k with
  | zero => intro _ i h; simp [brg] at h
  | succ k ih =>
    intro hk
    have h1 := ih (by omega)
    rw [take_succ_snoc (by omega), brg_snoc]
    generalize brg n (l.take k) = set at h1
    rcases List.eq_nil_or_concat set with rfl | ⟨s0, t, rfl⟩
    · rw [bst_nil]; intro i h; simp at h
    · rw [List.concat_eq_append] at h1 ⊢
      by_cases h : (l[k]'(by omega)).1 - t.2 ≤ n
      · rw [bst_near _ _ _ h]
        have := far_init h1
        exact far_snoc this.1 this.2
      · rw [bst_far _ _ _ h]
        exact far_snoc h1 fun _ => by rw [lastTo_snoc]; omega

theorem brg_self {b : Sps} {n : Int} (h : Far n b) : ∀ k, k ≤ b.length → brg n (b.take k) = b.take k := by
  intro k
  induction k with
  | zero => intro _; rfl
  | succ k ih =>
    intro hk
    rw [take_succ_snoc (by omega), brg_snoc, ih (by omega)]
    rcases Nat.eq_zero_or_pos k with c | c
    · subst c; rfl
    · have e : b.take k = b.take (k - 1) ++ [b[k - 1]'(by omega)] := by
        have := take_succ_snoc (l := b) (k := k - 1) (by omega)
        rw [show k - 1 + 1 = k by omega] at this
        exact this
      rw [e]
      have := h (k - 1) (by omega)
      simp only [show k - 1 + 1 = k by omega] at this
      exact bst_far _ _ _ (by omega)

theorem brg_first {l : Sps} {n : Int} (h0 : 0 < l.length) : ∀ k, 0 < k → k ≤ l.length → ∃ y r, brg n (l.take k) = (l[0].1, y) :: r := by
  intro k
  induction k with
  | zero => intro h; omega
  | succ k ih =>
    intro _ hk
    rw [take_succ_snoc (by omega), brg_snoc]
    rcases Nat.eq_zero_or_pos k with c | c
    · subst c; exact ⟨_, [], rfl⟩
    · obtain ⟨y, r, h1⟩ := ih c (by omega)
      rw [h1]
      rcases List.eq_nil_or_concat r with rfl | ⟨r, t, rfl⟩
      · have e : [(l[0].1, y)] = ([] : Sps) ++ [(l[0].1, y)] := rfl
        rw [e]
        by_cases h : (l[k]'(by omega)).1 - (l[0].1, y).2 ≤ n
        · rw [bst_near _ _ _ h]; exact ⟨_, [], rfl⟩
        · rw [bst_far _ _ _ h]; exact ⟨_, _, rfl⟩
      · have e : (l[0].1, y) :: r.concat t = ((l[0].1, y) :: r) ++ [t] := by rw [List.concat_eq_append]; rfl
        rw [e]
        by_cases h : (l[k]'(by omega)).1 - t.2 ≤ n
        · rw [bst_near _ _ _ h]; exact ⟨_, _, rfl⟩
        · rw [bst_far _ _ _ h]; exact ⟨_, _, rfl⟩

/-- A span of a set ends where its days end. -/
theorem set_edges {r : Sps} (hv : validB r = true) {i : Nat} (h : i < r.length) : mem r (r[i].1 - 1) = false ∧ mem r r[i].2 = false := by
  have hg := valid_get hv h
  constructor
  all_goals
    rw [← Bool.not_eq_true, mem_iff]
    rintro ⟨s, hs, h1, h2⟩
    obtain ⟨j, hj, rfl⟩ := List.getElem_of_mem hs
    have hg2 := valid_get hv hj
    rcases Nat.lt_trichotomy i j with c | c | c
    · have := valid_mono hv c hj; omega
    · subst c; omega
    · have := valid_mono hv c h; omega

structure Bridged (n : Int) (l b : Sps) : Prop where
  valid : validB b = true
  within : withinB l b = true
  again : brg n b = b
  far : Far n b
  rest : ∀ r, IsSet (fun d => mem b d && !mem l d) r → ∀ i, (h : i < r.length) → r[i].2 - r[i].1 ≤ n ∧ mem l (r[i].1 - 1) = true ∧ mem l r[i].2 = true
  len0 : l.length = 0 ↔ b.length = 0
  first : ∀ (h : 0 < l.length) (h' : 0 < b.length), b[0].1 = l[0].1
  last : ∀ (h : 0 < l.length) (h' : 0 < b.length), (b[b.length - 1]'(by omega)).2 = (l[l.length - 1]'(by omega)).2
  le : b.length ≤ l.length

theorem bridged {l : Sps} {n : Int} (hv : validB l = true) : Bridged n l (brg n l) := by
  have h1 := brg_valid (n := n) hv l.length (Nat.le_refl _)
  have h2 := brg_mem (n := n) hv l.length (Nat.le_refl _)
  have h3 := brg_far (l := l) (n := n) l.length (Nat.le_refl _)
  have h4 := brg_first (l := l) (n := n)
  have h5 := brg_length n l l.length (Nat.le_refl _)
  rw [List.take_length] at h1 h2 h3 h5
  have hw : ∀ d, mem l d = true → mem (brg n l) d = true := fun d h => (h2 d).2 (.inl h)
  have hlen : l.length = 0 ↔ (brg n l).length = 0 := by
    constructor
    · intro h; have := List.eq_nil_of_length_eq_zero h; subst this; rfl
    · intro h
      rcases Nat.eq_zero_or_pos l.length with c | c
      · exact c
      · obtain ⟨y, r, hr⟩ := h4 c l.length c (Nat.le_refl _)
        rw [List.take_length] at hr
        rw [hr] at h; simp at h
  refine ⟨h1.1, (within_iff hv h1.1).2 hw, ?_, h3, ?_, hlen, ?_, ?_, h5⟩
  · have := brg_self h3 _ (Nat.le_refl _)
    rwa [List.take_length] at this
  · intro r hr i hi
    have hg := valid_get hr.valid hi
    have he := set_edges hr.valid hi
    rw [hr.mem, hr.mem] at he
    have hin : ∀ d, r[i].1 ≤ d → d < r[i].2 → mem (brg n l) d = true ∧ mem l d = false := fun d hd1 hd2 => by
      have : mem r d = true := (mem_iff r d).2 ⟨r[i], List.getElem_mem hi, hd1, hd2⟩
      rw [hr.mem] at this
      simpa using this
    obtain ⟨m1, m2⟩ := hin r[i].1 (by omega) hg.2.1
    rcases (h2 r[i].1).1 m1 with c | ⟨j, hj, hjl, g1, g2, g3⟩
    · rw [m2] at c; cases c
    have hgap : ∀ d, (l[j]'(by omega)).2 ≤ d → d < l[j + 1].1 → (mem (brg n l) d && !mem l d) = true := fun d hd1 hd2 => by
      have e1 : mem (brg n l) d = true := (h2 d).2 (.inr ⟨j, hj, hjl, hd1, hd2, g3⟩)
      have e2 : mem l d = false := by
        rw [← Bool.not_eq_true, mem_iff]
        rintro ⟨s, hs, a1, a2⟩
        obtain ⟨k, hk, rfl⟩ := List.getElem_of_mem hs
        have hg2 := valid_get hv hk
        have hgj := valid_get hv (k := j) (by omega)
        rcases Nat.lt_trichotomy k j with c | c | c
        · have := valid_mono hv c (by omega); omega
        · subst c; omega
        · rcases Nat.eq_or_lt_of_le (show j + 1 ≤ k from c) with c2 | c2
          · subst c2; omega
          · have := valid_mono hv c2 hk
            have := valid_get hv hjl
            omega
      rw [e1, e2]; rfl
    have hgj := valid_get hv (k := j) (by omega)
    have hgj1 := valid_get hv hjl
    have x1 : r[i].1 = (l[j]'(by omega)).2 := by
      rcases Int.lt_or_le (l[j]'(by omega)).2 r[i].1 with c | c
      · have := hgap (r[i].1 - 1) (by omega) (by omega)
        rw [he.1] at this; cases this
      · omega
    have x2 : r[i].2 = l[j + 1].1 := by
      rcases Int.lt_trichotomy r[i].2 l[j + 1].1 with c | c | c
      · have := hgap r[i].2 (by omega) c
        rw [he.2] at this; cases this
      · exact c
      · have := (hin l[j + 1].1 (by omega) c).2
        rw [← Bool.not_eq_true, mem_iff] at this
        exact absurd ⟨l[j + 1], List.getElem_mem hjl, by omega, by omega⟩ this
    refine ⟨by omega, ?_, ?_⟩
    · rw [mem_iff]; exact ⟨l[j]'(by omega), List.getElem_mem _, by omega, by omega⟩
    · rw [mem_iff]; exact ⟨l[j + 1], List.getElem_mem hjl, by omega, by omega⟩
  · intro h h'
    obtain ⟨y, r, hr⟩ := h4 h l.length h (Nat.le_refl _)
    rw [List.take_length] at hr
    simp only [hr, List.getElem_cons_zero]
  · intro h h'
    have e1 := lastTo_take' (-1) (brg n l) (brg n l).length (Nat.le_refl _) h'
    have e2 := lastTo_take' (-1) l l.length (Nat.le_refl _) h
    rw [List.take_length] at e1 e2
    rw [← e1, ← e2, h1.2]

end Sp

namespace Sp

/-- The set of the marked days below n. -/
def runs (f : Nat → Bool) : Nat → Sps
  | 0 => []
  | n + 1 => if f n then (if 0 < n ∧ f (n - 1) = true then (runs f n).dropLast ++ [(((runs f n).getLast?.getD (0, 0)).1, (n : Int) + 1)] else runs f n ++ [((n : Int), (n : Int) + 1)]) else runs f n

theorem runs_no {f : Nat → Bool} {n : Nat} (h : f n = false) : runs f (n + 1) = runs f n := by rw [runs, if_neg (by rw [h]; decide)]
theorem runs_new {f : Nat → Bool} {n : Nat} (h : f n = true) (h' : ¬ (0 < n ∧ f (n - 1) = true)) : runs f (n + 1) = runs f n ++ [((n : Int), (n : Int) + 1)] := by rw [runs, if_pos h, if_neg h']
theorem runs_on {f : Nat → Bool} {n : Nat} (h : f n = true) (h' : 0 < n ∧ f (n - 1) = true) {s : Sps} {t : Int × Int} (hs : runs f n = s ++ [t]) : runs f (n + 1) = s ++ [(t.1, (n : Int) + 1)] := by
  rw [runs, if_pos h, if_pos h', hs]; simp

/-- What the set is. -/
structure RunsAre (f : Nat → Bool) (n : Nat) (l : Sps) : Prop where
  valid : validFrom (-1) l = true
  mem : ∀ d : Int, Sp.mem l d = true ↔ 0 ≤ d ∧ d < n ∧ f d.toNat = true
  last : lastTo (-1) l ≤ n
  open_ : 0 < n → f (n - 1) = true → ∃ (s : Sps) (t : Int × Int), l = s ++ [t] ∧ t.2 = (n : Int)
  shut : 0 < n → f (n - 1) = false → lastTo (-1) l < n

theorem runs_are (f : Nat → Bool) : ∀ n, n ≤ 65536 → RunsAre f n (runs f n) := by
  intro n
  induction n with
  | zero => intro _; exact ⟨rfl, fun d => by rw [show runs f 0 = [] from rfl, mem_nil]; constructor <;> intro h <;> simp at h; omega, by rw [show runs f 0 = [] from rfl, lastTo_nil]; omega, fun h => by omega, fun h => by omega⟩
  | succ n ih =>
    intro hn
    have ih := ih (by omega)
    cases hf : f n with
    | false =>
      rw [runs_no hf]
      refine ⟨ih.valid, fun d => ?_, by have := ih.last; push_cast; omega, fun _ h => ?_, fun _ _ => by have := ih.last; push_cast; omega⟩
      · rw [ih.mem]
        constructor
        · rintro ⟨h1, h2, h3⟩; exact ⟨h1, by push_cast; omega, h3⟩
        · rintro ⟨h1, h2, h3⟩
          refine ⟨h1, ?_, h3⟩
          rcases Int.lt_or_le d n with h | h
          · exact h
          · have : d.toNat = n := by push_cast at h2; omega
            rw [this, hf] at h3; cases h3
      · rw [Nat.add_sub_cancel, hf] at h; cases h
    | true =>
      have hmem : ∀ d : Int, (0 ≤ d ∧ d < ((n + 1 : Nat) : Int) ∧ f d.toNat = true) ↔ (0 ≤ d ∧ d < n ∧ f d.toNat = true) ∨ d = n := by
        intro d
        constructor
        · rintro ⟨h1, h2, h3⟩
          rcases Int.lt_or_le d n with h | h
          · exact .inl ⟨h1, h, h3⟩
          · right; push_cast at h2; omega
        · rintro (⟨h1, h2, h3⟩ | rfl)
          · exact ⟨h1, by push_cast; omega, h3⟩
          · exact ⟨by omega, by push_cast; omega, by rw [Int.toNat_natCast]; exact hf⟩
      by_cases h' : 0 < n ∧ f (n - 1) = true
      · obtain ⟨s, t, hs, ht⟩ := ih.open_ h'.1 h'.2
        rw [runs_on hf h' hs]
        have hv := ih.valid
        rw [hs, validFrom_snoc] at hv
        refine ⟨by rw [validFrom_snoc]; exact ⟨hv.1, hv.2.1, by dsimp only; omega, by dsimp only; omega⟩, fun d => ?_, by rw [lastTo_snoc]; push_cast; omega, fun _ _ => ⟨s, _, rfl, by push_cast; rfl⟩, fun _ h => ?_⟩
        · rw [hmem, ← ih.mem, hs, mem_append, mem_append, Bool.or_eq_true, Bool.or_eq_true, mem_cons_iff, mem_cons_iff, mem_nil]
          dsimp only
          have := hv.2.2.1
          constructor
          · rintro (h | ⟨h1, h2⟩ | h)
            · exact .inl (.inl h)
            · rcases Int.lt_or_le d n with h | h
              · exact .inl (.inr (.inl ⟨h1, by omega⟩))
              · right; omega
            · cases h
          · rintro ((h | ⟨h1, h2⟩ | h) | rfl)
            · exact .inl h
            · exact .inr (.inl ⟨h1, by omega⟩)
            · cases h
            · exact .inr (.inl ⟨by omega, by omega⟩)
        · rw [Nat.add_sub_cancel, hf] at h; cases h
      · rw [runs_new hf h']
        have hl : lastTo (-1) (runs f n) < n := by
          rcases Nat.eq_zero_or_pos n with rfl | h0
          · rw [show runs f 0 = [] from rfl, lastTo_nil]; omega
          · refine ih.shut h0 ?_
            cases hc : f (n - 1) with
            | false => rfl
            | true => exact absurd ⟨h0, hc⟩ h'
        refine ⟨by rw [validFrom_snoc]; exact ⟨ih.valid, by dsimp only; omega, by dsimp only; omega, by dsimp only; omega⟩, fun d => ?_, by rw [lastTo_snoc]; push_cast; omega, fun _ _ => ⟨_, _, rfl, by push_cast; rfl⟩, fun _ h => ?_⟩
        · rw [hmem, ← ih.mem, mem_append, Bool.or_eq_true, mem_cons_iff, mem_nil]
          dsimp only
          constructor
          · rintro (h | ⟨h1, h2⟩ | h)
            · exact .inl h
            · right; omega
            · cases h
          · rintro (h | rfl)
            · exact .inl h
            · exact .inr (.inl ⟨by omega, by omega⟩)
        · rw [Nat.add_sub_cancel, hf] at h; cases h

/-- The set of marks, as a predicate on all days. -/
def mk65 (f : Nat → Bool) (d : Int) : Bool := decide (0 ≤ d) && decide (d < 65536) && f d.toNat
theorem runs_set (f : Nat → Bool) : IsSet (mk65 f) (runs f 65536) := by
  have h := runs_are f 65536 (Nat.le_refl _)
  refine ⟨h.valid, fun d => ?_⟩
  rw [Bool.eq_iff_iff, h.mem]
  unfold mk65
  simp only [Bool.and_eq_true, decide_eq_true_eq]
  constructor
  · rintro ⟨h1, h2, h3⟩; exact ⟨⟨h1, h2⟩, h3⟩
  · rintro ⟨⟨h1, h2⟩, h3⟩; exact ⟨h1, h2, h3⟩
theorem runs_length (f : Nat → Bool) : ∀ n, (runs f n).length ≤ n
  | 0 => Nat.le_refl _
  | n + 1 => by
    have ih := runs_length f n
    cases hf : f n with
    | false => rw [runs_no hf]; omega
    | true =>
      by_cases h' : 0 < n ∧ f (n - 1) = true
      · rw [runs, if_pos hf, if_pos h']; simp; omega
      · rw [runs_new hf h']; simp; omega

end Sp

namespace Sp

theorem heldP_mem {c : Cs} (h : c.HOk) (d x : Int) : mem (heldP c d) x = (mem c.held x || (c.hold && decide (c.since ≤ x) && decide (x < min d 65536))) := by
  unfold heldP
  split
  · rename_i hh
    have hs := h.hold hh.1
    have hv : validB [(c.since, min d 65536)] = true := by
      unfold validB; rw [validFrom_cons]; dsimp only; exact ⟨by omega, by omega, by omega, rfl⟩
    rw [(un_set h.vh hv).mem, mem_cons, mem_nil, hh.1]
    simp
  · rename_i hh
    have : (c.hold && decide (c.since ≤ x) && decide (x < min d 65536)) = false := by
      rw [← Bool.not_eq_true]
      intro h2
      simp only [Bool.and_eq_true, decide_eq_true_eq] at h2
      exact hh ⟨h2.1.1, by omega⟩
    rw [this, Bool.or_false]

theorem heldP_off {c : Cs} (h : c.hold = false) (d : Int) : heldP c d = c.held := by
  unfold heldP; rw [if_neg (by rw [h]; simp)]

/-- What is true of a case behind the last accepted filing. -/
structure Cs.Inv (c : Cs) (last : Int) : Prop where
  since0 : c.hold = false → c.since = 0
  el : c.el = true → (c.st = 1 ∨ c.st = 4) ∧ c.level = 0 ∧ c.held = [] ∧ c.hold = false ∧ 1 ≤ c.choice ∧ c.choice ≤ c.days
  dec : c.el = false → c.st ≠ 1 ∧ c.choice = 0
  op : 0 ≤ c.opened ∧ c.opened ≤ last ∧ c.opened ≤ c.due
  since : c.hold = true → c.since ≤ last
  fin : 4 ≤ c.st → c.due ≤ last
  low : ∀ d, mem c.held d = true → d < last

theorem Cs.Inv.mono {c : Cs} {a b : Int} (h : c.Inv a) (hab : a ≤ b) : c.Inv b :=
  ⟨h.since0, h.el, h.dec, by have := h.op; omega, fun e => Int.le_trans (h.since e) hab, fun e => Int.le_trans (h.fin e) hab, fun d hd => Int.lt_of_lt_of_le (h.low d hd) hab⟩

theorem endHoldP_low {c : Cs} (h : c.HOk) {u d : Int} (hu : u ≤ d) (hl : ∀ x, mem c.held x = true → x < d) : ∀ x, mem (endHoldP c u).held x = true → x < d := by
  intro x hx
  unfold endHoldP at hx
  split at hx
  · dsimp only at hx
    rw [heldP_mem h] at hx
    simp only [Bool.or_eq_true, Bool.and_eq_true, decide_eq_true_eq] at hx
    rcases hx with hx | hx
    · exact hl x hx
    · omega
  · exact hl x hx
theorem endHoldP_since {c : Cs} (h : c.hold = false → c.since = 0) (d : Int) : (endHoldP c d).since = 0 := by
  unfold endHoldP
  split
  · rfl
  · rename_i hh
    exact h (by simpa using hh)

theorem upholdP_inv {c : Cs} (hc : c.Ok) (he : c.el = false) {u d : Int} (hi : c.Inv d) (hu : u ≤ d) (ho : c.opened ≤ u) : (upholdP c u).Inv d := by
  obtain ⟨e1, e2, e3, e4, e5, e6, e7, e8⟩ := endHoldP_level c u
  have hl := endHoldP_low hc.h hu hi.low
  have hs := endHoldP_since hi.since0 u
  have hop := hi.op
  have hd := hc.days
  have hdec := hi.dec he
  unfold upholdP
  dsimp only
  split
  · exact ⟨fun _ => hs, by dsimp only; rw [e6, he]; simp, fun _ => ⟨by simp, by dsimp only; rw [e8]; exact hdec.2⟩, by dsimp only; rw [e7]; omega, by dsimp only; rw [e3]; simp, fun _ => hu, hl⟩
  · exact ⟨fun _ => hs, by dsimp only; rw [e6, he]; simp, fun _ => ⟨by simp, by dsimp only; rw [e8]; exact hdec.2⟩, by dsimp only; rw [e7, e2]; omega, by dsimp only; rw [e3]; simp, by simp, hl⟩

theorem nextP_inv {c : Cs} (hc : c.Ok) {last d : Int} (hi : c.Inv last) (hl : last ≤ d) (he : endsP c = true) (hd : c.due < d) : (nextP c).Inv d := by
  have hst := (endsP_iff c).1 he
  have hop := hi.op
  unfold nextP
  split
  · rename_i h3
    have hel : c.el = false := by
      rw [← Bool.not_eq_true]; intro h; have := (hi.el h).1; omega
    exact upholdP_inv hc hel (hi.mono hl) (by omega) (by omega)
  · rename_i h3
    exact ⟨hi.since0, fun h => ⟨.inr rfl, (hi.el h).2⟩, fun h => ⟨by simp, (hi.dec h).2⟩, by dsimp only; omega, fun h => Int.le_trans (hi.since h) hl, fun _ => by dsimp only; omega, fun x hx => Int.lt_of_lt_of_le (hi.low x hx) hl⟩
theorem passP_inv {c : Cs} (hc : c.Ok) {last d : Int} (hi : c.Inv last) (hl : last ≤ d) : (passP c d).Inv d := by
  unfold passP
  split
  · rename_i hg
    have h1 := (goP_iff _ _).1 hg
    have i1 := nextP_inv hc hi hl h1.1 h1.2
    split
    · rename_i hg2
      have h2 := (goP_iff _ _).1 hg2
      exact nextP_inv (nextP_ok hc h1.1).1 i1 (Int.le_refl _) h2.1 h2.2
    · exact i1
  · exact hi.mono hl

theorem opensP_not {f : Fl} (h : opensP f = false) : f.kind ≠ 1 ∧ f.kind ≠ 4 := by
  unfold opensP at h
  constructor <;> intro e <;> rw [e] at h <;> simp at h

theorem effP_inv {f : Fl} (W : f.Wf) (ho : opensP f = false) {c : Cs} (hc : c.Ok) (hi : c.Inv f.day) (hst : c.st = needP f.kind) (hch : f.kind = 2 → f.n ≤ c.days) : (effP f c).Inv f.day := by
  have hk := W.kind
  obtain ⟨k1, k4⟩ := opensP_not ho
  have hop := hi.op
  have hday := W.day
  unfold needP at hst
  unfold effP
  split
  · rename_i e
    have h2 := W.k2 e
    have h3 := hch e
    rw [if_pos (.inl e)] at hst
    exact ⟨hi.since0, fun h => by obtain ⟨a, b, p, q, _⟩ := hi.el h; exact ⟨a, b, p, q, h2.2.1, h3⟩, fun h => absurd hst (hi.dec h).1, hop, hi.since, hi.fin, hi.low⟩
  · split
    · rename_i e
      rw [if_pos (.inr e)] at hst
      exact ⟨hi.since0, fun h => ⟨.inr rfl, (hi.el h).2⟩, fun h => absurd hst (hi.dec h).1, by dsimp only; omega, hi.since, fun _ => Int.le_refl _, hi.low⟩
    · rename_i e2 e3
      rw [if_neg (by omega)] at hst
      split
      · rename_i e
        rw [if_pos e] at hst
        have hel : c.el = false := by
          rw [← Bool.not_eq_true]; intro h; have := (hi.el h).1; omega
        have hdec := hi.dec hel
        split
        · exact ⟨by simp, by dsimp only; rw [hel]; simp, fun _ => ⟨by simp, hdec.2⟩, by dsimp only; omega, fun _ => Int.le_refl _, by simp, hi.low⟩
        · exact ⟨hi.since0, by dsimp only; rw [hel]; simp, fun _ => ⟨by simp, hdec.2⟩, by dsimp only; omega, hi.since, by simp, hi.low⟩
      · rename_i e5
        rw [if_neg e5] at hst
        have hel : c.el = false := by
          rw [← Bool.not_eq_true]; intro h; have := (hi.el h).1; omega
        have hdec := hi.dec hel
        have key : ∀ s : Int, s = 4 ∨ s = 5 → (endHoldP { c with st := s, due := f.day } f.day).Inv f.day := by
          intro s hs
          have g := endHoldP_level { c with st := s, due := f.day } f.day
          obtain ⟨g1, g2, g3, g4, g5, g6, g7, g8⟩ := g
          dsimp only at g1 g2 g4 g5 g6 g7 g8
          exact ⟨fun _ => endHoldP_since (c := { c with st := s, due := f.day }) hi.since0 _, by rw [g6, hel]; simp, fun _ => ⟨by rw [g4]; omega, by rw [g8]; exact hdec.2⟩, by rw [g7, g5]; omega, by rw [g3]; simp, fun _ => by rw [g5]; exact Int.le_refl _,
            endHoldP_low (c := { c with st := s, due := f.day }) ⟨hc.vh, hc.h.hold, hc.h.len⟩ (Int.le_refl _) hi.low⟩
        split
        · split
          · exact upholdP_inv hc hel hi (Int.le_refl _) hop.2.1
          · exact key 5 (.inr rfl)
        · exact key 4 (.inl rfl)
theorem newCase_inv {f : Fl} (W : f.Wf) (ho : opensP f = true) : (newCase f).Inv f.day := by
  have hd := W.day
  unfold newCase
  split
  · rename_i e
    have h1 := W.k1 e
    exact ⟨fun _ => rfl, fun _ => ⟨.inl rfl, rfl, rfl, rfl, Int.le_refl 1, by dsimp only; omega⟩, by simp, by dsimp only; omega, by simp, by simp, by simp [mem_nil]⟩
  · rename_i e
    have h4 := W.k4 (by unfold opensP at ho; simp at ho; omega)
    exact ⟨fun _ => rfl, by simp, fun _ => ⟨by simp, rfl⟩, by dsimp only; omega, by simp, by simp, by simp [mem_nil]⟩

/-- What a filing that is accepted says. -/
theorem errD_ok {D : Dk} {f : Fl} (h : errD D f = 0) : D.num < 1000 ∧ wf f = true ∧ f.Wf ∧ D.last ≤ f.day ∧ errL D.cs f = 0 := by
  unfold errD at h
  split at h
  · omega
  · split at h
    · rename_i hw
      split at h
      · omega
      · exact ⟨by omega, hw, (wf_iff f).1 hw, by omega, h⟩
    · omega
theorem stepD_yes {D : Dk} {f : Fl} (h : errD D f = 0) : stepD D f = ⟨D.num + 1, effL D.cs f, f.day⟩ := by unfold stepD; rw [if_pos h]
theorem stepD_no {D : Dk} {f : Fl} (h : errD D f ≠ 0) : stepD D f = ⟨D.num + 1, D.cs, D.last⟩ := by unfold stepD; rw [if_neg h]

theorem stepD_inv {D : Dk} (hD : D.Ok) (h : ∀ c ∈ D.cs, c.Inv D.last) (f : Fl) : ∀ c ∈ (stepD D f).cs, c.Inv (stepD D f).last := by
  by_cases he : errD D f = 0
  · obtain ⟨_, _, W, hl, hE⟩ := errD_ok he
    rw [stepD_yes he]
    dsimp only
    unfold effL
    cases ho : opensP f with
    | true =>
      rw [if_pos rfl]
      intro c hc
      rcases List.mem_append.1 hc with hc | hc
      · exact (h c hc).mono hl
      · rw [List.mem_singleton.1 hc]; exact newCase_inv W ho
    | false =>
      rw [if_neg (by decide)]
      intro c hc
      obtain ⟨h1, h2, h3⟩ := errL_own ho hE
      obtain ⟨k1, k4⟩ := opensP_not ho
      have hc1 := (W.kc k1 k4).1
      rcases List.mem_or_eq_of_mem_set hc with hc | rfl
      · exact (h c hc).mono hl
      · exact effP_inv W ho (ownP_ok hD hc1 h1) (by
          unfold ownP
          rw [List.getD_eq_getElem?_getD, List.getElem?_eq_getElem (by omega)]
          exact passP_inv (hD.cs _ (List.getElem_mem _)) (h _ (List.getElem_mem _)) hl) h2 h3
  · rw [stepD_no he]; exact h
theorem runD_inv (l : List Fl) : ∀ c ∈ (runD l).cs, c.Inv (runD l).last := by
  unfold runD
  suffices ∀ D : Dk, D.Ok → (∀ c ∈ D.cs, c.Inv D.last) → ∀ c ∈ (l.foldl stepD D).cs, c.Inv (l.foldl stepD D).last from this _ ⟨by simp, by simp, by decide⟩ (by simp)
  induction l with
  | nil => intro D _ h; exact h
  | cons f l ih => intro D hD h; exact ih _ (stepD_ok hD f) (stepD_inv hD h f)

/-- From one filing to the next, about accepted ones only. -/
theorem dk_ind {P : Dk → Prop} (h0 : P ⟨0, [], -1⟩) (hs : ∀ D f, D.Ok → (∀ c ∈ D.cs, c.Inv D.last) → P D → P (stepD D f)) (l : List Fl) : P (runD l) := by
  unfold runD
  suffices ∀ D : Dk, D.Ok → (∀ c ∈ D.cs, c.Inv D.last) → P D → P (l.foldl stepD D) from this _ ⟨by simp, by simp, by decide⟩ (by simp) h0
  induction l with
  | nil => intro D _ _ h; exact h
  | cons f l ih => intro D hD h hp; exact ih _ (stepD_ok hD f) (stepD_inv hD h f) (hs D f hD h hp)

/-! ## Days on which a case settles -/

theorem nextP_due (c : Cs) : (c.st ≠ 3 → (nextP c).due = c.due + 1 ∧ (nextP c).st = 4) ∧ (c.st = 3 → ((nextP c).due = c.due + 1 ∧ (nextP c).st = 4) ∨ ((nextP c).due = c.due + 1 + c.days ∧ (nextP c).st = 2)) := by
  unfold nextP
  refine ⟨fun h => by rw [if_neg h]; exact ⟨rfl, rfl⟩, fun h => ?_⟩
  rw [if_pos h]
  unfold upholdP
  dsimp only
  split
  · exact .inl ⟨rfl, rfl⟩
  · exact .inr ⟨by dsimp only; rw [(endHoldP_level c _).2.1], rfl⟩
theorem setlP_done {c : Cs} (h : c.Ok) : endsP (setlP c) = false ∧ 4 ≤ (setlP c).st ∧ (setlP c).Ok := by
  have h1 := passP_ok h 100000
  have h2 := passP_done h 100000
  have h3 : ¬ endsP (setlP c) = true := by
    intro he
    rw [← Bool.not_eq_true, goP_iff] at h2
    exact h2 ⟨he, by have := h1.due; omega⟩
  refine ⟨by simpa using h3, ?_, h1⟩
  have h4 : 1 ≤ (setlP c).st ∧ (setlP c).st ≤ 5 := h1.st
  have h5 : ¬ ((setlP c).st = 1 ∨ (setlP c).st = 2 ∨ (setlP c).st = 3) := fun h => h3 ((endsP_iff _).2 h)
  omega
theorem passP_done_setl {c : Cs} (h : c.Ok) {d : Int} (hd : d ≤ 100000) (he : endsP (passP c d) = false) : passP c d = setlP c := by
  unfold setlP
  rw [← passP_trans h hd]
  exact (passP_stop (by rw [goP_iff, he]; simp)).symm
theorem passP_due_mono {c : Cs} (h : c.Ok) (d : Int) : c.due ≤ (passP c d).due := by
  unfold passP
  have a1 := nextP_due c
  have a2 := nextP_due (nextP c)
  have hd := h.days
  split
  · rename_i hg
    have hn := (nextP_ok h ((goP_iff _ _).1 hg).1).1
    have hd2 := hn.days
    split
    · by_cases h3 : c.st = 3
      · by_cases h4 : (nextP c).st = 3
        · have := a1.2 h3; omega
        · have := a1.2 h3; have := a2.1 h4; omega
      · have := a1.1 h3
        by_cases h4 : (nextP c).st = 3
        · omega
        · have := a2.1 h4; omega
    · by_cases h3 : c.st = 3
      · have := a1.2 h3; omega
      · have := a1.1 h3; omega
  · exact Int.le_refl _
theorem setlP_due_le {c : Cs} (h : c.Ok) : (c.st = 2 → (setlP c).due ≤ c.due + 1) ∧ (c.st = 3 → (setlP c).due ≤ c.due + 2 + c.days) ∧ (4 ≤ c.st → setlP c = c) := by
  have hd := h.days
  unfold setlP passP
  have a1 := nextP_due c
  have a2 := nextP_due (nextP c)
  have hrest : ∀ x : Cs, x.st = 4 → goP x 100000 = false := by
    intro x hx; unfold goP endsP; rw [hx]; simp
  refine ⟨fun h2 => ?_, fun h3 => ?_, fun h4 => ?_⟩
  · have b1 := a1.1 (by omega)
    split
    · rw [if_neg (by rw [hrest _ b1.2]; decide)]; omega
    · omega
  · split
    · rcases a1.2 h3 with b | b
      · rw [if_neg (by rw [hrest _ b.2]; decide)]; omega
      · have b2 := a2.1 (by omega)
        split <;> omega
    · omega
  · rw [if_neg]
    unfold goP endsP
    simp; omega
/-- On the day of its due, and later, it is settled. -/
theorem passP_settled {c : Cs} (h : c.Ok) {d : Int} (hd : (setlP c).due ≤ d) (hd2 : d ≤ 100000) : passP c d = setlP c := by
  refine passP_done_setl h hd2 ?_
  rw [← Bool.not_eq_true]
  intro he
  have h1 := passP_due h d he
  have h2 := passP_ok h d
  have h3 : setlP c = setlP (passP c d) := (passP_trans h hd2).symm
  have h4 : (passP c d).due < (setlP (passP c d)).due := by
    have hg : goP (passP c d) 100000 = true := (goP_iff _ _).2 ⟨he, by have := h2.due; omega⟩
    have h5 := passP_due_mono (nextP_ok h2 he).1 100000
    rw [passP_next h2 hg] at h5
    have a1 := nextP_due (passP c d)
    have := h2.days
    unfold setlP
    by_cases h3 : (passP c d).st = 3
    · have := a1.2 h3; omega
    · have := a1.1 h3; omega
  rw [← h3] at h4
  omega
theorem setl_before {c : Cs} (h : c.Ok) {last d : Int} (hi : c.Inv last) (hl : last ≤ d) (hd : d < (setlP c).due) (hd2 : d ≤ 100000) : (passP c d).st < 4 := by
  by_cases h4 : (passP c d).st < 4
  · exact h4
  · exfalso
    have he : endsP (passP c d) = false := by
      rw [← Bool.not_eq_true, endsP_iff]; omega
    have e := passP_done_setl h hd2 he
    have := (passP_inv h hi hl).fin (by omega)
    rw [e] at this
    omega

/-! ## Held days -/

theorem heldP_at {c : Cs} (h : c.HOk) {d x y : Int} (hd : d < 65536) (hx : d < x) (hy : d < y) : mem (heldP c x) d = mem (heldP c y) d := by
  rw [heldP_mem h, heldP_mem h, show decide (d < min x 65536) = true by simp; omega, show decide (d < min y 65536) = true by simp; omega]
theorem nextP_held {c : Cs} (h : c.Ok) {d : Int} (hd : d < 65536) (hdue : d ≤ c.due) (x : Int) : mem (heldP (nextP c) x) d = mem (heldP c (d + 1)) d := by
  by_cases h3 : c.st = 3
  · have e1 : (nextP c).hold = false ∧ (nextP c).held = (endHoldP c (c.due + 1)).held := by
      unfold nextP upholdP
      rw [if_pos h3]
      dsimp only
      have e := endHoldP_level c (c.due + 1)
      split <;> exact ⟨e.2.2.1, rfl⟩
    rw [heldP_off e1.1, e1.2]
    unfold endHoldP
    split
    · dsimp only
      exact heldP_at h.h hd (by omega) (by omega)
    · rename_i hh
      rw [heldP_off (by simpa using hh)]
  · have hh : c.hold = false := by
      rw [← Bool.not_eq_true]; intro h4; exact h3 (h.hold h4).1
    have e1 : (nextP c).hold = false ∧ (nextP c).held = c.held := by
      unfold nextP; rw [if_neg h3]; exact ⟨hh, rfl⟩
    rw [heldP_off e1.1, e1.2, heldP_off hh]
theorem passP_held0 {c : Cs} (h : c.Ok) {d x y : Int} (hd : d < 65536) (hdue : endsP c = true → d ≤ c.due) (hy : d < y) : mem (heldP (passP c x) y) d = mem (heldP c (d + 1)) d := by
  unfold passP
  split
  · rename_i hg
    have he := ((goP_iff _ _).1 hg).1
    have hn := (nextP_ok h he).1
    have a1 := nextP_due c
    have hdd := h.days
    split
    · have hd1 := hdue he
      rw [nextP_held hn hd (by
        by_cases h3 : c.st = 3
        · have := a1.2 h3; omega
        · have := a1.1 h3; omega), nextP_held h hd (hdue he)]
    · exact nextP_held h hd (hdue he) _
  · exact heldP_at h.h hd hy (by omega)
/-- Held on a day: looked at on that day, or later. -/
theorem atP_held {c : Cs} (h : c.Ok) {d x : Int} (hd : d < 65536) (hx : d ≤ x) : mem (atP c x).held d = mem (atP c d).held d := by
  unfold atP
  dsimp only
  rw [← passP_trans h hx]
  exact passP_held0 (passP_ok h d) hd (passP_due h d) (by omega)
/-- Held on a day: pending with a hold. -/
theorem atP_held_now {c : Cs} (h : c.Ok) {last d : Int} (hi : c.Inv last) (hl : last ≤ d) (hd : d < 65536) : mem (atP c d).held d = ((passP c d).st == 3 && (passP c d).hold) := by
  have h1 := passP_inv h hi hl
  have h2 := passP_ok h d
  unfold atP
  dsimp only
  rw [heldP_mem h2.h]
  have e1 : mem (passP c d).held d = false := by
    rw [← Bool.not_eq_true]; intro hm; have := h1.low d hm; omega
  rw [e1, Bool.false_or]
  cases hh : (passP c d).hold with
  | false => simp
  | true =>
    have h3 := h2.hold hh
    have h4 := h1.since hh
    rw [h3.1]
    simp; omega
theorem effP_due {f : Fl} (ho : opensP f = false) {c : Cs} (hc : c.Ok) (hdue : endsP c = true → f.day ≤ c.due) : endsP (effP f c) = true → f.day ≤ (effP f c).due := by
  obtain ⟨k1, k4⟩ := opensP_not ho
  have hd := hc.days
  unfold effP
  split
  · exact hdue
  · split
    · intro _; exact Int.le_refl _
    · split
      · split <;> (intro _; dsimp only; omega)
      · split
        · split
          · intro _
            unfold upholdP
            dsimp only
            have e := endHoldP_level c f.day
            split
            · exact Int.le_refl _
            · dsimp only; omega
          · intro _
            have e := (endHoldP_level { c with st := 5, due := f.day } f.day).2.2.2.2.1
            rw [e]; exact Int.le_refl _
        · intro _
          have e := (endHoldP_level { c with st := 4, due := f.day } f.day).2.2.2.2.1
          rw [e]; exact Int.le_refl _
/-- An accepted filing changes nothing about the days ahead of it. -/
theorem effP_held {f : Fl} (W : f.Wf) {c : Cs} (hc : c.Ok) (hst : c.st = needP f.kind) {d x y : Int} (hd : d < f.day) (hx : d < x) (hy : d < y) : mem (heldP (effP f c) x) d = mem (heldP c y) d := by
  have hday := W.day
  have hd2 : d < 65536 := by omega
  have nohold : c.st ≠ 3 → c.hold = false := fun h3 => by
    rw [← Bool.not_eq_true]; intro h4; exact h3 (hc.hold h4).1
  have hend : ∀ s u : Int, mem (heldP (endHoldP { c with st := s, due := u } f.day) x) d = mem (heldP c y) d := by
    intro s u
    have e := endHoldP_level { c with st := s, due := u } f.day
    rw [heldP_off e.2.2.1]
    unfold endHoldP
    split
    · dsimp only
      have : heldP { c with st := s, due := u } f.day = heldP c f.day := rfl
      rw [this]
      exact heldP_at hc.h hd2 hd hy
    · rename_i hh
      dsimp only at hh ⊢
      rw [heldP_off (by simpa using hh)]
  unfold needP at hst
  unfold effP
  split
  · exact heldP_at (c := c) hc.h hd2 hx hy
  · split
    · exact heldP_at (c := c) hc.h hd2 hx hy
    · rename_i e2 e3
      rw [if_neg (by omega)] at hst
      split
      · rename_i e5
        rw [if_pos e5] at hst
        have hh := nohold (by omega)
        split
        · rw [heldP_off hh]
          unfold heldP
          dsimp only
          split
          · rename_i h9
            have hv : validB [(f.day, min x 65536)] = true := by
              unfold validB; rw [validFrom_cons]; dsimp only; exact ⟨by omega, by omega, by omega, rfl⟩
            rw [(un_set hc.vh hv).mem, mem_cons, mem_nil]
            simp; omega
          · rfl
        · rw [heldP_off hh]
          exact congrArg (mem · d) (heldP_off (c := { c with st := 3, due := f.day + 365, level := c.level + 1 }) hh x)
      · split
        · split
          · have e := endHoldP_level c f.day
            have e1 : (upholdP c f.day).hold = false ∧ (upholdP c f.day).held = (endHoldP c f.day).held := by
              unfold upholdP
              dsimp only
              split <;> exact ⟨e.2.2.1, rfl⟩
            rw [heldP_off e1.1, e1.2]
            unfold endHoldP
            split
            · dsimp only
              exact heldP_at hc.h hd2 hd hy
            · rename_i hh
              rw [heldP_off (by simpa using hh)]
          · exact hend 5 f.day
        · exact hend 4 f.day
end Sp

namespace Sp

/-- A morning: what the reference makes of a case on the next day. -/
def mornR (c : Cs) (d : Int) : Cs := if c.due < d ∧ (c.st = 1 ∨ c.st = 2) then { c with st := 4, due := d } else if c.due < d ∧ c.st = 3 then upholdP c d else c
theorem mornR_eq {c : Cs} {d : Int} (hd : endsP c = true → d ≤ c.due + 1) : mornR c d = if goP c d = true then nextP c else c := by
  unfold mornR
  by_cases hg : goP c d = true
  · have h1 := (goP_iff c d).1 hg
    have h2 := (endsP_iff c).1 h1.1
    have h3 : c.due + 1 = d := by have := hd h1.1; omega
    rw [if_pos hg]
    unfold nextP
    by_cases h4 : c.st = 3
    · rw [if_neg (by omega), if_pos ⟨h1.2, h4⟩, if_pos h4, h3]
    · rw [if_pos ⟨h1.2, by omega⟩, if_neg h4, h3]
  · rw [if_neg hg]
    have h5 : ¬ (c.due < d ∧ (c.st = 1 ∨ c.st = 2 ∨ c.st = 3)) := fun h => hg ((goP_iff c d).2 ⟨(endsP_iff c).2 h.2, h.1⟩)
    rw [if_neg (by omega), if_neg (by omega)]
/-- One day more. -/
theorem morn_pass {c : Cs} (h : c.Ok) (d : Int) : mornR (passP c d) (d + 1) = passP c (d + 1) := by
  rw [mornR_eq (fun he => by have := passP_due h d he; omega), passP_succ h d]

/-- The reference's docket: the cases as of the day of the last accepted filing. -/
def bkCs (D : Dk) : List Cs := D.cs.map fun c => passP c (max 0 D.last)
theorem bk_pass {D : Dk} (hD : D.Ok) {d : Int} (hd : max 0 D.last ≤ d) : (bkCs D).map (fun c => passP c d) = D.cs.map fun c => passP c d := by
  unfold bkCs
  rw [List.map_map]
  refine List.map_congr_left fun c hc => ?_
  exact passP_trans (hD.cs c hc) hd
/-- What one filing makes of the reference's docket. -/
theorem bk_step {D : Dk} (hD : D.Ok) (f : Fl) (he : errD D f = 0) : bkCs (stepD D f) = (if opensP f = true then (D.cs.map fun c => passP c f.day) ++ [newCase f] else (D.cs.map fun c => passP c f.day).set (f.case.toNat - 1) (effP f (ownP D.cs f))) := by
  obtain ⟨_, _, W, hl, hE⟩ := errD_ok he
  have hday := W.day
  rw [stepD_yes he]
  unfold bkCs effL
  dsimp only
  rw [show max 0 f.day = f.day by omega]
  cases ho : opensP f with
  | true =>
    rw [if_pos rfl, if_pos rfl, List.map_append]
    have e9 : passP (newCase f) f.day = newCase f := passP_stay fun _ => by
      have := (newCase_inv W ho).op
      have e3 : (newCase f).opened = f.day := by unfold newCase; split <;> rfl
      rw [e3] at this
      exact this.2.2
    simp [e9]
  | false =>
    rw [if_neg (by decide), if_neg (by decide), List.map_set]
    obtain ⟨h1, h2, h3⟩ := errL_own ho hE
    obtain ⟨k1, k4⟩ := opensP_not ho
    have hc1 := (W.kc k1 k4).1
    have hk : f.case.toNat - 1 < D.cs.length := by omega
    have e : ownP D.cs f = passP D.cs[f.case.toNat - 1] f.day := by
      unfold ownP; rw [List.getD_eq_getElem?_getD, List.getElem?_eq_getElem hk]; rfl
    have ok := hD.cs _ (List.getElem_mem hk)
    rw [e] at h2 ⊢
    rw [passP_stay (effP_due ho (passP_ok ok f.day) (passP_due ok f.day))]
theorem bk_none {D : Dk} (f : Fl) (he : errD D f ≠ 0) : bkCs (stepD D f) = bkCs D ∧ max 0 (stepD D f).last = max 0 D.last := by
  rw [stepD_no he]; exact ⟨rfl, rfl⟩
end Sp

namespace Sp

/-- The first i cases have passed on to the next day. -/
def mid (K : List Cs) (e : Int) (i : Nat) : List Cs := K.mapIdx fun j c => passP c (if j < i then e + 1 else e)
theorem mid_length (K : List Cs) (e : Int) (i : Nat) : (mid K e i).length = K.length := by unfold mid; simp
theorem mid_at (K : List Cs) (e : Int) (i n : Nat) (h : n < (mid K e i).length) (h2 : n < K.length) : (mid K e i)[n] = passP K[n] (if n < i then e + 1 else e) := List.getElem_mapIdx ..
theorem mid_zero (K : List Cs) (e : Int) : mid K e 0 = K.map fun c => passP c e := by
  unfold mid
  refine List.ext_getElem (by simp) fun n h1 h2 => ?_
  simp
theorem mid_full (K : List Cs) (e : Int) : mid K e K.length = K.map fun c => passP c (e + 1) := by
  unfold mid
  refine List.ext_getElem (by simp) fun n h1 h2 => ?_
  have : n < K.length := by simpa using h1
  simp [this]
theorem mid_get (K : List Cs) (e : Int) (i : Nat) (h : i < K.length) (h2 : i < (mid K e i).length) : (mid K e i)[i] = passP K[i] e := by
  have h3 : (mid K e i)[i] = passP K[i] (if i < i then e + 1 else e) := List.getElem_mapIdx ..
  rw [h3, if_neg (Nat.lt_irrefl i)]
theorem mid_set (K : List Cs) (e : Int) (i : Nat) (h : i < K.length) : (mid K e i).set i (passP K[i] (e + 1)) = mid K e (i + 1) := by
  refine List.ext_getElem (by simp [mid_length]) fun n h1 h2 => ?_
  rw [List.getElem_set]
  have hK : n < K.length := by rw [mid_length] at h2; exact h2
  rw [mid_at K e (i + 1) n h2 hK]
  by_cases hn : i = n
  · subst hn
    rw [if_pos rfl, if_pos (by omega)]
  · rw [if_neg hn, mid_at K e i n (by rw [mid_length]; exact hK) hK]
    have : (n < i) ↔ (n < i + 1) := by omega
    simp only [this]
/-- The first i cases have their running hold written out. -/
def midA (K : List Cs) (d : Int) (i : Nat) : List Cs := K.mapIdx fun j c => if j < i then atP c d else passP c d
theorem midA_length (K : List Cs) (d : Int) (i : Nat) : (midA K d i).length = K.length := by unfold midA; simp
theorem midA_at (K : List Cs) (d : Int) (i n : Nat) (h : n < (midA K d i).length) (h2 : n < K.length) : (midA K d i)[n] = if n < i then atP K[n] d else passP K[n] d := List.getElem_mapIdx ..
theorem midA_zero (K : List Cs) (d : Int) : midA K d 0 = K.map fun c => passP c d := by
  unfold midA
  refine List.ext_getElem (by simp) fun n h1 h2 => ?_
  simp
theorem midA_full (K : List Cs) (d : Int) : midA K d K.length = K.map fun c => atP c d := by
  unfold midA
  refine List.ext_getElem (by simp) fun n h1 h2 => ?_
  have : n < K.length := by simpa using h1
  simp [this]
theorem midA_get (K : List Cs) (d : Int) (i : Nat) (h : i < K.length) (h2 : i < (midA K d i).length) : (midA K d i)[i] = passP K[i] d := by
  have h3 : (midA K d i)[i] = if i < i then atP K[i] d else passP K[i] d := List.getElem_mapIdx ..
  rw [h3, if_neg (Nat.lt_irrefl i)]
theorem midA_set (K : List Cs) (d : Int) (i : Nat) (h : i < K.length) : (midA K d i).set i (atP K[i] d) = midA K d (i + 1) := by
  refine List.ext_getElem (by simp [midA_length]) fun n h1 h2 => ?_
  rw [List.getElem_set]
  have hK : n < K.length := by rw [midA_length] at h2; exact h2
  rw [midA_at K d (i + 1) n h2 hK]
  by_cases hn : i = n
  · subst hn
    rw [if_pos rfl, if_pos (by omega)]
  · rw [if_neg hn, midA_at K d i n (by rw [midA_length]; exact hK) hK]
    have : (n < i) ↔ (n < i + 1) := by omega
    simp only [this]
theorem midA_off (K : List Cs) (d : Int) (i : Nat) (h : i < K.length) (hh : (passP K[i] d).hold = false) : midA K d i = midA K d (i + 1) := by
  rw [← midA_set K d i h]
  have e : atP K[i] d = passP K[i] d := by unfold atP; rw [heldP_off hh]
  rw [e]
  refine List.ext_getElem (by simp) fun n h1 h2 => ?_
  rw [List.getElem_set]
  by_cases hn : i = n
  · subst hn; rw [if_pos rfl, midA_get K d i h]
  · rw [if_neg hn]
theorem endHoldP_held {c : Cs} (h : c.hold = true) (d : Int) : (endHoldP c d).held = heldP c d := by
  unfold endHoldP; rw [if_pos h]
theorem atP_held_eq (c : Cs) (d : Int) : atP c d = { passP c d with held := heldP (passP c d) (d + 1) } := rfl

/-- Where a case has not settled, its end is not far. -/
theorem pass_open {c : Cs} (h : c.Ok) {d : Int} (hs : (passP c d).st < 4) : d ≤ 66302 := by
  have ok := passP_ok h d
  have he : endsP (passP c d) = true := (endsP_iff _).2 (by have := ok.st; omega)
  have := passP_due h d he
  have := ok.due
  omega
theorem pass_shut {c : Cs} (h : c.Ok) {d : Int} (hd : d ≤ 100000) (hs : ¬ (passP c d).st < 4) : (passP c d).due = (setlP c).due := by
  have he : endsP (passP c d) = false := by
    rw [← Bool.not_eq_true]; intro he
    have := (endsP_iff _).1 he
    omega
  rw [passP_done_setl h hd he]

end Sp
