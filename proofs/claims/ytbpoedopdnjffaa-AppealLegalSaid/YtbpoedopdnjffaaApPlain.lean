/- The plain mathematics of dockets: cases, filings, time that passes. No program in sight. -/
import Derived.Test.YtbpoedopdnjffaaSpPlain2
namespace Sp

/-- The union of two sets. -/
def un (a b : Sps) : Sps := (run (fun x y => x || y) (chg a b)).2.2
theorem un_set {a b : Sps} (ha : validB a = true) (hb : validB b = true) : IsSet (fun d => mem a d || mem b d) (un a b) := choose_set (fun x y => x || y) rfl a b ha hb
theorem un_len (a b : Sps) : (un a b).length ≤ 2 * a.length + 2 * b.length := by
  unfold un
  have h1 := run_length (fun x y => x || y) (chg a b)
  have h2 := evs_length _ (bl a) (bl b) false false rfl
  unfold chg at h1 ⊢
  rw [bl_length, bl_length] at h2
  omega

/-- A case. -/
structure Cs where
  el : Bool
  st : Int
  opened : Int
  days : Int
  choice : Int
  level : Int
  due : Int
  hold : Bool
  since : Int
  held : Sps

/-- A filing. -/
structure Fl where
  kind : Int
  day : Int
  case : Int
  n : Int
  til : Int
  hold : Bool

/-- How many spans may have been held by a level. -/
def hb (k : Int) : Nat := if k ≤ 0 then 0 else if k ≤ 1 then 2 else if k ≤ 2 then 6 else 14
theorem hb_mono {a b : Int} (h : a ≤ b) : hb a ≤ hb b := by unfold hb; (repeat' split) <;> omega

/-- What is true of a case throughout. -/
structure Cs.Ok (c : Cs) : Prop where
  vh : validB c.held = true
  st : 1 ≤ c.st ∧ c.st ≤ 5
  days : 1 ≤ c.days ∧ c.days ≤ 400
  lev : 0 ≤ c.level ∧ c.level ≤ 3
  lev2 : c.st = 2 → c.level ≤ 2
  lev3 : c.st = 3 → 1 ≤ c.level
  due : 0 ≤ c.due ∧ c.due ≤ 66302
  due1 : c.st = 1 → c.due ≤ 65535
  due2 : c.st = 2 → c.due ≤ 66301
  due3 : c.st = 3 → c.due ≤ 65900
  hold : c.hold = true → c.st = 3 ∧ 0 ≤ c.since ∧ c.since ≤ 65535
  len : c.held.length ≤ hb (if c.hold then c.level - 1 else c.level)

theorem hb_max {k : Int} : hb k ≤ 14 := by unfold hb; (repeat' split) <;> omega
/-- What a hold needs, whatever the state. -/
structure Cs.HOk (c : Cs) : Prop where
  vh : validB c.held = true
  hold : c.hold = true → 0 ≤ c.since ∧ c.since ≤ 65535
  len : c.held.length ≤ 14
theorem Cs.Ok.h {c : Cs} (h : c.Ok) : c.HOk := ⟨h.vh, fun e => (h.hold e).2, Nat.le_trans h.len hb_max⟩

/-- The days on which payments were held before a day. -/
def heldP (c : Cs) (d : Int) : Sps := if c.hold = true ∧ c.since < d then un c.held [(c.since, min d 65536)] else c.held
theorem heldP_valid {c : Cs} (h : c.Ok) (d : Int) : validB (heldP c d) = true := by
  unfold heldP
  split
  · rename_i hh
    have := h.hold hh.1
    exact (un_set h.vh (by unfold validB; rw [validFrom_cons]; dsimp only; exact ⟨by omega, by omega, by omega, rfl⟩)).valid
  · exact h.vh
theorem heldP_len {c : Cs} (h : c.Ok) (d : Int) : (heldP c d).length ≤ hb c.level := by
  have hl := h.len
  unfold heldP
  split
  · rename_i hh
    have h3 := h.lev3 (h.hold hh.1).1
    have h4 := h.lev
    rw [if_pos hh.1] at hl
    have := un_len c.held [(c.since, min d 65536)]
    simp only [List.length_singleton] at this
    have h5 : 2 * hb (c.level - 1) + 2 ≤ hb c.level := by
      have : c.level = 1 ∨ c.level = 2 ∨ c.level = 3 := by omega
      rcases this with e | e | e <;> rw [e] <;> decide
    omega
  · split at hl
    · exact Nat.le_trans hl (hb_mono (by omega))
    · exact hl

def endHoldP (c : Cs) (d : Int) : Cs := if c.hold = true then { c with held := heldP c d, hold := false, since := 0 } else c
def upholdP (c : Cs) (d : Int) : Cs :=
  let e := endHoldP c d
  if 3 ≤ e.level then { e with st := 4, due := d } else { e with st := 2, due := d + e.days }
def endsP (c : Cs) : Bool := c.st == 1 || c.st == 2 || c.st == 3
def nextP (c : Cs) : Cs := if c.st = 3 then upholdP c (c.due + 1) else { c with st := 4, due := c.due + 1 }
def goP (c : Cs) (d : Int) : Bool := endsP c && decide (c.due < d)
def passP (c : Cs) (d : Int) : Cs := if goP c d = true then (if goP (nextP c) d = true then nextP (nextP c) else nextP c) else c

theorem endHoldP_level (c : Cs) (d : Int) : (endHoldP c d).level = c.level ∧ (endHoldP c d).days = c.days ∧ (endHoldP c d).hold = false ∧ (endHoldP c d).st = c.st ∧ (endHoldP c d).due = c.due ∧ (endHoldP c d).el = c.el ∧ (endHoldP c d).opened = c.opened ∧ (endHoldP c d).choice = c.choice := by
  unfold endHoldP
  split
  · exact ⟨rfl, rfl, rfl, rfl, rfl, rfl, rfl, rfl⟩
  · rename_i h
    exact ⟨rfl, rfl, by simpa using h, rfl, rfl, rfl, rfl, rfl⟩
theorem endHoldP_len {c : Cs} (h : c.Ok) (d : Int) : (endHoldP c d).held.length ≤ hb c.level := by
  unfold endHoldP
  split
  · exact heldP_len h d
  · rename_i hh
    have := h.len
    rwa [if_neg hh] at this
theorem endHoldP_valid {c : Cs} (h : c.Ok) (d : Int) : validB (endHoldP c d).held = true := by
  unfold endHoldP
  split
  · exact heldP_valid h d
  · exact h.vh
theorem upholdP_ok {c : Cs} (h : c.Ok) (d : Int) (hd : 0 ≤ d ∧ d ≤ 65901) : (upholdP c d).Ok ∧ ((upholdP c d).st = 4 ∨ (upholdP c d).st = 2) := by
  obtain ⟨e1, e2, e3, e4, e5, _⟩ := endHoldP_level c d
  have hl := h.lev
  have hdd := h.days
  have h1 := endHoldP_len h d
  unfold upholdP
  dsimp only
  split
  · refine ⟨⟨endHoldP_valid h d, by simp, by dsimp only; omega, by dsimp only; omega, by simp, by simp, by dsimp only; omega, by simp, by simp, by simp, by dsimp only; rw [e3]; simp, by dsimp only; rw [e3, e1]; exact h1⟩, .inl rfl⟩
  · refine ⟨⟨endHoldP_valid h d, by simp, by dsimp only; omega, by dsimp only; omega, by dsimp only; omega, by simp, by dsimp only; omega, by simp, by dsimp only; omega, by simp, by dsimp only; rw [e3]; simp, by dsimp only; rw [e3, e1]; exact h1⟩, .inr rfl⟩
theorem endsP_iff (c : Cs) : endsP c = true ↔ c.st = 1 ∨ c.st = 2 ∨ c.st = 3 := by
  unfold endsP; simp [or_assoc]
theorem nextP_ok {c : Cs} (h : c.Ok) (he : endsP c = true) : (nextP c).Ok ∧ ((nextP c).st = 4 ∨ (nextP c).st = 2 ∧ c.st = 3) := by
  unfold nextP
  have hst := (endsP_iff c).1 he
  have hdue := h.due
  split
  · rename_i h3
    have := h.due3 h3
    obtain ⟨h1, h2⟩ := upholdP_ok h (c.due + 1) (by omega)
    exact ⟨h1, h2.imp id fun h => ⟨h, h3⟩⟩
  · rename_i h3
    have hh : c.hold = false := by
      rw [← Bool.not_eq_true]; intro h4; exact h3 (h.hold h4).1
    have hd : c.due ≤ 66301 := by
      rcases hst with h4 | h4 | h4
      · have := h.due1 h4; omega
      · exact h.due2 h4
      · exact absurd h4 h3
    refine ⟨⟨h.vh, by simp, h.days, h.lev, by simp, by simp, by dsimp only; omega, by simp, by simp, by simp, by dsimp only; rw [hh]; simp, h.len⟩, .inl rfl⟩
theorem goP_iff (c : Cs) (d : Int) : goP c d = true ↔ endsP c = true ∧ c.due < d := by unfold goP; simp
theorem passP_next {c : Cs} (h : c.Ok) {d : Int} (hg : goP c d = true) : passP (nextP c) d = passP c d := by
  have he := (goP_iff c d).1 hg
  have hn := nextP_ok h he.1
  unfold passP
  rw [if_pos hg]
  by_cases h1 : goP (nextP c) d = true
  · rw [if_pos h1]
    have he1 := ((goP_iff _ d).1 h1).1
    have hn1 := nextP_ok hn.1 he1
    have h2 : ¬ goP (nextP (nextP c)) d = true := by
      intro h3
      have h4 := (endsP_iff _).1 ((goP_iff _ d).1 h3).1
      have h5 := (endsP_iff _).1 he1
      rcases hn1.2 with h6 | h6
      · omega
      · rcases hn.2 with h7 | h7 <;> omega
    rw [if_neg h2, if_pos h1]
  · rw [if_neg h1, if_neg h1]
theorem passP_stop {c : Cs} {d : Int} (h : ¬ goP c d = true) : passP c d = c := by unfold passP; rw [if_neg h]
theorem passP_ok {c : Cs} (h : c.Ok) (d : Int) : (passP c d).Ok := by
  unfold passP
  split
  · rename_i hg
    have h1 := (nextP_ok h ((goP_iff c d).1 hg).1).1
    split
    · rename_i hg1
      exact (nextP_ok h1 ((goP_iff _ d).1 hg1).1).1
    · exact h1
  · exact h
/-- How many times the state of a case may still end by itself. -/
def rankP (st : Int) : Nat := if st = 3 then 2 else if st = 1 ∨ st = 2 then 1 else 0
theorem rankP_next {c : Cs} (h : c.Ok) (he : endsP c = true) : rankP (nextP c).st < rankP c.st := by
  have hst := (endsP_iff c).1 he
  have hn := (nextP_ok h he).2
  unfold rankP
  rcases hn with h1 | ⟨h1, h2⟩
  · rw [h1]
    rcases hst with h4 | h4 | h4 <;> rw [h4] <;> decide
  · rw [h1, h2]; decide

end Sp
