/- The plain laws of time that passes: in two steps or at once. No program in sight. -/
import Derived.Test.YtbpoedopdnjffaaApPlain2
namespace Sp

theorem passP_done {c : Cs} (h : c.Ok) (d : Int) : goP (passP c d) d = false := by
  unfold passP
  split
  · rename_i hg
    have he := (goP_iff c d).1 hg
    have hn := nextP_ok h he.1
    split
    · rename_i h1
      have he1 := ((goP_iff _ d).1 h1).1
      have hn1 := nextP_ok hn.1 he1
      rw [← Bool.not_eq_true]
      intro h3
      have h4 := (endsP_iff _).1 ((goP_iff _ d).1 h3).1
      have h5 := (endsP_iff _).1 he1
      rcases hn1.2 with h6 | h6
      · omega
      · rcases hn.2 with h7 | h7 <;> omega
    · rename_i h1; simpa using h1
  · rename_i hg; simpa using hg
theorem goP_mono {c : Cs} {d e : Int} (h : d ≤ e) (hg : goP c d = true) : goP c e = true := by
  rw [goP_iff] at *; exact ⟨hg.1, by omega⟩
theorem passP_trans {c : Cs} (h : c.Ok) {d e : Int} (hde : d ≤ e) : passP (passP c d) e = passP c e := by
  by_cases hg : goP c d = true
  · have h1 := (nextP_ok h ((goP_iff c d).1 hg).1).1
    have e1 := passP_next h (goP_mono hde hg)
    by_cases hg1 : goP (nextP c) d = true
    · have e2 : passP c d = nextP (nextP c) := by unfold passP; rw [if_pos hg, if_pos hg1]
      rw [e2, passP_next h1 (goP_mono hde hg1), e1]
    · have e2 : passP c d = nextP c := by unfold passP; rw [if_pos hg, if_neg hg1]
      rw [e2, e1]
  · rw [passP_stop hg]
theorem passP_stay {c : Cs} {d : Int} (h : endsP c = true → d ≤ c.due) : passP c d = c := by
  refine passP_stop fun hg => ?_
  rw [goP_iff] at hg
  have := h hg.1
  omega
theorem passP_due {c : Cs} (h : c.Ok) (d : Int) : endsP (passP c d) = true → d ≤ (passP c d).due := by
  intro he
  have := passP_done h d
  rw [← Bool.not_eq_true, goP_iff] at this
  by_cases hd : (passP c d).due < d
  · exact absurd ⟨he, hd⟩ this
  · omega
/-- From one day to the next one at most one state ends. -/
theorem passP_succ {c : Cs} (h : c.Ok) (d : Int) : passP c (d + 1) = if goP (passP c d) (d + 1) = true then nextP (passP c d) else passP c d := by
  rw [← passP_trans h (show d ≤ d + 1 by omega)]
  have hp := passP_ok h d
  have hdue := passP_due h d
  generalize passP c d = x at *
  split
  · rename_i hg
    have he := (goP_iff _ _).1 hg
    have := hdue he.1
    have e1 : x.due = d := by omega
    have h2 : ¬ goP (nextP x) (d + 1) = true := by
      rw [goP_iff]
      intro h3
      have hn := (nextP_ok hp he.1).2
      have h4 := (endsP_iff _).1 h3.1
      rcases hn with h5 | ⟨h5, h6⟩
      · omega
      · have h7 : (nextP x).due = x.due + 1 + x.days := by
          unfold nextP upholdP at h5 ⊢
          rw [if_pos h6] at h5 ⊢
          dsimp only at h5 ⊢
          split at h5
          · simp at h5
          · rename_i h8
            rw [if_neg h8]
            dsimp only
            rw [(endHoldP_level x _).2.1]
        have := hp.days
        omega
    unfold passP
    rw [if_pos hg, if_neg h2]
  · rename_i hg
    exact passP_stop hg

theorem nextP_same (c : Cs) : (nextP c).el = c.el ∧ (nextP c).opened = c.opened ∧ (nextP c).days = c.days ∧ (nextP c).choice = c.choice ∧ (nextP c).level = c.level := by
  unfold nextP upholdP
  have e := endHoldP_level c (c.due + 1)
  split
  · dsimp only
    split
    · exact ⟨e.2.2.2.2.2.1, e.2.2.2.2.2.2.1, e.2.1, e.2.2.2.2.2.2.2, e.1⟩
    · exact ⟨e.2.2.2.2.2.1, e.2.2.2.2.2.2.1, e.2.1, e.2.2.2.2.2.2.2, e.1⟩
  · exact ⟨rfl, rfl, rfl, rfl, rfl⟩
theorem passP_same (c : Cs) (d : Int) : (passP c d).el = c.el ∧ (passP c d).opened = c.opened ∧ (passP c d).days = c.days ∧ (passP c d).choice = c.choice ∧ (passP c d).level = c.level := by
  unfold passP
  have e1 := nextP_same c
  have e2 := nextP_same (nextP c)
  split
  · split
    · exact ⟨e2.1.trans e1.1, e2.2.1.trans e1.2.1, e2.2.2.1.trans e1.2.2.1, e2.2.2.2.1.trans e1.2.2.2.1, e2.2.2.2.2.trans e1.2.2.2.2⟩
    · exact e1
  · exact ⟨rfl, rfl, rfl, rfl, rfl⟩
theorem atP_held_valid {c : Cs} (h : c.Ok) (d : Int) : validB (atP c d).held = true := heldP_valid (passP_ok h d) _
end Sp
