/- The plain laws of the reference: time that passes day by day comes to the same as time that passes at once. No program in sight. -/
import Derived.Test.YtbpoedopdnjffaaApPlain5
namespace Sp

/-- A morning: what the reference makes of a case on the next day. -/
def mornR (c : Cs) (d : Int) : Cs := if c.due < d ∧ (c.st = 1 ∨ c.st = 2) then { c with st := 4, due := d } else if c.due < d ∧ c.st = 3 then upholdP c d else c
theorem mornR_eq {c : Cs} {d : Int} (hd : endsP c = true → d ≤ c.due + 1) : mornR c d = if goP c d = true then nextP c else c := by
  unfold mornR
  by_cases hg : goP c d = true
  · have h1 := (goP_iff c d).1 hg
    have h2 := (endsP_iff c).1 h1.1
    have h3 : c.due + 1 = d := by have := hd h1.1; omega
    rw [if_pos hg]
    unfold nextP
    by_cases h4 : c.st = 3
    · rw [if_neg (by omega), if_pos ⟨h1.2, h4⟩, if_pos h4, h3]
    · rw [if_pos ⟨h1.2, by omega⟩, if_neg h4, h3]
  · rw [if_neg hg]
    have h5 : ¬ (c.due < d ∧ (c.st = 1 ∨ c.st = 2 ∨ c.st = 3)) := fun h => hg ((goP_iff c d).2 ⟨(endsP_iff c).2 h.2, h.1⟩)
    rw [if_neg (by omega), if_neg (by omega)]
/-- One day more. -/
theorem morn_pass {c : Cs} (h : c.Ok) (d : Int) : mornR (passP c d) (d + 1) = passP c (d + 1) := by
  rw [mornR_eq (fun he => by have := passP_due h d he; omega), passP_succ h d]

/-- The reference's docket: the cases as of the day of the last accepted filing. -/
def bkCs (D : Dk) : List Cs := D.cs.map fun c => passP c (max 0 D.last)
theorem bk_pass {D : Dk} (hD : D.Ok) {d : Int} (hd : max 0 D.last ≤ d) : (bkCs D).map (fun c => passP c d) = D.cs.map fun c => passP c d := by
  unfold bkCs
  rw [List.map_map]
  refine List.map_congr_left fun c hc => ?_
  exact passP_trans (hD.cs c hc) hd
/-- What one filing makes of the reference's docket. -/
theorem bk_step {D : Dk} (hD : D.Ok) (f : Fl) (he : errD D f = 0) : bkCs (stepD D f) = (if opensP f = true then (D.cs.map fun c => passP c f.day) ++ [newCase f] else (D.cs.map fun c => passP c f.day).set (f.case.toNat - 1) (effP f (ownP D.cs f))) := by
  obtain ⟨_, _, W, hl, hE⟩ := errD_ok he
  have hday := W.day
  rw [stepD_yes he]
  unfold bkCs effL
  dsimp only
  rw [show max 0 f.day = f.day by omega]
  cases ho : opensP f with
  | true =>
    rw [if_pos rfl, if_pos rfl, List.map_append]
    have e9 : passP (newCase f) f.day = newCase f := passP_stay fun _ => by
      have := (newCase_inv W ho).op
      have e3 : (newCase f).opened = f.day := by unfold newCase; split <;> rfl
      rw [e3] at this
      exact this.2.2
    simp [e9]
  | false =>
    rw [if_neg (by decide), if_neg (by decide), List.map_set]
    obtain ⟨h1, h2, h3⟩ := errL_own ho hE
    obtain ⟨k1, k4⟩ := opensP_not ho
    have hc1 := (W.kc k1 k4).1
    have hk : f.case.toNat - 1 < D.cs.length := by omega
    have e : ownP D.cs f = passP D.cs[f.case.toNat - 1] f.day := by
      unfold ownP; rw [List.getD_eq_getElem?_getD, List.getElem?_eq_getElem hk]; rfl
    have ok := hD.cs _ (List.getElem_mem hk)
    rw [e] at h2 ⊢
    rw [passP_stay (effP_due ho (passP_ok ok f.day) (passP_due ok f.day))]
theorem bk_none {D : Dk} (f : Fl) (he : errD D f ≠ 0) : bkCs (stepD D f) = bkCs D ∧ max 0 (stepD D f).last = max 0 D.last := by
  rw [stepD_no he]; exact ⟨rfl, rfl⟩
end Sp
