/- The plain laws of one step: what a filing makes of a case, what a night makes of it. -/
import Derived.Test.YtbpoedopdnjffaaApPlain6
namespace Go.Proofs.Ytbpoedopdnjffaa
open Sp

/-- What follows wants: the case behind an accepted filing, apart from its held days. -/
def folP (f : Fl) (w : Cs) : Cs :=
  if f.kind = 2 then { w with choice := f.n }
  else if f.kind = 3 then { w with st := 4, due := f.day }
  else if f.kind = 5 then (if f.hold = true then { w with st := 3, level := w.level + 1, due := f.day + 365, hold := true, since := f.day } else { w with st := 3, level := w.level + 1, due := f.day + 365 })
  else if f.kind = 6 ∧ f.n = 2 then { w with st := 5, due := f.day, hold := false, since := 0 }
  else if f.kind = 6 ∧ w.level < 3 then { w with st := 2, due := f.day + w.days, hold := false, since := 0 }
  else { w with st := 4, due := f.day, hold := false, since := 0 }
def bare (c : Cs) : Cs := { c with held := [] }
theorem endHoldP_bare {c : Cs} (h : c.hold = false → c.since = 0) (d : Int) : bare (endHoldP c d) = bare { c with hold := false, since := 0 } := by
  unfold endHoldP bare
  split
  · rfl
  · rename_i hh
    have hh' : c.hold = false := by simpa using hh
    have := h hh'
    obtain ⟨el, st, op, dy, ch, lv, du, ho, si, he⟩ := c
    dsimp only at *
    rw [hh', this]
theorem fol_ok {f : Fl} (W : f.Wf) (ho : opensP f = false) {c : Cs} (hc : c.Ok) {last : Int} (hi : c.Inv last) (hl : last ≤ f.day) :
    bare (folP f (atP c f.day)) = bare (atP (effP f (passP c f.day)) f.day) := by
  obtain ⟨k1, k4⟩ := opensP_not ho
  have hk := W.kind
  have okp := passP_ok hc f.day
  have ip := passP_inv hc hi hl
  have es : passP (effP f (passP c f.day)) f.day = effP f (passP c f.day) := passP_stay (effP_due ho okp (passP_due hc f.day))
  have e1 : bare (atP (effP f (passP c f.day)) f.day) = bare (effP f (passP c f.day)) := by unfold atP; rw [es]; rfl
  rw [e1]
  unfold atP
  generalize passP c f.day = y at *
  have e2 : ∀ g : Sps, bare (folP f { y with held := g }) = bare (folP f y) := by
    intro g
    unfold folP
    dsimp only
    (repeat' split) <;> rfl
  rw [e2]
  unfold folP effP
  split
  · rfl
  · split
    · rfl
    · split
      · split <;> rfl
      · rename_i a2 a3 a5
        by_cases k6 : f.kind = 6
        · have hn := (W.k6 k6).2
          by_cases h2 : f.n = 2
          · rw [if_pos ⟨k6, h2⟩, if_pos k6, if_neg (show ¬ f.n = 1 by omega)]
            exact (endHoldP_bare (c := { y with st := 5, due := f.day }) ip.since0 f.day).symm
          · rw [if_neg (show ¬ (f.kind = 6 ∧ f.n = 2) by omega), if_pos k6, if_pos (show f.n = 1 by omega)]
            have e := endHoldP_level y f.day
            unfold upholdP
            dsimp only
            by_cases h3 : y.level < 3
            · rw [if_pos ⟨k6, h3⟩, if_neg (show ¬ 3 ≤ (endHoldP y f.day).level by rw [e.1]; omega)]
              unfold bare
              dsimp only
              rw [e.1, e.2.1, e.2.2.1, e.2.2.2.2.2.1, e.2.2.2.2.2.2.1, e.2.2.2.2.2.2.2, endHoldP_since ip.since0]
            · rw [if_neg (show ¬ (f.kind = 6 ∧ y.level < 3) by omega), if_pos (show 3 ≤ (endHoldP y f.day).level by rw [e.1]; omega)]
              unfold bare
              dsimp only
              rw [e.1, e.2.1, e.2.2.1, e.2.2.2.2.2.1, e.2.2.2.2.2.2.1, e.2.2.2.2.2.2.2, endHoldP_since ip.since0]
        · rw [if_neg (show ¬ (f.kind = 6 ∧ f.n = 2) by omega), if_neg (show ¬ (f.kind = 6 ∧ y.level < 3) by omega), if_neg k6]
          exact (endHoldP_bare (c := { y with st := 4, due := f.day }) ip.since0 f.day).symm

/-- What a night makes of a case, as AppealTime has it. -/
def nightP (x : Cs) (d : Int) : Cs :=
  if d + 1 ≤ x.due ∨ x.st = 4 ∨ x.st = 5 then (if x.hold = true then { x with held := un x.held [(d + 1, d + 2)] } else x)
  else if x.st ≠ 3 ∨ x.level = 3 then { x with st := 4, due := d + 1, hold := false, since := 0 }
  else { x with st := 2, due := d + 1 + x.days, hold := false, since := 0 }
theorem night_ok {c : Cs} (hc : c.Ok) {last d : Int} (hi : c.Inv last) (hl : last ≤ d) (h0 : 0 ≤ d) (hd : d + 1 < 65536) : atP c (d + 1) = nightP (atP c d) d := by
  have okp := passP_ok hc d
  have ip := passP_inv hc hi hl
  have hdue := passP_due hc d
  have e1 : atP c (d + 1) = { (if goP (passP c d) (d + 1) = true then nextP (passP c d) else passP c d) with held := heldP (if goP (passP c d) (d + 1) = true then nextP (passP c d) else passP c d) (d + 1 + 1) } := by
    unfold atP; rw [passP_succ hc d]
  rw [e1]
  unfold atP nightP
  generalize passP c d = y at *
  dsimp only
  have hst := okp.st
  by_cases hg : goP y (d + 1) = true
  · have g1 := (goP_iff _ _).1 hg
    have g2 := hdue g1.1
    have g3 := (endsP_iff _).1 g1.1
    have g4 : y.due = d := by omega
    rw [if_pos hg, if_neg (by omega)]
    unfold nextP
    by_cases h3 : y.st = 3
    · rw [if_pos h3, g4]
      have e := endHoldP_level y (d + 1)
      have hs := endHoldP_since ip.since0 (d + 1)
      have hh : (endHoldP y (d + 1)).held = heldP y (d + 1) := by
        unfold endHoldP
        split
        · rfl
        · rename_i h9; rw [heldP_off (by simpa using h9)]
      have hlev := okp.lev
      have ho : ∀ z : Cs, z.hold = false → heldP z (d + 1 + 1) = z.held := fun z h => heldP_off h _
      unfold upholdP
      dsimp only
      by_cases hl3 : 3 ≤ y.level
      · rw [if_pos (show 3 ≤ (endHoldP y (d + 1)).level by rw [e.1]; exact hl3), if_pos (by omega)]
        rw [ho]
        · dsimp only
          rw [hh, hs, e.1, e.2.1, e.2.2.1, e.2.2.2.2.2.1, e.2.2.2.2.2.2.1, e.2.2.2.2.2.2.2]
        · exact e.2.2.1
      · rw [if_neg (show ¬ 3 ≤ (endHoldP y (d + 1)).level by rw [e.1]; exact hl3), if_neg (by omega)]
        rw [ho]
        · dsimp only
          rw [hh, hs, e.1, e.2.1, e.2.2.1, e.2.2.2.2.2.1, e.2.2.2.2.2.2.1, e.2.2.2.2.2.2.2]
        · exact e.2.2.1
    · rw [if_neg h3, if_pos (.inl h3), g4]
      have hh : y.hold = false := by
        rw [← Bool.not_eq_true]; intro h4; exact h3 (okp.hold h4).1
      have hs := ip.since0 hh
      rw [heldP_off (c := { y with st := 4, due := d + 1 }) hh, heldP_off hh]
      dsimp only
      rw [hh, hs]
  · have g3 : d + 1 ≤ y.due ∨ y.st = 4 ∨ y.st = 5 := by
      by_cases he : endsP y = true
      · rw [goP_iff] at hg
        left
        by_cases hd9 : y.due < d + 1
        · exact absurd ⟨he, hd9⟩ hg
        · omega
      · rw [endsP_iff] at he; omega
    rw [if_neg hg, if_pos g3]
    by_cases hh : y.hold = true
    · rw [if_pos hh]
      have hs := okp.hold hh
      have hs2 := ip.since hh
      have hv := heldP_valid okp (d + 1)
      have hv2 := heldP_valid okp (d + 1 + 1)
      have hv3 : validB [(d + 1, d + 2)] = true := by
        unfold validB; rw [validFrom_cons]; dsimp only; exact ⟨by omega, by omega, by omega, rfl⟩
      have : heldP y (d + 1 + 1) = un (heldP y (d + 1)) [(d + 1, d + 2)] := by
        refine IsSet.uniq (IsSet.self hv2) ((un_set hv hv3).congr fun x => ?_)
        rw [heldP_mem okp.h, heldP_mem okp.h, mem_cons, mem_nil, hh]
        cases mem y.held x with
        | true => simp
        | false =>
          rw [Bool.eq_iff_iff]
          simp
          omega
      rw [this]
    · have hh' : y.hold = false := by simpa using hh
      rw [if_neg hh, heldP_off hh', heldP_off hh']

/-! ## A filing that is not well-formed -/
theorem runD_bad {a b : List Fl} {f : Fl} (hb : wf f = false) (hl : (a ++ b).length < 1000) : runD (a ++ f :: b) = ⟨(a ++ b).length + 1, (runD (a ++ b)).cs, (runD (a ++ b)).last⟩ ∧ errsD (a ++ f :: b) = (errsD (a ++ b)).take a.length ++ 2 :: (errsD (a ++ b)).drop a.length := by
  have key : ∀ (b : List Fl) (D D' : Dk), D'.cs = D.cs → D'.last = D.last → D.num + b.length < 1000 → D'.num + b.length < 1001 → D'.num = D.num + 1 → errsFrom D' b = errsFrom D b ∧ b.foldl stepD D' = ⟨(b.foldl stepD D).num + 1, (b.foldl stepD D).cs, (b.foldl stepD D).last⟩ := by
    intro b
    induction b with
    | nil =>
      intro D D' h1 h2 _ _ h3
      refine ⟨rfl, ?_⟩
      obtain ⟨n, c, la⟩ := D'
      obtain ⟨n2, c2, la2⟩ := D
      dsimp only at *
      simp only [List.foldl_nil]
      rw [h1, h2, h3]
    | cons g b ih =>
      intro D D' h1 h2 h3 h4 h5
      rw [List.length_cons] at h3 h4
      have e : errD D' g = errD D g := by
        unfold errD; rw [h1, h2, if_neg (show ¬ 1000 ≤ D'.num by omega), if_neg (show ¬ 1000 ≤ D.num by omega)]
      have s : (stepD D' g).cs = (stepD D g).cs ∧ (stepD D' g).last = (stepD D g).last ∧ (stepD D' g).num = D'.num + 1 ∧ (stepD D g).num = D.num + 1 := by
        unfold stepD; rw [e]; split <;> simp [h1, h2]
      obtain ⟨i1, i2⟩ := ih (stepD D g) (stepD D' g) s.1 s.2.1 (by omega) (by omega) (by omega)
      exact ⟨by rw [errsFrom, errsFrom, e, i1], by rw [List.foldl_cons, List.foldl_cons, i2]⟩
  rw [List.length_append] at hl
  have hnum : (runD a).num = a.length := runD_num a
  have e2 : errD (runD a) f = 2 := by unfold errD; rw [if_neg (by omega), hb]; rfl
  have es : stepD (runD a) f = ⟨(runD a).num + 1, (runD a).cs, (runD a).last⟩ := stepD_no (by rw [e2]; decide)
  obtain ⟨k1, k2⟩ := key b (runD a) (stepD (runD a) f) (by rw [es]) (by rw [es]) (by omega) (by rw [es]; dsimp only; omega) (by rw [es])
  have r1 : runD (a ++ b) = b.foldl stepD (runD a) := by unfold runD; rw [List.foldl_append]
  refine ⟨?_, ?_⟩
  · have r2 : runD (a ++ f :: b) = b.foldl stepD (stepD (runD a) f) := by unfold runD; rw [List.foldl_append, List.foldl_cons]
    rw [r2, k2, ← r1, runD_num]
  · have r3 : errsD (a ++ b) = errsD a ++ errsFrom (runD a) b := errsFrom_append _ _ _
    have r4 : errsD (a ++ f :: b) = errsD a ++ errsFrom (runD a) (f :: b) := errsFrom_append _ _ _
    have hla := errsD_length a
    rw [r4, r3, List.take_append_of_le_length (by omega), List.take_of_length_le (by omega), ← hla, List.drop_left, errsFrom, e2, k1]
end Go.Proofs.Ytbpoedopdnjffaa
