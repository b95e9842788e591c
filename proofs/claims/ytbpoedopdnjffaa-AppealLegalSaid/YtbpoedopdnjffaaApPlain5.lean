/- The plain invariants of a docket's cases: what holds behind the last accepted filing. No program in sight. -/
import Derived.Test.YtbpoedopdnjffaaApPlain4
namespace Sp

theorem heldP_mem {c : Cs} (h : c.HOk) (d x : Int) : mem (heldP c d) x = (mem c.held x || (c.hold && decide (c.since ≤ x) && decide (x < min d 65536))) := by
  unfold heldP
  split
  · rename_i hh
    have hs := h.hold hh.1
    have hv : validB [(c.since, min d 65536)] = true := by
      unfold validB; rw [validFrom_cons]; dsimp only; exact ⟨by omega, by omega, by omega, rfl⟩
    rw [(un_set h.vh hv).mem, mem_cons, mem_nil, hh.1]
    simp
  · rename_i hh
    have : (c.hold && decide (c.since ≤ x) && decide (x < min d 65536)) = false := by
      rw [← Bool.not_eq_true]
      intro h2
      simp only [Bool.and_eq_true, decide_eq_true_eq] at h2
      exact hh ⟨h2.1.1, by omega⟩
    rw [this, Bool.or_false]

theorem heldP_off {c : Cs} (h : c.hold = false) (d : Int) : heldP c d = c.held := by
  unfold heldP; rw [if_neg (by rw [h]; simp)]

/-- What is true of a case behind the last accepted filing. -/
structure Cs.Inv (c : Cs) (last : Int) : Prop where
  since0 : c.hold = false → c.since = 0
  el : c.el = true → (c.st = 1 ∨ c.st = 4) ∧ c.level = 0 ∧ c.held = [] ∧ c.hold = false ∧ 1 ≤ c.choice ∧ c.choice ≤ c.days
  dec : c.el = false → c.st ≠ 1 ∧ c.choice = 0
  op : 0 ≤ c.opened ∧ c.opened ≤ last ∧ c.opened ≤ c.due
  since : c.hold = true → c.since ≤ last
  fin : 4 ≤ c.st → c.due ≤ last
  low : ∀ d, mem c.held d = true → d < last

theorem Cs.Inv.mono {c : Cs} {a b : Int} (h : c.Inv a) (hab : a ≤ b) : c.Inv b :=
  ⟨h.since0, h.el, h.dec, by have := h.op; omega, fun e => Int.le_trans (h.since e) hab, fun e => Int.le_trans (h.fin e) hab, fun d hd => Int.lt_of_lt_of_le (h.low d hd) hab⟩

theorem endHoldP_low {c : Cs} (h : c.HOk) {u d : Int} (hu : u ≤ d) (hl : ∀ x, mem c.held x = true → x < d) : ∀ x, mem (endHoldP c u).held x = true → x < d := by
  intro x hx
  unfold endHoldP at hx
  split at hx
  · dsimp only at hx
    rw [heldP_mem h] at hx
    simp only [Bool.or_eq_true, Bool.and_eq_true, decide_eq_true_eq] at hx
    rcases hx with hx | hx
    · exact hl x hx
    · omega
  · exact hl x hx
theorem endHoldP_since {c : Cs} (h : c.hold = false → c.since = 0) (d : Int) : (endHoldP c d).since = 0 := by
  unfold endHoldP
  split
  · rfl
  · rename_i hh
    exact h (by simpa using hh)

theorem upholdP_inv {c : Cs} (hc : c.Ok) (he : c.el = false) {u d : Int} (hi : c.Inv d) (hu : u ≤ d) (ho : c.opened ≤ u) : (upholdP c u).Inv d := by
  obtain ⟨e1, e2, e3, e4, e5, e6, e7, e8⟩ := endHoldP_level c u
  have hl := endHoldP_low hc.h hu hi.low
  have hs := endHoldP_since hi.since0 u
  have hop := hi.op
  have hd := hc.days
  have hdec := hi.dec he
  unfold upholdP
  dsimp only
  split
  · exact ⟨fun _ => hs, by dsimp only; rw [e6, he]; simp, fun _ => ⟨by simp, by dsimp only; rw [e8]; exact hdec.2⟩, by dsimp only; rw [e7]; omega, by dsimp only; rw [e3]; simp, fun _ => hu, hl⟩
  · exact ⟨fun _ => hs, by dsimp only; rw [e6, he]; simp, fun _ => ⟨by simp, by dsimp only; rw [e8]; exact hdec.2⟩, by dsimp only; rw [e7, e2]; omega, by dsimp only; rw [e3]; simp, by simp, hl⟩

theorem nextP_inv {c : Cs} (hc : c.Ok) {last d : Int} (hi : c.Inv last) (hl : last ≤ d) (he : endsP c = true) (hd : c.due < d) : (nextP c).Inv d := by
  have hst := (endsP_iff c).1 he
  have hop := hi.op
  unfold nextP
  split
  · rename_i h3
    have hel : c.el = false := by
      rw [← Bool.not_eq_true]; intro h; have := (hi.el h).1; omega
    exact upholdP_inv hc hel (hi.mono hl) (by omega) (by omega)
  · rename_i h3
    exact ⟨hi.since0, fun h => ⟨.inr rfl, (hi.el h).2⟩, fun h => ⟨by simp, (hi.dec h).2⟩, by dsimp only; omega, fun h => Int.le_trans (hi.since h) hl, fun _ => by dsimp only; omega, fun x hx => Int.lt_of_lt_of_le (hi.low x hx) hl⟩
theorem passP_inv {c : Cs} (hc : c.Ok) {last d : Int} (hi : c.Inv last) (hl : last ≤ d) : (passP c d).Inv d := by
  unfold passP
  split
  · rename_i hg
    have h1 := (goP_iff _ _).1 hg
    have i1 := nextP_inv hc hi hl h1.1 h1.2
    split
    · rename_i hg2
      have h2 := (goP_iff _ _).1 hg2
      exact nextP_inv (nextP_ok hc h1.1).1 i1 (Int.le_refl _) h2.1 h2.2
    · exact i1
  · exact hi.mono hl

theorem opensP_not {f : Fl} (h : opensP f = false) : f.kind ≠ 1 ∧ f.kind ≠ 4 := by
  unfold opensP at h
  constructor <;> intro e <;> rw [e] at h <;> simp at h

theorem effP_inv {f : Fl} (W : f.Wf) (ho : opensP f = false) {c : Cs} (hc : c.Ok) (hi : c.Inv f.day) (hst : c.st = needP f.kind) (hch : f.kind = 2 → f.n ≤ c.days) : (effP f c).Inv f.day := by
  have hk := W.kind
  obtain ⟨k1, k4⟩ := opensP_not ho
  have hop := hi.op
  have hday := W.day
  unfold needP at hst
  unfold effP
  split
  · rename_i e
    have h2 := W.k2 e
    have h3 := hch e
    rw [if_pos (.inl e)] at hst
    exact ⟨hi.since0, fun h => by obtain ⟨a, b, p, q, _⟩ := hi.el h; exact ⟨a, b, p, q, h2.2.1, h3⟩, fun h => absurd hst (hi.dec h).1, hop, hi.since, hi.fin, hi.low⟩
  · split
    · rename_i e
      rw [if_pos (.inr e)] at hst
      exact ⟨hi.since0, fun h => ⟨.inr rfl, (hi.el h).2⟩, fun h => absurd hst (hi.dec h).1, by dsimp only; omega, hi.since, fun _ => Int.le_refl _, hi.low⟩
    · rename_i e2 e3
      rw [if_neg (by omega)] at hst
      split
      · rename_i e
        rw [if_pos e] at hst
        have hel : c.el = false := by
          rw [← Bool.not_eq_true]; intro h; have := (hi.el h).1; omega
        have hdec := hi.dec hel
        split
        · exact ⟨by simp, by dsimp only; rw [hel]; simp, fun _ => ⟨by simp, hdec.2⟩, by dsimp only; omega, fun _ => Int.le_refl _, by simp, hi.low⟩
        · exact ⟨hi.since0, by dsimp only; rw [hel]; simp, fun _ => ⟨by simp, hdec.2⟩, by dsimp only; omega, hi.since, by simp, hi.low⟩
      · rename_i e5
        rw [if_neg e5] at hst
        have hel : c.el = false := by
          rw [← Bool.not_eq_true]; intro h; have := (hi.el h).1; omega
        have hdec := hi.dec hel
        have key : ∀ s : Int, s = 4 ∨ s = 5 → (endHoldP { c with st := s, due := f.day } f.day).Inv f.day := by
          intro s hs
          have g := endHoldP_level { c with st := s, due := f.day } f.day
          obtain ⟨g1, g2, g3, g4, g5, g6, g7, g8⟩ := g
          dsimp only at g1 g2 g4 g5 g6 g7 g8
          exact ⟨fun _ => endHoldP_since (c := { c with st := s, due := f.day }) hi.since0 _, by rw [g6, hel]; simp, fun _ => ⟨by rw [g4]; omega, by rw [g8]; exact hdec.2⟩, by rw [g7, g5]; omega, by rw [g3]; simp, fun _ => by rw [g5]; exact Int.le_refl _,
            endHoldP_low (c := { c with st := s, due := f.day }) ⟨hc.vh, hc.h.hold, hc.h.len⟩ (Int.le_refl _) hi.low⟩
        split
        · split
          · exact upholdP_inv hc hel hi (Int.le_refl _) hop.2.1
          · exact key 5 (.inr rfl)
        · exact key 4 (.inl rfl)
theorem newCase_inv {f : Fl} (W : f.Wf) (ho : opensP f = true) : (newCase f).Inv f.day := by
  have hd := W.day
  unfold newCase
  split
  · rename_i e
    have h1 := W.k1 e
    exact ⟨fun _ => rfl, fun _ => ⟨.inl rfl, rfl, rfl, rfl, Int.le_refl 1, by dsimp only; omega⟩, by simp, by dsimp only; omega, by simp, by simp, by simp [mem_nil]⟩
  · rename_i e
    have h4 := W.k4 (by unfold opensP at ho; simp at ho; omega)
    exact ⟨fun _ => rfl, by simp, fun _ => ⟨by simp, rfl⟩, by dsimp only; omega, by simp, by simp, by simp [mem_nil]⟩

/-- What a filing that is accepted says. -/
theorem errD_ok {D : Dk} {f : Fl} (h : errD D f = 0) : D.num < 1000 ∧ wf f = true ∧ f.Wf ∧ D.last ≤ f.day ∧ errL D.cs f = 0 := by
  unfold errD at h
  split at h
  · omega
  · split at h
    · rename_i hw
      split at h
      · omega
      · exact ⟨by omega, hw, (wf_iff f).1 hw, by omega, h⟩
    · omega
theorem stepD_yes {D : Dk} {f : Fl} (h : errD D f = 0) : stepD D f = ⟨D.num + 1, effL D.cs f, f.day⟩ := by unfold stepD; rw [if_pos h]
theorem stepD_no {D : Dk} {f : Fl} (h : errD D f ≠ 0) : stepD D f = ⟨D.num + 1, D.cs, D.last⟩ := by unfold stepD; rw [if_neg h]

theorem stepD_inv {D : Dk} (hD : D.Ok) (h : ∀ c ∈ D.cs, c.Inv D.last) (f : Fl) : ∀ c ∈ (stepD D f).cs, c.Inv (stepD D f).last := by
  by_cases he : errD D f = 0
  · obtain ⟨_, _, W, hl, hE⟩ := errD_ok he
    rw [stepD_yes he]
    dsimp only
    unfold effL
    cases ho : opensP f with
    | true =>
      rw [if_pos rfl]
      intro c hc
      rcases List.mem_append.1 hc with hc | hc
      · exact (h c hc).mono hl
      · rw [List.mem_singleton.1 hc]; exact newCase_inv W ho
    | false =>
      rw [if_neg (by decide)]
      intro c hc
      obtain ⟨h1, h2, h3⟩ := errL_own ho hE
      obtain ⟨k1, k4⟩ := opensP_not ho
      have hc1 := (W.kc k1 k4).1
      rcases List.mem_or_eq_of_mem_set hc with hc | rfl
      · exact (h c hc).mono hl
      · exact effP_inv W ho (ownP_ok hD hc1 h1) (by
          unfold ownP
          rw [List.getD_eq_getElem?_getD, List.getElem?_eq_getElem (by omega)]
          exact passP_inv (hD.cs _ (List.getElem_mem _)) (h _ (List.getElem_mem _)) hl) h2 h3
  · rw [stepD_no he]; exact h
theorem runD_inv (l : List Fl) : ∀ c ∈ (runD l).cs, c.Inv (runD l).last := by
  unfold runD
  suffices ∀ D : Dk, D.Ok → (∀ c ∈ D.cs, c.Inv D.last) → ∀ c ∈ (l.foldl stepD D).cs, c.Inv (l.foldl stepD D).last from this _ ⟨by simp, by simp, by decide⟩ (by simp)
  induction l with
  | nil => intro D _ h; exact h
  | cons f l ih => intro D hD h; exact ih _ (stepD_ok hD f) (stepD_inv hD h f)

/-- From one filing to the next, about accepted ones only. -/
theorem dk_ind {P : Dk → Prop} (h0 : P ⟨0, [], -1⟩) (hs : ∀ D f, D.Ok → (∀ c ∈ D.cs, c.Inv D.last) → P D → P (stepD D f)) (l : List Fl) : P (runD l) := by
  unfold runD
  suffices ∀ D : Dk, D.Ok → (∀ c ∈ D.cs, c.Inv D.last) → P D → P (l.foldl stepD D) from this _ ⟨by simp, by simp, by decide⟩ (by simp) h0
  induction l with
  | nil => intro D _ _ h; exact h
  | cons f l ih => intro D hD h hp; exact ih _ (stepD_ok hD f) (stepD_inv hD h f) (hs D f hD h hp)

/-! ## Days on which a case settles -/

theorem nextP_due (c : Cs) : (c.st ≠ 3 → (nextP c).due = c.due + 1 ∧ (nextP c).st = 4) ∧ (c.st = 3 → ((nextP c).due = c.due + 1 ∧ (nextP c).st = 4) ∨ ((nextP c).due = c.due + 1 + c.days ∧ (nextP c).st = 2)) := by
  unfold nextP
  refine ⟨fun h => by rw [if_neg h]; exact ⟨rfl, rfl⟩, fun h => ?_⟩
  rw [if_pos h]
  unfold upholdP
  dsimp only
  split
  · exact .inl ⟨rfl, rfl⟩
  · exact .inr ⟨by dsimp only; rw [(endHoldP_level c _).2.1], rfl⟩
theorem setlP_done {c : Cs} (h : c.Ok) : endsP (setlP c) = false ∧ 4 ≤ (setlP c).st ∧ (setlP c).Ok := by
  have h1 := passP_ok h 100000
  have h2 := passP_done h 100000
  have h3 : ¬ endsP (setlP c) = true := by
    intro he
    rw [← Bool.not_eq_true, goP_iff] at h2
    exact h2 ⟨he, by have := h1.due; omega⟩
  refine ⟨by simpa using h3, ?_, h1⟩
  have h4 : 1 ≤ (setlP c).st ∧ (setlP c).st ≤ 5 := h1.st
  have h5 : ¬ ((setlP c).st = 1 ∨ (setlP c).st = 2 ∨ (setlP c).st = 3) := fun h => h3 ((endsP_iff _).2 h)
  omega
theorem passP_done_setl {c : Cs} (h : c.Ok) {d : Int} (hd : d ≤ 100000) (he : endsP (passP c d) = false) : passP c d = setlP c := by
  unfold setlP
  rw [← passP_trans h hd]
  exact (passP_stop (by rw [goP_iff, he]; simp)).symm
theorem passP_due_mono {c : Cs} (h : c.Ok) (d : Int) : c.due ≤ (passP c d).due := by
  unfold passP
  have a1 := nextP_due c
  have a2 := nextP_due (nextP c)
  have hd := h.days
  split
  · rename_i hg
    have hn := (nextP_ok h ((goP_iff _ _).1 hg).1).1
    have hd2 := hn.days
    split
    · by_cases h3 : c.st = 3
      · by_cases h4 : (nextP c).st = 3
        · have := a1.2 h3; omega
        · have := a1.2 h3; have := a2.1 h4; omega
      · have := a1.1 h3
        by_cases h4 : (nextP c).st = 3
        · omega
        · have := a2.1 h4; omega
    · by_cases h3 : c.st = 3
      · have := a1.2 h3; omega
      · have := a1.1 h3; omega
  · exact Int.le_refl _
theorem setlP_due_le {c : Cs} (h : c.Ok) : (c.st = 2 → (setlP c).due ≤ c.due + 1) ∧ (c.st = 3 → (setlP c).due ≤ c.due + 2 + c.days) ∧ (4 ≤ c.st → setlP c = c) := by
  have hd := h.days
  unfold setlP passP
  have a1 := nextP_due c
  have a2 := nextP_due (nextP c)
  have hrest : ∀ x : Cs, x.st = 4 → goP x 100000 = false := by
    intro x hx; unfold goP endsP; rw [hx]; simp
  refine ⟨fun h2 => ?_, fun h3 => ?_, fun h4 => ?_⟩
  · have b1 := a1.1 (by omega)
    split
    · rw [if_neg (by rw [hrest _ b1.2]; decide)]; omega
    · omega
  · split
    · rcases a1.2 h3 with b | b
      · rw [if_neg (by rw [hrest _ b.2]; decide)]; omega
      · have b2 := a2.1 (by omega)
        split <;> omega
    · omega
  · rw [if_neg]
    unfold goP endsP
    simp; omega
/-- On the day of its due, and later, it is settled. -/
theorem passP_settled {c : Cs} (h : c.Ok) {d : Int} (hd : (setlP c).due ≤ d) (hd2 : d ≤ 100000) : passP c d = setlP c := by
  refine passP_done_setl h hd2 ?_
  rw [← Bool.not_eq_true]
  intro he
  have h1 := passP_due h d he
  have h2 := passP_ok h d
  have h3 : setlP c = setlP (passP c d) := (passP_trans h hd2).symm
  have h4 : (passP c d).due < (setlP (passP c d)).due := by
    have hg : goP (passP c d) 100000 = true := (goP_iff _ _).2 ⟨he, by have := h2.due; omega⟩
    have h5 := passP_due_mono (nextP_ok h2 he).1 100000
    rw [passP_next h2 hg] at h5
    have a1 := nextP_due (passP c d)
    have := h2.days
    unfold setlP
    by_cases h3 : (passP c d).st = 3
    · have := a1.2 h3; omega
    · have := a1.1 h3; omega
  rw [← h3] at h4
  omega
theorem setl_before {c : Cs} (h : c.Ok) {last d : Int} (hi : c.Inv last) (hl : last ≤ d) (hd : d < (setlP c).due) (hd2 : d ≤ 100000) : (passP c d).st < 4 := by
  by_cases h4 : (passP c d).st < 4
  · exact h4
  · exfalso
    have he : endsP (passP c d) = false := by
      rw [← Bool.not_eq_true, endsP_iff]; omega
    have e := passP_done_setl h hd2 he
    have := (passP_inv h hi hl).fin (by omega)
    rw [e] at this
    omega

/-! ## Held days -/

theorem heldP_at {c : Cs} (h : c.HOk) {d x y : Int} (hd : d < 65536) (hx : d < x) (hy : d < y) : mem (heldP c x) d = mem (heldP c y) d := by
  rw [heldP_mem h, heldP_mem h, show decide (d < min x 65536) = true by simp; omega, show decide (d < min y 65536) = true by simp; omega]
theorem nextP_held {c : Cs} (h : c.Ok) {d : Int} (hd : d < 65536) (hdue : d ≤ c.due) (x : Int) : mem (heldP (nextP c) x) d = mem (heldP c (d + 1)) d := by
  by_cases h3 : c.st = 3
  · have e1 : (nextP c).hold = false ∧ (nextP c).held = (endHoldP c (c.due + 1)).held := by
      unfold nextP upholdP
      rw [if_pos h3]
      dsimp only
      have e := endHoldP_level c (c.due + 1)
      split <;> exact ⟨e.2.2.1, rfl⟩
    rw [heldP_off e1.1, e1.2]
    unfold endHoldP
    split
    · dsimp only
      exact heldP_at h.h hd (by omega) (by omega)
    · rename_i hh
      rw [heldP_off (by simpa using hh)]
  · have hh : c.hold = false := by
      rw [← Bool.not_eq_true]; intro h4; exact h3 (h.hold h4).1
    have e1 : (nextP c).hold = false ∧ (nextP c).held = c.held := by
      unfold nextP; rw [if_neg h3]; exact ⟨hh, rfl⟩
    rw [heldP_off e1.1, e1.2, heldP_off hh]
theorem passP_held0 {c : Cs} (h : c.Ok) {d x y : Int} (hd : d < 65536) (hdue : endsP c = true → d ≤ c.due) (hy : d < y) : mem (heldP (passP c x) y) d = mem (heldP c (d + 1)) d := by
  unfold passP
  split
  · rename_i hg
    have he := ((goP_iff _ _).1 hg).1
    have hn := (nextP_ok h he).1
    have a1 := nextP_due c
    have hdd := h.days
    split
    · have hd1 := hdue he
      rw [nextP_held hn hd (by
        by_cases h3 : c.st = 3
        · have := a1.2 h3; omega
        · have := a1.1 h3; omega), nextP_held h hd (hdue he)]
    · exact nextP_held h hd (hdue he) _
  · exact heldP_at h.h hd hy (by omega)
/-- Held on a day: looked at on that day, or later. -/
theorem atP_held {c : Cs} (h : c.Ok) {d x : Int} (hd : d < 65536) (hx : d ≤ x) : mem (atP c x).held d = mem (atP c d).held d := by
  unfold atP
  dsimp only
  rw [← passP_trans h hx]
  exact passP_held0 (passP_ok h d) hd (passP_due h d) (by omega)
/-- Held on a day: pending with a hold. -/
theorem atP_held_now {c : Cs} (h : c.Ok) {last d : Int} (hi : c.Inv last) (hl : last ≤ d) (hd : d < 65536) : mem (atP c d).held d = ((passP c d).st == 3 && (passP c d).hold) := by
  have h1 := passP_inv h hi hl
  have h2 := passP_ok h d
  unfold atP
  dsimp only
  rw [heldP_mem h2.h]
  have e1 : mem (passP c d).held d = false := by
    rw [← Bool.not_eq_true]; intro hm; have := h1.low d hm; omega
  rw [e1, Bool.false_or]
  cases hh : (passP c d).hold with
  | false => simp
  | true =>
    have h3 := h2.hold hh
    have h4 := h1.since hh
    rw [h3.1]
    simp; omega
theorem effP_due {f : Fl} (ho : opensP f = false) {c : Cs} (hc : c.Ok) (hdue : endsP c = true → f.day ≤ c.due) : endsP (effP f c) = true → f.day ≤ (effP f c).due := by
  obtain ⟨k1, k4⟩ := opensP_not ho
  have hd := hc.days
  unfold effP
  split
  · exact hdue
  · split
    · intro _; exact Int.le_refl _
    · split
      · split <;> (intro _; dsimp only; omega)
      · split
        · split
          · intro _
            unfold upholdP
            dsimp only
            have e := endHoldP_level c f.day
            split
            · exact Int.le_refl _
            · dsimp only; omega
          · intro _
            have e := (endHoldP_level { c with st := 5, due := f.day } f.day).2.2.2.2.1
            rw [e]; exact Int.le_refl _
        · intro _
          have e := (endHoldP_level { c with st := 4, due := f.day } f.day).2.2.2.2.1
          rw [e]; exact Int.le_refl _
/-- An accepted filing changes nothing about the days ahead of it. -/
theorem effP_held {f : Fl} (W : f.Wf) {c : Cs} (hc : c.Ok) (hst : c.st = needP f.kind) {d x y : Int} (hd : d < f.day) (hx : d < x) (hy : d < y) : mem (heldP (effP f c) x) d = mem (heldP c y) d := by
  have hday := W.day
  have hd2 : d < 65536 := by omega
  have nohold : c.st ≠ 3 → c.hold = false := fun h3 => by
    rw [← Bool.not_eq_true]; intro h4; exact h3 (hc.hold h4).1
  have hend : ∀ s u : Int, mem (heldP (endHoldP { c with st := s, due := u } f.day) x) d = mem (heldP c y) d := by
    intro s u
    have e := endHoldP_level { c with st := s, due := u } f.day
    rw [heldP_off e.2.2.1]
    unfold endHoldP
    split
    · dsimp only
      have : heldP { c with st := s, due := u } f.day = heldP c f.day := rfl
      rw [this]
      exact heldP_at hc.h hd2 hd hy
    · rename_i hh
      dsimp only at hh ⊢
      rw [heldP_off (by simpa using hh)]
  unfold needP at hst
  unfold effP
  split
  · exact heldP_at (c := c) hc.h hd2 hx hy
  · split
    · exact heldP_at (c := c) hc.h hd2 hx hy
    · rename_i e2 e3
      rw [if_neg (by omega)] at hst
      split
      · rename_i e5
        rw [if_pos e5] at hst
        have hh := nohold (by omega)
        split
        · rw [heldP_off hh]
          unfold heldP
          dsimp only
          split
          · rename_i h9
            have hv : validB [(f.day, min x 65536)] = true := by
              unfold validB; rw [validFrom_cons]; dsimp only; exact ⟨by omega, by omega, by omega, rfl⟩
            rw [(un_set hc.vh hv).mem, mem_cons, mem_nil]
            simp; omega
          · rfl
        · rw [heldP_off hh]
          exact congrArg (mem · d) (heldP_off (c := { c with st := 3, due := f.day + 365, level := c.level + 1 }) hh x)
      · split
        · split
          · have e := endHoldP_level c f.day
            have e1 : (upholdP c f.day).hold = false ∧ (upholdP c f.day).held = (endHoldP c f.day).held := by
              unfold upholdP
              dsimp only
              split <;> exact ⟨e.2.2.1, rfl⟩
            rw [heldP_off e1.1, e1.2]
            unfold endHoldP
            split
            · dsimp only
              exact heldP_at hc.h hd2 hd hy
            · rename_i hh
              rw [heldP_off (by simpa using hh)]
          · exact hend 5 f.day
        · exact hend 4 f.day
end Sp
