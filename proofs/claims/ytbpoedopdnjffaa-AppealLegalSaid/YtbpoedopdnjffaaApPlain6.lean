/- The plain laws of a docket and its accepted filings. -/
import Derived.Test.YtbpoedopdnjffaaApTaken
import Derived.Test.YtbpoedopdnjffaaApPlain5
namespace Go.Proofs.Ytbpoedopdnjffaa
open Sp

/-- From one filing to the next, with the accepted ones. -/
theorem tk_ind {P : List Fl → Dk → Prop} (h0 : P [] ⟨0, [], -1⟩) (hy : ∀ T D f, D.Ok → (∀ c ∈ D.cs, c.Inv D.last) → P T D → errD D f = 0 → P (T ++ [f]) ⟨D.num + 1, effL D.cs f, f.day⟩)
    (hn : ∀ T D, P T D → P T ⟨D.num + 1, D.cs, D.last⟩) (l : List Fl) : P (takenP l) (runD l) := by
  unfold takenP runD
  suffices ∀ (D : Dk) (T : List Fl), D.Ok → (∀ c ∈ D.cs, c.Inv D.last) → P T D → P (T ++ takenFrom D l) (l.foldl stepD D) from by
    have := this ⟨0, [], -1⟩ [] ⟨by simp, by simp, by decide⟩ (by simp) h0
    simpa using this
  induction l with
  | nil => intro D T _ _ h; simpa [takenFrom] using h
  | cons f l ih =>
    intro D T hD hi h
    have s1 := stepD_ok hD f
    have s2 := stepD_inv hD hi f
    rw [takenFrom, List.foldl_cons]
    split
    · rename_i he
      have := ih (stepD D f) (T ++ [f]) s1 s2 (by rw [stepD_yes he]; exact hy T D f hD hi h he)
      simpa using this
    · rename_i he
      exact ih (stepD D f) T s1 s2 (by rw [stepD_no he]; exact hn T D h)

/-- The accepted filings alone lead to the same cases, and all are accepted. -/
structure Again (T : List Fl) (D : Dk) : Prop where
  num : T.length ≤ D.num
  run : runD T = ⟨T.length, D.cs, D.last⟩
  errs : ∀ e ∈ errsD T, e = 0
  days : ∀ f ∈ T, f.day ≤ D.last
  asc : T.Pairwise fun a b => a.day ≤ b.day
theorem again (l : List Fl) : Again (takenP l) (runD l) := by
  refine tk_ind ⟨by simp, rfl, by simp [errsD, errsFrom], by simp, by simp⟩ ?_ ?_ l
  · intro T D f _ _ h he
    obtain ⟨hnum, hw, W, hl, hE⟩ := errD_ok he
    have h1 := h.num
    have e2 : errD (runD T) f = 0 := by
      unfold errD
      rw [h.run]
      dsimp only
      rw [if_neg (by omega), if_pos hw, if_neg (by omega)]
      exact hE
    refine ⟨by rw [List.length_append, List.length_singleton]; dsimp only; omega, ?_, fun e hm => ?_, fun g hm => ?_, ?_⟩
    · rw [runD_snoc, stepD_yes e2, h.run, List.length_append, List.length_singleton]
    · rw [errsD_snoc, e2] at hm
      rcases List.mem_append.1 hm with hm | hm
      · exact h.errs e hm
      · exact List.mem_singleton.1 hm
    · rcases List.mem_append.1 hm with hm | hm
      · exact Int.le_trans (h.days g hm) hl
      · rw [List.mem_singleton.1 hm]; exact Int.le_refl _
    · refine List.pairwise_append.2 ⟨h.asc, List.pairwise_singleton .., fun a ha b hb => ?_⟩
      rw [List.mem_singleton.1 hb]
      exact Int.le_trans (h.days a ha) hl
  · intro T D h
    exact ⟨by have := h.num; dsimp only; omega, h.run, h.errs, h.days, h.asc⟩
theorem atErr_taken (l : List Fl) (d : Int) : atErr (takenP l) d = atErr l d := by unfold atErr; rw [(again l).run]
theorem atD_taken (l : List Fl) (d : Int) : atD (takenP l) d = atD l d := by unfold atD; rw [atErr_taken, (again l).run]

theorem lastP_bd (l : List Fl) : 0 ≤ lastP l ∧ lastP l ≤ 65535 ∧ (runD l).last ≤ lastP l := by
  have := (runD_ok l).last
  unfold lastP
  omega
theorem atErr_last {l : List Fl} {d : Int} (h : lastP l ≤ d) : atErr l d = if d ≤ 65535 then 0 else 2 := by
  have := lastP_bd l
  unfold atErr
  split
  · rw [if_neg (by omega), if_pos (by omega)]
  · rw [if_neg (by omega)]
theorem atD_last {l : List Fl} {d : Int} (h : lastP l ≤ d) (h2 : d ≤ 65535) : atErr l d = 0 ∧ atD l d = (runD l).cs.map fun c => atP c d := by
  have e : atErr l d = 0 := by rw [atErr_last h, if_pos h2]
  exact ⟨e, by unfold atD; rw [if_pos e]⟩

/-! ## Choices, levels, the day a case was touched -/
def chF (k x : Int) (T : List Fl) : Int := T.foldl (fun x f => if f.kind = 2 ∧ f.case = k then f.n else x) x
def lvF (k : Int) (T : List Fl) : Int := T.foldl (fun x f => if f.kind = 5 ∧ f.case = k then x + 1 else x) 0
def tcF (k x : Int) (T : List Fl) : Int := T.foldl (fun x f => if f.case = k then f.day else x) x
theorem chF_snoc (k x : Int) (T : List Fl) (f : Fl) : chF k x (T ++ [f]) = if f.kind = 2 ∧ f.case = k then f.n else chF k x T := by unfold chF; rw [List.foldl_append]; rfl
theorem lvF_snoc (k : Int) (T : List Fl) (f : Fl) : lvF k (T ++ [f]) = if f.kind = 5 ∧ f.case = k then lvF k T + 1 else lvF k T := by unfold lvF; rw [List.foldl_append]; rfl
theorem tcF_snoc (k x : Int) (T : List Fl) (f : Fl) : tcF k x (T ++ [f]) = if f.case = k then f.day else tcF k x T := by unfold tcF; rw [List.foldl_append]; rfl
theorem fold_none {k x : Int} {T : List Fl} (h : ∀ f ∈ T, f.case < k) : chF k x T = x ∧ tcF k x T = x ∧ lvF k T = 0 := by
  have key : ∀ {α : Type} (g : α → Fl → α) (a : α), (∀ a, ∀ f ∈ T, g a f = a) → T.foldl g a = a := by
    intro α g a hg
    clear h
    induction T with
    | nil => rfl
    | cons f T ih => rw [List.foldl_cons, hg a f (List.mem_cons_self ..)]; exact ih (fun a f hf => hg a f (List.mem_cons_of_mem _ hf))
  refine ⟨key _ _ fun a f hf => ?_, key _ _ fun a f hf => ?_, key _ _ fun a f hf => ?_⟩
  · have := h f hf; rw [if_neg (by omega)]
  · have := h f hf; rw [if_neg (by omega)]
  · have := h f hf; rw [if_neg (by omega)]

theorem endHoldP_own (c : Cs) (s u d : Int) : (endHoldP { c with st := s, due := u } d).st = s ∧ (endHoldP { c with st := s, due := u } d).due = u ∧ (endHoldP { c with st := s, due := u } d).el = c.el ∧ (endHoldP { c with st := s, due := u } d).opened = c.opened ∧ (endHoldP { c with st := s, due := u } d).days = c.days ∧
    (endHoldP { c with st := s, due := u } d).choice = c.choice ∧ (endHoldP { c with st := s, due := u } d).level = c.level := by
  have e := endHoldP_level { c with st := s, due := u } d
  exact ⟨e.2.2.2.1, e.2.2.2.2.1, e.2.2.2.2.2.1, e.2.2.2.2.2.2.1, e.2.1, e.2.2.2.2.2.2.2, e.1⟩
theorem upholdP_own (c : Cs) (d : Int) : (upholdP c d).el = c.el ∧ (upholdP c d).opened = c.opened ∧ (upholdP c d).days = c.days ∧ (upholdP c d).choice = c.choice ∧ (upholdP c d).level = c.level ∧
    (((upholdP c d).st = 4 ∧ (upholdP c d).due = d) ∨ ((upholdP c d).st = 2 ∧ (upholdP c d).due = d + c.days)) := by
  have e := endHoldP_level c d
  unfold upholdP
  dsimp only
  split
  · exact ⟨e.2.2.2.2.2.1, e.2.2.2.2.2.2.1, e.2.1, e.2.2.2.2.2.2.2, e.1, .inl ⟨rfl, rfl⟩⟩
  · exact ⟨e.2.2.2.2.2.1, e.2.2.2.2.2.2.1, e.2.1, e.2.2.2.2.2.2.2, e.1, .inr ⟨rfl, by dsimp only; rw [e.2.1]⟩⟩
theorem effP_own (f : Fl) (c : Cs) : (effP f c).el = c.el ∧ (effP f c).opened = c.opened ∧ (effP f c).days = c.days ∧
    (effP f c).choice = (if f.kind = 2 then f.n else c.choice) ∧ (effP f c).level = (if f.kind = 5 then c.level + 1 else c.level) ∧
    (f.kind = 2 ∨ ((effP f c).st = 2 ∧ (effP f c).due = f.day + c.days) ∨ ((effP f c).st = 3 ∧ (effP f c).due = f.day + 365) ∨ (4 ≤ (effP f c).st ∧ (effP f c).due = f.day)) := by
  unfold effP
  split
  · rename_i e
    exact ⟨rfl, rfl, rfl, rfl, by rw [if_neg (by omega)], .inl e⟩
  · split
    · rename_i e
      exact ⟨rfl, rfl, rfl, rfl, by rw [if_neg (by omega)], .inr (.inr (.inr ⟨by dsimp only; omega, rfl⟩))⟩
    · split
      · split <;> exact ⟨rfl, rfl, rfl, rfl, rfl, .inr (.inr (.inl ⟨rfl, rfl⟩))⟩
      · split
        · split
          · have u := upholdP_own c f.day
            exact ⟨u.1, u.2.1, u.2.2.1, u.2.2.2.1, u.2.2.2.2.1, by
              rcases u.2.2.2.2.2 with a | a
              · exact .inr (.inr (.inr ⟨by omega, a.2⟩))
              · exact .inr (.inl a)⟩
          · have u := endHoldP_own c 5 f.day f.day
            exact ⟨u.2.2.1, u.2.2.2.1, u.2.2.2.2.1, u.2.2.2.2.2.1, u.2.2.2.2.2.2, .inr (.inr (.inr ⟨by rw [u.1]; decide, u.2.1⟩))⟩
        · have u := endHoldP_own c 4 f.day f.day
          exact ⟨u.2.2.1, u.2.2.2.1, u.2.2.2.2.1, u.2.2.2.2.2.1, u.2.2.2.2.2.2, .inr (.inr (.inr ⟨by rw [u.1]; decide, u.2.1⟩))⟩

structure Hist (T : List Fl) (D : Dk) : Prop where
  case : ∀ f ∈ T, 0 ≤ f.case ∧ f.case ≤ D.cs.length
  all : ∀ k, (h : k < D.cs.length) → D.cs[k].choice = chF (k + 1) (if D.cs[k].el = true then 1 else 0) T ∧ D.cs[k].level = lvF (k + 1) T ∧
    (D.cs[k].el = false → (D.cs[k].st = 2 → D.cs[k].due ≤ tcF (k + 1) D.cs[k].opened T + 400) ∧ (D.cs[k].st = 3 → D.cs[k].due = tcF (k + 1) D.cs[k].opened T + 365) ∧ (4 ≤ D.cs[k].st → D.cs[k].due = tcF (k + 1) D.cs[k].opened T))
theorem effL_own {D : Dk} {f : Fl} (ho : opensP f = false) (hE : errL D.cs f = 0) (W : f.Wf) : ∃ k, ∃ h : k < D.cs.length, f.case = (k : Int) + 1 ∧ effL D.cs f = D.cs.set k (effP f (passP D.cs[k] f.day)) ∧ (passP D.cs[k] f.day).st = needP f.kind ∧ (f.kind = 2 → f.n ≤ (passP D.cs[k] f.day).days) := by
  obtain ⟨h1, h2, h3⟩ := errL_own ho hE
  obtain ⟨k1, k4⟩ := opensP_not ho
  have hc := (W.kc k1 k4).1
  have hk : f.case.toNat - 1 < D.cs.length := by omega
  have e : ownP D.cs f = passP D.cs[f.case.toNat - 1] f.day := by
    unfold ownP; rw [List.getD_eq_getElem?_getD, List.getElem?_eq_getElem hk]; rfl
  rw [e] at h2 h3
  refine ⟨f.case.toNat - 1, hk, by omega, ?_, h2, h3⟩
  unfold effL
  rw [if_neg (by rw [ho]; decide), e]
theorem effL_open {D : Dk} {f : Fl} (ho : opensP f = true) (W : f.Wf) : f.case = 0 ∧ effL D.cs f = D.cs ++ [newCase f] := by
  refine ⟨?_, by unfold effL; rw [if_pos ho]⟩
  unfold opensP at ho
  simp at ho
  rcases ho with e | e
  · exact (W.k1 e).1
  · exact (W.k4 e).1
theorem newCase_own {f : Fl} (W : f.Wf) (ho : opensP f = true) : (newCase f).choice = (if (newCase f).el = true then 1 else 0) ∧ (newCase f).level = 0 ∧ (newCase f).opened = f.day ∧ (newCase f).days = f.n ∧ ((newCase f).el = false → (newCase f).st = 2 ∧ (newCase f).due ≤ f.day + 400) := by
  unfold newCase
  split
  · exact ⟨rfl, rfl, rfl, rfl, by simp⟩
  · rename_i e
    have h4 := W.k4 (by unfold opensP at ho; simp at ho; omega)
    exact ⟨rfl, rfl, rfl, rfl, fun _ => ⟨rfl, by dsimp only; omega⟩⟩
theorem hist (l : List Fl) : Hist (takenP l) (runD l) := by
  refine tk_ind ⟨by simp, by simp⟩ ?_ ?_ l
  · intro T D f hD hi h he
    obtain ⟨_, _, W, _, hE⟩ := errD_ok he
    cases ho : opensP f with
    | true =>
      obtain ⟨h0, e⟩ := effL_open (D := D) ho W
      refine ⟨fun g hg => ?_, fun k hk => ?_⟩
      · dsimp only
        rw [e, List.length_append, List.length_singleton]
        rcases List.mem_append.1 hg with hg | hg
        · have := h.case g hg; omega
        · rw [List.mem_singleton.1 hg]; omega
      · dsimp only at hk ⊢
        have z1 : ¬ (0 : Int) = (k : Int) + 1 := by omega
        simp only [chF_snoc, lvF_snoc, tcF_snoc, h0, z1, and_false, if_false]
        simp only [e] at hk ⊢
        rw [List.length_append, List.length_singleton] at hk
        by_cases hlt : k < D.cs.length
        · rw [List.getElem_append_left hlt]
          exact h.all k hlt
        · obtain rfl : k = D.cs.length := by omega
          rw [List.getElem_append_right (Nat.le_refl _)]
          simp only [Nat.sub_self, List.getElem_cons_zero]
          obtain ⟨n1, n2, n3, _, n4⟩ := newCase_own W ho
          have fn := fun x => fold_none (k := (D.cs.length : Int) + 1) (x := x) (T := T) (fun g hg => by have := h.case g hg; omega)
          rw [(fn _).1, (fn 0).2.2, (fn _).2.1]
          exact ⟨n1, n2, fun hf => by have := n4 hf; rw [n3]; omega⟩
    | false =>
      obtain ⟨j, hj, hcj, e, hst, hch⟩ := effL_own ho hE W
      refine ⟨fun g hg => ?_, fun k hk => ?_⟩
      · dsimp only
        rw [e, List.length_set]
        rcases List.mem_append.1 hg with hg | hg
        · exact h.case g hg
        · rw [List.mem_singleton.1 hg]; omega
      · dsimp only at hk ⊢
        simp only [chF_snoc, lvF_snoc, tcF_snoc, hcj]
        simp only [e] at hk ⊢
        rw [List.length_set] at hk
        by_cases hjk : j = k
        · subst hjk
          simp only [and_true, if_true]
          rw [List.getElem_set_self]
          obtain ⟨u1, u2, u3, u4, u5, u6⟩ := effP_own f (passP D.cs[j] f.day)
          obtain ⟨s1, s2, s3, s4, s5⟩ := passP_same D.cs[j] f.day
          obtain ⟨a1, a2, a3⟩ := h.all j hj
          have hdd := (hD.cs _ (List.getElem_mem hj)).days
          have hpi := passP_inv (hD.cs _ (List.getElem_mem hj)) (hi _ (List.getElem_mem hj)) (errD_ok he).2.2.2.1
          refine ⟨?_, ?_, fun hel => ?_⟩
          · rw [u4, u1, s1, s4, a1]
          · rw [u5, s5, a2]
          · rw [u1] at hel
            have hd1 := hpi.dec hel
            unfold needP at hst
            rcases u6 with b | b | b | b
            · rw [if_pos (.inl b)] at hst; exact absurd hst hd1.1
            · rw [s3] at b; omega
            · omega
            · omega
        · rw [List.getElem_set_ne hjk]
          have z1 : ¬ (j : Int) + 1 = (k : Int) + 1 := by omega
          simp only [z1, and_false, if_false]
          exact h.all k hk
  · intro T D h
    exact ⟨h.case, h.all⟩

/-! ## Held days -/
/-- The filings up to a day. -/
def upto (d : Int) (T : List Fl) : List Fl := T.filter fun f => decide (f.day ≤ d)
theorem upto_all {d : Int} {T : List Fl} (h : ∀ f ∈ T, f.day ≤ d) : upto d T = T := by
  unfold upto
  exact List.filter_eq_self.2 (by simpa using h)
theorem upto_snoc (d : Int) (T : List Fl) (f : Fl) : upto d (T ++ [f]) = upto d T ++ (if f.day ≤ d then [f] else []) := by
  unfold upto
  rw [List.filter_append]
  congr 1
  split <;> simp [*]
def heldIn (L : List Cs) (k : Nat) (d x : Int) : Bool := match L[k]? with | some c => mem (atP c x).held d | none => false
structure Past (d : Int) (T : List Fl) (D : Dk) : Prop where
  again : Again T D
  last : (runD (upto d T)).last ≤ d
  all : D.last ≤ d → (runD (upto d T)).cs = D.cs
  len : (runD (upto d T)).cs.length ≤ D.cs.length
  held : ∀ k, k < D.cs.length → heldIn D.cs k d (max d D.last) = heldIn (runD (upto d T)).cs k d d
theorem past (d : Int) (h0 : 0 ≤ d) (hd : d ≤ 65535) (l : List Fl) : Past d (takenP l) (runD l) := by
  have HA : ∀ {T D f}, Again T D → errD D f = 0 → errD (runD T) f = 0 := by
    intro T D f h he
    obtain ⟨hnum, hw, W, hl, hE⟩ := errD_ok he
    have h1 := h.num
    unfold errD
    rw [h.run]
    dsimp only
    rw [if_neg (by omega), if_pos hw, if_neg (by omega)]
    exact hE
  have base : Past d [] ⟨0, [], -1⟩ := ⟨⟨by simp, rfl, by simp [errsD, errsFrom], by simp, by simp⟩, by show (-1 : Int) ≤ d; omega, fun _ => rfl, Nat.le_refl _, fun k hk => by simp at hk⟩
  refine tk_ind base ?_ ?_ l
  · intro T D f hD hi h he
    obtain ⟨hnum, hw, W, hl, hE⟩ := errD_ok he
    have h1 := h.again.num
    have e2 := HA h.again he
    have hag : Again (T ++ [f]) ⟨D.num + 1, effL D.cs f, f.day⟩ := by
      refine ⟨by rw [List.length_append, List.length_singleton]; dsimp only; omega, ?_, fun e hm => ?_, fun g hm => ?_, ?_⟩
      · rw [runD_snoc, stepD_yes e2, h.again.run, List.length_append, List.length_singleton]
      · rw [errsD_snoc, e2] at hm
        rcases List.mem_append.1 hm with hm | hm
        · exact h.again.errs e hm
        · exact List.mem_singleton.1 hm
      · rcases List.mem_append.1 hm with hm | hm
        · exact Int.le_trans (h.again.days g hm) hl
        · rw [List.mem_singleton.1 hm]; exact Int.le_refl _
      · refine List.pairwise_append.2 ⟨h.again.asc, List.pairwise_singleton .., fun a ha b hb => ?_⟩
        rw [List.mem_singleton.1 hb]
        exact Int.le_trans (h.again.days a ha) hl
    by_cases hfd : f.day ≤ d
    · have eu : upto d (T ++ [f]) = T ++ [f] := upto_all fun g hg => Int.le_trans (hag.days g hg) hfd
      have er : runD (upto d (T ++ [f])) = ⟨(T ++ [f]).length, effL D.cs f, f.day⟩ := by rw [eu, hag.run]
      refine ⟨hag, by rw [er]; exact hfd, fun _ => by rw [er], by rw [er]; exact Nat.le_refl _, fun k hk => ?_⟩
      rw [er]
      dsimp only
      rw [show max d f.day = d by omega]
    · have eu : upto d (T ++ [f]) = upto d T := by rw [upto_snoc, if_neg hfd, List.append_nil]
      have eff : heldIn D.cs = heldIn D.cs := rfl
      refine ⟨hag, by rw [eu]; exact h.last, fun hc => absurd hc hfd, ?_, fun k hk => ?_⟩
      · rw [eu]
        have := h.len
        cases ho : opensP f with
        | true => rw [(effL_open (D := D) ho W).2]; simp; omega
        | false =>
          obtain ⟨j, hj, hcj, e, _⟩ := effL_own ho hE W
          rw [e]; simpa using this
      · rw [eu]
        dsimp only at hk ⊢
        rw [show max d f.day = f.day by omega]
        have old : ∀ k, k < D.cs.length → heldIn D.cs k d f.day = heldIn (runD (upto d T)).cs k d d := fun k hk => by
          rw [← h.held k hk]
          unfold heldIn
          rw [List.getElem?_eq_getElem hk]
          dsimp only
          have ok := hD.cs _ (List.getElem_mem hk)
          rw [atP_held ok (by omega) (show d ≤ f.day by omega), atP_held ok (by omega) (show d ≤ max d D.last by omega)]
        cases ho : opensP f with
        | true =>
          rw [(effL_open (D := D) ho W).2] at hk ⊢
          rw [List.length_append, List.length_singleton] at hk
          by_cases hlt : k < D.cs.length
          · rw [← old k hlt]
            unfold heldIn
            rw [List.getElem?_append_left hlt]
          · obtain rfl : k = D.cs.length := by omega
            have hn : heldIn (runD (upto d T)).cs D.cs.length d d = false := by
              unfold heldIn
              rw [List.getElem?_eq_none h.len]
            rw [hn]
            unfold heldIn
            rw [List.getElem?_append_right (Nat.le_refl _)]
            simp only [Nat.sub_self, List.getElem?_cons_zero]
            have ok := newCase_ok W ho
            have e9 : passP (newCase f) f.day = newCase f := passP_stay fun _ => by
              have := (newCase_inv W ho).op
              have e3 := (newCase_own W ho).2.2.1
              rw [e3] at this
              exact this.2.2
            unfold atP
            dsimp only
            rw [e9]
            have hno : (newCase f).hold = false ∧ (newCase f).held = [] := by unfold newCase; split <;> exact ⟨rfl, rfl⟩
            rw [heldP_off hno.1, hno.2]; rfl
        | false =>
          obtain ⟨j, hj, hcj, e, hst, hch⟩ := effL_own ho hE W
          rw [e] at hk ⊢
          rw [List.length_set] at hk
          rw [← old k hk]
          by_cases hjk : j = k
          · subst hjk
            unfold heldIn
            rw [List.getElem?_set_self hj, List.getElem?_eq_getElem hj]
            dsimp only
            have ok := hD.cs _ (List.getElem_mem hj)
            have okp := passP_ok ok f.day
            unfold atP
            dsimp only
            have es : passP (effP f (passP D.cs[j] f.day)) f.day = effP f (passP D.cs[j] f.day) := passP_stay (effP_due ho okp (passP_due ok f.day))
            rw [es]
            exact effP_held W okp hst (by omega) (by omega) (by omega)
          · unfold heldIn
            rw [List.getElem?_set_ne hjk]
  · intro T D h
    exact ⟨⟨by have := h.again.num; dsimp only; omega, h.again.run, h.again.errs, h.again.days, h.again.asc⟩, h.last, h.all, h.len, h.held⟩
end Go.Proofs.Ytbpoedopdnjffaa
