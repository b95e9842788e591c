/- The plain mathematics of dockets: filings that are well-formed, what they do, and what a docket has led to. No program in sight. -/
import Derived.Test.YtbpoedopdnjffaaApPlain
namespace Sp

/-- A filing is well-formed. -/
def wf (f : Fl) : Bool :=
  (decide (0 ≤ f.day) && decide (f.day ≤ 65535)) &&
    (if f.kind = 1 then f.case == 0 && !f.hold && (decide (2 ≤ f.n) && decide (f.n ≤ 9)) && (decide (f.day ≤ f.til) && decide (f.til ≤ 65535))
     else if f.kind = 4 then f.case == 0 && f.til == 0 && !f.hold && (decide (1 ≤ f.n) && decide (f.n ≤ 400))
     else decide (1 ≤ f.case) && (f.til == 0 &&
       (if f.kind = 2 then !f.hold && (decide (1 ≤ f.n) && decide (f.n ≤ 9))
        else if f.kind = 3 ∨ f.kind = 7 then f.n == 0 && !f.hold
        else if f.kind = 5 then f.n == 0
        else if f.kind = 6 then !f.hold && (f.n == 1 || f.n == 2)
        else false)))

/-- What numbers a filing in memory may hold. -/
structure Fl.Bd (f : Fl) : Prop where
  kind : 0 ≤ f.kind ∧ f.kind ≤ 255
  day : -9223372036854775808 ≤ f.day ∧ f.day ≤ 9223372036854775807
  case : -9223372036854775808 ≤ f.case ∧ f.case ≤ 9223372036854775807
  n : -9223372036854775808 ≤ f.n ∧ f.n ≤ 9223372036854775807
  til : -9223372036854775808 ≤ f.til ∧ f.til ≤ 9223372036854775807

/-- What wellFormed says, kind by kind. -/
structure Fl.Wf (f : Fl) : Prop where
  day : 0 ≤ f.day ∧ f.day ≤ 65535
  kind : 1 ≤ f.kind ∧ f.kind ≤ 7
  k1 : f.kind = 1 → f.case = 0 ∧ f.hold = false ∧ 2 ≤ f.n ∧ f.n ≤ 9 ∧ f.day ≤ f.til ∧ f.til ≤ 65535
  k4 : f.kind = 4 → f.case = 0 ∧ f.til = 0 ∧ f.hold = false ∧ 1 ≤ f.n ∧ f.n ≤ 400
  kc : f.kind ≠ 1 → f.kind ≠ 4 → 1 ≤ f.case ∧ f.til = 0
  k2 : f.kind = 2 → f.hold = false ∧ 1 ≤ f.n ∧ f.n ≤ 9
  k37 : f.kind = 3 ∨ f.kind = 7 → f.n = 0 ∧ f.hold = false
  k5 : f.kind = 5 → f.n = 0
  k6 : f.kind = 6 → f.hold = false ∧ (f.n = 1 ∨ f.n = 2)

theorem wf_iff (f : Fl) : wf f = true ↔ f.Wf := by
  unfold wf
  constructor
  · intro h
    simp only [Bool.and_eq_true, decide_eq_true_eq] at h
    obtain ⟨h0, h1⟩ := h
    split at h1
    · rename_i e
      simp only [Bool.and_eq_true, decide_eq_true_eq, beq_iff_eq, Bool.not_eq_true'] at h1
      exact ⟨h0, by omega, fun _ => by simp [h1], fun _ => by omega, fun h => absurd e h, fun _ => by omega, fun _ => by omega, fun _ => by omega, fun _ => by omega⟩
    · rename_i e
      split at h1
      · rename_i e4
        simp only [Bool.and_eq_true, decide_eq_true_eq, beq_iff_eq, Bool.not_eq_true'] at h1
        exact ⟨h0, by omega, fun _ => by omega, fun _ => by simp [h1], fun _ h => absurd e4 h, fun _ => by omega, fun _ => by omega, fun _ => by omega, fun _ => by omega⟩
      · rename_i e4
        simp only [Bool.and_eq_true, decide_eq_true_eq, beq_iff_eq] at h1
        obtain ⟨hc, ht, h2⟩ := h1
        split at h2
        · simp only [Bool.and_eq_true, decide_eq_true_eq, Bool.not_eq_true'] at h2
          exact ⟨h0, by omega, fun _ => by omega, fun _ => by omega, fun _ _ => ⟨hc, ht⟩, fun _ => by simp [h2], fun _ => by omega, fun _ => by omega, fun _ => by omega⟩
        · split at h2
          · simp only [Bool.and_eq_true, beq_iff_eq, Bool.not_eq_true'] at h2
            exact ⟨h0, by omega, fun _ => by omega, fun _ => by omega, fun _ _ => ⟨hc, ht⟩, fun _ => by omega, fun _ => by simp [h2], fun _ => by omega, fun _ => by omega⟩
          · split at h2
            · simp only [beq_iff_eq] at h2
              exact ⟨h0, by omega, fun _ => by omega, fun _ => by omega, fun _ _ => ⟨hc, ht⟩, fun _ => by omega, fun _ => by omega, fun _ => h2, fun _ => by omega⟩
            · split at h2
              · simp only [Bool.and_eq_true, Bool.or_eq_true, beq_iff_eq, Bool.not_eq_true'] at h2
                exact ⟨h0, by omega, fun _ => by omega, fun _ => by omega, fun _ _ => ⟨hc, ht⟩, fun _ => by omega, fun _ => by omega, fun _ => by omega, fun _ => h2⟩
              · cases h2
  · rintro ⟨h0, hk, k1, k4, kc, k2, k37, k5, k6⟩
    simp only [Bool.and_eq_true, decide_eq_true_eq]
    refine ⟨h0, ?_⟩
    split
    · rename_i e
      have := k1 e
      simp [this]
    · rename_i e
      split
      · rename_i e4
        have := k4 e4
        simp [this]
      · rename_i e4
        have := kc e e4
        split
        · rename_i e2
          have := k2 e2
          simp [*]
        · split
          · rename_i e2
            have := k37 e2
            simp [*]
          · split
            · rename_i e2
              have := k5 e2
              simp [*]
            · split
              · rename_i e2
                have := k6 e2
                simp [*]
              · omega

/-- The case that a filing opens. -/
def newCase (f : Fl) : Cs := if f.kind = 1 then ⟨true, 1, f.day, f.n, 1, 0, f.til, false, 0, []⟩ else ⟨false, 2, f.day, f.n, 0, 0, f.day + f.n, false, 0, []⟩
/-- The state that a filing about a case requires. -/
def needP (k : Int) : Int := if k = 2 ∨ k = 3 then 1 else if k = 5 then 2 else 3
/-- What an accepted filing makes of its case. -/
def effP (f : Fl) (c : Cs) : Cs :=
  if f.kind = 2 then { c with choice := f.n }
  else if f.kind = 3 then { c with st := 4, due := f.day }
  else if f.kind = 5 then (if f.hold = true then { c with st := 3, due := f.day + 365, level := c.level + 1, hold := true, since := f.day } else { c with st := 3, due := f.day + 365, level := c.level + 1 })
  else if f.kind = 6 then (if f.n = 1 then upholdP c f.day else endHoldP { c with st := 5, due := f.day } f.day)
  else endHoldP { c with st := 4, due := f.day } f.day

def opensP (f : Fl) : Bool := f.kind == 1 || f.kind == 4
/-- The case of a filing, on its day. -/
def ownP (L : List Cs) (f : Fl) : Cs := passP (L.getD (f.case.toNat - 1) (newCase f)) f.day
/-- The error of a well-formed filing on a day that is not too early. -/
def errL (L : List Cs) (f : Fl) : Int :=
  if opensP f = true then (if 100 ≤ L.length then 4 else 0)
  else if (L.length : Int) < f.case then 6
  else if (ownP L f).st ≠ needP f.kind then 401
  else if f.kind = 2 ∧ (ownP L f).days < f.n then 402 else 0
/-- The cases behind a filing that is accepted. -/
def effL (L : List Cs) (f : Fl) : List Cs :=
  if opensP f = true then L ++ [newCase f] else L.set (f.case.toNat - 1) (effP f (ownP L f))

/-- What a docket has led to: how many filings, the cases as of the last accepted filing about each, the day of the last accepted filing. -/
structure Dk where
  num : Nat
  cs : List Cs
  last : Int

def errD (D : Dk) (f : Fl) : Int :=
  if 1000 ≤ D.num then 5 else if wf f = true then (if f.day < D.last then 400 else errL D.cs f) else 2
def stepD (D : Dk) (f : Fl) : Dk := if errD D f = 0 then ⟨D.num + 1, effL D.cs f, f.day⟩ else ⟨D.num + 1, D.cs, D.last⟩
def runD (l : List Fl) : Dk := l.foldl stepD ⟨0, [], -1⟩
def errsFrom (D : Dk) : List Fl → List Int
  | [] => []
  | f :: l => errD D f :: errsFrom (stepD D f) l
def errsD (l : List Fl) : List Int := errsFrom ⟨0, [], -1⟩ l

theorem runD_snoc (l : List Fl) (f : Fl) : runD (l ++ [f]) = stepD (runD l) f := by unfold runD; rw [List.foldl_append]; rfl
theorem errsFrom_snoc (D : Dk) (l : List Fl) (f : Fl) : errsFrom D (l ++ [f]) = errsFrom D l ++ [errD (l.foldl stepD D) f] := by
  induction l generalizing D with
  | nil => rfl
  | cons g l ih => rw [List.cons_append, errsFrom, ih]; rfl
theorem errsD_snoc (l : List Fl) (f : Fl) : errsD (l ++ [f]) = errsD l ++ [errD (runD l) f] := errsFrom_snoc _ l f
theorem errsFrom_length (D : Dk) (l : List Fl) : (errsFrom D l).length = l.length := by
  induction l generalizing D with
  | nil => rfl
  | cons g l ih => rw [errsFrom, List.length_cons, ih]; rfl
theorem errsD_length (l : List Fl) : (errsD l).length = l.length := errsFrom_length _ l
theorem errsFrom_append (D : Dk) (a b : List Fl) : errsFrom D (a ++ b) = errsFrom D a ++ errsFrom (a.foldl stepD D) b := by
  induction a generalizing D with
  | nil => rfl
  | cons g l ih => rw [List.cons_append, errsFrom, ih]; rfl
theorem errsD_get (l : List Fl) (i : Nat) (h : i < l.length) (h2 : i < (errsD l).length) : (errsD l)[i] = errD (runD (l.take i)) l[i] := by
  have e : l = l.take i ++ l[i] :: l.drop (i + 1) := by rw [List.getElem_cons_drop, List.take_append_drop]
  have h3 : errsD l = errsD (l.take i) ++ errD (runD (l.take i)) l[i] :: errsFrom (stepD (runD (l.take i)) l[i]) (l.drop (i + 1)) := by
    conv => lhs; rw [e]
    exact errsFrom_append _ _ _
  simp only [h3]
  rw [List.getElem_append_right (by rw [errsD_length]; simp; omega)]
  simp [errsD_length, Nat.min_eq_left (Nat.le_of_lt h)]

/-- What is true of a docket throughout. -/
structure Dk.Ok (D : Dk) : Prop where
  cs : ∀ c ∈ D.cs, c.Ok
  len : D.cs.length ≤ 100
  last : -1 ≤ D.last ∧ D.last ≤ 65535

theorem newCase_ok {f : Fl} (h : f.Wf) (ho : opensP f = true) : (newCase f).Ok := by
  have h0 := h.day
  unfold newCase
  split
  · rename_i e
    have := h.k1 e
    exact ⟨rfl, by simp, by dsimp only; omega, by simp, by simp, by simp, by dsimp only; omega, by dsimp only; omega, by simp, by simp, by simp, by simp⟩
  · rename_i e
    unfold opensP at ho
    simp at ho
    have := h.k4 (by omega)
    exact ⟨rfl, by simp, by dsimp only; omega, by simp, by simp, by simp, by dsimp only; omega, by simp, by dsimp only; omega, by simp, by simp, by simp⟩

theorem effP_ok {f : Fl} (h : f.Wf) (_ho : opensP f = false) {c : Cs} (hc : c.Ok) (hst : c.st = needP f.kind) : (effP f c).Ok := by
  have h0 := h.day
  have hk := h.kind
  have hl := hc.lev
  have hd := hc.days
  have hdu := hc.due
  have hsn : c.st ≠ 3 → c.hold = false := by
    intro h3; rw [← Bool.not_eq_true]; intro h4; exact h3 (hc.hold h4).1
  unfold opensP at _ho
  simp at _ho
  unfold effP
  split
  · exact ⟨hc.vh, hc.st, hc.days, hc.lev, hc.lev2, hc.lev3, hc.due, hc.due1, hc.due2, hc.due3, hc.hold, hc.len⟩
  · split
    · rename_i _ e
      have h1 : c.hold = false := hsn (by rw [hst, e]; decide)
      refine ⟨hc.vh, by simp, hc.days, hc.lev, by simp, by simp, by dsimp only; omega, by simp, by simp, by simp, by dsimp only; rw [h1]; simp, hc.len⟩
    · split
      · rename_i _ _ e
        have h2 : c.st = 2 := by rw [hst, e]; decide
        have h1 : c.hold = false := hsn (by omega)
        have h3 := hc.lev2 h2
        have h4 := hc.len
        rw [if_neg (by rw [h1]; decide)] at h4
        split
        · refine ⟨hc.vh, by simp, hc.days, by dsimp only; omega, by simp, by intro _; dsimp only; omega, by dsimp only; omega, by simp, by simp, by intro _; dsimp only; omega, by intro _; dsimp only; omega, ?_⟩
          dsimp only
          rw [if_pos rfl, Int.add_sub_cancel]; exact h4
        · refine ⟨hc.vh, by simp, hc.days, by dsimp only; omega, by simp, by intro _; dsimp only; omega, by dsimp only; omega, by simp, by simp, by intro _; dsimp only; omega, by dsimp only; rw [h1]; simp, ?_⟩
          dsimp only
          rw [h1, if_neg (by decide)]
          exact Nat.le_trans h4 (hb_mono (by omega))
      · have h3 : c.st = 3 := by
          rw [hst]; unfold needP
          rw [if_neg (by omega), if_neg (by omega)]
        have key : ∀ x : Int, x = 4 ∨ x = 5 → (endHoldP { c with st := x, due := f.day } f.day).Ok := by
          intro x hx
          have e := endHoldP_level { c with st := x, due := f.day } f.day
          have eh : (endHoldP { c with st := x, due := f.day } f.day).held = (endHoldP c f.day).held := by
            unfold endHoldP heldP; dsimp only; split <;> rfl
          refine ⟨by rw [eh]; exact endHoldP_valid hc _, by rw [e.2.2.2.1]; dsimp only; omega, by rw [e.2.1]; exact hd, by rw [e.1]; exact hl, by rw [e.2.2.2.1]; dsimp only; omega, by rw [e.2.2.2.1]; dsimp only; omega, by rw [e.2.2.2.2.1]; dsimp only; omega,
            by rw [e.2.2.2.1]; dsimp only; omega, by rw [e.2.2.2.1]; dsimp only; omega, by rw [e.2.2.2.1]; dsimp only; omega, by rw [e.2.2.1]; simp, ?_⟩
          rw [e.2.2.1, if_neg (by decide), e.1, eh]
          exact endHoldP_len hc _
        split
        · split
          · exact (upholdP_ok hc _ (by omega)).1
          · exact key 5 (.inr rfl)
        · exact key 4 (.inl rfl)

theorem ownP_ok {D : Dk} (h : D.Ok) {f : Fl} (h1 : 1 ≤ f.case) (h2 : f.case ≤ D.cs.length) : (ownP D.cs f).Ok := by
  unfold ownP
  refine passP_ok (h.cs _ ?_) _
  rw [List.getD_eq_getElem?_getD, List.getElem?_eq_getElem (by omega)]
  exact List.getElem_mem _

/-- What an accepted filing about a case says. -/
theorem errL_own {L : List Cs} {f : Fl} (ho : opensP f = false) (he : errL L f = 0) : f.case ≤ L.length ∧ (ownP L f).st = needP f.kind ∧ (f.kind = 2 → f.n ≤ (ownP L f).days) := by
  unfold errL at he
  rw [if_neg (by rw [ho]; decide)] at he
  split at he
  · omega
  · split at he
    · omega
    · rename_i h1 h2
      refine ⟨by omega, by simpa using h2, fun h3 => ?_⟩
      split at he
      · omega
      · rename_i h4
        omega

theorem stepD_ok {D : Dk} (h : D.Ok) (f : Fl) : (stepD D f).Ok := by
  unfold stepD
  split
  · rename_i he
    unfold errD at he
    split at he
    · omega
    · split at he
      · rename_i hw
        have W := (wf_iff f).1 hw
        have hd := W.day
        split at he
        · omega
        · unfold effL
          cases ho : opensP f with
          | true =>
            unfold errL at he
            rw [if_pos ho] at he
            rw [if_pos rfl]
            refine ⟨fun c hc => ?_, ?_, by dsimp only; omega⟩
            · rcases List.mem_append.1 hc with hc | hc
              · exact h.cs c hc
              · rw [List.mem_singleton.1 hc]; exact newCase_ok W ho
            · dsimp only
              rw [List.length_append, List.length_singleton]
              split at he
              · omega
              · omega
          | false =>
            obtain ⟨h1, h2, h3⟩ := errL_own ho he
            unfold opensP at ho
            have hc := W.kc (by intro e; rw [e] at ho; simp at ho) (by intro e; rw [e] at ho; simp at ho)
            rw [if_neg (by decide)]
            refine ⟨fun c hm => ?_, by dsimp only; rw [List.length_set]; exact h.len, by dsimp only; omega⟩
            rcases List.mem_or_eq_of_mem_set hm with hm | rfl
            · exact h.cs c hm
            · exact effP_ok W ho (ownP_ok h hc.1 h1) h2
      · omega
  · exact ⟨h.cs, h.len, h.last⟩
theorem runD_ok (l : List Fl) : (runD l).Ok := by
  unfold runD
  suffices ∀ D : Dk, D.Ok → (l.foldl stepD D).Ok from this _ ⟨by simp, by simp, by decide⟩
  induction l with
  | nil => intro D h; exact h
  | cons f l ih => intro D h; exact ih _ (stepD_ok h f)
theorem runD_num (l : List Fl) : (runD l).num = l.length := by
  unfold runD
  suffices ∀ D : Dk, (l.foldl stepD D).num = D.num + l.length by simpa using this ⟨0, [], -1⟩
  induction l with
  | nil => intro D; rfl
  | cons f l ih => intro D; rw [List.foldl_cons, ih]; simp only [List.length_cons]; unfold stepD; split <;> dsimp only <;> omega

/-- A case on a day, as At returns it. -/
def atP (c : Cs) (d : Int) : Cs := { passP c d with held := heldP (passP c d) (d + 1) }
/-- The error of At. -/
def atErr (l : List Fl) (d : Int) : Int := if 0 ≤ d ∧ d ≤ 65535 then (if d < (runD l).last then 400 else 0) else 2
def atD (l : List Fl) (d : Int) : List Cs := if atErr l d = 0 then (runD l).cs.map fun c => atP c d else []
/-- The answer of Held. -/
def heldD (l : List Fl) (n d : Int) : Bool :=
  let x := max d (runD l).last
  (decide (0 ≤ x) && decide (x ≤ 65535)) && (decide (1 ≤ n) && decide (n ≤ (runD l).cs.length)) && mem (atP ((runD l).cs.getD (n.toNat - 1) ⟨false, 4, 0, 0, 0, 0, 0, false, 0, []⟩) x).held d
/-- The day on which a case settles. -/
def setlP (c : Cs) : Cs := passP c 100000
end Sp
