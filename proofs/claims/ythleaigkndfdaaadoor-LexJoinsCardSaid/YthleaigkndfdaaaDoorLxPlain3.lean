/- Lexing a list of bytes: two sources joined, trailing remarks, joined tokens, errors. -/
import Derived.Test.YthleaigkndfdaaaDoorLxPlain2
namespace Lx
variable (gd : Bs → Bool)

def okE (l : List Ev) : Bool := l.all fun x => decide (x.1.1 = 0)
def erOf (l : List Ev) : Option Ev := l.find? fun x => decide (x.1.1 ≠ 0)
def kt (l : List Ev) : List Tk := l.map (·.1)

theorem okE_append (a b : List Ev) : okE (a ++ b) = (okE a && okE b) := by unfold okE; rw [List.all_append]
theorem okE_endOf (op : Option Nat) : okE (endOf op) = true := by cases op <;> rfl
theorem erOf_append_ok (a b : List Ev) (h : okE a = true) : erOf (a ++ b) = erOf b := by
  unfold erOf okE at *
  rw [List.find?_append]
  have : a.find? (fun x => decide (x.1.1 ≠ 0)) = none := by
    rw [List.find?_eq_none]
    intro x hx
    have := (List.all_eq_true.1 h) x hx
    simp only [decide_eq_true_eq] at this
    simp [this]
  rw [this]; rfl
theorem erOf_none {l : List Ev} : erOf l = none ↔ okE l = true := by
  unfold erOf okE
  rw [List.find?_eq_none, List.all_eq_true]
  simp

/-- The ways on from a byte. -/
theorem ev_cases (c : UInt8) (_ : Bs) : c = 10 ∨ (c = 32 ∨ c = 9) ∨ c = 35 ∨ tb c := by
  by_cases h1 : c = 10
  · exact .inl h1
  · by_cases h2 : c = 32
    · exact .inr (.inl (.inl h2))
    · by_cases h3 : c = 9
      · exact .inr (.inl (.inr h3))
      · by_cases h4 : c = 35
        · exact .inr (.inr (.inl h4))
        · exact .inr (.inr (.inr ⟨h1, h2, h3, h4⟩))

theorem rem_len (r : Bs) : 1 ≤ ((35 :: r).takeWhile (· != 10)).length ∧ ((35 :: r).takeWhile (· != 10)).length ≤ (35 :: r).length := by
  refine ⟨?_, (takeWhile_pre _ _).length_le⟩
  rw [List.takeWhile_cons_of_pos (by decide)]; simp

theorem tok_cases (c : UInt8) (r : Bs) : (∃ k t, tokv gd (c :: r) = (0, k, t)) ∨ (tokv gd (c :: r)).1 ≠ 0 := by
  by_cases h : (tokv gd (c :: r)).1 = 0
  · left; exact ⟨(tokv gd (c :: r)).2.1, (tokv gd (c :: r)).2.2, by rw [← h]⟩
  · exact .inr h

theorem ev_glue (b : Bs) : ∀ (n : Nat) (a : Bs), a.length ≤ n → ∀ (i : Nat) (op : Option Nat),
    ev gd (a ++ 10 :: b) 0 i op = if okE (ev gd a 0 i op) = true then ev gd a 0 i op ++ ev gd b 0 (i + a.length + 1) none else ev gd a 0 i op := by
  intro n
  induction n with
  | zero =>
    intro a ha i op
    obtain rfl : a = [] := List.eq_nil_of_length_eq_zero (by omega)
    rw [List.nil_append, ev_line, ev_nil, okE_endOf, if_pos rfl]; rfl
  | succ n ih =>
    intro a ha i op
    cases a with
    | nil => rw [List.nil_append, ev_line, ev_nil, okE_endOf, if_pos rfl]; rfl
    | cons c r =>
      rw [List.length_cons] at ha
      have hx : StopB (10 :: b) := StopB.cons (.inl rfl) b
      rcases ev_cases c r with rfl | hc | rfl | hc
      · rw [List.cons_append, ev_line, ev_line, ih r (by omega), okE_append, okE_endOf, Bool.true_and, List.length_cons, show i + 1 + r.length + 1 = i + (r.length + 1) + 1 by omega]
        split
        · rw [List.append_assoc]
        · rfl
      · rw [List.cons_append, ev_blank gd hc, ev_blank gd hc, ih r (by omega), List.length_cons, show i + 1 + r.length + 1 = i + (r.length + 1) + 1 by omega]
      · have hl := rem_len r
        rw [List.cons_append, ev_remark, ← List.cons_append, tw_stop _ _ _ (fun c h => by simp at h; subst h; decide), List.drop_append_of_le_length hl.2,
          ih _ (by rw [List.length_drop, List.length_cons]; omega), ev_remark, List.length_drop, show i + ((35 :: r).takeWhile (· != 10)).length + ((35 :: r).length - ((35 :: r).takeWhile (· != 10)).length) + 1 = i + (35 :: r).length + 1 by omega]
      · have hs : tokv gd (c :: (r ++ 10 :: b)) = _ := tokv_stop gd (c :: r) (10 :: b) (by simp) hx
        rcases tok_cases gd c r with ⟨k, t, ht⟩ | he
        · have htx := tok_text gd ht
          have hle := htx.1.length_le
          rw [ht] at hs
          rw [List.cons_append, ev_tok gd hc hs, ev_tok gd hc ht, ← List.cons_append, List.drop_append_of_le_length hle, ih _ (by rw [List.length_drop, List.length_cons]; omega), List.length_drop,
            show i + t.length + ((c :: r).length - t.length) + 1 = i + (c :: r).length + 1 by omega]
          have : ∀ X : List Ev, okE (((0, k, t), i) :: X) = okE X := fun X => by unfold okE; simp
          rw [this]
          split <;> rfl
        · rw [List.cons_append, ev_err gd hc (by rw [hs]; exact he), ev_err gd hc he, hs, if_neg]
          unfold okE; simpa using he

theorem ev_glued (a b : Bs) (i : Nat) (op : Option Nat) :
    ev gd (a ++ 10 :: b) 0 i op = if okE (ev gd a 0 i op) = true then ev gd a 0 i op ++ ev gd b 0 (i + a.length + 1) none else ev gd a 0 i op :=
  ev_glue gd b a.length a (Nat.le_refl _) i op

/-- Behind the last token: blanks and a remark. -/
structure Trail (x : Bs) : Prop where
  stop : StopB x
  none : ∀ c ∈ x, c ≠ 10
  ev : ∀ i op, ev gd x 0 i op = endOf op

theorem trail_rem (rem : Bs) (h : ∀ c ∈ rem, c ≠ 10) : Trail gd (35 :: rem) := by
  refine ⟨StopB.cons (.inr (.inr (.inr rfl))) _, fun c hc => ?_, fun i op => ?_⟩
  · simp at hc; rcases hc with rfl | hc
    · decide
    · exact h c hc
  · have : (35 :: rem).takeWhile (· != 10) = 35 :: rem := by
      have := takeWhile_is (· != 10) (35 :: rem) [] (fun c hc => by
        simp at hc; rcases hc with rfl | hc
        · decide
        · simpa using h c hc) (fun c hc => by simp at hc)
      rwa [List.append_nil] at this
    rw [ev_remark, this, List.drop_of_length_le (Nat.le_refl _), ev_nil]
theorem trail_blank {c : UInt8} (hc : c = 32 ∨ c = 9) {x : Bs} (h : Trail gd x) : Trail gd (c :: x) := by
  refine ⟨StopB.cons (.inr (by rcases hc with h | h <;> simp [h])) _, fun c' h' => ?_, fun i op => by rw [ev_blank gd hc, h.ev]⟩
  simp at h'; rcases h' with rfl | h'
  · rcases hc with rfl | rfl <;> decide
  · exact h.none c' h'

theorem ev_trail {x : Bs} (hx : Trail gd x) : ∀ (n : Nat) (a : Bs), a.length ≤ n → ∀ (i : Nat) (op : Option Nat), ev gd (a ++ x) 0 i op = ev gd a 0 i op := by
  intro n
  induction n with
  | zero =>
    intro a ha i op
    obtain rfl : a = [] := List.eq_nil_of_length_eq_zero (by omega)
    rw [List.nil_append, hx.ev, ev_nil]
  | succ n ih =>
    intro a ha i op
    cases a with
    | nil => rw [List.nil_append, hx.ev, ev_nil]
    | cons c r =>
      rw [List.length_cons] at ha
      rcases ev_cases c r with rfl | hc | rfl | hc
      · rw [List.cons_append, ev_line, ev_line, ih r (by omega)]
      · rw [List.cons_append, ev_blank gd hc, ev_blank gd hc, ih r (by omega)]
      · have hl := rem_len r
        rw [List.cons_append, ev_remark, ev_remark, ← List.cons_append]
        by_cases hall : ∀ c ∈ (35 :: r), (c != 10) = true
        · have e1 : (35 :: r ++ x).takeWhile (· != 10) = 35 :: r ++ x := by
            have := takeWhile_is (· != 10) (35 :: r ++ x) [] (fun c hc => by
              rw [List.mem_append] at hc
              rcases hc with hc | hc
              · exact hall c hc
              · simpa using hx.none c hc) (fun c hc => by simp at hc)
            rwa [List.append_nil] at this
          have e2 : (35 :: r).takeWhile (· != 10) = 35 :: r := by
            have := takeWhile_is (· != 10) (35 :: r) [] hall (fun c hc => by simp at hc)
            rwa [List.append_nil] at this
          rw [e1, e2, List.drop_of_length_le (Nat.le_refl _), List.drop_of_length_le (Nat.le_refl _), ev_nil, ev_nil]
        · have e1 : (35 :: r ++ x).takeWhile (· != 10) = (35 :: r).takeWhile (· != 10) := by
            clear ih hl ha
            generalize (35 :: r) = q at hall ⊢
            induction q with
            | nil => exact absurd (by simp) hall
            | cons a q ih =>
              rw [List.cons_append]
              by_cases h : (a != 10) = true
              · rw [List.takeWhile_cons_of_pos (p := fun x : UInt8 => x != 10) h, List.takeWhile_cons_of_pos (p := fun x : UInt8 => x != 10) h, ih (fun hq => hall (fun c hc => by simp at hc; rcases hc with rfl | hc; exact h; exact hq c hc))]
              · rw [List.takeWhile_cons_of_neg (p := fun x : UInt8 => x != 10) h, List.takeWhile_cons_of_neg (p := fun x : UInt8 => x != 10) h]
          rw [e1, List.drop_append_of_le_length hl.2, ih _ (by rw [List.length_drop, List.length_cons]; omega)]
      · have hs : tokv gd (c :: (r ++ x)) = _ := tokv_stop gd (c :: r) x (by simp) hx.stop
        rcases tok_cases gd c r with ⟨k, t, ht⟩ | he
        · have htx := tok_text gd ht
          have hle := htx.1.length_le
          rw [ht] at hs
          rw [List.cons_append, ev_tok gd hc hs, ev_tok gd hc ht, ← List.cons_append, List.drop_append_of_le_length hle, ih _ (by rw [List.length_drop, List.length_cons]; omega)]
        · rw [List.cons_append, ev_err gd hc (by rw [hs]; exact he), ev_err gd hc he, hs]

def shE (d : Nat) (x : Ev) : Ev := (x.1, x.2 + d)
theorem endOf_sh (d : Nat) (op : Option Nat) : endOf (op.map (· + d)) = (endOf op).map (shE d) := by cases op <;> rfl
/-- The offsets count from where one begins. -/
theorem ev_add (d : Nat) (r : Bs) : ∀ (k i : Nat) (op : Option Nat), ev gd r k (i + d) (op.map (· + d)) = (ev gd r k i op).map (shE d) := by
  induction r with
  | nil => intro k i op; rw [ev_nil, ev_nil, endOf_sh]
  | cons c r ih =>
    intro k i op
    cases k with
    | succ k =>
      conv => lhs; unfold ev
      conv => rhs; unfold ev
      rw [show i + d + 1 = i + 1 + d by omega, ih]
    | zero =>
      conv => lhs; unfold ev
      conv => rhs; unfold ev
      rw [show i + d + 1 = i + 1 + d by omega]
      split
      · have := ih 0 (i + 1) none
        rw [Option.map_none] at this
        rw [this, endOf_sh, List.map_append]
      · split
        · rw [ih]
        · split
          · rw [ih]
          · split
            · have := ih ((tokc gd c (c :: r)).2.2.length - 1) (i + 1) (some (i + (tokc gd c (c :: r)).2.2.length))
              rw [Option.map_some] at this
              rw [show i + d + (tokc gd c (c :: r)).2.2.length = i + (tokc gd c (c :: r)).2.2.length + d by omega, this]
              rfl
            · rfl
theorem ev_from (r : Bs) (i : Nat) : ev gd r 0 i none = (ev gd r 0 0 none).map (shE i) := by
  have := ev_add gd i r 0 0 none
  rwa [Option.map_none, Nat.zero_add] at this
theorem kt_sh (d : Nat) (l : List Ev) : kt (l.map (shE d)) = kt l := by unfold kt; rw [List.map_map]; rfl
theorem okE_sh (d : Nat) (l : List Ev) : okE (l.map (shE d)) = okE l := by unfold okE; rw [List.all_map]; rfl
theorem okE_kt (l : List Ev) : okE l = (kt l).all fun x => decide (x.1 = 0) := by unfold okE kt; rw [List.all_map]; rfl
theorem erOf_sh (d : Nat) (l : List Ev) : erOf (l.map (shE d)) = (erOf l).map (shE d) := by unfold erOf; rw [List.find?_map]; rfl
theorem erOf_kt (l : List Ev) : (erOf l).map (·.1) = (kt l).find? fun x => decide (x.1 ≠ 0) := by unfold erOf kt; rw [List.find?_map]; rfl

/-- A source with a remark and an empty line put ahead of each newline. -/
def ins (rem : Bs) (s : Bs) : Bs := s.flatMap fun c => if c = 10 then (32 :: 9 :: 35 :: rem) ++ 10 :: 32 :: 10 :: [10] else [c]
theorem ins_nil (rem : Bs) : ins rem [] = [] := rfl
theorem ins_cons (rem : Bs) (c : UInt8) (s : Bs) : ins rem (c :: s) = (if c = 10 then (32 :: 9 :: 35 :: rem) ++ 10 :: 32 :: 10 :: [10] else [c]) ++ ins rem s := rfl
theorem ins_line (rem : Bs) (a s : Bs) (h : ∀ c ∈ a, c ≠ 10) : ins rem (a ++ s) = a ++ ins rem s := by
  induction a with
  | nil => rfl
  | cons c a ih => rw [List.cons_append, ins_cons, if_neg (h c (by simp)), ih (fun c hc => h c (by simp [hc]))]; rfl

theorem split_line (s : Bs) : (∀ c ∈ s, c ≠ 10) ∨ ∃ a b, s = a ++ 10 :: b ∧ ∀ c ∈ a, c ≠ 10 := by
  induction s with
  | nil => left; simp
  | cons c s ih =>
    by_cases h : c = 10
    · subst h; exact .inr ⟨[], s, rfl, by simp⟩
    · rcases ih with ih | ⟨a, b, rfl, ih⟩
      · left; intro c' hc'; simp at hc'; rcases hc' with rfl | hc'; exact h; exact ih c' hc'
      · refine .inr ⟨c :: a, b, rfl, ?_⟩
        intro c' hc'; simp at hc'; rcases hc' with rfl | hc'; exact h; exact ih c' hc'

theorem remarks (rem : Bs) (hr : ∀ c ∈ rem, c ≠ 10) : ∀ (n : Nat) (s : Bs), s.length ≤ n → ∀ i j, kt (ev gd (ins rem s ++ (9 :: 35 :: rem)) 0 i none) = kt (ev gd s 0 j none) := by
  have tr := trail_rem gd rem hr
  have tr1 := trail_blank gd (.inr rfl) tr
  have tr2 := trail_blank gd (.inl rfl) tr1
  intro n
  induction n with
  | zero =>
    intro s hs i j
    obtain rfl : s = [] := List.eq_nil_of_length_eq_zero (by omega)
    rw [ins_nil, List.nil_append, tr1.ev, ev_nil]
  | succ n ih =>
    intro s hs i j
    rcases split_line s with h | ⟨a, b, rfl, h⟩
    · have : ins rem s = s := by
        have := ins_line rem s [] h
        rwa [List.append_nil, ins_nil, List.append_nil] at this
      rw [this, ev_trail gd tr1 _ s (Nat.le_refl _), ev_from gd s i, ev_from gd s j, kt_sh, kt_sh]
    · rw [ins_line rem a _ h, ins_cons, if_pos rfl]
      have e : a ++ ((32 :: 9 :: 35 :: rem) ++ 10 :: 32 :: 10 :: [10] ++ ins rem b) ++ (9 :: 35 :: rem) = (a ++ (32 :: 9 :: 35 :: rem)) ++ 10 :: (32 :: 10 :: 10 :: (ins rem b ++ (9 :: 35 :: rem))) := by simp
      rw [e, ev_glued, ev_glued, ev_trail gd tr2 _ a (Nat.le_refl _), ev_blank gd (.inl rfl), ev_line, ev_line]
      rw [List.length_append, List.length_cons] at hs
      have ih' := ih b (by omega) (i + (a ++ (32 :: 9 :: 35 :: rem)).length + 1 + 1 + 1 + 1) (j + a.length + 1)
      have e0 : kt (ev gd a 0 i none) = kt (ev gd a 0 j none) := by rw [ev_from gd a i, ev_from gd a j, kt_sh, kt_sh]
      have ho : okE (ev gd a 0 i none) = okE (ev gd a 0 j none) := by rw [okE_kt, okE_kt, e0]
      rw [ho]
      split
      · unfold kt at *
        rw [List.map_append, List.map_append, List.map_append, List.map_append, e0, ih']
        rfl
      · exact e0

/-- Tokens written one after the other. -/
def joinF : Bool → List Tk → Bs
  | _, [] => []
  | op, w :: ws => if w.2.1 = 5 then 10 :: joinF false ws else (if op then [32] else []) ++ (w.2.2 ++ joinF true ws)

def WF : Bool → List Tk → Prop
  | op, [] => op = false
  | op, w :: ws => (w = (0, 5, []) ∧ op = true ∧ WF false ws) ∨ (w.2.1 ≠ 5 ∧ (∃ r, tokv gd r = (0, w.2)) ∧ w.1 = 0 ∧ WF true ws)

theorem ev_wf : ∀ (n : Nat) (r : Bs), r.length ≤ n → ∀ (i : Nat) (op : Option Nat), okE (ev gd r 0 i op) = true → WF gd op.isSome (kt (ev gd r 0 i op)) := by
  intro n
  have h0 : ∀ op : Option Nat, WF gd op.isSome (kt (endOf op)) := fun op => by
    cases op with
    | none => rfl
    | some j => exact .inl ⟨rfl, rfl, rfl⟩
  induction n with
  | zero =>
    intro a ha i op _
    obtain rfl : a = [] := List.eq_nil_of_length_eq_zero (by omega)
    rw [ev_nil]; exact h0 op
  | succ n ih =>
    intro a ha i op hok
    cases a with
    | nil => rw [ev_nil]; exact h0 op
    | cons c r =>
      rw [List.length_cons] at ha
      rcases ev_cases c r with rfl | hc | rfl | hc
      · rw [ev_line] at hok ⊢
        rw [okE_append, okE_endOf, Bool.true_and] at hok
        have := ih r (by omega) (i + 1) none hok
        cases op with
        | none => exact this
        | some j => exact .inl ⟨rfl, rfl, this⟩
      · rw [ev_blank gd hc] at hok ⊢
        exact ih r (by omega) _ _ hok
      · have hl := rem_len r
        rw [ev_remark] at hok ⊢
        exact ih _ (by rw [List.length_drop, List.length_cons]; omega) _ _ hok
      · rcases tok_cases gd c r with ⟨k, t, ht⟩ | he
        · have htx := tok_text gd ht
          have hle := htx.1.length_le
          rw [ev_tok gd hc ht] at hok ⊢
          have hok' : okE (ev gd ((c :: r).drop t.length) 0 (i + t.length) (some (i + t.length))) = true := by
            unfold okE at hok ⊢; rw [List.all_cons] at hok; simpa using hok
          have := ih _ (by rw [List.length_drop, List.length_cons]; omega) _ _ hok'
          exact .inr ⟨by show k ≠ 5; omega, ⟨c :: r, ht⟩, rfl, this⟩
        · rw [ev_err gd hc he] at hok
          unfold okE at hok; simp at hok; exact absurd hok he

theorem joinF_stop (ws : List Tk) : StopB (joinF true ws) := by
  cases ws with
  | nil => exact StopB.nil
  | cons w ws =>
    unfold joinF
    split
    · exact StopB.cons (.inl rfl) _
    · exact StopB.cons (.inr (.inl rfl)) _

theorem ev_join (ws : List Tk) : ∀ (i : Nat) (op : Option Nat), WF gd op.isSome ws → kt (ev gd (joinF op.isSome ws) 0 i op) = ws := by
  induction ws with
  | nil =>
    intro i op h
    cases op with
    | none => show kt (ev gd [] 0 i none) = []; rw [ev_nil]; rfl
    | some j => cases h
  | cons w ws ih =>
    intro i op h
    rcases h with ⟨rfl, ho, h⟩ | ⟨h5, ⟨r, hr⟩, h0, h⟩
    · obtain ⟨j, rfl⟩ : ∃ j, op = some j := by cases op with | none => cases ho | some j => exact ⟨j, rfl⟩
      show kt (ev gd (10 :: joinF false ws) 0 i (some j)) = _
      rw [ev_line]
      have : kt (ev gd (joinF false ws) 0 (i + 1) none) = ws := ih (i + 1) none h
      unfold kt at *
      rw [List.map_append, this]; rfl
    · obtain ⟨w1, k, t⟩ := w
      obtain rfl : w1 = 0 := h0
      have htx := tok_text gd hr
      have hself := tokv_self gd hr (joinF true ws) (joinF_stop ws)
      have key : ∀ i op, kt (ev gd (t ++ joinF true ws) 0 i op) = (0, k, t) :: ws := fun i op => by
        obtain ⟨c, t', rfl⟩ : ∃ c t', t = c :: t' := by cases t with | nil => simp at htx | cons c t' => exact ⟨c, t', rfl⟩
        rw [List.cons_append] at hself ⊢
        rw [ev_tok gd (htx.2.2.1 c (by simp)) hself, ← List.cons_append, List.drop_left' rfl]
        have := ih (i + (c :: t').length) (some (i + (c :: t').length)) h
        unfold kt at *
        rw [List.map_cons]
        show _ :: List.map _ (ev gd (joinF (some (i + (c :: t').length)).isSome ws) 0 _ _) = _
        rw [this]
      show kt (ev gd (if (k = 5) then 10 :: joinF false ws else (if op.isSome then [32] else []) ++ (t ++ joinF true ws)) 0 i op) = _
      rw [if_neg h5]
      cases op with
      | none => exact key _ _
      | some j =>
        show kt (ev gd (32 :: (t ++ joinF true ws)) 0 i (some j)) = _
        rw [ev_blank gd (.inl rfl)]
        exact key _ _

/-- How long what is joined can be. -/
def cost (ws : List Tk) : Nat := (ws.map fun w => w.2.2.length + 1).sum
theorem joinF_len (ws : List Tk) : ∀ op, (joinF op ws).length ≤ cost ws := by
  induction ws with
  | nil => intro op; show 0 ≤ _; omega
  | cons w ws ih =>
    intro op
    unfold joinF cost
    rw [List.map_cons, List.sum_cons]
    have h1 := ih false
    have h2 := ih true
    unfold cost at h1 h2
    split
    · rw [List.length_cons]; omega
    · cases op
      · simp only [Bool.false_eq_true, if_false, List.nil_append, List.length_append]; omega
      · simp only [if_true, List.length_append, List.length_cons, List.length_nil]; omega
theorem ev_cost : ∀ (n : Nat) (r : Bs), r.length ≤ n → ∀ (i : Nat) (op : Option Nat), cost (kt (ev gd r 0 i op)) ≤ 3 * r.length + 1 ∧ (op = none → cost (kt (ev gd r 0 i op)) ≤ 3 * r.length) := by
  intro n
  have h0 : ∀ op : Option Nat, cost (kt (endOf op)) ≤ 1 ∧ (op = none → cost (kt (endOf op)) ≤ 0) := fun op => by
    cases op with
    | none => exact ⟨by decide, fun _ => by decide⟩
    | some j => exact ⟨by show (0 + 1) + 0 ≤ 1; omega, fun h => by cases h⟩
  induction n with
  | zero =>
    intro a ha i op
    obtain rfl : a = [] := List.eq_nil_of_length_eq_zero (by omega)
    rw [ev_nil]; exact ⟨(h0 op).1, fun h => (h0 op).2 h⟩
  | succ n ih =>
    intro a ha i op
    cases a with
    | nil => rw [ev_nil]; exact ⟨(h0 op).1, fun h => (h0 op).2 h⟩
    | cons c r =>
      rw [List.length_cons] at ha ⊢
      rcases ev_cases c r with rfl | hc | rfl | hc
      · rw [ev_line]
        have h1 := (ih r (by omega) (i + 1) none).2 rfl
        have h2 := h0 op
        have e : cost (kt (endOf op ++ ev gd r 0 (i + 1) none)) = cost (kt (endOf op)) + cost (kt (ev gd r 0 (i + 1) none)) := by unfold cost kt; rw [List.map_append, List.map_append, List.sum_append]
        rw [e]
        omega
      · rw [ev_blank gd hc]
        have h1 := ih r (by omega) (i + 1) op
        exact ⟨by omega, fun h => by have := h1.2 h; omega⟩
      · have hl := rem_len r
        rw [ev_remark]
        rw [List.length_cons] at hl
        have h1 := ih ((35 :: r).drop ((35 :: r).takeWhile (· != 10)).length) (by rw [List.length_drop, List.length_cons]; omega) (i + ((35 :: r).takeWhile (· != 10)).length) op
        rw [List.length_drop, List.length_cons] at h1
        exact ⟨by omega, fun h => by have := h1.2 h; omega⟩
      · rcases tok_cases gd c r with ⟨k, t, ht⟩ | he
        · have htx := tok_text gd ht
          have hle := htx.1.length_le
          rw [ev_tok gd hc ht]
          have h1 := (ih ((c :: r).drop t.length) (by rw [List.length_drop, List.length_cons]; omega) (i + t.length) (some (i + t.length))).1
          rw [List.length_drop] at h1
          rw [List.length_cons] at h1 hle
          have e : cost (kt (((0, k, t), i) :: ev gd ((c :: r).drop t.length) 0 (i + t.length) (some (i + t.length)))) = t.length + 1 + cost (kt (ev gd ((c :: r).drop t.length) 0 (i + t.length) (some (i + t.length)))) := by
            unfold cost kt; rw [List.map_cons, List.map_cons, List.sum_cons]
          rw [e]
          exact ⟨by omega, fun _ => by omega⟩
        · rw [ev_err gd hc he]
          have : (tokv gd (c :: r)).2.2 = [] := by
            have hm : ∀ k p, (mk k p).1 ≠ 0 → (mk k p).2.2 = [] := fun k p h => by
              unfold mk at h ⊢; split at h
              · exact absurd rfl h
              · rename_i h'; rw [if_neg h']
            change (tokc gd c (c :: r)).1 ≠ 0 at he
            show (tokc gd c (c :: r)).2.2 = []
            unfold tokc at he ⊢
            split
            · rename_i h'; rw [if_pos h'] at he; exact hm _ _ he
            · rename_i h'; rw [if_neg h'] at he
              split
              · rename_i h''; rw [if_pos h''] at he
                split
                · rename_i h3; rw [if_pos h3] at he; exact hm _ _ he
                · rename_i h3; rw [if_neg h3] at he; exact hm _ _ he
              · rename_i h''; rw [if_neg h''] at he
                split
                · rename_i h3; rw [if_pos h3] at he; exact absurd rfl he
                · rfl
          unfold cost kt
          simp only [List.map_cons, List.map_nil, List.sum_cons, List.sum_nil]
          rw [this]
          simp
          omega

theorem cost_length (ws : List Tk) : ws.length ≤ cost ws := by
  induction ws with
  | nil => exact Nat.le_refl _
  | cons w ws ih => unfold cost at *; rw [List.map_cons, List.sum_cons, List.length_cons]; omega
theorem ev_length (r : Bs) (i : Nat) (op : Option Nat) : (ev gd r 0 i op).length ≤ 3 * r.length + 1 := by
  have h1 := (ev_cost gd r.length r (Nat.le_refl _) i op).1
  have h2 := cost_length (kt (ev gd r 0 i op))
  unfold kt at h2; rw [List.length_map] at h2
  unfold kt at h1
  omega

theorem mk_err {k : Nat} {p : Nat × Bs} : (mk k p).1 = p.1 := by unfold mk; split <;> simp_all
theorem tokv_err {c : UInt8} {r : Bs} (h : (tokv gd (c :: r)).1 ≠ 0) : 110 ≤ (tokv gd (c :: r)).1 ∧ (tokv gd (c :: r)).1 ≤ 113 := by
  change (tokc gd c (c :: r)).1 ≠ 0 at h
  show 110 ≤ (tokc gd c (c :: r)).1 ∧ (tokc gd c (c :: r)).1 ≤ 113
  unfold tokc at h ⊢
  split
  · rename_i h'; rw [if_pos h', mk_err] at h; rw [mk_err]; unfold wordv at *; split <;> simp_all
  · rename_i h'; rw [if_neg h'] at h
    split
    · rename_i h''; rw [if_pos h''] at h
      split
      · rename_i h3; rw [if_pos h3, mk_err] at h; rw [mk_err]; unfold datev at *; split
        · simp
        · split <;> simp_all
      · rename_i h3; rw [if_neg h3, mk_err] at h; rw [mk_err]; unfold numv at *; split <;> simp_all
    · rename_i h''; rw [if_neg h''] at h
      split
      · rename_i h3; rw [if_pos h3] at h; exact absurd rfl h
      · decide

/-- The first error: nothing is wrong ahead of it, and the rest begins with it. -/
theorem ev_errs : ∀ (n : Nat) (r : Bs), r.length ≤ n → ∀ (i : Nat) (op : Option Nat) (x : Ev), erOf (ev gd r 0 i op) = some x →
    ∃ m, x.2 = i + m ∧ m < r.length ∧ okE (ev gd (r.take m) 0 i op) = true ∧ (∀ j op', ev gd (r.drop m) 0 j op' = [(x.1, j)]) ∧ 110 ≤ x.1.1 ∧ x.1.1 ≤ 113 := by
  intro n
  have h0 : ∀ (op : Option Nat) x, erOf (endOf op) = some x → False := fun op x h => by
    have := erOf_none.2 (okE_endOf op); rw [this] at h; cases h
  induction n with
  | zero =>
    intro a ha i op x h
    obtain rfl : a = [] := List.eq_nil_of_length_eq_zero (by omega)
    rw [ev_nil] at h; exact (h0 op x h).elim
  | succ n ih =>
    intro a ha i op x h
    cases a with
    | nil => rw [ev_nil] at h; exact (h0 op x h).elim
    | cons c r =>
      rw [List.length_cons] at ha ⊢
      rcases ev_cases c r with rfl | hc | rfl | hc
      · rw [ev_line, erOf_append_ok _ _ (okE_endOf op)] at h
        obtain ⟨m, h1, h2, h3, h4, h5⟩ := ih r (by omega) _ _ x h
        exact ⟨m + 1, by omega, by omega, by rw [List.take_succ_cons, ev_line, okE_append, okE_endOf, h3]; rfl, fun j op' => by rw [List.drop_succ_cons]; exact h4 j op', h5⟩
      · rw [ev_blank gd hc] at h
        obtain ⟨m, h1, h2, h3, h4, h5⟩ := ih r (by omega) _ _ x h
        exact ⟨m + 1, by omega, by omega, by rw [List.take_succ_cons, ev_blank gd hc, h3], fun j op' => by rw [List.drop_succ_cons]; exact h4 j op', h5⟩
      · have hl := rem_len r
        rw [ev_remark] at h
        obtain ⟨m, h1, h2, h3, h4, h5⟩ := ih _ (by rw [List.length_drop, List.length_cons]; omega) _ _ x h
        rw [List.length_drop] at h2
        refine ⟨((35 :: r).takeWhile (· != 10)).length + m, by omega, by rw [List.length_cons] at h2; omega, ?_, fun j op' => ?_, h5⟩
        · have e1 : (35 :: r).take (((35 :: r).takeWhile (· != 10)).length + m) = (35 :: r).takeWhile (· != 10) ++ ((35 :: r).drop ((35 :: r).takeWhile (· != 10)).length).take m := by rw [List.take_add, takeWhile_drop]
          have e2 : ((35 :: r).takeWhile (· != 10) ++ ((35 :: r).drop ((35 :: r).takeWhile (· != 10)).length).take m).takeWhile (· != 10) = (35 :: r).takeWhile (· != 10) := by
            refine takeWhile_is _ _ _ (takeWhile_all _ _) (fun c hc => ?_)
            refine takeWhile_next (· != 10) (35 :: r) c ?_
            have := head_prefix (List.take_prefix m _) c hc
            rw [List.head?_drop] at this; exact this
          obtain ⟨q, hq⟩ : ∃ q, (35 :: r).takeWhile (· != 10) = 35 :: q := ⟨_, List.takeWhile_cons_of_pos (by decide)⟩
          rw [e1]
          have e3 : ev gd ((35 :: r).takeWhile (· != 10) ++ ((35 :: r).drop ((35 :: r).takeWhile (· != 10)).length).take m) 0 i op = ev gd (((35 :: r).drop ((35 :: r).takeWhile (· != 10)).length).take m) 0 (i + ((35 :: r).takeWhile (· != 10)).length) op := by
            have e4 := ev_remark gd (q ++ ((35 :: r).drop ((35 :: r).takeWhile (· != 10)).length).take m) i op
            rw [← List.cons_append, ← hq, e2, List.drop_left' rfl] at e4
            exact e4
          rw [e3]; exact h3
        · rw [← List.drop_drop]; exact h4 j op'
      · rcases tok_cases gd c r with ⟨k, t, ht⟩ | he
        · have htx := tok_text gd ht
          obtain ⟨y, hy⟩ := htx.1
          have hle := htx.1.length_le
          rw [ev_tok gd hc ht] at h
          have h' : erOf (ev gd ((c :: r).drop t.length) 0 (i + t.length) (some (i + t.length))) = some x := by
            have : erOf (((0, k, t), i) :: ev gd ((c :: r).drop t.length) 0 (i + t.length) (some (i + t.length))) = erOf (ev gd ((c :: r).drop t.length) 0 (i + t.length) (some (i + t.length))) :=
              erOf_append_ok [((0, k, t), i)] _ rfl
            rw [← this]; exact h
          obtain ⟨m, h1, h2, h3, h4, h5⟩ := ih _ (by rw [List.length_drop, List.length_cons]; omega) _ _ x h'
          have ed : (c :: r).drop t.length = y := by rw [← hy, List.drop_left' rfl]
          have hpre := tokv_prefix gd (t := t) (y := y) (y' := y.take m) (by rw [hy]; exact ht) (List.take_prefix m y)
          refine ⟨t.length + m, by omega, by rw [List.length_drop, List.length_cons] at h2; omega, ?_, fun j op' => by rw [← List.drop_drop]; exact h4 j op', h5⟩
          rw [ed] at h3
          have e1 : (c :: r).take (t.length + m) = t ++ y.take m := by rw [List.take_add, ed, ← hy, List.take_left' rfl]
          rw [e1]
          obtain ⟨t', rfl⟩ : ∃ t', t = c :: t' := by
            cases t with
            | nil => simp at htx
            | cons a t => simp at hy; exact ⟨t, by rw [hy.1]⟩
          rw [List.cons_append] at hpre ⊢
          rw [ev_tok gd hc hpre, ← List.cons_append, List.drop_left' rfl]
          have : ∀ X : List Ev, okE (((0, k, c :: t'), i) :: X) = okE X := fun X => by unfold okE; simp
          rw [this]; exact h3
        · rw [ev_err gd hc he] at h
          have hx : x = (tokv gd (c :: r), i) := by
            unfold erOf at h; rw [List.find?_cons_of_pos (by simpa using he)] at h
            exact (Option.some.inj h).symm
          subst hx
          have h5 := tokv_err gd he
          exact ⟨0, rfl, by omega, by rw [List.take_zero, ev_nil]; exact okE_endOf op, fun j op' => ev_err gd hc he j op', h5⟩

/-- Line and column behind some bytes, from a place on. -/
def pstep (p : Nat × Nat) (c : UInt8) : Nat × Nat := if c = 10 then (p.1 + 1, 1) else (p.1, p.2 + 1)
def plF (p : Nat × Nat) (x : Bs) : Nat × Nat := x.foldl pstep p
def pl (s : Bs) (o : Nat) : Nat × Nat := plF (1, 1) (s.take o)
theorem plF_app (p : Nat × Nat) (x y : Bs) : plF p (x ++ y) = plF (plF p x) y := by unfold plF; rw [List.foldl_append]
theorem plF_flat (x : Bs) (h : ∀ c ∈ x, c ≠ 10) : ∀ p : Nat × Nat, plF p x = (p.1, p.2 + x.length) := by
  induction x with
  | nil => intro p; rfl
  | cons c x ih =>
    intro p
    show plF (pstep p c) x = _
    rw [ih (fun c hc => h c (by simp [hc]))]
    unfold pstep; rw [if_neg (h c (by simp)), List.length_cons]
    simp only []
    rw [show p.2 + 1 + x.length = p.2 + (x.length + 1) by omega]
theorem plF_line (p : Nat × Nat) : plF p [10] = (p.1 + 1, 1) := rfl
theorem pl_zero (s : Bs) : pl s 0 = (1, 1) := rfl
theorem pl_succ (s : Bs) (o : Nat) (h : o < s.length) : pl s (o + 1) = pstep (pl s o) s[o] := by
  unfold pl; rw [List.take_succ_eq_append_getElem h, plF_app]; rfl
theorem pl_skip (s : Bs) (o n : Nat) (h : ∀ c ∈ (s.drop o).take n, c ≠ 10) (hn : o + n ≤ s.length) : pl s (o + n) = ((pl s o).1, (pl s o).2 + n) := by
  unfold pl
  rw [List.take_add, plF_app, plF_flat _ h, List.length_take, List.length_drop, Nat.min_eq_left (by omega)]
theorem pl_lt (s : Bs) (o : Nat) : ∀ n, o + n + 1 ≤ s.length → (pl s o).1 < (pl s (o + n + 1)).1 ∨ ((pl s o).1 = (pl s (o + n + 1)).1 ∧ (pl s o).2 < (pl s (o + n + 1)).2) := by
  intro n
  induction n with
  | zero => intro h; rw [Nat.add_zero, pl_succ s o (by omega)]; unfold pstep; split <;> simp
  | succ n ih =>
    intro h
    have := ih (by omega)
    rw [show o + (n + 1) + 1 = o + n + 1 + 1 by omega, pl_succ s (o + n + 1) (by omega)]
    unfold pstep; split <;> simp <;> omega
theorem pl_inj (s : Bs) (o o' : Nat) (h : o ≤ s.length) (h' : o' ≤ s.length) (he : pl s o = pl s o') : o = o' := by
  rcases Nat.lt_trichotomy o o' with c | c | c
  · have := pl_lt s o (o' - o - 1) (by omega)
    rw [show o + (o' - o - 1) + 1 = o' by omega, he] at this
    omega
  · exact c
  · have := pl_lt s o' (o - o' - 1) (by omega)
    rw [show o' + (o - o' - 1) + 1 = o by omega, he] at this
    omega
theorem plF_fst (x : Bs) : ∀ p : Nat × Nat, (plF p x).1 = p.1 + x.count 10 := by
  induction x with
  | nil => intro p; rfl
  | cons c x ih =>
    intro p
    show (plF (pstep p c) x).1 = _
    rw [ih]; unfold pstep
    by_cases h : c = 10
    · subst h; rw [if_pos rfl, List.count_cons_self]; simp only []; omega
    · rw [if_neg h, List.count_cons_of_ne h]
theorem plF_shift (x : Bs) (hx : (10 : UInt8) ∈ x) : ∀ p q : Nat × Nat, (plF p x).2 = (plF q x).2 := by
  induction x with
  | nil => simp at hx
  | cons c x ih =>
    intro p q
    show (plF (pstep p c) x).2 = (plF (pstep q c) x).2
    by_cases h : (10 : UInt8) ∈ x
    · exact ih h _ _
    · have hx' : ∀ c ∈ x, c ≠ 10 := fun c hc e => h (by rw [← e]; exact hc)
      have hc : c = 10 := by simp at hx; rcases hx with hx | hx; exact hx.symm; exact absurd hx h
      rw [plF_flat _ hx', plF_flat _ hx']
      unfold pstep; rw [if_pos hc, if_pos hc]
/-- The place in the second of two sources joined by a newline. -/
theorem pl_glue (a b : Bs) (o : Nat) : pl (a ++ 10 :: b) (a.length + 1 + o) = ((pl b o).1 + (a.count 10 + 1), (pl b o).2) := by
  unfold pl
  have e : (a ++ 10 :: b).take (a.length + 1 + o) = a ++ ([10] ++ b.take o) := by
    rw [List.take_append, List.take_of_length_le (by omega), show a.length + 1 + o - a.length = o + 1 by omega, List.take_succ_cons]; rfl
  rw [e, plF_app, plF_app, plF_line]
  refine Prod.ext ?_ ?_
  · rw [plF_fst, plF_fst, plF_fst]; simp only []; omega
  · by_cases h : (10 : UInt8) ∈ b.take o
    · exact plF_shift _ h _ _
    · have hx' : ∀ c ∈ b.take o, c ≠ 10 := fun c hc e => h (by rw [← e]; exact hc)
      rw [plF_flat _ hx', plF_flat _ hx']
theorem pl_left (a b : Bs) (o : Nat) (ho : o ≤ a.length) : pl (a ++ b) o = pl a o := by unfold pl; rw [List.take_append_of_le_length ho]

end Lx
