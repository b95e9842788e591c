/- Lexing a list of bytes: the plain functions and their first laws. -/
namespace Lx
abbrev Bs := List UInt8

def isLet (c : UInt8) : Bool := (decide (65 ≤ c.toNat) && decide (c.toNat ≤ 90)) || (decide (97 ≤ c.toNat) && decide (c.toNat ≤ 122))
def isDg (c : UInt8) : Bool := decide (48 ≤ c.toNat) && decide (c.toNat ≤ 57)
def inW (c : UInt8) : Bool := isLet c || isDg c || decide (c.toNat = 95)
def sgs : Bs := [40, 41, 44, 43, 45, 42, 47, 60, 61]
def isSg (c : UInt8) : Bool := sgs.contains c

def dchk (i : Nat) (c : UInt8) : Bool := if i = 4 ∨ i = 7 then decide (c.toNat = 45) else isDg c
def dat (r : Bs) (i : Nat) : Bool := match r[i]? with | some c => dchk i c | none => false
def datedB (r : Bs) : Bool := (List.range 10).all (dat r)
def fol (r : Bs) (n : Nat) : Bool := match r[n]? with | some c => inW c | none => false
def padB (d : Bs) : Bool := decide (1 < d.length) && decide (d.head? = some 48)

def wordv (r : Bs) : Nat × Bs := if 24 < (r.takeWhile inW).length then (111, []) else (0, r.takeWhile inW)
def datev (gd : Bs → Bool) (r : Bs) : Nat × Bs := if fol r 10 then (113, []) else if gd (r.take 10) then (0, r.take 10) else (113, [])
def num1 (r : Bs) : Bs := r.takeWhile isDg
def num2 (r : Bs) : Bs := if r[(num1 r).length]? = some 47 then (r.drop ((num1 r).length + 1)).takeWhile isDg else []
def numn (r : Bs) : Nat := if num2 r = [] then (num1 r).length else (num1 r).length + 1 + (num2 r).length
def numbad (r : Bs) : Bool := decide (200 < numn r) || fol r (numn r) || padB (num1 r) || padB (num2 r) || decide (num2 r = [48])
def numv (r : Bs) : Nat × Bs := if numbad r then (112, []) else (0, r.take (numn r))

/-- Error, kind, text. -/
abbrev Tk := Nat × Nat × Bs
def mk (k : Nat) (p : Nat × Bs) : Tk := if p.1 = 0 then (0, k, p.2) else (p.1, 0, [])
def tokc (gd : Bs → Bool) (c : UInt8) (r : Bs) : Tk :=
  if isLet c then mk 1 (wordv r) else if isDg c then (if datedB r then mk 3 (datev gd r) else mk 2 (numv r)) else if isSg c then (0, 4, [c]) else (110, 0, [])
def tokv (gd : Bs → Bool) (r : Bs) : Tk := match r with | [] => (110, 0, []) | c :: r' => tokc gd c (c :: r')

/-- What the scanner yields: a token or an error, and its offset. -/
abbrev Ev := Tk × Nat
def endOf (op : Option Nat) : List Ev := match op with | some j => [((0, 5, []), j)] | none => []

def ev (gd : Bs → Bool) : Bs → Nat → Nat → Option Nat → List Ev
  | [], _, _, op => endOf op
  | _ :: r, k + 1, i, op => ev gd r k (i + 1) op
  | c :: r, 0, i, op =>
    if c = 10 then endOf op ++ ev gd r 0 (i + 1) none
    else if c = 32 ∨ c = 9 then ev gd r 0 (i + 1) op
    else if c = 35 then ev gd r (r.takeWhile (· != 10)).length (i + 1) op
    else if (tokc gd c (c :: r)).1 = 0 then (tokc gd c (c :: r), i) :: ev gd r ((tokc gd c (c :: r)).2.2.length - 1) (i + 1) (some (i + (tokc gd c (c :: r)).2.2.length))
    else [(tokc gd c (c :: r), i)]

variable (gd : Bs → Bool)

theorem ev_nil (k i : Nat) (op : Option Nat) : ev gd [] k i op = endOf op := by unfold ev; rfl
theorem ev_skip (r : Bs) : ∀ (k i : Nat) (op : Option Nat), ev gd r k i op = ev gd (r.drop k) 0 (i + k) op := by
  induction r with
  | nil => intro k i op; rw [List.drop_nil, ev_nil, ev_nil]
  | cons c r ih =>
    intro k i op
    cases k with
    | zero => rfl
    | succ k => rw [List.drop_succ_cons, show i + (k + 1) = i + 1 + k by omega, ← ih]; conv => lhs; unfold ev
theorem ev_line (r : Bs) (i : Nat) (op : Option Nat) : ev gd (10 :: r) 0 i op = endOf op ++ ev gd r 0 (i + 1) none := by
  conv => lhs; unfold ev
  rw [if_pos rfl]
theorem ev_blank {c : UInt8} (hc : c = 32 ∨ c = 9) (r : Bs) (i : Nat) (op : Option Nat) : ev gd (c :: r) 0 i op = ev gd r 0 (i + 1) op := by
  conv => lhs; unfold ev
  rw [if_neg (by rcases hc with rfl | rfl <;> decide), if_pos hc]
theorem ev_remark (r : Bs) (i : Nat) (op : Option Nat) : ev gd (35 :: r) 0 i op = ev gd ((35 :: r).drop ((35 :: r).takeWhile (· != 10)).length) 0 (i + ((35 :: r).takeWhile (· != 10)).length) op := by
  conv => lhs; unfold ev
  rw [if_neg (by decide), if_neg (by decide), if_pos rfl, ev_skip]
  rw [List.takeWhile_cons_of_pos (by decide), List.length_cons, List.drop_succ_cons, show i + ((r.takeWhile (· != 10)).length + 1) = i + 1 + (r.takeWhile (· != 10)).length by omega]

/-- A byte with which a token may begin. -/
def tb (c : UInt8) : Prop := c ≠ 10 ∧ c ≠ 32 ∧ c ≠ 9 ∧ c ≠ 35

theorem ev_err {c : UInt8} {r : Bs} (hc : tb c) (h : (tokv gd (c :: r)).1 ≠ 0) (i : Nat) (op : Option Nat) : ev gd (c :: r) 0 i op = [(tokv gd (c :: r), i)] := by
  conv => lhs; unfold ev
  rw [if_neg hc.1, if_neg (by intro h'; rcases h' with h' | h'; exact hc.2.1 h'; exact hc.2.2.1 h'), if_neg hc.2.2.2, if_neg (show ¬ (tokc gd c (c :: r)).1 = 0 from h)]
  rfl

theorem takeWhile_pre (p : UInt8 → Bool) (r : Bs) : r.takeWhile p <+: r := List.takeWhile_prefix p
theorem takeWhile_drop (p : UInt8 → Bool) (r : Bs) : r.take (r.takeWhile p).length = r.takeWhile p := (List.prefix_iff_eq_take.1 (takeWhile_pre p r)).symm
theorem takeWhile_all (p : UInt8 → Bool) (r : Bs) : ∀ c ∈ r.takeWhile p, p c = true := fun c hc => by
  induction r with
  | nil => simp at hc
  | cons a r ih =>
    by_cases h : p a = true
    · rw [List.takeWhile_cons_of_pos h, List.mem_cons] at hc
      rcases hc with rfl | hc
      · exact h
      · exact ih hc
    · rw [List.takeWhile_cons_of_neg h] at hc; simp at hc
/-- The byte behind the longest beginning. -/
theorem takeWhile_next (p : UInt8 → Bool) (r : Bs) : ∀ c, r[(r.takeWhile p).length]? = some c → p c = false := by
  induction r with
  | nil => intro c hc; simp at hc
  | cons a r ih =>
    intro c hc
    by_cases h : p a = true
    · rw [List.takeWhile_cons_of_pos h, List.length_cons, List.getElem?_cons_succ] at hc
      exact ih c hc
    · rw [List.takeWhile_cons_of_neg h] at hc
      simp at hc; subst hc; simpa using h
/-- The longest beginning, by what it is. -/
theorem takeWhile_is (p : UInt8 → Bool) (t y : Bs) (ht : ∀ c ∈ t, p c = true) (hy : ∀ c, y.head? = some c → p c = false) : (t ++ y).takeWhile p = t := by
  induction t with
  | nil =>
    cases y with
    | nil => rfl
    | cons c y => rw [List.nil_append, List.takeWhile_cons_of_neg (by rw [hy c rfl]; decide)]
  | cons a t ih =>
    rw [List.cons_append, List.takeWhile_cons_of_pos (ht a (by simp)), ih (fun c hc => ht c (by simp [hc]))]

theorem num2_pre (r : Bs) : numn r ≤ r.length := by
  have h1 := (takeWhile_pre isDg r).length_le
  unfold numn
  split
  · exact h1
  · rename_i h
    unfold num2 at h ⊢
    split at h
    · rename_i h2
      rw [if_pos h2]
      have h3 := (takeWhile_pre isDg (r.drop ((num1 r).length + 1))).length_le
      have h4 : (num1 r).length < r.length := by
        rcases Nat.lt_or_ge (num1 r).length r.length with h | h
        · exact h
        · rw [List.getElem?_eq_none h] at h2; cases h2
      rw [List.length_drop] at h3
      omega
    · exact absurd rfl h

theorem let_ne {c : UInt8} (h : isLet c = true) : tb c ∧ isDg c = false ∧ c.toNat ≠ 45 ∧ c.toNat ≠ 47 := by
  unfold isLet at h
  simp only [Bool.or_eq_true, Bool.and_eq_true, decide_eq_true_eq] at h
  unfold tb isDg
  refine ⟨⟨?_, ?_, ?_, ?_⟩, ?_, by omega, by omega⟩
  all_goals first | (intro e; subst e; revert h; decide) | (simp; omega)
theorem dg_ne {c : UInt8} (h : isDg c = true) : tb c ∧ isLet c = false ∧ c.toNat ≠ 45 ∧ c.toNat ≠ 47 := by
  unfold isDg at h
  simp only [Bool.and_eq_true, decide_eq_true_eq] at h
  unfold tb isLet
  refine ⟨⟨?_, ?_, ?_, ?_⟩, ?_, by omega, by omega⟩
  all_goals first | (intro e; subst e; revert h; decide) | (simp; omega)
theorem inW_ne {c : UInt8} (h : inW c = true) : tb c ∧ c.toNat ≠ 45 ∧ c.toNat ≠ 47 := by
  unfold inW isLet isDg at h
  simp only [Bool.or_eq_true, Bool.and_eq_true, decide_eq_true_eq] at h
  unfold tb
  refine ⟨⟨?_, ?_, ?_, ?_⟩, by omega, by omega⟩
  all_goals (intro e; subst e; revert h; decide)
theorem sg_ne {c : UInt8} (h : isSg c = true) : tb c := by
  unfold isSg sgs at h
  simp only [List.contains_cons, List.contains_nil, Bool.or_false, Bool.or_eq_true, beq_iff_eq] at h
  unfold tb
  rcases h with rfl | rfl | rfl | rfl | rfl | rfl | rfl | rfl | rfl <;> decide
theorem dchk_ne {i : Nat} {c : UInt8} (h : dchk i c = true) : tb c := by
  unfold dchk at h
  split at h
  · simp only [decide_eq_true_eq] at h
    unfold tb
    refine ⟨?_, ?_, ?_, ?_⟩ <;> (intro e; subst e; revert h; decide)
  · exact (dg_ne h).1

theorem dated_iff (r : Bs) : datedB r = true ↔ ∀ i, i < 10 → dat r i = true := by
  unfold datedB; rw [List.all_eq_true]; simp
theorem dated_len {r : Bs} (h : datedB r = true) : 10 ≤ r.length := by
  have h9 := (dated_iff r).1 h 9 (by omega)
  unfold dat at h9
  rcases Nat.lt_or_ge 9 r.length with h' | h'
  · omega
  · rw [List.getElem?_eq_none h'] at h9; simp at h9

theorem mk_ok {k : Nat} {p : Nat × Bs} {k' : Nat} {t : Bs} (h : mk k p = (0, k', t)) : p.1 = 0 ∧ k' = k ∧ t = p.2 := by
  unfold mk at h
  split at h
  · rename_i h0
    simp only [Prod.mk.injEq, true_and] at h
    exact ⟨h0, h.1.symm, h.2.symm⟩
  · rename_i h0
    simp only [Prod.mk.injEq] at h
    exact absurd h.1 h0

/-- What a token is: a word, a number, a date or a sign. -/
theorem tokv_ok {r : Bs} {k : Nat} {t : Bs} (h : tokv gd r = (0, k, t)) : ∃ c r', r = c :: r' ∧
    ((k = 1 ∧ isLet c = true ∧ t = r.takeWhile inW ∧ t.length ≤ 24) ∨
     (k = 3 ∧ isDg c = true ∧ datedB r = true ∧ fol r 10 = false ∧ gd (r.take 10) = true ∧ t = r.take 10) ∨
     (k = 2 ∧ isDg c = true ∧ datedB r = false ∧ numbad r = false ∧ t = r.take (numn r)) ∨
     (k = 4 ∧ isLet c = false ∧ isDg c = false ∧ isSg c = true ∧ t = [c])) := by
  cases r with
  | nil => simp [tokv] at h
  | cons c r' =>
    refine ⟨c, r', rfl, ?_⟩
    change tokc gd c (c :: r') = _ at h
    unfold tokc at h
    by_cases hl : isLet c = true
    · rw [if_pos hl] at h
      obtain ⟨h0, rfl, rfl⟩ := mk_ok h
      unfold wordv at h0 ⊢
      split at h0
      · cases h0
      · rename_i h24
        rw [if_neg h24]
        exact .inl ⟨rfl, hl, rfl, by show (List.takeWhile inW (c :: r')).length ≤ 24; omega⟩
    · have hl' : isLet c = false := by simpa using hl
      rw [if_neg hl] at h
      by_cases hd : isDg c = true
      · rw [if_pos hd] at h
        by_cases hdd : datedB (c :: r') = true
        · rw [if_pos hdd] at h
          obtain ⟨h0, rfl, rfl⟩ := mk_ok h
          unfold datev at h0 ⊢
          by_cases hf : fol (c :: r') 10 = true
          · rw [if_pos hf] at h0; cases h0
          · rw [if_neg hf] at h0 ⊢
            by_cases hg : gd ((c :: r').take 10) = true
            · rw [if_pos hg]
              exact .inr (.inl ⟨rfl, hd, hdd, by simpa using hf, hg, rfl⟩)
            · rw [if_neg hg] at h0; cases h0
        · rw [if_neg hdd] at h
          obtain ⟨h0, rfl, rfl⟩ := mk_ok h
          unfold numv at h0 ⊢
          by_cases hb : numbad (c :: r') = true
          · rw [if_pos hb] at h0; cases h0
          · rw [if_neg hb]
            exact .inr (.inr (.inl ⟨rfl, hd, by simpa using hdd, by simpa using hb, rfl⟩))
      · have hd' : isDg c = false := by simpa using hd
        rw [if_neg hd] at h
        by_cases hs : isSg c = true
        · rw [if_pos hs] at h
          simp only [Prod.mk.injEq, true_and] at h
          exact .inr (.inr (.inr ⟨h.1.symm, hl', hd', hs, h.2.symm⟩))
        · rw [if_neg hs] at h; simp at h

theorem numn_pos {c : UInt8} {r : Bs} (hd : isDg c = true) : 1 ≤ numn (c :: r) := by
  have : 1 ≤ (num1 (c :: r)).length := by unfold num1; rw [List.takeWhile_cons_of_pos hd]; simp
  unfold numn; split <;> omega

/-- The bytes of a number: digits, and perhaps a / among them. -/
theorem num_bytes (r : Bs) : ∀ c ∈ r.take (numn r), tb c := by
  have e1 : r.take (num1 r).length = num1 r := takeWhile_drop isDg r
  intro c hc
  unfold numn at hc
  split at hc
  · rw [e1] at hc; exact (dg_ne (takeWhile_all _ _ c hc)).1
  · rename_i h2
    have h47 : r[(num1 r).length]? = some 47 := by
      unfold num2 at h2; split at h2
      · assumption
      · exact absurd rfl h2
    have e2 : num2 r = (r.drop ((num1 r).length + 1)).takeWhile isDg := by unfold num2; rw [if_pos h47]
    rw [List.take_add, List.take_add, e1] at hc
    simp only [List.mem_append] at hc
    rcases hc with (hc | hc) | hc
    · exact (dg_ne (takeWhile_all _ _ c hc)).1
    · rw [List.take_one, List.head?_drop, h47] at hc
      simp at hc; subst hc; unfold tb; decide
    · rw [e2, takeWhile_drop] at hc
      exact (dg_ne (takeWhile_all _ _ c hc)).1

theorem dat_bytes {r : Bs} (h : datedB r = true) : ∀ c ∈ r.take 10, tb c := by
  intro c hc
  obtain ⟨i, hi, rfl⟩ := List.mem_iff_getElem.1 hc
  rw [List.length_take] at hi
  have hd := (dated_iff r).1 h i (by omega)
  unfold dat at hd
  rw [List.getElem?_eq_getElem (by omega)] at hd
  rw [List.getElem_take]
  exact dchk_ne hd

/-- A token: a beginning of what is read, not empty, with no newline, blank or remark in it. -/
theorem tok_text {r : Bs} {k : Nat} {t : Bs} (h : tokv gd r = (0, k, t)) : t <+: r ∧ 1 ≤ t.length ∧ (∀ c ∈ t, tb c) ∧ 1 ≤ k ∧ k ≤ 4 := by
  obtain ⟨c, r', rfl, h | h | h | h⟩ := tokv_ok gd h
  · obtain ⟨rfl, hl, rfl, _⟩ := h
    refine ⟨takeWhile_pre _ _, ?_, fun c hc => (inW_ne (takeWhile_all _ _ c hc)).1, by omega, by omega⟩
    rw [List.takeWhile_cons_of_pos (by unfold inW; rw [hl]; rfl)]; simp
  · obtain ⟨rfl, hd, hdd, _, _, rfl⟩ := h
    have := dated_len hdd
    exact ⟨List.take_prefix _ _, by rw [List.length_take]; omega, dat_bytes hdd, by omega, by omega⟩
  · obtain ⟨rfl, hd, _, _, rfl⟩ := h
    have h1 := numn_pos (r := r') hd
    have h2 := num2_pre (c :: r')
    exact ⟨List.take_prefix _ _, by rw [List.length_take]; omega, num_bytes _, by omega, by omega⟩
  · obtain ⟨rfl, _, _, hs, rfl⟩ := h
    exact ⟨⟨r', rfl⟩, by simp, fun c' hc => by simp at hc; subst hc; exact sg_ne hs, by omega, by omega⟩

theorem ev_tok {c : UInt8} {r : Bs} (hc : tb c) {k : Nat} {t : Bs} (h : tokv gd (c :: r) = (0, k, t)) (i : Nat) (op : Option Nat) :
    ev gd (c :: r) 0 i op = ((0, k, t), i) :: ev gd ((c :: r).drop t.length) 0 (i + t.length) (some (i + t.length)) := by
  have ht := (tok_text gd h).2.1
  have h' : tokc gd c (c :: r) = (0, k, t) := h
  conv => lhs; unfold ev
  rw [if_neg hc.1, if_neg (by intro h'; rcases h' with h' | h'; exact hc.2.1 h'; exact hc.2.2.1 h'), if_neg hc.2.2.2, h', if_pos rfl, ev_skip]
  obtain ⟨n, hn⟩ : ∃ n, t.length = n + 1 := ⟨t.length - 1, by omega⟩
  rw [hn]
  show _ :: ev gd (r.drop (n + 1 - 1)) 0 (i + 1 + (n + 1 - 1)) (some (i + (n + 1))) = _
  rw [show n + 1 - 1 = n by omega, List.drop_succ_cons, show i + 1 + n = i + (n + 1) by omega]

end Lx
