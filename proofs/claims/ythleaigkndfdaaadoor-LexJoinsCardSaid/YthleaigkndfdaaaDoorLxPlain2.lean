/- Lexing a list of bytes: what a token's neighbours change, and two sources joined by a newline. -/
import Derived.Test.YthleaigkndfdaaaDoorLxPlain
namespace Lx
variable (gd : Bs → Bool)

/-- A byte at which every token ends: a newline, a blank, a remark. -/
def isStop (c : UInt8) : Prop := c = 10 ∨ c = 32 ∨ c = 9 ∨ c = 35
def StopB (x : Bs) : Prop := ∀ c, x.head? = some c → isStop c

theorem stop_inW {c : UInt8} (h : isStop c) : inW c = false := by rcases h with rfl | rfl | rfl | rfl <;> decide
theorem stop_dg {c : UInt8} (h : isStop c) : isDg c = false := by rcases h with rfl | rfl | rfl | rfl <;> decide
theorem stop_dchk {c : UInt8} (h : isStop c) (i : Nat) : dchk i c = false := by
  unfold dchk; split
  · rcases h with rfl | rfl | rfl | rfl <;> decide
  · exact stop_dg h
theorem stop_ne {c : UInt8} (h : isStop c) : c ≠ 47 := by rcases h with rfl | rfl | rfl | rfl <;> decide
theorem StopB.nil : StopB [] := fun c h => by simp at h
theorem StopB.cons {c : UInt8} (h : isStop c) (x : Bs) : StopB (c :: x) := fun c' h' => by simp at h'; subst h'; exact h

theorem tw_stop (p : UInt8 → Bool) (r x : Bs) (hx : ∀ c, x.head? = some c → p c = false) : (r ++ x).takeWhile p = r.takeWhile p := by
  induction r with
  | nil =>
    cases x with
    | nil => rfl
    | cons c x => rw [List.nil_append, List.takeWhile_cons_of_neg (by rw [hx c rfl]; decide)]; rfl
  | cons a r ih =>
    rw [List.cons_append]
    by_cases h : p a = true
    · rw [List.takeWhile_cons_of_pos h, List.takeWhile_cons_of_pos h, ih]
    · rw [List.takeWhile_cons_of_neg h, List.takeWhile_cons_of_neg h]

theorem get_app (r x : Bs) (n : Nat) (hn : n ≤ r.length) : (r ++ x)[n]? = r[n]? ∨ (n = r.length ∧ (r ++ x)[n]? = x.head? ∧ r[n]? = none) := by
  rcases Nat.lt_or_ge n r.length with h | h
  · left; rw [List.getElem?_append_left h]
  · right; refine ⟨by omega, ?_, List.getElem?_eq_none h⟩
    rw [List.getElem?_append_right h, show n - r.length = 0 by omega, List.head?_eq_getElem?]

theorem fol_stop (r x : Bs) (n : Nat) (hn : n ≤ r.length) (hx : StopB x) : fol (r ++ x) n = fol r n := by
  unfold fol
  rcases get_app r x n hn with h | ⟨_, h1, h2⟩
  · rw [h]
  · rw [h1, h2]
    cases hh : x.head? with
    | none => rfl
    | some c => exact stop_inW (hx c hh)

theorem dated_stop (r x : Bs) (hx : StopB x) : datedB (r ++ x) = datedB r := by
  rcases Nat.lt_or_ge r.length 10 with h | h
  · have h1 : datedB r = false := by
      rw [← Bool.not_eq_true]; intro h'; have := dated_len h'; omega
    rw [h1, ← Bool.not_eq_true]
    intro h'
    have := (dated_iff _).1 h' r.length h
    unfold dat at this
    rw [List.getElem?_append_right (Nat.le_refl _), Nat.sub_self, ← List.head?_eq_getElem?] at this
    cases hh : x.head? with
    | none => rw [hh] at this; cases this
    | some c => rw [hh] at this; simp only [stop_dchk (hx c hh)] at this; cases this
  · rw [Bool.eq_iff_iff, dated_iff, dated_iff]
    have e : ∀ i, i < 10 → dat (r ++ x) i = dat r i := fun i hi => by unfold dat; rw [List.getElem?_append_left (by omega)]
    exact ⟨fun h i hi => by rw [← e i hi]; exact h i hi, fun h i hi => by rw [e i hi]; exact h i hi⟩

theorem num1_stop (r x : Bs) (hx : StopB x) : num1 (r ++ x) = num1 r := tw_stop _ _ _ fun c h => stop_dg (hx c h)
theorem num1_le (r : Bs) : (num1 r).length ≤ r.length := (takeWhile_pre isDg r).length_le
theorem num2_stop (r x : Bs) (hx : StopB x) : num2 (r ++ x) = num2 r := by
  unfold num2
  rw [num1_stop r x hx]
  rcases get_app r x (num1 r).length (num1_le r) with h | ⟨_, h1, h2⟩
  · rw [h]
    split
    · rename_i h2
      have h4 : (num1 r).length < r.length := by
        rcases Nat.lt_or_ge (num1 r).length r.length with h | h
        · exact h
        · rw [List.getElem?_eq_none h] at h2; cases h2
      rw [List.drop_append_of_le_length (by omega), tw_stop _ _ _ fun c h => stop_dg (hx c h)]
    · rfl
  · rw [h1, h2]
    rw [if_neg (by intro h; exact stop_ne (hx _ h) rfl), if_neg (by simp)]
theorem numn_stop (r x : Bs) (hx : StopB x) : numn (r ++ x) = numn r := by unfold numn; rw [num1_stop r x hx, num2_stop r x hx]
theorem numv_stop (r x : Bs) (hx : StopB x) : numv (r ++ x) = numv r := by
  have hn := num2_pre r
  unfold numv numbad
  rw [num1_stop r x hx, num2_stop r x hx, numn_stop r x hx, fol_stop r x _ hn hx, List.take_append_of_le_length hn]

/-- What stands behind the end of a token changes nothing. -/
theorem tokv_stop (r x : Bs) (hr : r ≠ []) (hx : StopB x) : tokv gd (r ++ x) = tokv gd r := by
  cases r with
  | nil => exact absurd rfl hr
  | cons c r =>
    show tokc gd c ((c :: r) ++ x) = tokc gd c (c :: r)
    have hd := dated_stop (c :: r) x hx
    have hw : wordv ((c :: r) ++ x) = wordv (c :: r) := by
      unfold wordv; rw [tw_stop _ _ _ fun c h => stop_inW (hx c h)]
    unfold tokc
    rw [hw, hd, numv_stop _ x hx]
    by_cases h : datedB (c :: r) = true
    · have h10 := dated_len h
      have : datev gd ((c :: r) ++ x) = datev gd (c :: r) := by
        unfold datev; rw [fol_stop _ x 10 h10 hx, List.take_append_of_le_length h10]
      rw [this]
    · rw [if_neg h, if_neg h]

theorem fol_prefix (t y y' : Bs) (h : y' <+: y) (hf : fol (t ++ y) t.length = false) : fol (t ++ y') t.length = false := by
  unfold fol at *
  rw [List.getElem?_append_right (Nat.le_refl _), Nat.sub_self] at hf ⊢
  obtain ⟨z, rfl⟩ := h
  cases y' with
  | nil => rfl
  | cons c y' => simpa using hf

theorem fol_head (t y : Bs) : fol (t ++ y) t.length = (match y.head? with | some c => inW c | none => false) := by
  unfold fol; rw [List.getElem?_append_right (Nat.le_refl _), Nat.sub_self, ← List.head?_eq_getElem?]; cases y.head? <;> rfl

theorem head_prefix {y' y : Bs} (h : y' <+: y) (c : UInt8) (hc : y'.head? = some c) : y.head? = some c := by
  obtain ⟨z, rfl⟩ := h
  cases y' with
  | nil => simp at hc
  | cons a y' => simpa using hc

theorem dated_prefix {r r' : Bs} (h : r' <+: r) (hd : datedB r' = true) : datedB r = true := by
  obtain ⟨z, rfl⟩ := h
  have h10 := dated_len hd
  rw [dated_iff] at hd ⊢
  intro i hi
  have := hd i hi
  unfold dat at *
  rwa [List.getElem?_append_left (by omega)]

/-- The number that a text of digits (and perhaps / and digits) is, whatever begins with it. -/
theorem num_form {t y : Bs} (h : (t ++ y).take (numn (t ++ y)) = t) : (∃ a, t = a ∧ (∀ c ∈ a, isDg c = true) ∧ num1 (t ++ y) = a ∧ num2 (t ++ y) = [] ∧ (∀ c, y.head? = some c → isDg c = false) ∧ (∀ d z, y = 47 :: d :: z → isDg d = false)) ∨
    (∃ a b, t = a ++ 47 :: b ∧ b ≠ [] ∧ (∀ c ∈ a, isDg c = true) ∧ (∀ c ∈ b, isDg c = true) ∧ num1 (t ++ y) = a ∧ num2 (t ++ y) = b ∧ (∀ c, y.head? = some c → isDg c = false)) := by
  have hn := num2_pre (t ++ y)
  have hlen : numn (t ++ y) = t.length := by
    have := congrArg List.length h
    rw [List.length_take] at this
    omega
  have e1 : (t ++ y).take (num1 (t ++ y)).length = num1 (t ++ y) := takeWhile_drop isDg _
  by_cases h2 : num2 (t ++ y) = []
  · left
    have hl : (num1 (t ++ y)).length = t.length := by rw [← hlen]; unfold numn; rw [if_pos h2]
    have et : num1 (t ++ y) = t := by rw [← e1, hl, List.take_left' rfl]
    refine ⟨t, rfl, fun c hc => takeWhile_all isDg (t ++ y) c (by rw [← et] at hc; exact hc), et, h2, ?_, ?_⟩
    · intro c hc
      refine takeWhile_next isDg (t ++ y) c ?_
      show (t ++ y)[(num1 (t ++ y)).length]? = some c
      rw [hl, List.getElem?_append_right (Nat.le_refl _), Nat.sub_self, ← List.head?_eq_getElem?, hc]
    · rintro d z rfl
      unfold num2 at h2
      rw [hl, List.getElem?_append_right (Nat.le_refl _), Nat.sub_self, List.getElem?_cons_zero, if_pos rfl] at h2
      rw [List.drop_append, List.drop_of_length_le (by omega), show t.length + 1 - t.length = 1 by omega, List.nil_append, List.drop_succ_cons, List.drop_zero] at h2
      by_cases hd : isDg d = true
      · rw [List.takeWhile_cons_of_pos hd] at h2; cases h2
      · simpa using hd
  · right
    have h47 : (t ++ y)[(num1 (t ++ y)).length]? = some 47 := by
      unfold num2 at h2; split at h2
      · assumption
      · exact absurd rfl h2
    have e2 : num2 (t ++ y) = ((t ++ y).drop ((num1 (t ++ y)).length + 1)).takeWhile isDg := by unfold num2; rw [if_pos h47]
    have hl : (num1 (t ++ y)).length + 1 + (num2 (t ++ y)).length = t.length := by rw [← hlen]; unfold numn; rw [if_neg h2]
    have et : t = num1 (t ++ y) ++ 47 :: num2 (t ++ y) := by
      have h3 := h
      rw [hlen, ← hl, List.take_add, List.take_add, e1, List.take_one, List.head?_drop, h47] at h3
      have e3 : ((t ++ y).drop ((num1 (t ++ y)).length + 1)).take (num2 (t ++ y)).length = num2 (t ++ y) := by
        rw [e2]; exact takeWhile_drop isDg _
      rw [e3] at h3
      refine h3.symm.trans ?_
      rw [List.append_assoc]; rfl
    refine ⟨_, _, et, h2, fun c hc => takeWhile_all isDg (t ++ y) c hc, fun c hc => takeWhile_all isDg _ c (by rw [e2] at hc; exact hc), rfl, rfl, ?_⟩
    intro c hc
    refine takeWhile_next isDg ((t ++ y).drop ((num1 (t ++ y)).length + 1)) c ?_
    rw [← e2, List.getElem?_drop, hl, List.getElem?_append_right (Nat.le_refl _), Nat.sub_self, ← List.head?_eq_getElem?, hc]

theorem num_is1 (a y : Bs) (ha : ∀ c ∈ a, isDg c = true) (h1 : ∀ c, y.head? = some c → isDg c = false) (h2 : ∀ d z, y = 47 :: d :: z → isDg d = false) : num1 (a ++ y) = a ∧ num2 (a ++ y) = [] := by
  have e1 : num1 (a ++ y) = a := takeWhile_is isDg a y ha h1
  refine ⟨e1, ?_⟩
  unfold num2
  rw [e1, List.getElem?_append_right (Nat.le_refl _), Nat.sub_self]
  split
  · rename_i h
    rw [List.drop_append, List.drop_of_length_le (by omega), show a.length + 1 - a.length = 1 by omega, List.nil_append]
    cases y with
    | nil => rfl
    | cons c y =>
      simp at h; subst h
      rw [List.drop_succ_cons, List.drop_zero]
      cases y with
      | nil => rfl
      | cons d z => rw [List.takeWhile_cons_of_neg (by rw [h2 d z rfl]; decide)]
  · rfl

theorem num_is2 (a b y : Bs) (ha : ∀ c ∈ a, isDg c = true) (hb : ∀ c ∈ b, isDg c = true) (h1 : ∀ c, y.head? = some c → isDg c = false) : num1 (a ++ 47 :: b ++ y) = a ∧ num2 (a ++ 47 :: b ++ y) = b := by
  have e1 : num1 (a ++ 47 :: b ++ y) = a := by
    rw [List.append_assoc]; exact takeWhile_is isDg a _ ha (fun c h => by simp at h; subst h; decide)
  refine ⟨e1, ?_⟩
  unfold num2
  rw [e1, List.append_assoc, List.getElem?_append_right (Nat.le_refl _), Nat.sub_self, List.cons_append, List.getElem?_cons_zero, if_pos rfl]
  rw [List.drop_append, List.drop_of_length_le (by omega), show a.length + 1 - a.length = 1 by omega, List.nil_append, List.drop_succ_cons, List.drop_zero]
  exact takeWhile_is isDg b y hb h1

/-- A token stays what it is where less of what follows it is seen. -/
theorem tokv_prefix {t y y' : Bs} {k : Nat} (h : tokv gd (t ++ y) = (0, k, t)) (hy : y' <+: y) : tokv gd (t ++ y') = (0, k, t) := by
  obtain ⟨c, r', hr, hcase⟩ := tokv_ok gd h
  have ht := (tok_text gd h).2.1
  obtain ⟨t', rfl⟩ : ∃ t', t = c :: t' := by
    cases t with
    | nil => simp at ht
    | cons a t => simp at hr; exact ⟨t, by rw [hr.1]⟩
  clear hr r'
  show tokc gd c (c :: t' ++ y') = _
  unfold tokc
  rcases hcase with hw | hw | hw | hw
  · obtain ⟨rfl, hl, htw, h24⟩ := hw
    have hall : ∀ c' ∈ c :: t', inW c' = true := fun c' hc' => by rw [htw] at hc'; exact takeWhile_all _ _ c' hc'
    have hnx : ∀ d, y.head? = some d → inW d = false := fun d hd => takeWhile_next inW (c :: t' ++ y) d (by rw [← htw, List.getElem?_append_right (Nat.le_refl _), Nat.sub_self, ← List.head?_eq_getElem?, hd])
    rw [if_pos hl]
    unfold wordv
    rw [takeWhile_is inW (c :: t') y' hall (fun d hd => hnx d (head_prefix hy d hd)), if_neg (by omega)]
    rfl
  · obtain ⟨rfl, hd, hdd, hf, hg, htk⟩ := hw
    have h10 : (c :: t').length = 10 := by
      have := dated_len hdd
      rw [htk, List.length_take]; omega
    rw [if_neg (by rw [(dg_ne hd).2.1]; decide), if_pos hd]
    have hdd' : datedB (c :: t' ++ y') = true := by
      rw [dated_iff] at hdd ⊢
      intro i hi
      have := hdd i hi
      unfold dat at *
      rw [List.getElem?_append_left (by omega)] at this ⊢
      exact this
    have e10 : (c :: t' ++ y').take 10 = c :: t' := by rw [← h10]; exact List.take_left' rfl
    have e10' : (c :: t' ++ y).take 10 = c :: t' := by rw [← h10]; exact List.take_left' rfl
    rw [e10'] at hg
    have hf' : fol (c :: t' ++ y') 10 = false := by
      have := fol_prefix (c :: t') y y' hy (by rw [h10]; exact hf)
      rw [h10] at this; exact this
    rw [if_pos hdd']
    unfold datev
    rw [hf', e10, hg]
    rfl
  · obtain ⟨rfl, hd, hdd, hb, htk⟩ := hw
    rw [if_neg (by rw [(dg_ne hd).2.1]; decide), if_pos hd]
    have hdd' : datedB (c :: t' ++ y') = false := by
      rw [← Bool.not_eq_true]
      intro h'
      have : datedB (c :: t' ++ y) = true := dated_prefix (by obtain ⟨z, rfl⟩ := hy; exact ⟨z, by simp⟩) h'
      rw [this] at hdd; cases hdd
    rw [hdd']
    have hlen : numn (c :: t' ++ y) = (c :: t').length := by
      have h1 := congrArg List.length htk
      have h2 := num2_pre (c :: t' ++ y)
      rw [List.length_take] at h1
      omega
    have key : num1 (c :: t' ++ y') = num1 (c :: t' ++ y) ∧ num2 (c :: t' ++ y') = num2 (c :: t' ++ y) := by
      rcases num_form htk.symm with ⟨a, he, ha, e1, e2, hy1, hy2⟩ | ⟨a, b, he, hb0, ha, hbb, e1, e2, hy1⟩
      · rw [e1, e2, he]
        refine num_is1 a y' ha (fun d hd => hy1 d (head_prefix hy d hd)) (fun d z hz => ?_)
        obtain ⟨zz, rfl⟩ := hy
        exact hy2 d (z ++ zz) (by rw [hz]; simp)
      · rw [e1, e2, he]
        exact num_is2 a b y' ha hbb (fun d hd => hy1 d (head_prefix hy d hd))
    have hn' : numn (c :: t' ++ y') = (c :: t').length := by rw [← hlen]; unfold numn; rw [key.1, key.2]
    have hbad : numbad (c :: t' ++ y') = false := by
      unfold numbad at hb ⊢
      rw [hlen] at hb
      rw [hn', key.1, key.2]
      simp only [Bool.or_eq_false_iff] at hb ⊢
      exact ⟨⟨⟨⟨hb.1.1.1.1, fol_prefix (c :: t') y y' hy hb.1.1.1.2⟩, hb.1.1.2⟩, hb.1.2⟩, hb.2⟩
    unfold numv
    rw [hbad, hn', List.take_left' rfl]
    rfl
  · obtain ⟨rfl, hl, hd, hs, ht1⟩ := hw
    rw [if_neg (by rw [hl]; decide), if_neg (by rw [hd]; decide), if_pos hs, ht1]

/-- A token read by itself, or ahead of a blank, a newline or a remark, is itself. -/
theorem tokv_self {r : Bs} {k : Nat} {t : Bs} (h : tokv gd r = (0, k, t)) (x : Bs) (hx : StopB x) : tokv gd (t ++ x) = (0, k, t) := by
  obtain ⟨⟨y, rfl⟩, h1, _⟩ := tok_text gd h
  have := tokv_prefix gd (y' := []) h (List.nil_prefix)
  rw [List.append_nil] at this
  rw [tokv_stop gd t x (by intro e; subst e; simp at h1) hx]
  exact this

end Lx
