/- Reserved words: the tables by length, and the reference's list. -/
import Derived.Test.YthleaigkndfdaaaDoorLxPlain4
import Derived.Test.YthleaigkndfdaaaDoorLxPlain3
import Derived.Lib.IndexMore
namespace Lx
open Go

def tw2 : List Bs := [[116, 111], [105, 115], [97, 116], [105, 102], [111, 114], [117, 112]]
def tw3 : List Bs := [[100, 101, 102], [114, 111, 119], [111, 110, 101], [116, 119, 111], [101, 110, 100], [111, 102, 102], [104, 97, 115], [109, 105, 110], [109, 97, 120], [97, 110, 100], [110, 111, 116]]
def tw4 : List Bs := [[112, 108, 97, 110], [102, 97, 99, 116], [102, 114, 111, 109], [119, 104, 101, 110], [116, 104, 101, 110], [100, 97, 116, 101], [100, 97, 121, 115], [116, 114, 117, 101], [108, 111, 111, 107], [98, 101, 115, 116], [103, 114, 111, 119], [100, 111, 119, 110], [99, 101, 105, 108], [104, 97, 108, 102], [101, 118, 101, 110]]
def tw5 : List Bs := [[116, 97, 98, 108, 101], [107, 110, 111, 119, 110], [116, 114, 117, 116, 104], [109, 111, 110, 101, 121], [102, 97, 108, 115, 101], [109, 105, 110, 117, 115], [116, 111, 100, 97, 121], [114, 111, 117, 110, 100], [115, 116, 97, 114, 116], [102, 108, 111, 111, 114]]
def tw6 : List Bs := [[99, 108, 97, 117, 115, 101], [110, 117, 109, 98, 101, 114], [109, 111, 110, 116, 104, 115]]
def tw7 : List Bs := [[98, 101, 116, 119, 101, 101, 110], [115, 101, 114, 118, 105, 99, 101]]
def tt2 : Bs := [32, 116, 111, 32, 105, 115, 32, 97, 116, 32, 105, 102, 32, 111, 114, 32, 117, 112, 32]
def tt3 : Bs := [32, 100, 101, 102, 32, 114, 111, 119, 32, 111, 110, 101, 32, 116, 119, 111, 32, 101, 110, 100, 32, 111, 102, 102, 32, 104, 97, 115, 32, 109, 105, 110, 32, 109, 97, 120, 32, 97, 110, 100, 32, 110, 111, 116, 32]
def tt4 : Bs := [32, 112, 108, 97, 110, 32, 102, 97, 99, 116, 32, 102, 114, 111, 109, 32, 119, 104, 101, 110, 32, 116, 104, 101, 110, 32, 100, 97, 116, 101, 32, 100, 97, 121, 115, 32, 116, 114, 117, 101, 32, 108, 111, 111, 107, 32, 98, 101, 115, 116, 32, 103, 114, 111, 119, 32, 100, 111, 119, 110, 32, 99, 101, 105, 108, 32, 104, 97, 108, 102, 32, 101, 118, 101, 110, 32]
def tt5 : Bs := [32, 116, 97, 98, 108, 101, 32, 107, 110, 111, 119, 110, 32, 116, 114, 117, 116, 104, 32, 109, 111, 110, 101, 121, 32, 102, 97, 108, 115, 101, 32, 109, 105, 110, 117, 115, 32, 116, 111, 100, 97, 121, 32, 114, 111, 117, 110, 100, 32, 115, 116, 97, 114, 116, 32, 102, 108, 111, 111, 114, 32]
def tt6 : Bs := [32, 99, 108, 97, 117, 115, 101, 32, 110, 117, 109, 98, 101, 114, 32, 109, 111, 110, 116, 104, 115, 32]
def tt7 : Bs := [32, 98, 101, 116, 119, 101, 101, 110, 32, 115, 101, 114, 118, 105, 99, 101, 32]
def tw (n : Nat) : List Bs := if n = 2 then tw2 else if n = 3 then tw3 else if n = 4 then tw4 else if n = 5 then tw5 else if n = 6 then tw6 else if n = 7 then tw7 else []
def tt (n : Nat) : Bs := if n = 2 then tt2 else if n = 3 then tt3 else if n = 4 then tt4 else if n = 5 then tt5 else if n = 6 then tt6 else if n = 7 then tt7 else []
def resw : List Bs := [[112, 108, 97, 110], [102, 97, 99, 116], [100, 101, 102], [116, 97, 98, 108, 101], [114, 111, 119], [99, 108, 97, 117, 115, 101], [111, 110, 101], [116, 119, 111], [102, 114, 111, 109], [116, 111], [101, 110, 100], [107, 110, 111, 119, 110], [111, 102, 102], [119, 104, 101, 110], [116, 104, 101, 110], [105, 115], [116, 114, 117, 116, 104], [110, 117, 109, 98, 101, 114], [109, 111, 110, 101, 121], [100, 97, 116, 101], [100, 97, 121, 115], [109, 111, 110, 116, 104, 115], [116, 114, 117, 101], [102, 97, 108, 115, 101], [109, 105, 110, 117, 115], [116, 111, 100, 97, 121], [97, 116], [104, 97, 115], [108, 111, 111, 107], [109, 105, 110], [109, 97, 120], [105, 102], [114, 111, 117, 110, 100], [98, 101, 116, 119, 101, 101, 110], [115, 101, 114, 118, 105, 99, 101], [98, 101, 115, 116], [103, 114, 111, 119], [115, 116, 97, 114, 116], [97, 110, 100], [111, 114], [110, 111, 116], [100, 111, 119, 110], [117, 112], [102, 108, 111, 111, 114], [99, 101, 105, 108], [104, 97, 108, 102], [101, 118, 101, 110]]

/-- What Reserved answers. -/
def lets (s : Bs) : Bool := decide (2 ≤ s.length) && decide (s.length ≤ 7) && s.all isLet
def resv (s : Bs) : Bool := lets s && Lib.contains (tt s.length) (32 :: (s ++ [32]))
/-- What Name answers. -/
def wordB (s : Bs) : Bool := (match s with | [] => false | c :: _ => isLet c) && s.all inW
def nmv (s : Bs) : Bool := decide (s.length ≤ 24) && wordB s && !resv s

theorem contains_nil (sub : Bs) (h : sub ≠ []) : Lib.contains [] sub = false := by
  cases sub with
  | nil => exact absurd rfl h
  | cons a l => rfl
theorem contains_cons (b : UInt8) (l sub : Bs) : Lib.contains (b :: l) sub = (sub.isPrefixOf (b :: l) || Lib.contains l sub) := by
  have hg := Lib.index_ge l sub
  unfold Lib.contains
  conv => lhs; rw [Lib.index]
  by_cases h : sub.isPrefixOf (b :: l) = true
  · rw [if_pos h, h]; rfl
  · rw [if_neg h]
    have : sub.isPrefixOf (b :: l) = false := by cases hh : sub.isPrefixOf (b :: l) with | true => exact absurd hh h | false => rfl
    rw [this, Bool.false_or]
    by_cases h2 : Lib.index l sub = -1
    · rw [if_pos (by rw [h2]; rfl), h2]
    · rw [if_neg (by simpa using h2)]
      apply decide_eq_decide.2
      omega

/-- Words with blanks between them, ahead and behind. -/
def line : List Bs → Bs
  | [] => [32]
  | w :: ws => 32 :: (w ++ line ws)
theorem line_cons (ws : List Bs) : ∃ r, line ws = 32 :: r := by cases ws with | nil => exact ⟨_, rfl⟩ | cons w ws => exact ⟨_, rfl⟩
theorem contains_skip (w l s : Bs) (hw : ∀ c ∈ w, c ≠ 32) : Lib.contains (w ++ l) (32 :: s) = Lib.contains l (32 :: s) := by
  induction w with
  | nil => rfl
  | cons c w ih =>
    rw [List.cons_append, contains_cons, ih (fun c hc => hw c (by simp [hc]))]
    have : (32 :: s).isPrefixOf (c :: (w ++ l)) = false := by
      rw [List.isPrefixOf]
      have : ((32 : UInt8) == c) = false := by simpa using fun h => hw c (by simp) h.symm
      rw [this]; rfl
    rw [this, Bool.false_or]
theorem prefix_word (s w r : Bs) (hs : ∀ c ∈ s, c ≠ 32) (hw : ∀ c ∈ w, c ≠ 32) : (s ++ [32]).isPrefixOf (w ++ 32 :: r) = true ↔ s = w := by
  induction s generalizing w with
  | nil =>
    cases w with
    | nil => exact ⟨fun _ => rfl, fun _ => by simp [List.isPrefixOf]⟩
    | cons c w =>
      have := hw c (by simp)
      constructor
      · intro h; simp [List.isPrefixOf] at h; exact absurd h.symm this
      · intro h; cases h
  | cons a s ih =>
    cases w with
    | nil =>
      have := hs a (by simp)
      constructor
      · intro h; simp [List.isPrefixOf] at h; exact absurd h.1 this
      · intro h; cases h
    | cons c w =>
      rw [List.cons_append, List.cons_append, List.isPrefixOf, Bool.and_eq_true, beq_iff_eq, ih w (fun c hc => hs c (by simp [hc])) (fun c hc => hw c (by simp [hc])), List.cons.injEq]
theorem contains_line (s : Bs) (hs : ∀ c ∈ s, c ≠ 32) (ws : List Bs) (hw : ∀ w ∈ ws, ∀ c ∈ w, c ≠ 32) : Lib.contains (line ws) (32 :: (s ++ [32])) = true ↔ s ∈ ws := by
  induction ws with
  | nil =>
    unfold line
    rw [contains_cons, contains_nil _ (by simp)]
    have : (32 :: (s ++ [32])).isPrefixOf [(32 : UInt8)] = false := by
      cases s <;> simp [List.isPrefixOf]
    rw [this]; simp
  | cons w ws ih =>
    obtain ⟨r, hr⟩ := line_cons ws
    have h1 := prefix_word s w r hs (hw w (by simp))
    have ih := ih (fun w h => hw w (by simp [h]))
    unfold line
    rw [contains_cons, contains_skip w (line ws) _ (hw w (by simp)), Bool.or_eq_true, ih, hr, List.isPrefixOf, Bool.and_eq_true, h1, List.mem_cons]
    simp

theorem let_ne32 {c : UInt8} (h : isLet c = true) : c ≠ 32 := by intro e; subst e; revert h; decide
theorem tt_line (n : Nat) (h2 : 2 ≤ n) (h7 : n ≤ 7) : tt n = line (tw n) ∧ (∀ w ∈ tw n, ∀ c ∈ w, c ≠ 32) ∧ (∀ w ∈ tw n, w ∈ resw) := by
  rcases (show n = 2 ∨ n = 3 ∨ n = 4 ∨ n = 5 ∨ n = 6 ∨ n = 7 by omega) with rfl | rfl | rfl | rfl | rfl | rfl <;> decide
theorem resw_in : ∀ w ∈ resw, 2 ≤ w.length ∧ w.length ≤ 7 ∧ w.all isLet = true ∧ w ∈ tw w.length := by decide
theorem resv_iff (s : Bs) : resv s = true ↔ s ∈ resw := by
  unfold resv lets
  constructor
  · intro h
    simp only [Bool.and_eq_true, decide_eq_true_eq] at h
    obtain ⟨⟨⟨h2, h7⟩, ha⟩, hc⟩ := h
    obtain ⟨e, hw, hr⟩ := tt_line s.length h2 h7
    rw [e] at hc
    exact hr s ((contains_line s (fun c hc => let_ne32 ((List.all_eq_true.1 ha) c hc)) _ hw).1 hc)
  · intro h
    obtain ⟨h2, h7, ha, hm⟩ := resw_in s h
    obtain ⟨e, hw, _⟩ := tt_line s.length h2 h7
    rw [ha, decide_eq_true h2, decide_eq_true h7, e, (contains_line s (fun c hc => let_ne32 ((List.all_eq_true.1 ha) c hc)) _ hw).2 hm]; rfl

theorem tw_all (p : UInt8 → Bool) (s : Bs) : s.takeWhile p = s ↔ s.all p = true := by
  constructor
  · intro h; rw [List.all_eq_true]; intro c hc; rw [← h] at hc; exact takeWhile_all p s c hc
  · intro h
    have := takeWhile_is p s [] (fun c hc => (List.all_eq_true.1 h) c hc) (fun c hc => by simp at hc)
    rwa [List.append_nil] at this
theorem resv_word {s : Bs} (h : resv s = true) : wordB s = true ∧ 2 ≤ s.length ∧ s.length ≤ 7 := by
  unfold resv lets at h
  simp only [Bool.and_eq_true, decide_eq_true_eq] at h
  obtain ⟨⟨⟨h2, h7⟩, ha⟩, _⟩ := h
  refine ⟨?_, h2, h7⟩
  cases s with
  | nil => simp at h2
  | cons c s =>
    rw [List.all_eq_true] at ha
    show (isLet c && (c :: s).all inW) = true
    rw [show isLet c = true from ha c (by simp), Bool.true_and, List.all_eq_true]
    intro c hc; unfold inW; rw [ha c hc]; rfl

variable (gd : Bs → Bool)
/-- A word alone is one word and an end. -/
theorem ev_word (s : Bs) (h : wordB s = true) (h24 : s.length ≤ 24) : ev gd s 0 0 none = [((0, 1, s), 0), ((0, 5, []), s.length)] := by
  unfold wordB at h
  cases s with
  | nil => simp at h
  | cons c r =>
    rw [Bool.and_eq_true] at h
    obtain ⟨hl, ha⟩ := h
    have hl : isLet c = true := hl
    have ht : (c :: r).takeWhile inW = c :: r := (tw_all inW _).2 ha
    have hv : tokv gd (c :: r) = (0, 1, c :: r) := by
      show tokc gd c (c :: r) = _
      unfold tokc
      rw [if_pos hl]
      unfold wordv mk
      rw [ht, if_neg (show ¬ 24 < (c :: r).length by omega), if_pos rfl]
    rw [ev_tok gd (let_ne hl).1 hv, List.drop_of_length_le (Nat.le_refl _), ev_nil, Nat.zero_add]; rfl
/-- A word that is all of a source. -/
theorem wf_word {op : Bool} {l : List Tk} (h : WF gd op l) (s : Bs) (hm : (0, 1, s) ∈ l) : wordB s = true := by
  induction l generalizing op with
  | nil => cases hm
  | cons w ws ih =>
    rcases List.mem_cons.1 hm with rfl | hm
    · rcases h with ⟨h, _⟩ | ⟨_, ⟨r, hr⟩, _⟩
      · cases h
      · obtain ⟨c, r', rfl, h | h | h | h⟩ := tokv_ok gd hr
        · obtain ⟨_, hl, rfl, _⟩ := h
          rw [List.takeWhile_cons_of_pos (show inW c = true by unfold inW; rw [hl]; rfl)]
          show (isLet c && (c :: r'.takeWhile inW).all inW) = true
          rw [hl, Bool.true_and, List.all_eq_true]
          intro c' hc'
          rcases List.mem_cons.1 hc' with rfl | hc'
          · unfold inW; rw [hl]; rfl
          · exact takeWhile_all _ _ _ hc'
        · omega
        · omega
        · omega
    · rcases h with ⟨_, _, h⟩ | ⟨_, _, _, h⟩
      · exact ih h hm
      · exact ih h hm

end Lx
