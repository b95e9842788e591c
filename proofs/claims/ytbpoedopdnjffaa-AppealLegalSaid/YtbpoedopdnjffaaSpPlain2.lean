/- The plain mathematics of span.choose: the borders of two sets, merged; the set of the days whose membership is kept. -/
import Derived.Test.YtbpoedopdnjffaaSpPlain
namespace Sp

/-- The borders of a set. -/
def bl : Sps → List Int
  | [] => []
  | s :: l => s.1 :: s.2 :: bl l

abbrev Ev := Int × Bool × Bool

/-- The days at which membership changes, and the membership from then on. -/
def evs : List Int → List Int → Bool → Bool → List Ev
  | [], [], _, _ => []
  | x :: xs, [], pa, pb => (x, !pa, pb) :: evs xs [] (!pa) pb
  | [], y :: ys, pa, pb => (y, pa, !pb) :: evs [] ys pa (!pb)
  | x :: xs, y :: ys, pa, pb =>
    if x < y then (x, !pa, pb) :: evs xs (y :: ys) (!pa) pb
    else if y < x then (y, pa, !pb) :: evs (x :: xs) ys pa (!pb)
    else (x, !pa, !pb) :: evs xs ys (!pa) (!pb)
termination_by xs ys => xs.length + ys.length

/-- Strictly ascending, all greater than p. -/
def asc (p : Int) : List Int → Prop
  | [] => True
  | x :: xs => p < x ∧ x ≤ 65536 ∧ asc x xs

theorem asc_mono {p q : Int} (h : q ≤ p) {l : List Int} (hl : asc p l) : asc q l := by
  cases l with
  | nil => trivial
  | cons x l => exact ⟨by have := hl.1; omega, hl.2⟩

theorem asc_bl {p : Int} {l : Sps} (h : validFrom p l = true) : asc p (bl l) := by
  induction l generalizing p with
  | nil => trivial
  | cons s l ih =>
    rw [validFrom_cons] at h
    exact ⟨h.1, by omega, h.2.1, h.2.2.1, ih h.2.2.2⟩

/-- Membership by the borders: turned at each border that is not greater than the day. -/
def mb : List Int → Bool → Int → Bool
  | [], p, _ => p
  | x :: xs, p, d => if x ≤ d then mb xs (!p) d else p

theorem mb_hit {x d : Int} (h : x ≤ d) (xs : List Int) (p : Bool) : mb (x :: xs) p d = mb xs (!p) d := by rw [mb, if_pos h]
theorem mb_miss {x d : Int} (h : ¬ x ≤ d) (xs : List Int) (p : Bool) : mb (x :: xs) p d = p := by rw [mb, if_neg h]

theorem mb_low {p : Bool} {q d : Int} {l : List Int} (h : asc q l) (hd : d ≤ q) : mb l p d = p := by
  cases l with
  | nil => rfl
  | cons x l => rw [mb, if_neg (by have := h.1; omega)]

theorem mb_bl {p : Int} {l : Sps} (h : validFrom p l = true) (d : Int) : mb (bl l) false d = mem l d := by
  induction l generalizing p with
  | nil => rfl
  | cons s l ih =>
    rw [validFrom_cons] at h
    have hm := mem_bd h.2.2.2 d
    rw [bl, mb, mb, mem_cons]
    by_cases h1 : s.1 ≤ d
    · by_cases h2 : s.2 ≤ d
      · rw [if_pos h1, if_pos h2]
        show mb (bl l) false d = _
        rw [ih h.2.2.2]
        simp [show ¬ d < s.2 by omega]
      · rw [if_pos h1, if_neg h2]
        simp [h1, show d < s.2 by omega]
    · rw [if_neg h1]
      have : mem l d = false := by
        rw [← Bool.not_eq_true]; intro x; have := hm x; omega
      simp [h1, this]

/-- The memberships at a day, by the changes. -/
def at' : List Ev → Bool → Bool → Int → Bool × Bool
  | [], a, b, _ => (a, b)
  | e :: es, a, b, d => if e.1 ≤ d then at' es e.2.1 e.2.2 d else (a, b)

def ascE (p : Int) : List Ev → Prop
  | [] => True
  | x :: xs => p < x.1 ∧ x.1 ≤ 65536 ∧ ascE x.1 xs

theorem evs_asc : ∀ (n : Nat) (xs ys : List Int) (pa pb : Bool) (p : Int), xs.length + ys.length = n → asc p xs → asc p ys → ascE p (evs xs ys pa pb) := by
  intro n
  induction n using Nat.strongRecOn with
  | _ n ih =>
    intro xs ys pa pb p hn hx hy
    cases xs with
    | nil =>
      cases ys with
      | nil => rw [evs]; trivial
      | cons y ys => rw [evs]; exact ⟨hy.1, hy.2.1, ih _ (by simp at hn ⊢; omega) _ _ _ _ _ rfl trivial hy.2.2⟩
    | cons x xs =>
      cases ys with
      | nil => rw [evs]; exact ⟨hx.1, hx.2.1, ih _ (by simp at hn ⊢; omega) _ _ _ _ _ rfl hx.2.2 trivial⟩
      | cons y ys =>
        rw [evs]
        split
        · rename_i h
          exact ⟨hx.1, hx.2.1, ih _ (by simp at hn ⊢; omega) _ _ _ _ _ rfl hx.2.2 ⟨h, hy.2⟩⟩
        · split
          · rename_i h
            exact ⟨hy.1, hy.2.1, ih _ (by simp at hn ⊢; omega) _ _ _ _ _ rfl ⟨h, hx.2⟩ hy.2.2⟩
          · obtain rfl : x = y := by omega
            exact ⟨hx.1, hx.2.1, ih _ (by simp at hn ⊢; omega) _ _ _ _ _ rfl hx.2.2 hy.2.2⟩

theorem evs_at : ∀ (n : Nat) (xs ys : List Int) (pa pb : Bool) (p : Int) (d : Int), xs.length + ys.length = n → asc p xs → asc p ys → at' (evs xs ys pa pb) pa pb d = (mb xs pa d, mb ys pb d) := by
  intro n
  induction n using Nat.strongRecOn with
  | _ n ih =>
    intro xs ys pa pb p d hn hx hy
    cases xs with
    | nil =>
      cases ys with
      | nil => rw [evs]; rfl
      | cons y ys =>
        rw [evs, at', mb, mb]
        split
        · rename_i h
          exact ih _ (by simp at hn ⊢; omega) _ _ _ _ _ _ rfl trivial hy.2.2
        · rfl
    | cons x xs =>
      cases ys with
      | nil =>
        rw [evs, at', mb, mb]
        split
        · exact ih _ (by simp at hn ⊢; omega) _ _ _ _ _ _ rfl hx.2.2 trivial
        · rfl
      | cons y ys =>
        rw [evs]
        split
        · rename_i h
          rw [at']
          split
          · rename_i h'
            have := ih _ (by simp at hn ⊢; omega) xs (y :: ys) (!pa) pb x d rfl hx.2.2 ⟨h, hy.2⟩
            dsimp only at h' ⊢
            rw [this, mb_hit h']
          · rename_i h'
            dsimp only at h'
            rw [mb_miss h', mb_miss (by omega)]
        · split
          · rename_i h
            rw [at']
            split
            · rename_i h'
              have := ih _ (by simp at hn ⊢; omega) (x :: xs) ys pa (!pb) y d rfl ⟨h, hx.2⟩ hy.2.2
              dsimp only at h' ⊢
              rw [this, mb_hit h']
            · rename_i h'
              dsimp only at h'
              rw [mb_miss h', mb_miss (by omega)]
          · obtain rfl : x = y := by omega
            rw [at']
            split
            · rename_i h'
              have := ih _ (by simp at hn ⊢; omega) xs ys (!pa) (!pb) x d rfl hx.2.2 hy.2.2
              dsimp only at h' ⊢
              rw [this, mb_hit h', mb_hit h']
            · rename_i h'
              dsimp only at h'
              rw [mb_miss h', mb_miss h']

/-- What the loop of choose makes of the changes: (from, inside, the set). -/
def stp (keep : Bool → Bool → Bool) (st : Int × Bool × Sps) (e : Ev) : Int × Bool × Sps :=
  (if keep e.2.1 e.2.2 && !st.2.1 then e.1 else st.1, keep e.2.1 e.2.2, if st.2.1 && !keep e.2.1 e.2.2 then st.2.2 ++ [(st.1, e.1)] else st.2.2)

def run (keep : Bool → Bool → Bool) (es : List Ev) : Int × Bool × Sps := es.foldl (stp keep) (0, false, [])

theorem run_snoc (keep : Bool → Bool → Bool) (es : List Ev) (e : Ev) : run keep (es ++ [e]) = stp keep (run keep es) e := by
  unfold run; rw [List.foldl_append]; rfl

theorem run_length (keep : Bool → Bool → Bool) (es : List Ev) : (run keep es).2.2.length ≤ es.length := by
  suffices h : ∀ (es : List Ev) st, (es.foldl (stp keep) st).2.2.length ≤ st.2.2.length + es.length by
    have := h es (0, false, [])
    simpa [run] using this
  intro es
  induction es with
  | nil => intro st; simp
  | cons e es ih =>
    intro st
    have := ih (stp keep st e)
    have h2 : (stp keep st e).2.2.length ≤ st.2.2.length + 1 := by
      unfold stp; dsimp only; split <;> simp
    rw [List.foldl_cons, List.length_cons]
    omega

/-- The value of keep at a day. -/
def cur (keep : Bool → Bool → Bool) : List Ev → Bool → Int → Bool
  | [], v, _ => v
  | e :: es, v, d => if e.1 ≤ d then cur keep es (keep e.2.1 e.2.2) d else v

theorem cur_at (keep : Bool → Bool → Bool) (es : List Ev) (a b : Bool) (d : Int) : cur keep es (keep a b) d = keep (at' es a b d).1 (at' es a b d).2 := by
  induction es generalizing a b with
  | nil => rfl
  | cons e es ih =>
    rw [cur, at']
    split
    · exact ih _ _
    · rfl

theorem cur_low {keep : Bool → Bool → Bool} {es : List Ev} {v : Bool} {p d : Int} (h : ascE p es) (hd : d ≤ p) : cur keep es v d = v := by
  cases es with
  | nil => rfl
  | cons e es => rw [cur, if_neg (by have := h.1; omega)]

/-- The loop's invariant, by the rest of the changes. -/
theorem run_rest (keep : Bool → Bool → Bool) : ∀ (es : List Ev) (fr : Int) (ins : Bool) (set : Sps) (p : Int), ascE p es → validFrom (-1) set = true →
    lastTo (-1) set ≤ p → (ins = true → lastTo (-1) set < fr ∧ fr ≤ p) → (∀ d, 65536 ≤ d → cur keep es ins d = false) →
    validFrom (-1) (es.foldl (stp keep) (fr, ins, set)).2.2 = true ∧
    ∀ d, mem (es.foldl (stp keep) (fr, ins, set)).2.2 d = (mem set d || (cur keep es ins d && (!ins || decide (fr ≤ d)))) := by
  intro es
  induction es with
  | nil =>
    intro fr ins set p _ hv _ _ hc
    have := hc 65536 (by omega)
    rw [cur] at this
    subst this
    exact ⟨hv, fun d => by simp [cur]⟩
  | cons e es ih =>
    intro fr ins set p ha hv hl hi hc
    obtain ⟨d0, a, b⟩ := e
    obtain ⟨h1, h2, h3⟩ := ha
    dsimp only at h1 h2 h3
    have hc' : ∀ d, 65536 ≤ d → cur keep es (keep a b) d = false := fun d hd => by
      have := hc d hd
      rw [cur, if_pos (by dsimp only; omega)] at this
      exact this
    rw [List.foldl_cons]
    have hcur : ∀ d, cur keep ((d0, a, b) :: es) ins d = if d0 ≤ d then cur keep es (keep a b) d else ins := fun d => rfl
    cases ins with
    | false =>
      cases hk : keep a b with
      | false =>
        rw [hk] at hc'
        have e1 : stp keep (fr, false, set) (d0, a, b) = (fr, false, set) := by simp [stp, hk]
        rw [e1]
        obtain ⟨i1, i2⟩ := ih fr false set d0 h3 hv (by omega) (fun h => by cases h) hc'
        refine ⟨i1, fun d => ?_⟩
        rw [i2, hcur, hk]
        split
        · rfl
        · rename_i hd
          rw [cur_low h3 (by omega)]
      | true =>
        rw [hk] at hc'
        have e1 : stp keep (fr, false, set) (d0, a, b) = (d0, true, set) := by simp [stp, hk]
        rw [e1]
        obtain ⟨i1, i2⟩ := ih d0 true set d0 h3 hv (by omega) (fun _ => ⟨by omega, by omega⟩) hc'
        refine ⟨i1, fun d => ?_⟩
        rw [i2, hcur, hk]
        split
        · rename_i hd; simp [hd]
        · rename_i hd; simp [hd]
    | true =>
      have hi' := hi rfl
      cases hk : keep a b with
      | false =>
        rw [hk] at hc'
        have e1 : stp keep (fr, true, set) (d0, a, b) = (fr, false, set ++ [(fr, d0)]) := by simp [stp, hk]
        rw [e1]
        obtain ⟨i1, i2⟩ := ih fr false (set ++ [(fr, d0)]) d0 h3 (validFrom_snoc.2 ⟨hv, hi'.1, by dsimp only; omega, h2⟩) (by rw [lastTo_snoc]; dsimp only; omega) (fun h => by cases h) hc'
        refine ⟨i1, fun d => ?_⟩
        rw [i2, hcur, hk, mem_append, mem_cons, mem_nil]
        split
        · rename_i hd; simp [show ¬ d < d0 by omega, show fr ≤ d by omega]
        · rename_i hd
          rw [cur_low h3 (by omega)]
          simp [show d < d0 by omega]
      | true =>
        rw [hk] at hc'
        have e1 : stp keep (fr, true, set) (d0, a, b) = (fr, true, set) := by simp [stp, hk]
        rw [e1]
        obtain ⟨i1, i2⟩ := ih fr true set d0 h3 hv (by omega) (fun _ => ⟨hi'.1, by omega⟩) hc'
        refine ⟨i1, fun d => ?_⟩
        rw [i2, hcur, hk]
        split
        · rfl
        · rename_i hd
          rw [cur_low h3 (by omega)]

/-- The changes of two sets. -/
def chg (a b : Sps) : List Ev := evs (bl a) (bl b) false false

/-- **What choose answers is the set of the days whose membership is kept.** -/
theorem choose_set (keep : Bool → Bool → Bool) (hk : keep false false = false) (a b : Sps) (ha : validB a = true) (hb : validB b = true) :
    IsSet (fun d => keep (mem a d) (mem b d)) (run keep (chg a b)).2.2 := by
  have xa := asc_bl ha
  have xb := asc_bl hb
  have e1 := evs_asc _ (bl a) (bl b) false false (-1) rfl xa xb
  have hm : ∀ d, cur keep (evs (bl a) (bl b) false false) false d = keep (mem a d) (mem b d) := fun d => by
    have := cur_at keep (evs (bl a) (bl b) false false) false false d
    rw [hk] at this
    rw [this, evs_at _ (bl a) (bl b) false false (-1) d rfl xa xb, mb_bl ha, mb_bl hb]
  have big : ∀ l, validB l = true → ∀ d, 65536 ≤ d → mem l d = false := fun l hl d hd => by
    rw [← Bool.not_eq_true]; intro x; have := mem_bd hl d x; omega
  obtain ⟨r1, r2⟩ := run_rest keep (evs (bl a) (bl b) false false) 0 false [] (-1) e1 rfl (by rw [lastTo_nil]; omega) (fun h => by cases h)
    (fun d hd => by rw [hm, big a ha d hd, big b hb d hd, hk])
  refine ⟨r1, fun d => ?_⟩
  have := r2 d
  rw [mem_nil, hm] at this
  simpa [run, chg] using this

theorem bl_length (l : Sps) : (bl l).length = 2 * l.length := by
  induction l with
  | nil => rfl
  | cons s l ih => rw [bl, List.length_cons, List.length_cons, ih, List.length_cons]; omega

theorem evs_length : ∀ (n : Nat) (xs ys : List Int) (pa pb : Bool), xs.length + ys.length = n → (evs xs ys pa pb).length ≤ n := by
  intro n
  induction n using Nat.strongRecOn with
  | _ n ih =>
    intro xs ys pa pb hn
    cases xs with
    | nil =>
      cases ys with
      | nil => rw [evs]; simp
      | cons y ys =>
        rw [evs]
        have := ih ([] ++ ys).length (by simp at hn ⊢; omega) [] ys pa (!pb) (by simp)
        simp at hn this ⊢; omega
    | cons x xs =>
      cases ys with
      | nil =>
        rw [evs]
        have := ih xs.length (by simp at hn ⊢; omega) xs [] (!pa) pb (by simp)
        simp at hn this ⊢; omega
      | cons y ys =>
        rw [evs]
        simp only [List.length_cons] at hn
        split
        · have := ih _ (by simp; omega) xs (y :: ys) (!pa) pb rfl
          simp at this ⊢; omega
        · split
          · have := ih _ (by simp; omega) (x :: xs) ys pa (!pb) rfl
            simp at this ⊢; omega
          · have := ih _ (by omega) xs ys (!pa) (!pb) rfl
            simp at this ⊢; omega

/-- The border with number i. -/
def bord (l : Sps) (i : Nat) : Int := if i % 2 = 0 then (l.getD (i / 2) (0, 0)).1 else (l.getD (i / 2) (0, 0)).2

theorem bl_drop (l : Sps) : ∀ i, i < 2 * l.length → (bl l).drop i = bord l i :: (bl l).drop (i + 1) := by
  induction l with
  | nil => intro i hi; simp at hi
  | cons s l ih =>
    intro i hi
    rcases i with _ | _ | i
    · rfl
    · rfl
    · have := ih i (by simp at hi; omega)
      rw [bl, List.drop_succ_cons, List.drop_succ_cons, List.drop_succ_cons, List.drop_succ_cons, this]
      congr 1
      unfold bord
      rw [show (i + 1 + 1) % 2 = i % 2 by omega, show (i + 1 + 1) / 2 = i / 2 + 1 by omega]
      rfl

theorem bl_end (l : Sps) (i : Nat) (h : 2 * l.length ≤ i) : (bl l).drop i = [] := List.drop_eq_nil_of_le (by rw [bl_length]; omega)

theorem asc_mem {p x : Int} {l : List Int} (h : asc p l) (hx : x ∈ l) : p < x ∧ x ≤ 65536 := by
  induction l generalizing p with
  | nil => cases hx
  | cons y l ih =>
    rcases List.mem_cons.1 hx with rfl | hx
    · exact ⟨h.1, h.2.1⟩
    · have := ih h.2.2 hx; have := h.1; omega

theorem bord_bd {l : Sps} (h : validB l = true) {i : Nat} (hi : i < 2 * l.length) : 0 ≤ bord l i ∧ bord l i ≤ 65536 := by
  have := asc_mem (asc_bl h) (x := bord l i) (List.mem_of_mem_drop (i := i) (by rw [bl_drop l i hi]; simp))
  omega

theorem evs_nn (pa pb : Bool) : evs [] [] pa pb = [] := by rw [evs]
theorem evs_xn (x : Int) (xs : List Int) (pa pb : Bool) : evs (x :: xs) [] pa pb = (x, !pa, pb) :: evs xs [] (!pa) pb := by rw [evs]
theorem evs_ny (y : Int) (ys : List Int) (pa pb : Bool) : evs [] (y :: ys) pa pb = (y, pa, !pb) :: evs [] ys pa (!pb) := by rw [evs]
theorem evs_lt {x y : Int} (h : x < y) (xs ys : List Int) (pa pb : Bool) : evs (x :: xs) (y :: ys) pa pb = (x, !pa, pb) :: evs xs (y :: ys) (!pa) pb := by rw [evs, if_pos h]
theorem evs_gt {x y : Int} (h : y < x) (xs ys : List Int) (pa pb : Bool) : evs (x :: xs) (y :: ys) pa pb = (y, pa, !pb) :: evs (x :: xs) ys pa (!pb) := by rw [evs, if_neg (by omega), if_pos h]
theorem evs_eq (x : Int) (xs ys : List Int) (pa pb : Bool) : evs (x :: xs) (x :: ys) pa pb = (x, !pa, !pb) :: evs xs ys (!pa) (!pb) := by rw [evs, if_neg (by omega), if_neg (by omega)]

end Sp
