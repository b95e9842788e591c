/- Plain: how many days are before a day; the day with a number. -/
import Derived.Test.YtbpoedopdnjffaaSpPlain2
namespace Sp

/-- The days of spans that are less than a day. -/
def bef : Sps → Int → Int
  | [], _ => 0
  | s :: l, d => (if s.1 < d then min s.2 d - s.1 else 0) + bef l d

theorem bef_snoc (l : Sps) (s : Int × Int) (d : Int) : bef (l ++ [s]) d = bef l d + (if s.1 < d then min s.2 d - s.1 else 0) := by
  induction l with
  | nil => simp [bef]
  | cons t l ih => rw [List.cons_append, bef, bef, ih]; omega

theorem bef_bd {l : Sps} : ∀ {p : Int}, validFrom p l = true → ∀ d, 0 ≤ bef l d ∧ (p ≤ 65536 → bef l d ≤ 65536 - p) := by
  induction l with
  | nil => intro p _ d; exact ⟨by simp [bef], fun h => by simp [bef]; omega⟩
  | cons s l ih =>
    intro p h d
    rw [validFrom_cons] at h
    have := ih h.2.2.2 d
    rw [bef]
    split <;> omega

theorem take_succ_snoc {l : Sps} {k : Nat} (h : k < l.length) : l.take (k + 1) = l.take k ++ [l[k]] := List.take_succ_eq_append_getElem h

theorem valid_take {l : Sps} (h : validB l = true) (k : Nat) : validB (l.take k) = true := by
  unfold validB at *
  rw [← List.take_append_drop k l, validFrom_append] at h
  exact h.1

theorem valid_get {l : Sps} (h : validB l = true) {k : Nat} (hk : k < l.length) : 0 ≤ l[k].1 ∧ l[k].1 < l[k].2 ∧ l[k].2 ≤ 65536 := by
  have h1 := valid_take h (k + 1)
  unfold validB at h1
  rw [take_succ_snoc hk, validFrom_snoc] at h1
  have h2 : (-1 : Int) ≤ lastTo (-1) (l.take k) := by
    by_cases h0 : l.take k = []
    · rw [h0, lastTo_nil]; omega
    · obtain ⟨s, t, e⟩ := List.exists_cons_of_ne_nil h0
      have h3 := h1.1
      have h4 : mem (l.take k) s.1 = true := by rw [e] at h3 ⊢; rw [validFrom_cons] at h3; rw [mem_cons_iff]; left; omega
      have := mem_last h3 _ h4
      have := mem_bd h3 _ h4
      omega
  omega

/-- The day with number n. -/
def nth : Sps → Int → Option Int
  | [], _ => none
  | s :: l, n => if n < s.2 - s.1 then some (s.1 + n) else nth l (n - (s.2 - s.1))

end Sp
