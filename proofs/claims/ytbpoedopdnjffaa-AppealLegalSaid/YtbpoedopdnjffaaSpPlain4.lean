/- Plain: finding a span; within. -/
import Derived.Test.YtbpoedopdnjffaaSpPlain3
namespace Sp

theorem valid_mono {l : Sps} (h : validB l = true) {i j : Nat} (hij : i < j) (hj : j < l.length) : (l[i]'(by omega)).2 < l[j].1 := by
  have h1 := valid_take h (j + 1)
  unfold validB at h1
  rw [take_succ_snoc hj, validFrom_snoc] at h1
  have h3 := h1.1
  have hi' : i < (l.take j).length := by rw [List.length_take]; omega
  have h4 : mem (l.take j) ((l[i]'(by omega)).2 - 1) = true := by
    rw [mem_iff]
    have hg := valid_get h (k := i) (by omega)
    refine ⟨l[i]'(by omega), ?_, by omega, by omega⟩
    have := List.getElem_mem hi'
    rw [List.getElem_take] at this
    exact this
  have := mem_last h3 _ h4
  omega

/-- k is the index of the first span that ends behind the day. -/
structure Fnd (l : Sps) (d : Int) (k : Nat) : Prop where
  le : k ≤ l.length
  lo : ∀ i, (h : i < l.length) → i < k → l[i].2 ≤ d
  hi : ∀ i, (h : i < l.length) → k ≤ i → d < l[i].2

theorem Fnd.mem {l : Sps} {d : Int} {k : Nat} (hv : validB l = true) (h : Fnd l d k) : mem l d = true ↔ ∃ hk : k < l.length, l[k].1 ≤ d := by
  rw [mem_iff]
  constructor
  · rintro ⟨s, hs, h1, h2⟩
    obtain ⟨i, hi, rfl⟩ := List.getElem_of_mem hs
    have hki : k ≤ i := by
      rcases Nat.lt_or_ge i k with c | c
      · have := h.lo i hi c; omega
      · exact c
    refine ⟨by omega, ?_⟩
    rcases Nat.eq_or_lt_of_le hki with e | c
    · subst e; exact h1
    · have h3 := valid_mono hv c hi
      have := valid_get hv (k := k) (by omega)
      omega
  · rintro ⟨hk, h1⟩
    exact ⟨l[k], List.getElem_mem hk, h1, h.hi k hk (Nat.le_refl _)⟩

/-- A span lies in one of some spans. -/
def inOne (b : Sps) (s : Int × Int) : Bool := b.any fun t => decide (t.1 ≤ s.1) && decide (s.2 ≤ t.2)
def withinB (a b : Sps) : Bool := a.all (inOne b)

theorem inOne_iff (b : Sps) (s : Int × Int) : inOne b s = true ↔ ∃ t ∈ b, t.1 ≤ s.1 ∧ s.2 ≤ t.2 := by
  unfold inOne; simp

theorem Fnd.inOne {b : Sps} {s : Int × Int} {k : Nat} (hv : validB b = true) (hs : s.1 < s.2) (h : Fnd b s.1 k) : Sp.inOne b s = true ↔ ∃ hk : k < b.length, b[k].1 ≤ s.1 ∧ s.2 ≤ b[k].2 := by
  rw [inOne_iff]
  constructor
  · rintro ⟨t, ht, h1, h2⟩
    obtain ⟨i, hi, rfl⟩ := List.getElem_of_mem ht
    have hki : k ≤ i := by
      rcases Nat.lt_or_ge i k with c | c
      · have := h.lo i hi c; omega
      · exact c
    rcases Nat.eq_or_lt_of_le hki with e | c
    · subst e; exact ⟨hi, h1, h2⟩
    · have h3 := valid_mono hv c hi
      have h4 := h.hi k (by omega) (Nat.le_refl _)
      omega
  · rintro ⟨hk, h1, h2⟩
    exact ⟨b[k], List.getElem_mem hk, h1, h2⟩

/-- Days one after another that are all in a set are in one span of it. -/
theorem one_span {b : Sps} (hv : validB b = true) {x y : Int} (hxy : x < y) (h : ∀ d, x ≤ d → d < y → mem b d = true) : ∃ t ∈ b, t.1 ≤ x ∧ y ≤ t.2 := by
  have hx := h x (by omega) hxy
  rw [mem_iff] at hx
  obtain ⟨t, ht, h1, h2⟩ := hx
  refine ⟨t, ht, h1, ?_⟩
  rcases Int.lt_or_le t.2 y with c | c
  · have h3 := h t.2 (by omega) c
    rw [mem_iff] at h3
    obtain ⟨u, hu, h4, h5⟩ := h3
    obtain ⟨i, hi, rfl⟩ := List.getElem_of_mem ht
    obtain ⟨j, hj, rfl⟩ := List.getElem_of_mem hu
    rcases Nat.lt_trichotomy i j with e | e | e
    · have := valid_mono hv e hj; omega
    · subst e; omega
    · have := valid_mono hv e hi; omega
  · exact c

theorem within_iff {a b : Sps} (ha : validB a = true) (hb : validB b = true) : withinB a b = true ↔ ∀ d, mem a d = true → mem b d = true := by
  unfold withinB
  rw [List.all_eq_true]
  constructor
  · intro h d hd
    rw [mem_iff] at hd ⊢
    obtain ⟨s, hs, h1, h2⟩ := hd
    obtain ⟨t, ht, h3, h4⟩ := (inOne_iff b s).1 (h s hs)
    exact ⟨t, ht, by omega, by omega⟩
  · intro h s hs
    rw [inOne_iff]
    obtain ⟨i, hi, rfl⟩ := List.getElem_of_mem hs
    have := valid_get ha hi
    exact one_span hb this.2.1 fun d h1 h2 => h d ((mem_iff a d).2 ⟨a[i], hs, h1, h2⟩)

end Sp
