/- Days that are marked, one by one: the set of them (the reference's way). -/
import Derived.Test.YtbpoedopdnjffaaSpPlain8
namespace Sp

/-- The set of the marked days below n. -/
def runs (f : Nat → Bool) : Nat → Sps
  | 0 => []
  | n + 1 => if f n then (if 0 < n ∧ f (n - 1) = true then (runs f n).dropLast ++ [(((runs f n).getLast?.getD (0, 0)).1, (n : Int) + 1)] else runs f n ++ [((n : Int), (n : Int) + 1)]) else runs f n

theorem runs_no {f : Nat → Bool} {n : Nat} (h : f n = false) : runs f (n + 1) = runs f n := by rw [runs, if_neg (by rw [h]; decide)]
theorem runs_new {f : Nat → Bool} {n : Nat} (h : f n = true) (h' : ¬ (0 < n ∧ f (n - 1) = true)) : runs f (n + 1) = runs f n ++ [((n : Int), (n : Int) + 1)] := by rw [runs, if_pos h, if_neg h']
theorem runs_on {f : Nat → Bool} {n : Nat} (h : f n = true) (h' : 0 < n ∧ f (n - 1) = true) {s : Sps} {t : Int × Int} (hs : runs f n = s ++ [t]) : runs f (n + 1) = s ++ [(t.1, (n : Int) + 1)] := by
  rw [runs, if_pos h, if_pos h', hs]; simp

/-- What the set is. -/
structure RunsAre (f : Nat → Bool) (n : Nat) (l : Sps) : Prop where
  valid : validFrom (-1) l = true
  mem : ∀ d : Int, Sp.mem l d = true ↔ 0 ≤ d ∧ d < n ∧ f d.toNat = true
  last : lastTo (-1) l ≤ n
  open_ : 0 < n → f (n - 1) = true → ∃ (s : Sps) (t : Int × Int), l = s ++ [t] ∧ t.2 = (n : Int)
  shut : 0 < n → f (n - 1) = false → lastTo (-1) l < n

theorem runs_are (f : Nat → Bool) : ∀ n, n ≤ 65536 → RunsAre f n (runs f n) := by
  intro n
  induction n with
  | zero => intro _; exact ⟨rfl, fun d => by rw [show runs f 0 = [] from rfl, mem_nil]; constructor <;> intro h <;> simp at h; omega, by rw [show runs f 0 = [] from rfl, lastTo_nil]; omega, fun h => by omega, fun h => by omega⟩
  | succ n ih =>
    intro hn
    have ih := ih (by omega)
    cases hf : f n with
    | false =>
      rw [runs_no hf]
      refine ⟨ih.valid, fun d => ?_, by have := ih.last; push_cast; omega, fun _ h => ?_, fun _ _ => by have := ih.last; push_cast; omega⟩
      · rw [ih.mem]
        constructor
        · rintro ⟨h1, h2, h3⟩; exact ⟨h1, by push_cast; omega, h3⟩
        · rintro ⟨h1, h2, h3⟩
          refine ⟨h1, ?_, h3⟩
          rcases Int.lt_or_le d n with h | h
          · exact h
          · have : d.toNat = n := by push_cast at h2; omega
            rw [this, hf] at h3; cases h3
      · rw [Nat.add_sub_cancel, hf] at h; cases h
    | true =>
      have hmem : ∀ d : Int, (0 ≤ d ∧ d < ((n + 1 : Nat) : Int) ∧ f d.toNat = true) ↔ (0 ≤ d ∧ d < n ∧ f d.toNat = true) ∨ d = n := by
        intro d
        constructor
        · rintro ⟨h1, h2, h3⟩
          rcases Int.lt_or_le d n with h | h
          · exact .inl ⟨h1, h, h3⟩
          · right; push_cast at h2; omega
        · rintro (⟨h1, h2, h3⟩ | rfl)
          · exact ⟨h1, by push_cast; omega, h3⟩
          · exact ⟨by omega, by push_cast; omega, by rw [Int.toNat_natCast]; exact hf⟩
      by_cases h' : 0 < n ∧ f (n - 1) = true
      · obtain ⟨s, t, hs, ht⟩ := ih.open_ h'.1 h'.2
        rw [runs_on hf h' hs]
        have hv := ih.valid
        rw [hs, validFrom_snoc] at hv
        refine ⟨by rw [validFrom_snoc]; exact ⟨hv.1, hv.2.1, by dsimp only; omega, by dsimp only; omega⟩, fun d => ?_, by rw [lastTo_snoc]; push_cast; omega, fun _ _ => ⟨s, _, rfl, by push_cast; rfl⟩, fun _ h => ?_⟩
        · rw [hmem, ← ih.mem, hs, mem_append, mem_append, Bool.or_eq_true, Bool.or_eq_true, mem_cons_iff, mem_cons_iff, mem_nil]
          dsimp only
          have := hv.2.2.1
          constructor
          · rintro (h | ⟨h1, h2⟩ | h)
            · exact .inl (.inl h)
            · rcases Int.lt_or_le d n with h | h
              · exact .inl (.inr (.inl ⟨h1, by omega⟩))
              · right; omega
            · cases h
          · rintro ((h | ⟨h1, h2⟩ | h) | rfl)
            · exact .inl h
            · exact .inr (.inl ⟨h1, by omega⟩)
            · cases h
            · exact .inr (.inl ⟨by omega, by omega⟩)
        · rw [Nat.add_sub_cancel, hf] at h; cases h
      · rw [runs_new hf h']
        have hl : lastTo (-1) (runs f n) < n := by
          rcases Nat.eq_zero_or_pos n with rfl | h0
          · rw [show runs f 0 = [] from rfl, lastTo_nil]; omega
          · refine ih.shut h0 ?_
            cases hc : f (n - 1) with
            | false => rfl
            | true => exact absurd ⟨h0, hc⟩ h'
        refine ⟨by rw [validFrom_snoc]; exact ⟨ih.valid, by dsimp only; omega, by dsimp only; omega, by dsimp only; omega⟩, fun d => ?_, by rw [lastTo_snoc]; push_cast; omega, fun _ _ => ⟨_, _, rfl, by push_cast; rfl⟩, fun _ h => ?_⟩
        · rw [hmem, ← ih.mem, mem_append, Bool.or_eq_true, mem_cons_iff, mem_nil]
          dsimp only
          constructor
          · rintro (h | ⟨h1, h2⟩ | h)
            · exact .inl h
            · right; omega
            · cases h
          · rintro (h | rfl)
            · exact .inl h
            · exact .inr (.inl ⟨by omega, by omega⟩)
        · rw [Nat.add_sub_cancel, hf] at h; cases h

/-- The set of marks, as a predicate on all days. -/
def mk65 (f : Nat → Bool) (d : Int) : Bool := decide (0 ≤ d) && decide (d < 65536) && f d.toNat
theorem runs_set (f : Nat → Bool) : IsSet (mk65 f) (runs f 65536) := by
  have h := runs_are f 65536 (Nat.le_refl _)
  refine ⟨h.valid, fun d => ?_⟩
  rw [Bool.eq_iff_iff, h.mem]
  unfold mk65
  simp only [Bool.and_eq_true, decide_eq_true_eq]
  constructor
  · rintro ⟨h1, h2, h3⟩; exact ⟨⟨h1, h2⟩, h3⟩
  · rintro ⟨⟨h1, h2⟩, h3⟩; exact ⟨h1, h2, h3⟩
theorem runs_length (f : Nat → Bool) : ∀ n, (runs f n).length ≤ n
  | 0 => Nat.le_refl _
  | n + 1 => by
    have ih := runs_length f n
    cases hf : f n with
    | false => rw [runs_no hf]; omega
    | true =>
      by_cases h' : 0 < n ∧ f (n - 1) = true
      · rw [runs, if_pos hf, if_pos h']; simp; omega
      · rw [runs_new hf h']; simp; omega

end Sp
