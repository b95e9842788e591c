/- Plain: the set of spans that are sorted by their first days. -/
import Derived.Test.YtbpoedopdnjffaaSpPlain5
namespace Sp

/-- One span more, its first day not less than the others'. -/
def mst (set : Sps) (s : Int × Int) : Sps :=
  match set.getLast? with
  | none => [s]
  | some t => if s.1 ≤ t.2 then set.dropLast ++ [(t.1, max t.2 s.2)] else set ++ [s]

def mk (l : Sps) : Sps := l.foldl mst []

theorem mst_nil (s : Int × Int) : mst [] s = [s] := rfl
theorem mst_near (set : Sps) (t s : Int × Int) (h : s.1 ≤ t.2) : mst (set ++ [t]) s = set ++ [(t.1, max t.2 s.2)] := by
  unfold mst; rw [List.getLast?_concat]; simp [h]
theorem mst_far (set : Sps) (t s : Int × Int) (h : ¬ s.1 ≤ t.2) : mst (set ++ [t]) s = set ++ [t] ++ [s] := by
  unfold mst; rw [List.getLast?_concat]; simp [h]
theorem mk_snoc (l : Sps) (s : Int × Int) : mk (l ++ [s]) = mst (mk l) s := by
  unfold mk; rw [List.foldl_append]; rfl

theorem mst_length (set : Sps) (s : Int × Int) : (mst set s).length ≤ set.length + 1 := by
  rcases List.eq_nil_or_concat set with rfl | ⟨set, t, rfl⟩
  · simp [mst]
  · by_cases h : s.1 ≤ t.2
    · rw [List.concat_eq_append, mst_near set t s h]; simp
    · rw [List.concat_eq_append, mst_far set t s h]; simp

theorem mk_length (l : Sps) : ∀ k, k ≤ l.length → (mk (l.take k)).length ≤ k := by
  intro k
  induction k with
  | zero => intro _; simp [mk]
  | succ k ih =>
    intro hk
    have h1 := ih (by omega)
    rw [take_succ_snoc (by omega), mk_snoc]
    have := mst_length (mk (l.take k)) (l[k]'(by omega))
    omega

/-- Spans that are not empty. -/
def Fine (l : Sps) : Prop := ∀ s ∈ l, 0 ≤ s.1 ∧ s.1 < s.2 ∧ s.2 ≤ 65536
/-- Sorted by the first days. -/
def Srt (l : Sps) : Prop := ∀ i j, (h : j < l.length) → (h' : i < j) → (l[i]'(by omega)).1 ≤ l[j].1

theorem mk_law {l : Sps} (hf : Fine l) (hs : Srt l) : ∀ k, k ≤ l.length → validFrom (-1) (mk (l.take k)) = true ∧ (∀ d, mem (mk (l.take k)) d = mem (l.take k) d) ∧ ∀ set t, mk (l.take k) = set ++ [t] → ∃ i, i < k ∧ ∃ h : i < l.length, t.1 = l[i].1 := by
  intro k
  induction k with
  | zero => intro _; exact ⟨rfl, fun _ => rfl, fun set t h => by simp [mk] at h⟩
  | succ k ih =>
    intro hk
    obtain ⟨h1, h2, h3⟩ := ih (by omega)
    have hg := hf (l[k]'(by omega)) (List.getElem_mem _)
    rw [take_succ_snoc (by omega), mk_snoc]
    generalize hset : mk (l.take k) = set at h1 h2 h3
    rcases List.eq_nil_or_concat set with rfl | ⟨s0, t, rfl⟩
    · rw [mst_nil]
      refine ⟨by rw [validFrom_cons]; exact ⟨by omega, hg.2.1, hg.2.2, rfl⟩, fun d => ?_, fun set t h => ?_⟩
      · rw [mem_append, ← h2 d, mem_nil, Bool.false_or]
      · have := congrArg List.getLast? h
        rw [List.getLast?_concat] at this
        simp at this
        exact ⟨k, by omega, by omega, by rw [← this]⟩
    · rw [List.concat_eq_append] at h1 h2 h3 ⊢
      obtain ⟨i, hi, hi', ht⟩ := h3 s0 t rfl
      have hsi := hs i k (by omega) hi
      rw [← ht] at hsi
      rw [validFrom_snoc] at h1
      by_cases h : (l[k]'(by omega)).1 ≤ t.2
      · rw [mst_near _ _ _ h]
        refine ⟨validFrom_snoc.2 ⟨h1.1, h1.2.1, by dsimp only; omega, by dsimp only; omega⟩, fun d => ?_, fun set u hu => ?_⟩
        · rw [mem_append, mem_append, ← h2 d, mem_append, Bool.or_assoc]
          congr 1
          rw [mem_cons, mem_nil, mem_cons, mem_nil, mem_cons, mem_nil, Bool.or_false, Bool.or_false, Bool.or_false, Bool.eq_iff_iff]
          simp only [Bool.or_eq_true, Bool.and_eq_true, decide_eq_true_eq]
          omega
        · have := congrArg List.getLast? hu
          rw [List.getLast?_concat, List.getLast?_concat] at this
          simp at this
          exact ⟨i, by omega, hi', by rw [← this, ← ht]⟩
      · rw [mst_far _ _ _ h]
        refine ⟨validFrom_snoc.2 ⟨validFrom_snoc.2 h1, by rw [lastTo_snoc]; omega, hg.2.1, hg.2.2⟩, fun d => ?_, fun set u hu => ?_⟩
        · rw [mem_append (s0 ++ [t]), mem_append (l.take k), h2 d]
        · have := congrArg List.getLast? hu
          rw [List.getLast?_concat, List.getLast?_concat] at this
          simp at this
          exact ⟨k, by omega, by omega, by rw [← this]⟩

theorem mk_set {l : Sps} (hf : Fine l) (hs : Srt l) : IsSet (mem l) (mk l) := by
  have := mk_law hf hs l.length (Nat.le_refl _)
  rw [List.take_length] at this
  exact ⟨this.1, this.2.1⟩

theorem mem_perm {a b : Sps} (h : a.Perm b) (d : Int) : mem a d = mem b d := by
  rw [Bool.eq_iff_iff, mem_iff, mem_iff]
  exact ⟨fun ⟨s, hs, h'⟩ => ⟨s, h.mem_iff.1 hs, h'⟩, fun ⟨s, hs, h'⟩ => ⟨s, h.mem_iff.2 hs, h'⟩⟩

/-- The spans that are not empty. -/
def full (l : Sps) : Sps := l.filter fun s => decide (s.1 < s.2)

theorem mem_full (l : Sps) (d : Int) : mem (full l) d = mem l d := by
  rw [Bool.eq_iff_iff, mem_iff, mem_iff]
  unfold full
  constructor
  · rintro ⟨s, hs, h'⟩
    exact ⟨s, (List.mem_filter.1 hs).1, h'⟩
  · rintro ⟨s, hs, h'⟩
    exact ⟨s, List.mem_filter.2 ⟨hs, by simp; omega⟩, h'⟩

theorem full_snoc (l : Sps) (s : Int × Int) : full (l ++ [s]) = if s.1 < s.2 then full l ++ [s] else full l := by
  unfold full; rw [List.filter_append]; by_cases h : s.1 < s.2 <;> simp [h]

theorem full_length (l : Sps) : (full l).length ≤ l.length := List.length_filter_le _ _

end Sp
