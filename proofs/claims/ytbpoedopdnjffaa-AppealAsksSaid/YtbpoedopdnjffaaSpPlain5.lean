/- Plain: bridging short gaps. -/
import Derived.Test.YtbpoedopdnjffaaSpPlain4
namespace Sp

/-- One span more, bridged. -/
def bst (n : Int) (set : Sps) (s : Int × Int) : Sps :=
  match set.getLast? with
  | none => [s]
  | some t => if s.1 - t.2 ≤ n then set.dropLast ++ [(t.1, s.2)] else set ++ [s]

def brg (n : Int) (l : Sps) : Sps := l.foldl (bst n) []

theorem bst_nil (n : Int) (s : Int × Int) : bst n [] s = [s] := rfl
theorem bst_near {n : Int} (set : Sps) (t s : Int × Int) (h : s.1 - t.2 ≤ n) : bst n (set ++ [t]) s = set ++ [(t.1, s.2)] := by
  unfold bst; rw [List.getLast?_concat]; simp [h]
theorem bst_far {n : Int} (set : Sps) (t s : Int × Int) (h : ¬ s.1 - t.2 ≤ n) : bst n (set ++ [t]) s = set ++ [t] ++ [s] := by
  unfold bst; rw [List.getLast?_concat]; simp [h]
theorem brg_snoc (n : Int) (l : Sps) (s : Int × Int) : brg n (l ++ [s]) = bst n (brg n l) s := by
  unfold brg; rw [List.foldl_append]; rfl

theorem bst_length (n : Int) (set : Sps) (s : Int × Int) : (bst n set s).length ≤ set.length + 1 := by
  rcases List.eq_nil_or_concat set with rfl | ⟨set, t, rfl⟩
  · simp [bst]
  · by_cases h : s.1 - t.2 ≤ n
    · rw [List.concat_eq_append, bst_near set t s h]; simp
    · rw [List.concat_eq_append, bst_far set t s h]; simp

theorem brg_length (n : Int) (l : Sps) : ∀ k, k ≤ l.length → (brg n (l.take k)).length ≤ k := by
  intro k
  induction k with
  | zero => intro _; simp [brg]
  | succ k ih =>
    intro hk
    have h1 := ih (by omega)
    rw [take_succ_snoc (by omega), brg_snoc]
    have := bst_length n (brg n (l.take k)) (l[k]'(by omega))
    omega

/-- Between the set and its bridge: it ends where the set ends, and begins where it begins. -/
theorem brg_valid {l : Sps} {n : Int} (hv : validB l = true) : ∀ k, k ≤ l.length → validFrom (-1) (brg n (l.take k)) = true ∧ lastTo (-1) (brg n (l.take k)) = lastTo (-1) (l.take k) := by
  intro k
  induction k with
  | zero => intro _; simp [brg, validFrom]
  | succ k ih =>
    intro hk
    obtain ⟨h1, h2⟩ := ih (by omega)
    have h3 := valid_take hv (k + 1)
    unfold validB at h3
    rw [take_succ_snoc (by omega), validFrom_snoc] at h3
    rw [take_succ_snoc (by omega), brg_snoc, lastTo_snoc]
    generalize brg n (l.take k) = set at h1 h2
    rcases List.eq_nil_or_concat set with rfl | ⟨set, t, rfl⟩
    · rw [bst_nil]
      refine ⟨?_, rfl⟩
      rw [validFrom_cons]
      rw [lastTo_nil] at h2
      refine ⟨by omega, h3.2.2.1, h3.2.2.2, rfl⟩
    · rw [List.concat_eq_append] at h1 h2 ⊢
      rw [lastTo_snoc] at h2
      by_cases h : (l[k]'(by omega)).1 - t.2 ≤ n
      · rw [bst_near _ _ _ h, lastTo_snoc]
        rw [validFrom_snoc] at h1
        exact ⟨validFrom_snoc.2 ⟨h1.1, h1.2.1, by dsimp only; omega, by dsimp only; omega⟩, rfl⟩
      · rw [bst_far _ _ _ h, lastTo_snoc]
        exact ⟨validFrom_snoc.2 ⟨h1, by rw [lastTo_snoc]; omega, by omega, by omega⟩, rfl⟩

end Sp
