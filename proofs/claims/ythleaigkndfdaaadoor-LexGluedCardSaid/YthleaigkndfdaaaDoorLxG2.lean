/- The law LexGlued. -/
import Derived.Test.YthleaigkndfdaaaDoorLxG1
import Derived.Test.YthleaigkndfdaaaDoorLxL3
namespace Go.Proofs.YthleaigkndfdaaaDoor
open Go.RowKit Go.Shelf

def glue (a b : ByteArray) : ByteArray := a ++ ⟨#[10]⟩ ++ b
theorem ls_glue (a b : ByteArray) : ls (glue a b) = ls a ++ 10 :: ls b := by
  unfold glue; simp [ls]
theorem evs_glue (a b : ByteArray) : evsOf (glue a b) = if Lx.okE (evsOf a) = true then evsOf a ++ (evsOf b).map (Lx.shE (a.size + 1)) else evsOf a := by
  unfold evsOf
  rw [ls_glue, Lx.ev_glued, Lx.ev_from gd (ls b)]
  simp only [Nat.zero_add, ls_len]

theorem glue_cases (a b : ByteArray) (ha : a.size ≤ 1500) (hb : b.size ≤ 1500) :
    (lexE' a ≠ 0 ∧ lexE' (glue a b) = lexE' a ∧ lexP' (glue a b) = lexP' a ∧ lexT' (glue a b) = []) ∨
    (lexE' a = 0 ∧ lexE' b ≠ 0 ∧ lexE' (glue a b) = lexE' b ∧ lexP' (glue a b) = ((lexP' b).1 + ((ls a).count 10 + 1), (lexP' b).2) ∧ lexT' (glue a b) = []) ∨
    (lexE' a = 0 ∧ lexE' b = 0 ∧ lexE' (glue a b) = 0 ∧ (lexT' (glue a b)).map kt2 = (lexT' a ++ lexT' b).map kt2) := by
  have hz : (glue a b).size ≤ 3001 := by
    unfold glue; rw [ByteArray.size_append, ByteArray.size_append, show (⟨#[10]⟩ : ByteArray).size = 1 from rfl]; omega
  have hg := evs_glue a b
  rcases lex_cases a (by omega) with ⟨a1, a2, a3, aok, a5⟩ | ⟨x, a1, a2, ane, a3, a4⟩
  · rw [if_pos aok] at hg
    rcases lex_cases b (by omega) with ⟨b1, b2, b3, bok, b5⟩ | ⟨y, b1, b2, bne, b3, b4⟩
    · right; right
      have hok : Lx.okE (evsOf (glue a b)) = true := by rw [hg, Lx.okE_append, aok, Lx.okE_sh, bok]; rfl
      rcases lex_cases (glue a b) (by omega) with ⟨c1, c2, c3, _, _⟩ | ⟨z, c1, _⟩
      · refine ⟨a1, b1, c1, ?_⟩
        rw [c3, a3, b3, List.map_append, kt2_toks, kt2_toks, kt2_toks, hg]
        have : Lx.kt (evsOf a ++ (evsOf b).map (Lx.shE (a.size + 1))) = Lx.kt (evsOf a) ++ Lx.kt (evsOf b) := by
          rw [← Lx.kt_sh (a.size + 1) (evsOf b)]; unfold Lx.kt; rw [List.map_append]
        rw [this, List.map_append]
      · rw [Lx.erOf_none.2 hok] at c1; cases c1
    · right; left
      obtain ⟨k1, _⟩ := errors b (by omega) y b1
      have her : Lx.erOf (evsOf (glue a b)) = some (Lx.shE (a.size + 1) y) := by
        rw [hg]
        unfold Lx.erOf
        rw [List.find?_append]
        have h1 : Lx.erOf (evsOf a) = none := a5
        have h2 := Lx.erOf_sh (a.size + 1) (evsOf b)
        rw [b1] at h2
        unfold Lx.erOf at h1 h2
        rw [h1, h2]; rfl
      rcases lex_cases (glue a b) (by omega) with ⟨_, _, _, _, c5⟩ | ⟨z, c1, c2, _, c3, c4⟩
      · rw [c5] at her; cases her
      · rw [her] at c1
        have hzz : z = Lx.shE (a.size + 1) y := (Option.some.inj c1).symm
        subst hzz
        refine ⟨a1, by rw [b2]; exact bne, by rw [c2, b2]; rfl, ?_, c4⟩
        rw [c3, b3, ls_glue]
        have := Lx.pl_glue (ls a) (ls b) y.2
        rw [ls_len] at this
        rw [show (Lx.shE (a.size + 1) y).2 = a.size + 1 + y.2 by unfold Lx.shE; simp only []; omega]
        exact this
  · left
    have hno : ¬ Lx.okE (evsOf a) = true := fun h => by rw [Lx.erOf_none.2 h] at a1; cases a1
    rw [if_neg hno] at hg
    obtain ⟨k1, _⟩ := errors a (by omega) x a1
    rcases lex_cases (glue a b) (by omega) with ⟨_, _, _, _, c5⟩ | ⟨z, c1, c2, _, c3, c4⟩
    · rw [hg, a1] at c5; cases c5
    · rw [hg, a1] at c1
      have hzz : z = x := (Option.some.inj c1).symm
      subst hzz
      refine ⟨by rw [a2]; exact ane, by rw [c2, a2], ?_, c4⟩
      rw [c3, a3, ls_glue]
      exact Lx.pl_left (ls a) _ _ (by rw [ls_len]; omega)

end Go.Proofs.YthleaigkndfdaaaDoor
