/- LexCovers: what a round of its loop meets. -/
import Derived.Test.YthleaigkndfdaaaDoorLxC1
namespace Go.Proofs.YthleaigkndfdaaaDoor
open Go.RowKit Go.Shelf

structure CInv (s : ByteArray) (i e : Nat) (op : Option Nat) : Prop where
  cov : Lx.Cov (ls s) e op ((evsOf s).drop i)
  first : i = 0 → op = none
  open_ : op ≠ none → 0 < e ∧ 0 < i ∧ ∀ h : i - 1 < (evsOf s).length, (evsOf s)[i - 1].1.2.1 ≠ 5
  le : e ≤ s.size

theorem ls_extract (s : ByteArray) (a b : Nat) : ls (s.extract a b) = ((ls s).take b).drop a := ls_ext s a b
theorem take_drop_eq (l : Lx.Bs) (a n : Nat) : ((l.take (a + n)).drop a) = (l.drop a).take n := by
  rw [List.drop_take, Nat.add_sub_cancel_left]

theorem cov_end (s : ByteArray) (e : Nat) (op : Option Nat) (h : CInv s (evsOf s).length e op) : Lx.emp (ls (s.extract e s.size)) = true := by
  have hc := h.cov
  rw [List.drop_length] at hc
  rw [ls_extract, ls_take_all]
  exact hc.2

theorem cov_step (s : ByteArray) (i e : Nat) (op : Option Nat) (h : CInv s i e op) (hi : i < (evsOf s).length) :
    ((evsOf s)[i].1.2.1 = 5 ∧ (evsOf s)[i].1.2.2 = [] ∧ (evsOf s)[i].2 = e ∧ 0 < i ∧ (∀ h : i - 1 < (evsOf s).length, (evsOf s)[i - 1].1.2.1 ≠ 5) ∧
      (∀ h : i + 1 < (evsOf s).length, Lx.line (ls s) e < Lx.line (ls s) (evsOf s)[i + 1].2) ∧ CInv s (i + 1) e none) ∨
    ((evsOf s)[i].1.2.1 ≠ 5 ∧ (evsOf s)[i].1.2.1 ≤ 4 ∧ e ≤ (evsOf s)[i].2 ∧ 1 ≤ (evsOf s)[i].1.2.2.length ∧ (evsOf s)[i].2 + (evsOf s)[i].1.2.2.length ≤ s.size ∧
      s.extract (evsOf s)[i].2 ((evsOf s)[i].2 + (evsOf s)[i].1.2.2.length) = bs (evsOf s)[i].1.2.2 ∧ Lx.emp (ls (s.extract e (evsOf s)[i].2)) = true ∧
      (∃ h : i + 1 < (evsOf s).length, Lx.line (ls s) (evsOf s)[i + 1].2 = Lx.line (ls s) (evsOf s)[i].2) ∧ CInv s (i + 1) ((evsOf s)[i].2 + (evsOf s)[i].1.2.2.length) (some ((evsOf s)[i].2 + (evsOf s)[i].1.2.2.length))) := by
  have hc := h.cov
  rw [List.drop_eq_getElem_cons hi] at hc
  rcases hc with ⟨k5, t0, ho, hop, hr⟩ | ⟨k5, k4, he, ht, hl, htx, hemp, _, _, hlt, hr⟩
  · left
    obtain ⟨q1, q2, q3⟩ := h.open_ hop
    refine ⟨k5, t0, ho, q2, q3, fun hi2 => ?_, ⟨hr, fun h => by omega, fun h => absurd rfl h, h.le⟩⟩
    rw [List.drop_eq_getElem_cons hi2] at hr
    rcases hr with ⟨_, _, _, h, _⟩ | ⟨_, _, _, _, _, _, _, _, h, _⟩
    · exact absurd rfl h
    · exact h rfl q1
  · right
    have ht1 : 1 ≤ (evsOf s)[i].1.2.2.length := List.length_pos_iff.2 ht
    rw [ls_len] at hl
    refine ⟨k5, k4, he, ht1, hl, ?_, ?_, ?_, ⟨hr, fun h => by omega, fun _ => ⟨by omega, by omega, fun _ => k5⟩, hl⟩⟩
    · apply bs_ls_eq
      rw [ls_extract, take_drop_eq]; exact htx
    · rw [ls_extract, show (evsOf s)[i].2 = e + ((evsOf s)[i].2 - e) by omega, take_drop_eq]
      exact hemp
    · by_cases hi2 : i + 1 < (evsOf s).length
      · refine ⟨hi2, ?_⟩
        rw [List.drop_eq_getElem_cons hi2] at hr
        rcases hr with ⟨_, _, h, _, _⟩ | ⟨_, _, _, _, _, _, _, h, _⟩
        · rw [h]; exact hlt
        · rw [h (by simp)]; exact hlt
      · rw [List.drop_of_length_le (by omega)] at hr
        cases hr.1

theorem cov_start (s : ByteArray) (h : Lx.okE (evsOf s) = true) : CInv s 0 0 none :=
  ⟨Lx.cov_all gd (ls s) h, fun _ => rfl, fun h => absurd rfl h, Nat.zero_le _⟩

end Go.Proofs.YthleaigkndfdaaaDoor
