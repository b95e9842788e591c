/- AppealLegal: the plain law. -/
import Derived.Test.YtbpoedopdnjffaaApFol
namespace Go.Proofs.Ytbpoedopdnjffaa
open Go.RowKit Go.Shelf Sp

/-- A case beside what it was: the same, or what the filing about it makes of it. -/
def LegOk (f : Fl) (e : Int) (k : Nat) (c c' : Cs) : Prop :=
  (¬ (e = 0 ∧ f.case = (k : Int) + 1) ∧ c' = c) ∨
  ((e = 0 ∧ f.case = (k : Int) + 1) ∧ opensP f = false ∧ (atP c f.day).st = needP f.kind ∧ (f.kind = 2 → f.n ≤ (atP c f.day).days) ∧ bare (folP f (atP c f.day)) = bare (atP c' f.day) ∧ (0 ≤ (atP c f.day).level ∧ (atP c f.day).level ≤ 3) ∧ (1 ≤ (atP c f.day).days ∧ (atP c f.day).days ≤ 400))

structure Leg (D D' : Dk) (f : Fl) (e : Int) : Prop where
  w : f.Wf
  l1 : max 0 D.last ≤ f.day
  l2 : max 0 D'.last ≤ f.day
  grow : e = 0 → opensP f = true → D'.cs.length = D.cs.length + 1
  same : ¬ (e = 0 ∧ opensP f = true) → D'.cs.length = D.cs.length
  each : ∀ k, (h : k < D.cs.length) → (h' : k < D'.cs.length) → LegOk f e k D.cs[k] D'.cs[k]
  new : e = 0 → opensP f = true → ∀ h : D.cs.length < D'.cs.length, atP D'.cs[D.cs.length] f.day = newCase f
  e402 : e = 402 → f.kind = 2 ∧ ∃ j, ∃ hj : j < D.cs.length, f.case = (j : Int) + 1 ∧ D.cs[j].days < f.n
  e6 : e = 6 → (D.cs.length : Int) < f.case
theorem leg {D : Dk} {f : Fl} (hD : D.Ok) (hi : ∀ c ∈ D.cs, c.Inv D.last) (hw : f.Wf) (hn : D.num < 1000) (h4 : errD D f ≠ 400) : Leg D (stepD D f) f (errD D f) := by
  have hwf := (wf_iff f).2 hw
  have hlast : D.last ≤ f.day := by
    by_cases hl : f.day < D.last
    · exfalso
      apply h4
      unfold errD
      rw [if_neg (by omega), if_pos hwf, if_pos hl]
    · omega
  have heL : errD D f = errL D.cs f := by
    unfold errD
    rw [if_neg (by omega), if_pos hwf, if_neg (by omega)]
  have hday := hw.day
  have hDl := hD.last
  by_cases he : errD D f = 0
  · have hE : errL D.cs f = 0 := by rw [← heL]; exact he
    rw [stepD_yes he, he]
    cases ho : opensP f with
    | true =>
      obtain ⟨h0, e⟩ := effL_open (D := D) ho hw
      refine ⟨hw, by omega, by dsimp only; omega, fun _ _ => by dsimp only; rw [e]; simp, fun h => absurd ⟨rfl, ho⟩ h, fun k h h' => .inl ⟨by omega, ?_⟩, fun _ _ h => ?_, by omega, by omega⟩
      · simp only [e]
        rw [List.getElem_append_left h]
      · simp only [e]
        rw [List.getElem_append_right (Nat.le_refl _)]
        simp only [Nat.sub_self, List.getElem_cons_zero]
        have e9 : passP (newCase f) f.day = newCase f := passP_stay fun _ => by
          have := (newCase_inv hw ho).op
          have e3 := (newCase_own hw ho).2.2.1
          rw [e3] at this
          exact this.2.2
        have hno : (newCase f).hold = false ∧ (newCase f).held = [] := by unfold newCase; split <;> exact ⟨rfl, rfl⟩
        unfold atP
        rw [e9, heldP_off hno.1]
    | false =>
      obtain ⟨j, hj, hcj, e, hst, hch⟩ := effL_own ho hE hw
      refine ⟨hw, by omega, by dsimp only; omega, fun _ h => absurd (ho.symm.trans h) (by decide), fun _ => by dsimp only; rw [e]; simp, fun k h h' => ?_, fun _ h => absurd (ho.symm.trans h) (by decide), by omega, by omega⟩
      simp only [e]
      by_cases hjk : j = k
      · subst hjk
        rw [List.getElem_set_self]
        have ok := hD.cs _ (List.getElem_mem hj)
        have iv := hi _ (List.getElem_mem hj)
        have okp := passP_ok ok f.day
        exact .inr ⟨⟨rfl, hcj⟩, ho, hst, hch, fol_ok hw ho ok iv hlast, okp.lev, okp.days⟩
      · rw [List.getElem_set_ne hjk]
        exact .inl ⟨by omega, rfl⟩
  · rw [stepD_no he]
    refine ⟨hw, by omega, by dsimp only; omega, fun h => absurd h he, fun _ => rfl, fun k h h' => .inl ⟨fun h => he h.1, rfl⟩, fun h => absurd h he, fun h => ?_, fun h => ?_⟩
    · rw [heL] at h
      unfold errL at h
      split at h
      · split at h <;> omega
      · rename_i ho
        split at h
        · omega
        · rename_i hc
          split at h
          · omega
          · split at h
            · rename_i h2
              obtain ⟨k1, k4⟩ := opensP_not (by simpa using ho)
              have hc1 := (hw.kc k1 k4).1
              have hk : f.case.toNat - 1 < D.cs.length := by omega
              refine ⟨h2.1, f.case.toNat - 1, hk, by omega, ?_⟩
              have h3 := h2.2
              have e : ownP D.cs f = passP D.cs[f.case.toNat - 1] f.day := by
                unfold ownP; rw [List.getD_eq_getElem?_getD, List.getElem?_eq_getElem hk]; rfl
              rw [e, (passP_same _ _).2.2.1] at h3
              exact h3
            · omega
    · rw [heL] at h
      unfold errL at h
      split at h
      · split at h <;> omega
      · split at h
        · assumption
        · split at h
          · omega
          · split at h <;> omega
/-- The filing number i of a docket that Built makes. -/
theorem leg_at {F : List Fl} (hB : Bt F) {i : Nat} (hi : i < F.length) (he : i < (errsD F).length) (h4 : (errsD F)[i] ≠ 400) : Leg (runD (F.take i)) (runD (F.take (i + 1))) F[i] (errsD F)[i] := by
  have h1 := errsD_get F i hi he
  rw [h1] at h4 ⊢
  rw [List.take_succ_eq_append_getElem hi, runD_snoc]
  exact leg (runD_ok _) (runD_inv _) (hB.wf _ (List.getElem_mem hi)).1 (by rw [runD_num, List.length_take]; have := hB.len; omega) h4
theorem leg_400 {F : List Fl} {i : Nat} (hi : i < F.length) (he : i < (errsD F).length) (h4 : (errsD F)[i] = 400) : F[i].day < lastP (F.take i) := by
  rw [errsD_get F i hi he] at h4
  have : F[i].day < (runD (F.take i)).last := by
    unfold errD at h4
    split at h4
    · omega
    · split at h4
      · split at h4
        · assumption
        · unfold errL at h4
          (repeat' split at h4) <;> omega
      · omega
  unfold lastP
  omega
end Go.Proofs.Ytbpoedopdnjffaa
