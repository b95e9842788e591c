/- AppealHeld: the plain law. -/
import Derived.Test.YtbpoedopdnjffaaApTim
namespace Go.Proofs.Ytbpoedopdnjffaa
open Go.RowKit Go.Shelf Sp

/-- What the filings up to a day have led to. -/
structure Pre (F : List Fl) (d : Int) (P : List Cs) : Prop where
  last : lastP (upto d (takenP F)) ≤ d
  ok : ∀ c ∈ P, c.Ok ∧ c.Inv d
  len : P.length ≤ 100
  no : ∀ k : Int, (k < 1 ∨ (P.length : Int) < k) → heldD F k d = false
  yes : ∀ j, (hj : j < P.length) → heldD F ((j : Int) + 1) d = ((passP P[j] d).st == 3 && (passP P[j] d).hold)
theorem pre {F : List Fl} {d : Int} (h0 : 0 ≤ d) (hd : d ≤ 65535) : Pre F d (runD (upto d (takenP F))).cs := by
  have hp := past d h0 hd F
  have hl := (runD_ok F).last
  have hx : 0 ≤ max d (runD F).last ∧ max d (runD F).last ≤ 65535 := by omega
  have hin : ∀ k, (hk : k < (runD F).cs.length) → heldD F ((k : Int) + 1) d = heldIn (runD (upto d (takenP F))).cs k d d := fun k hk => by
    rw [← hp.held k hk, heldD_yes hk hx]
    unfold heldIn
    rw [List.getElem?_eq_getElem hk]
  have hlen := hp.len
  refine ⟨?_, fun c hc => ⟨(runD_ok _).cs c hc, (runD_inv _ c hc).mono hp.last⟩, (runD_ok _).len, fun k hk => ?_, fun j hj => ?_⟩
  · have := hp.last
    unfold lastP
    omega
  · by_cases h1 : 1 ≤ k ∧ k ≤ (runD F).cs.length
    · obtain ⟨j, rfl⟩ : ∃ j : Nat, k = (j : Int) + 1 := ⟨(k - 1).toNat, by omega⟩
      rw [hin j (by omega)]
      unfold heldIn
      rw [List.getElem?_eq_none (by omega)]
    · exact heldD_no (.inl h1)
  · rw [hin j (by omega)]
    unfold heldIn
    rw [List.getElem?_eq_getElem hj]
    exact atP_held_now ((runD_ok _).cs _ (List.getElem_mem hj)) (runD_inv _ _ (List.getElem_mem hj)) hp.last (by omega)
/-- What the law asks of each case. -/
theorem pre_case {c : Cs} {d : Int} (hc : c.Ok) (hi : c.Inv d) : validB (atP c d).held = true ∧ (atP c d).held.length ≤ 14 ∧ ((atP c d).el = true → (atP c d).held = []) ∧ ((atP c d).hold = true → (atP c d).st = 3) ∧ ((atP c d).hold = false → (atP c d).since = 0) := by
  have ok := passP_ok hc d
  have iv := passP_inv hc hi (Int.le_refl d)
  refine ⟨atP_held_valid hc d, Nat.le_trans (heldP_len ok _) hb_max, fun he => ?_, fun hh => (ok.hold hh).1, iv.since0⟩
  have h := iv.el he
  show heldP (passP c d) (d + 1) = []
  rw [heldP_off h.2.2.2.1]
  exact h.2.2.1
theorem upto_step {T : List Fl} {m : Nat} (h : m < T.length) (d : Int) : upto d (T.take (m + 1)) = upto d (T.take m) ++ (if T[m].day ≤ d then [T[m]] else []) := by
  rw [List.take_succ_eq_append_getElem h, upto_snoc]
theorem upto_len (d : Int) (T : List Fl) : (upto d T).length ≤ T.length := List.length_filter_le _ _
theorem upto_mem {d : Int} {T : List Fl} {f : Fl} (h : f ∈ upto d T) : f ∈ T := (List.mem_filter.1 h).1
theorem FOwns.low {W : World} {b b2 : Nat} {v : Value} {l : List Fl} (h : FOwns W b v l) (hb : b2 ≤ b) : FOwns W b2 v l := ownsRow_low h hb
theorem FOwns.grow {base : Nat} {w1 : World} {v' : Value} {l : List Fl} {m : Nat} {f : Fl} (hm : l.length = m) (ho : w1.ownsRow base 30 6 v' (m + 1) (fflat l ++ flRow f)) : FOwns w1 base v' (l ++ [f]) := by
  subst hm
  unfold FOwns
  rw [List.length_append, List.length_singleton, fflat_append]
  simpa [fflat] using ho
end Go.Proofs.Ytbpoedopdnjffaa
