/- For the laws: the contracts in the form in which the laws read them. -/
import Derived.Test.YtbpoedopdnjffaaApBuilt
import Derived.Test.YtbpoedopdnjffaaApAwake
import Derived.Test.YtbpoedopdnjffaaApPlain7
namespace Go.Proofs.Ytbpoedopdnjffaa
open Go.RowKit Go.Shelf Sp

/-- Errors in memory. -/
def ECells (w : World) (p : Option Addr) (es : List Int) : Prop := ∀ i, (hi : i < es.length) → ∃ g, p = some ⟨g, 0, none⟩ ∧ w.cell? ⟨g, i, none⟩ = some (.int .i64 es[i])
theorem ECells.below {w w' : World} {p : Option Addr} {es : List Int} (h : ECells w p es) (hb : Below w.heap.size w w') : ECells w' p es := fun i hi => by
  obtain ⟨g, e, hc⟩ := h i hi
  exact ⟨g, e, by rw [World.cell?_of_block (a := ⟨g, i, none⟩) (hb.block g (World.block_lt_of_cell? w _ hc))]; exact hc⟩
theorem atD_len (l : List Fl) (d : Int) : (atD l d).length ≤ 100 := by
  have := (runD_ok l).len
  unfold atD
  split
  · rw [List.length_map]; exact this
  · simp
theorem atD_held (l : List Fl) (d : Int) : ∀ c ∈ atD l d, c.held.length ≤ 1000 := by
  intro c hc
  unfold atD at hc
  split at hc
  · obtain ⟨x, hx, rfl⟩ := List.mem_map.1 hc
    have := Nat.le_trans (heldP_len (passP_ok ((runD_ok l).cs x hx) d) (d + 1)) hb_max
    unfold atP
    dsimp only
    omega
  · cases hc
theorem at_is (l : List Fl) (d : Int) (p : Option Addr) (cap : Nat) (w : World) (hc : FCells w p l) (bd : ∀ f ∈ l, f.Bd) (hl : l.length ≤ 100000) :
    Calls Try.prog 16 #[.slice p l.length cap, .int .i64 d] w fun e w' => ∃ q cq, e = .returned (.tuple #[.slice q (atD l d).length cq, .int .i64 (atErr l d)]) ∧ ACells w' q (atD l d) ∧ Below w.heap.size w w' :=
  (atAll_any l d p cap w hc bd hl).mono fun _ _ ⟨v, he, hr, hb⟩ => by
    obtain ⟨q, cq, rfl, hq⟩ := hr.form
    exact ⟨q, cq, he, hq, hb⟩
theorem run_is (l : List Fl) (p : Option Addr) (cap : Nat) (w : World) (hc : FCells w p l) (bd : ∀ f ∈ l, f.Bd) (hl : l.length ≤ 100000) :
    Calls Try.prog 14 #[.slice p l.length cap] w fun e w' => ∃ q cq, e = .returned (.slice q l.length cq) ∧ ECells w' q (errsD l) ∧ Below w.heap.size w w' :=
  (run_any l p cap w hc bd hl).mono fun _ _ ⟨v, he, hr, hb⟩ => by
    obtain ⟨q, cq, rfl, hq⟩ := hr.form
    rw [errsD_length] at he
    exact ⟨q, cq, he, fun i hi => by
      obtain ⟨g, e, _, _, hc⟩ := hq i hi
      exact ⟨g, e, hc⟩, hb⟩
theorem taken_is (l : List Fl) (p : Option Addr) (cap : Nat) (w : World) (hc : FCells w p l) (bd : ∀ f ∈ l, f.Bd) (hl : l.length ≤ 100000) :
    Calls Try.prog 21 #[.slice p l.length cap] w fun e w' => ∃ q cq, e = .returned (.slice q (takenP l).length cq) ∧ FCells w' q (takenP l) ∧ Below w.heap.size w w' :=
  (taken_any l p cap w hc bd hl).mono fun _ _ ⟨v, he, hr, hb⟩ => by
    obtain ⟨q, cq, rfl, hq⟩ := hr.form
    exact ⟨q, cq, he, hq, hb⟩
theorem built_is (l : List Nt) (p : Option Addr) (cap : Nat) (w : World) (hc : NCells w p l) (bd : ∀ x ∈ l, x.Bd) :
    Calls Try.prog 13 #[.slice p l.length cap] w fun e w' => ∃ q cq, e = .returned (.slice q (builtP l).length cq) ∧ FCells w' q (builtP l) ∧ Below w.heap.size w w' :=
  (built_any l p cap w hc bd).mono fun _ _ ⟨v, he, hr, hb⟩ => by
    obtain ⟨q, cq, rfl, hq⟩ := hr.form
    exact ⟨q, cq, he, hq, hb⟩
/-- What is known of a docket that Built makes. -/
structure Bt (F : List Fl) : Prop where
  bd : ∀ f ∈ F, f.Bd
  len : F.length ≤ 30
  wf : ∀ f ∈ F, f.Wf ∧ f.day ≤ 20000
theorem builtP_bt {l : List Nt} (bd : ∀ x ∈ l, x.Bd) : Bt (builtP l) := ⟨builtP_bd bd, builtP_len l, builtP_wf bd⟩
theorem Bt.tk {F : List Fl} (h : Bt F) : (∀ f ∈ takenP F, f.Bd) ∧ (takenP F).length ≤ 30 :=
  ⟨fun f hf => h.bd f (takenFrom_mem hf), Nat.le_trans (takenP_len F) h.len⟩
theorem lastP_bt {F : List Fl} (h : Bt F) : 0 ≤ lastP F ∧ lastP F ≤ 20000 := by
  have h0 := (lastP_bd F).1
  rcases lastP_spec F with ⟨_, e⟩ | ⟨t, f, h1, h2, h3, _⟩
  · unfold lastP; rw [e]; decide
  · have hm : f ∈ takenP F := by rw [h1]; simp
    have := (h.wf f (takenFrom_mem hm)).2
    unfold lastP
    rw [h2]
    omega
/-- The cases of a list, on a day, in memory. -/
def RCells (w : World) (q : Option Addr) (L : List Cs) (d : Int) : Prop := ACells w q (L.map fun c => atP c d)
theorem RCells.below {w w' : World} {q : Option Addr} {L : List Cs} {d : Int} (h : RCells w q L d) (hb : Below w.heap.size w w') : RCells w' q L d := ACells.below h hb
theorem RCells.at {w : World} {q : Option Addr} {L : List Cs} {d : Int} (h : RCells w q L d) (i : Nat) (hi : i < L.length) : ∃ b off qq cc, q = some ⟨b, off, none⟩ ∧ CaseCells w b (off + i * 10) (atP L[i] d) (.slice qq (atP L[i] d).held.length cc) ∧ Cells w qq (atP L[i] d).held := by
  obtain ⟨b, off, qq, cc, e, h1, h2⟩ := ACells.at h i (by rw [List.length_map]; exact hi)
  simp only [List.getElem_map] at h1 h2
  exact ⟨b, off, qq, cc, e, h1, h2⟩
theorem at_ok (l : List Fl) (d : Int) (p : Option Addr) (cap : Nat) (w : World) (hc : FCells w p l) (bd : ∀ f ∈ l, f.Bd) (hl : l.length ≤ 100000) (h1 : lastP l ≤ d) (h2 : d ≤ 65535) :
    Calls Try.prog 16 #[.slice p l.length cap, .int .i64 d] w fun e w' => ∃ q cq, e = .returned (.tuple #[.slice q (runD l).cs.length cq, .int .i64 0]) ∧ RCells w' q (runD l).cs d ∧ Below w.heap.size w w' :=
  (at_is l d p cap w hc bd hl).mono fun _ _ ⟨q, cq, he, hr, hb⟩ => by
    have a := atD_last h1 h2
    rw [a.1, a.2, List.length_map] at he
    rw [a.2] at hr
    exact ⟨q, cq, he, hr, hb⟩
theorem atP_same (c : Cs) (d : Int) : (atP c d).el = c.el ∧ (atP c d).opened = c.opened ∧ (atP c d).days = c.days ∧ (atP c d).choice = c.choice ∧ (atP c d).level = c.level ∧ (atP c d).st = (passP c d).st ∧ (atP c d).due = (passP c d).due :=
  have h := passP_same c d
  ⟨h.1, h.2.1, h.2.2.1, h.2.2.2.1, h.2.2.2.2, rfl, rfl⟩
/-- What a docket that Built makes has led to. -/
theorem Bt.cs {F : List Fl} (_h : Bt F) : (∀ c ∈ (runD F).cs, c.Ok ∧ c.Inv (lastP F)) ∧ (runD F).cs.length ≤ 100 :=
  ⟨fun c hc => ⟨(runD_ok F).cs c hc, (runD_inv F c hc).mono (lastP_bd F).2.2⟩, (runD_ok F).len⟩

end Go.Proofs.Ytbpoedopdnjffaa
