/- A region whose operations read and whose callees keep the old memory, walked once in the order of the text: the class of worlds 'later than w'. -/
import Derived.Test.YtbpoedopdnjffaaProg
import Derived.WalkKit
import Derived.WalkSpells
import Derived.WalkLawsBesides
import Derived.Handy
import Derived.Deep.QuietTactic
import Derived.BigQuiet
import Derived.Lib.Hide
import Derived.Below
namespace Go.Proofs.Ytbpoedopdnjffaa
open Go.RowKit

/-- A world that keeps the memory of w. -/
structure Later (w : World) where
  W : World
  below : Below w.heap.size w W

instance (w : World) : Nonempty (Later w) := ⟨⟨w, Below.refl _ _⟩⟩

theorem wp_region_later {P : Program} {id : Nat} {Q : Exit → Act → World → Prop} {a : Act} {w : World} {l : List Oper} (hm : P.follows .mixedOrders = true) (hB : Region.lexB .any l.toArray = true)
    (h : wpQuiet P l.toArray (fun w' => ∃ p : Later w, w' = p.W) (fun a' => ∀ w', (∃ p : Later w, w' = p.W) → Q .normal a' w') l a) : (Code.region id l.toArray true).wp P Q a w :=
  wp_region_quiet (C := fun w' => ∃ p : Later w, w' = p.W) hm hB ⟨⟨w.drew, (Below.refl _ _).drew⟩, rfl⟩ (by simpa using h)

/-- .. with facts S that every later world keeps. -/
theorem wp_region_laterS {P : Program} {id : Nat} {Q : Exit → Act → World → Prop} {a : Act} {w : World} {l : List Oper} (S : World → Prop) (hm : P.follows .mixedOrders = true) (hB : Region.lexB .any l.toArray = true)
    (hS : ∀ p : Later w, S p.W)
    (h : (∀ p : Later w, S p.W) → wpQuiet P l.toArray (fun w' => ∃ p : Later w, w' = p.W) (fun a' => ∀ w', (∃ p : Later w, w' = p.W) → Q .normal a' w') l a) : (Code.region id l.toArray true).wp P Q a w :=
  wp_region_later hm hB (h hS)

theorem Later.since {w0 w : World} (h : Below w0.heap.size w0 w) (p : Later w) : Below w0.heap.size w0 p.W := h.trans (p.below.mono h.size)

theorem Later.cell {w : World} (a : Addr) (v : Value) (h : w.cell? a = some v) (p : Later w) : p.W.cell? a = some v := by
  rw [p.below.cell (World.block_lt_of_cell? w _ h)]; exact h

theorem Later.call {P : Program} {f : FuncId} {args : Array Value} {w : World} {p : Later w} {v : Value}
    (h : Calls P f args p.W fun e w' => e = .returned v ∧ Below p.W.heap.size p.W w') : Calls P f args p.W fun e w'' => e = .returned v ∧ ∃ q : Later w, w'' = q.W :=
  h.mono fun _ w2 ⟨he, hb⟩ => ⟨he, ⟨w2, p.below.trans (hb.mono p.below.size)⟩, rfl⟩

theorem Later.call_same {P : Program} {f : FuncId} {args : Array Value} {w : World} {p : Later w} {v : Value}
    (h : Calls P f args p.W fun e w' => e = .returned v ∧ p.W = w') : Calls P f args p.W fun e w'' => e = .returned v ∧ ∃ q : Later w, w'' = q.W :=
  h.mono fun _ _ ⟨he, hb⟩ => ⟨he, p, hb.symm⟩

end Go.Proofs.Ytbpoedopdnjffaa
