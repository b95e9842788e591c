/- From the condition on the listed variable (the table of the lengths of months) to what the walks ask of memory. -/
import Derived.Test.YthleaigkndfdaaaDoorCalW1
import Derived.Test.YthleaigkndfdaaaDoorRows
import Derived.ProofKit
import Derived.LaidMore
import Derived.OpenShut
import Derived.Lib.LaidTab
import Derived.ShutString
namespace Go.Proofs.YthleaigkndfdaaaDoor
open Go.ChangeShapes Go.WideShapes Go.ChangeAt Go.WideMaps Go.WideElems Go.RowKit

theorem own : ownKnob Tryd.prog.godebug = none := by kernel_rfl
theorem laidOut : laidOutB Tryd.prog = true := by kernel_rfl
theorem gLen : Tryd.prog.globalNamed "annuitant/calendar.lengths" = some 1 := by kernel_rfl
theorem tLen : (Tryd.prog.globals[1]?).map (·.type) = some 98 := by kernel_rfl

theorem door_met (os : Os) (args : Array Value) : laidMetH Tryd.prog [("annuitant/calendar.lengths", Rows.laid_annuitant_calendar_lengths)] ((World.doorLaid Tryd.prog 400 os).forCall (fun _ _ => 0) ⟨#[], args, []⟩).memory :=
  laidMetH_of_parts3 (fuel := 8) (laidMet_of_run' 8 (by kernel_rfl) (by kernel_rfl)) (by kernel_rfl) (by kernel_rfl)

theorem of_laid {W : World} (h : laidMetH Tryd.prog [("annuitant/calendar.lengths", Rows.laid_annuitant_calendar_lengths)] W) : Lens W := by
  rw [MakeChecks.laidMetH_plain _ _ _ (by kernel_rfl)] at h
  obtain ⟨ps, ⟨g0, t0, cs0, f0, p0, q0, hg0, ht0, hv0, hd0, _, _⟩, _, _⟩ := h
  obtain rfl := Option.some.inj (gLen.symm.trans hg0)
  obtain rfl := Option.some.inj (tLen.symm.trans ht0)
  have hc : cs0.toList = ([31, 28, 31, 30, 31, 30, 31, 31, 30, 31, 30, 31] : List Int).map fun z => Value.int .i64 z :=
    Lib.cells_of_tab Tryd.underlying98 Tryd.underlying3 (by kernel_rfl) (by kernel_rfl) hd0
  have hcell : ∀ i : Nat, i < 12 → W.cell? ⟨1, i, none⟩ = some (.int .i64 (Cal.tab (i + 1))) := by
    intro i hi
    rw [World.var?_cell hg0 hv0 i, ← Array.getElem?_toList, hc]
    have : i = 0 ∨ i = 1 ∨ i = 2 ∨ i = 3 ∨ i = 4 ∨ i = 5 ∨ i = 6 ∨ i = 7 ∨ i = 8 ∨ i = 9 ∨ i = 10 ∨ i = 11 := by omega
    rcases this with rfl | rfl | rfl | rfl | rfl | rfl | rfl | rfl | rfl | rfl | rfl | rfl <;> rfl
  refine ⟨?_, hcell⟩
  exact World.block_lt_of_cell? W _ (hcell 0 (by omega))

end Go.Proofs.YthleaigkndfdaaaDoor
