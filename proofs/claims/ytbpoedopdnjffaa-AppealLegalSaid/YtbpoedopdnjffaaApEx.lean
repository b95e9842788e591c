/- The example of the chapter, and what it answers. -/
import Derived.Test.YtbpoedopdnjffaaApTaken
namespace Sp
theorem un_nil {l : Sps} (h : validB l = true) : un [] l = l := IsSet.uniq (un_set rfl h) ⟨h, fun d => by simp [mem_nil]⟩
def exL : List Fl := [⟨4, 10, 0, 30, 0, false⟩, ⟨5, 20, 1, 0, 0, true⟩, ⟨6, 50, 1, 1, 0, false⟩, ⟨5, 60, 1, 0, 0, false⟩, ⟨1, 61, 0, 3, 70, false⟩, ⟨2, 65, 2, 4, 0, false⟩, ⟨2, 66, 2, 3, 0, false⟩, ⟨3, 71, 2, 0, 0, false⟩]
theorem ex_errs : errsD exL = [0, 0, 0, 0, 0, 402, 0, 401] := by kernel_rfl
theorem ex_run : runD exL = ⟨8, [⟨false, 3, 10, 30, 0, 2, 425, false, 0, un [] [(20, 50)]⟩, ⟨true, 1, 61, 3, 3, 0, 70, false, 0, []⟩], 66⟩ := by kernel_rfl
theorem ex_run2 : runD (exL.take 2) = ⟨2, [⟨false, 3, 10, 30, 0, 1, 385, true, 20, []⟩], 20⟩ := by kernel_rfl
theorem ex_at1 : atErr (exL.take 2) 30 = 0 ∧ atD (exL.take 2) 30 = [⟨false, 3, 10, 30, 0, 1, 385, true, 20, [(20, 31)]⟩] := by
  have e : atErr (exL.take 2) 30 = 0 := by unfold atErr; rw [ex_run2]; decide
  refine ⟨e, ?_⟩
  unfold atD
  rw [if_pos e, ex_run2]
  have : ([⟨false, 3, 10, 30, 0, 1, 385, true, 20, []⟩] : List Cs).map (fun c => atP c 30) = [⟨false, 3, 10, 30, 0, 1, 385, true, 20, un [] [(20, 31)]⟩] := by kernel_rfl
  rw [un_nil (by decide)] at this
  exact this
theorem ex_at2 : atErr exL 66 = 0 ∧ atD exL 66 = [⟨false, 3, 10, 30, 0, 2, 425, false, 0, [(20, 50)]⟩, ⟨true, 1, 61, 3, 3, 0, 70, false, 0, []⟩] := by
  have e : atErr exL 66 = 0 := by unfold atErr; rw [ex_run]; decide
  refine ⟨e, ?_⟩
  unfold atD
  rw [if_pos e, ex_run, un_nil (by decide)]
  kernel_rfl

end Sp
