/- The example's filings made; awake. -/
import Derived.Test.YtbpoedopdnjffaaApEx
namespace Go.Proofs.Ytbpoedopdnjffaa
open Go.RowKit Go.Shelf Sp

theorem ex_setl : setlD exL 1 = (457, true) ∧ setlD exL 2 = (71, true) := by
  unfold setlD
  rw [ex_run, un_nil (by decide)]
  exact ⟨by kernel_rfl, by kernel_rfl⟩
theorem ex_held : heldD exL 1 49 = true ∧ heldD exL 1 50 = false := by
  unfold heldD
  rw [ex_run, un_nil (by decide)]
  exact ⟨by kernel_rfl, by kernel_rfl⟩
theorem exL_bd : ∀ f ∈ exL, f.Bd := by
  intro f hf
  simp only [exL, List.mem_cons, List.not_mem_nil, or_false] at hf
  rcases hf with rfl | rfl | rfl | rfl | rfl | rfl | rfl | rfl <;> exact ⟨by decide, by decide, by decide, by decide, by decide⟩

theorem elect_f (a b c : Int) (w : World) : Calls Try.prog 46 #[.int .i64 a, .int .i64 b, .int .i64 c] w fun e w' => e = .returned (.agg #[.int .u8 1, .int .i64 a, .int .i64 0, .int .i64 b, .int .i64 c, .bool false]) ∧ Below w.heap.size w w' := by
  go_enter Try.func46, Try.ntmps46
  go_wp2
  refine bodyPost_ret (results_cell_row rfl _ _ w.heap.size 30 #[.int .u8 1, .int .i64 a, .int .i64 0, .int .i64 b, .int .i64 c, .bool false] (0, 0) _ rfl (World.alloc_heap_new w _) Try.underlying30 rfl (by kernel_rfl)) rfl ?_
  exact ⟨rfl, (Below.refl _ _).alloc (Nat.le_refl _) _⟩
theorem decide_f (a b : Int) (w : World) : Calls Try.prog 44 #[.int .i64 a, .int .i64 b] w fun e w' => e = .returned (.agg #[.int .u8 4, .int .i64 a, .int .i64 0, .int .i64 b, .int .i64 0, .bool false]) ∧ Below w.heap.size w w' := by
  go_enter Try.func44, Try.ntmps44
  go_wp2
  refine bodyPost_ret (results_cell_row rfl _ _ w.heap.size 30 #[.int .u8 4, .int .i64 a, .int .i64 0, .int .i64 b, .int .i64 0, .bool false] (0, 0) _ rfl (World.alloc_heap_new w _) Try.underlying30 rfl (by kernel_rfl)) rfl ?_
  exact ⟨rfl, (Below.refl _ _).alloc (Nat.le_refl _) _⟩
theorem on_f (k a b c : Int) (h : Bool) (w : World) : Calls Try.prog 45 #[.int .u8 k, .int .i64 a, .int .i64 b, .int .i64 c, .bool h] w fun e w' => e = .returned (.agg #[.int .u8 k, .int .i64 a, .int .i64 b, .int .i64 c, .int .i64 0, .bool h]) ∧ Below w.heap.size w w' := by
  go_enter Try.func45, Try.ntmps45
  go_wp2
  refine bodyPost_ret (results_cell_row rfl _ _ w.heap.size 30 #[.int .u8 k, .int .i64 a, .int .i64 b, .int .i64 c, .int .i64 0, .bool h] (0, 0) _ rfl (World.alloc_heap_new w _) Try.underlying30 rfl (by kernel_rfl)) rfl ?_
  exact ⟨rfl, (Below.refl _ _).alloc (Nat.le_refl _) _⟩

def exCells : Array Value := #[.int .u8 4, .int .i64 10, .int .i64 0, .int .i64 30, .int .i64 0, .bool false, .int .u8 5, .int .i64 20, .int .i64 1, .int .i64 0, .int .i64 0, .bool true, .int .u8 6, .int .i64 50, .int .i64 1, .int .i64 1, .int .i64 0, .bool false, .int .u8 5, .int .i64 60, .int .i64 1, .int .i64 0, .int .i64 0, .bool false, .int .u8 1, .int .i64 61, .int .i64 0, .int .i64 3, .int .i64 70, .bool false, .int .u8 2, .int .i64 65, .int .i64 2, .int .i64 4, .int .i64 0, .bool false, .int .u8 2, .int .i64 66, .int .i64 2, .int .i64 3, .int .i64 0, .bool false, .int .u8 3, .int .i64 71, .int .i64 2, .int .i64 0, .int .i64 0, .bool false]
theorem ex_owns (W : World) : FOwns (W.alloc (.cells exCells 30)) W.heap.size (.slice (some ⟨W.heap.size, 0, none⟩) 8 8) exL :=
  ⟨rfl, .inr ⟨W.heap.size, 8, exCells, rfl, Nat.le_refl _, World.alloc_heap_new W _, Nat.le_refl _, by unfold maxLen; omega, rfl, rfl⟩⟩

set_option maxHeartbeats 2000000 in
theorem example_any (w : World) : Calls Try.prog 28 #[] w fun e w' => ∃ g, e = .returned (.slice (some ⟨g, 0, none⟩) 8 8) ∧ FOwns w' w.heap.size (.slice (some ⟨g, 0, none⟩) 8 8) exL ∧ Below w.heap.size w w' := by
  go_enter Try.func28, Try.ntmps28
  go_wp2_with fail
  refine (decide_f 10 30 _).mono ?_
  rintro e W1 ⟨rfl, hb1⟩
  have B1 := Lib.hid hb1
  clear hb1
  go_wp2_with fail
  refine (on_f 5 20 1 0 true _).mono ?_
  rintro e W2 ⟨rfl, hb2⟩
  have B2 := Lib.hid (below_next B1.out hb2)
  clear B1 hb2
  go_wp2_with fail
  refine (on_f 6 50 1 1 false _).mono ?_
  rintro e W3 ⟨rfl, hb3⟩
  have B3 := Lib.hid (below_next B2.out hb3)
  clear B2 hb3
  go_wp2_with fail
  refine (on_f 5 60 1 0 false _).mono ?_
  rintro e W4 ⟨rfl, hb4⟩
  have B4 := Lib.hid (below_next B3.out hb4)
  clear B3 hb4
  go_wp2_with fail
  refine (elect_f 61 3 70 _).mono ?_
  rintro e W5 ⟨rfl, hb5⟩
  have B5 := Lib.hid (below_next B4.out hb5)
  clear B4 hb5
  go_wp2_with fail
  refine (on_f 2 65 2 4 false _).mono ?_
  rintro e W6 ⟨rfl, hb6⟩
  have B6 := Lib.hid (below_next B5.out hb6)
  clear B5 hb6
  go_wp2_with fail
  refine (on_f 2 66 2 3 false _).mono ?_
  rintro e W7 ⟨rfl, hb7⟩
  have B7 := Lib.hid (below_next B6.out hb7)
  clear B6 hb7
  go_wp2_with fail
  refine (on_f 3 71 2 0 false _).mono ?_
  rintro e W8 ⟨rfl, hb8⟩
  have B8 := Lib.hid (below_next B7.out hb8)
  clear B7 hb8
  go_wp2
  go_ret
  exact ⟨W8.heap.size, rfl, ownsRow_low (ex_owns W8) B8.out.size, B8.out.alloc B8.out.size _⟩

end Go.Proofs.Ytbpoedopdnjffaa
