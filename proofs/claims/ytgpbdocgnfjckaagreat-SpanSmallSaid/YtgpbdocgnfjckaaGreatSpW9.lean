/- to, Built. -/
import Derived.Test.YtgpbdocgnfjckaaGreatSpW8
import Derived.Laws.Rows
namespace Go.Proofs.YtgpbdocgnfjckaaGreat
open Go.RowKit Go.Shelf Sp

set_option maxHeartbeats 1000000 in
theorem to_any (a b : Int) (w : World) :
    Calls Tryz.prog 10 #[.int .i64 a, .int .i64 b] w fun e w' => e = .returned (.agg #[.int .i64 a, .int .i64 b]) ∧ w' = w.alloc (.cells #[.int .i64 a, .int .i64 b] 30) := by
  go_enter Tryz.func10, Tryz.ntmps10
  go_wp2
  refine bodyPost_ret (results_cell_row rfl _ _ w.heap.size 30 #[.int .i64 a, .int .i64 b] (0, 0) _ rfl (Boxed2.new w _ _ _) Tryz.underlying30 rfl (by kernel_rfl)) rfl ?_
  exact ⟨rfl, rfl⟩

/-- A slice of uint16. -/
def Words (w : World) (p : Option Addr) (n : Nat) : Prop := ∀ i, i < n → ∃ b off v, p = some ⟨b, off, none⟩ ∧ b < w.heap.size ∧ w.cell? ⟨b, off + i, none⟩ = some (.int .u16 v) ∧ 0 ≤ v ∧ v < 65536

theorem Words.below {w w' : World} {p : Option Addr} {n : Nat} (h : Words w p n) (hb : Below w.heap.size w w') : Words w' p n := fun i hi => by
  obtain ⟨b, off, v, hp, hl, hc, h0, h1⟩ := h i hi
  exact ⟨b, off, v, hp, Nat.lt_of_lt_of_le hl hb.size, (hb.cell (p := ⟨b, off + i, none⟩) hl).trans hc, h0, h1⟩

end Go.Proofs.YtgpbdocgnfjckaaGreat
