/- The walk of asks. -/
import Derived.Test.YtbpoedopdnjffaaGreatZpO
namespace Go.Proofs.YtbpoedopdnjffaaGreat
open Go.RowKit Go.Shelf Sp

set_option maxHeartbeats 2000000 in
set_option maxRecDepth 100000 in
theorem asks_is (l : List Fl) (n d : Int) (p : Option Addr) (cap : Nat) (w : World) (hc : FCells w p l) (bd : ∀ f ∈ l, f.Bd) (hl : l.length ≤ 100000) :
    Calls Tryz.prog 9 #[.slice p l.length cap, .int .i64 n, .int .i64 d] w fun e w' => e = .returned (.bool true) ∧ Below w.heap.size w w' := by
  have HC := Lib.hid hc
  have C1 := Lib.hid (fun W h => settles_any l n p cap W h bd hl)
  have C2 := Lib.hid (fun W h => settlesR_any l n p cap W h hl)
  have C3 := Lib.hid (fun W h => heldAll_any l n d p cap W h bd hl)
  have C4 := Lib.hid (fun W h => heldR_any l n d p cap W h hl)
  obtain ⟨s, hs⟩ : ∃ s, s = (setlD l n).1 := ⟨_, rfl⟩
  obtain ⟨b, hb⟩ : ∃ b, b = (setlD l n).2 := ⟨_, rfl⟩
  obtain ⟨x, hx⟩ : ∃ x, x = heldD l n d := ⟨_, rfl⟩
  rw [← hs, ← hb] at C1 C2
  rw [← hx] at C3 C4
  clear hc bd hs hb hx
  go_enter Tryz.func9, Tryz.ntmps9
  go_wp2_with fail
  refine (C1.out _ HC.out).mono ?_
  rintro e W1 ⟨rfl, hb1⟩
  have B1 := Lib.hid hb1
  clear hb1
  go_wp2_with fail
  refine (C2.out _ (HC.out.below B1.out)).mono ?_
  rintro e W2 ⟨rfl, hb2⟩
  have B2 := Lib.hid (below_next B1.out hb2)
  clear hb2
  go_wp2_with fail
  refine (C3.out _ (HC.out.below B2.out)).mono ?_
  rintro e W3 ⟨rfl, hb3⟩
  have B3 := Lib.hid (below_next B2.out hb3)
  clear hb3
  go_wp2_with fail
  refine (C4.out _ (HC.out.below B3.out)).mono ?_
  rintro e W4 ⟨rfl, hb4⟩
  have B4 := Lib.hid (below_next B3.out hb4)
  clear hb4
  go_wp2
  go_ret
  exact ⟨ret_bool (by simp), B4.out⟩

end Go.Proofs.YtbpoedopdnjffaaGreat
