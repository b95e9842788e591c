/- SpanSets: the law. -/
import Derived.Test.YtgpbdocgnfjckaaGreatSzSets
namespace Go.Proofs.YtgpbdocgnfjckaaGreat
open Go.RowKit Go.Shelf Sp

set_option maxHeartbeats 2000000 in
theorem sets_law (a b : Sps) (pa pb : Option Addr) (ca cb : Nat) (w : World) (hA : Cells w pa a) (hB : Cells w pb b) (na : a.length ≤ 9223372036854775807) (nb : b.length ≤ 9223372036854775807) :
    Calls Tryz.prog 4 #[.slice pa a.length ca, .slice pb b.length cb] w fun e w' => e = .returned (.bool true) ∧ Below w.heap.size w w' := by
  by_cases la : a.length ≤ 100
  · by_cases lb : b.length ≤ 100
    · have CM := Lib.hid (fun W h h' => both_any a b pa pb ca cb W la lb h h')
      have HA := Lib.hid hA
      have HB := Lib.hid hB
      clear hA hB
      go_enter Tryz.func4, Tryz.ntmps4
      go_wp2_with (first | (go_at_call 12; go_in) | fail)
      refine (CM.out _ HA.out HB.out).mono ?_
      rintro e W1 ⟨rfl, b1⟩
      go_wp2_with fail
      refine (awake_any _).mono ?_
      rintro e W2 ⟨rfl, b2⟩
      have B2 := below_next b1 b2
      go_wp2
      go_ret
      exact ⟨rfl, B2⟩
    · clear hA hB
      go_enter Tryz.func4, Tryz.ntmps4
      go_wp2_with (first | (go_at_call 12; go_in) | fail)
      refine (awake_any _).mono ?_
      rintro e W2 ⟨rfl, b2⟩
      go_wp2
      go_ret
      exact ⟨rfl, b2⟩
  · clear hA hB
    go_enter Tryz.func4, Tryz.ntmps4
    go_wp2_with (first | (go_at_call 12; go_in) | fail)
    refine (awake_any _).mono ?_
    rintro e W2 ⟨rfl, b2⟩
    go_wp2
    go_ret
    exact ⟨rfl, b2⟩

end Go.Proofs.YtgpbdocgnfjckaaGreat
