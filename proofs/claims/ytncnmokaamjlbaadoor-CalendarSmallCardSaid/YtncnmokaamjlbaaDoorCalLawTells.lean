/- The walk of the law CalendarTells. -/
import Derived.Test.YtncnmokaamjlbaaDoorCalAwake
import Derived.Test.YtncnmokaamjlbaaDoorCalR4
namespace Go.Proofs.YtncnmokaamjlbaaDoor
open Go.RowKit

set_option maxHeartbeats 4000000 in
set_option maxRecDepth 100000 in
theorem tells_any (d : Int) (w : World) (hL : Lens w) :
    Calls Tryd.prog 22 #[.int .i64 d] w fun e w' => e = .returned (.bool true) ∧ Below w.heap.size w w' := by
  have HL := Lib.hid hL; clear hL
  go_enter Tryd.func22, Tryd.ntmps22
  go_wp2_with fail
  refine (ymd_any _ _ HL.out).mono ?_; rintro e w1 ⟨rfl, hb1⟩; have HL1 := Lib.hid (HL.out.below hb1)
  go_wp2_with fail
  refine (rymd_any _ _).mono ?_; rintro e w' ⟨rfl, rfl⟩
  go_wp2_with fail
  refine (monthN_any _ _ HL1.out).mono ?_; rintro e w2 ⟨rfl, hb2⟩; have HL2 := Lib.hid (HL1.out.below hb2)
  go_wp2_with fail
  refine (rmonth_any _ _).mono ?_; rintro e w' ⟨rfl, rfl⟩
  go_wp2_with fail
  refine (first_any _ _ HL2.out).mono ?_; rintro e w' ⟨rfl, rfl⟩
  go_wp2_with fail
  refine (rfirst_any _ _).mono ?_; rintro e w' ⟨rfl, rfl⟩
  go_wp2_with fail
  refine (weekday_any _ _).mono ?_; rintro e w' ⟨rfl, rfl⟩
  go_wp2_with fail
  refine (rweekday_any _ _).mono ?_; rintro e w' ⟨rfl, rfl⟩
  go_wp2_with fail
  refine (text_any _ _ HL2.out).mono ?_; rintro e w3 ⟨rfl, hb3⟩
  go_wp2_with fail
  refine (rtext_any _ _).mono ?_; rintro e w4 ⟨rfl, hb4⟩
  go_wp2
  go_ret
  exact ⟨rfl, below_next (below_next (below_next hb1 hb2) hb3) hb4⟩

set_option maxHeartbeats 1000000 in
theorem tells_law (d : Int) (w : World) (hL : Lens w) :
    Calls Tryd.prog 4 #[.int .i64 d] w fun e w' => e = .returned (.bool true) ∧ Below w.heap.size w w' := by
  have HL := Lib.hid hL; clear hL
  go_enter Tryd.func4, Tryd.ntmps4
  go_wp2_with fail
  refine (tells_any _ _ HL.out).mono ?_; rintro e w1 ⟨rfl, hb1⟩; have HL1 := Lib.hid (HL.out.below hb1)
  go_wp2_with fail
  refine (awake_any _ HL1.out).mono ?_; rintro e w2 ⟨rfl, hb2⟩
  go_wp2
  go_ret
  exact ⟨rfl, below_next hb1 hb2⟩

end Go.Proofs.YtncnmokaamjlbaaDoor
