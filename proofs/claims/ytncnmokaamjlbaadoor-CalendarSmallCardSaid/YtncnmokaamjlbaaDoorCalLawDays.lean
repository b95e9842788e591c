/- The walks of the laws CalendarDays and CalendarMoves. -/
import Derived.Test.YtncnmokaamjlbaaDoorCalAwake
import Derived.Test.YtncnmokaamjlbaaDoorCalR3
namespace Go.Proofs.YtncnmokaamjlbaaDoor
open Go.RowKit

set_option maxHeartbeats 1000000 in
theorem days_law (y m d : Int) (w : World) (hL : Lens w) (hd : d ≤ 9223372036854775807) :
    Calls Tryd.prog 3 #[.int .i64 y, .int .i64 m, .int .i64 d] w fun e w' => e = .returned (.bool true) ∧ Below w.heap.size w w' := by
  have HL := Lib.hid hL; clear hL
  go_enter Tryd.func3, Tryd.ntmps3
  go_wp2_with (first | (go_at_call 15; refine (day_any _ _ _ _ HL.out hd).mono ?_; rintro e w' ⟨rfl, rfl⟩) | (go_at_call 16; refine (rday_any _ _ _ _).mono ?_; rintro e w' ⟨rfl, rfl⟩) | (go_at_call 17; refine (leap_any _ _).mono ?_; rintro e w' ⟨rfl, rfl⟩) | (go_at_call 18; refine (rleap_any _ _).mono ?_; rintro e w' ⟨rfl, rfl⟩) | (go_at_call 19; refine (len_any _ _ _ HL.out).mono ?_; rintro e w' ⟨rfl, rfl⟩) | (go_at_call 20; refine (rlen_any _ _ _).mono ?_; rintro e w' ⟨rfl, rfl⟩) | (go_at_call 21; refine (awake_any _ HL.out).mono ?_; rintro e w1 ⟨rfl, hb⟩))
  go_ret
  exact ⟨rfl, hb⟩

set_option maxHeartbeats 1000000 in
theorem moves_any (a b n : Int) (w : World) (hL : Lens w) :
    Calls Tryd.prog 23 #[.int .i64 a, .int .i64 b, .int .i64 n] w fun e w' => e = .returned (.bool true) ∧ Below w.heap.size w w' := by
  have HL := Lib.hid hL; clear hL
  go_enter Tryd.func23, Tryd.ntmps23
  go_wp2_with fail
  refine (add_any _ _ _ HL.out).mono ?_
  rintro e w1 ⟨rfl, hb1⟩
  have HL1 := Lib.hid (HL.out.below hb1)
  go_wp2_with fail
  refine (radd_any _ _ _).mono ?_
  rintro e w' ⟨rfl, rfl⟩
  go_wp2_with fail
  refine (between_any _ _ _ HL1.out).mono ?_
  rintro e w2 ⟨rfl, hb2⟩
  have HL2 := Lib.hid (HL1.out.below hb2)
  go_wp2_with fail
  refine (rbetween_any _ _ _).mono ?_
  rintro e w' ⟨rfl, rfl⟩
  go_wp2_with fail
  refine (age_any _ _ _ HL2.out).mono ?_
  rintro e w3 ⟨rfl, hb3⟩
  go_wp2_with fail
  refine (rage_any _ _ _).mono ?_
  rintro e w' ⟨rfl, rfl⟩
  go_wp2
  go_ret
  exact ⟨rfl, below_next (below_next hb1 hb2) hb3⟩

set_option maxHeartbeats 1000000 in
theorem moves_law (a b n : Int) (w : World) (hL : Lens w) :
    Calls Tryd.prog 5 #[.int .i64 a, .int .i64 b, .int .i64 n] w fun e w' => e = .returned (.bool true) ∧ Below w.heap.size w w' := by
  have HL := Lib.hid hL; clear hL
  go_enter Tryd.func5, Tryd.ntmps5
  go_wp2_with fail
  refine (moves_any _ _ _ _ HL.out).mono ?_
  rintro e w1 ⟨rfl, hb1⟩
  have HL1 := Lib.hid (HL.out.below hb1)
  go_wp2_with fail
  refine (moves_any _ _ _ _ HL1.out).mono ?_
  rintro e w2 ⟨rfl, hb2⟩
  have HL2 := Lib.hid (HL1.out.below hb2)
  go_wp2_with fail
  refine (awake_any _ HL2.out).mono ?_
  rintro e w3 ⟨rfl, hb3⟩
  go_wp2
  go_ret
  exact ⟨rfl, below_next (below_next hb1 hb2) hb3⟩

end Go.Proofs.YtncnmokaamjlbaaDoor
