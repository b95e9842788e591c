/- The examples of the chapter: what the calendar answers at the numbers of awake. -/
import Derived.Test.YtncnmokaamjlbaaDoorCalW5
namespace Go.Proofs.YtncnmokaamjlbaaDoor
open Go.RowKit

theorem mo_36583 : Cal.mo 36583 = 1201 := Cal.mo_eq (by decide +kernel) (by decide +kernel)
theorem mo_65535 : Cal.mo 65535 = 2153 := Cal.mo_eq (by decide +kernel) (by decide +kernel)
theorem mo_30 : Cal.mo 30 = 0 := Cal.mo_eq (by decide +kernel) (by decide +kernel)
theorem mo_58 : Cal.mo 58 = 1 := Cal.mo_eq (by decide +kernel) (by decide +kernel)
theorem mo_36947 : Cal.mo 36947 = 1213 := Cal.mo_eq (by decide +kernel) (by decide +kernel)
theorem mo_36948 : Cal.mo 36948 = 1213 := Cal.mo_eq (by decide +kernel) (by decide +kernel)
theorem val_day1 : Cal.dayv 2000 2 29 = 36583 ∧ Cal.daye 2000 2 29 = 0 := by decide +kernel
theorem val_day2 : Cal.dayv 1900 2 29 = 0 ∧ Cal.daye 1900 2 29 = 2 := by decide +kernel
theorem isd_36583 : Cal.IsD 36583 := by decide
theorem into_a : Cal.into 36583 1213 = 36948 := by unfold Cal.into; rw [mo_36583]; decide +kernel
theorem into_b : Cal.into 36583 1200 = 36552 := by unfold Cal.into; rw [mo_36583]; decide +kernel
theorem into_c : Cal.into 30 1 = 58 := by unfold Cal.into; rw [mo_30]; decide +kernel
theorem val_add1 : Cal.addv 36583 12 = 36948 ∧ Cal.adde 36583 12 = 0 := by
  have := add_yes isd_36583 (n := 12) ⟨by rw [mo_36583]; decide, by rw [mo_36583]; decide, by rw [mo_36583]; show Cal.into 36583 1213 < _; rw [into_a]; decide⟩
  rw [mo_36583] at this
  exact ⟨this.1.trans into_a, this.2⟩
theorem val_add2 : Cal.addv 36583 (-1) = 36552 ∧ Cal.adde 36583 (-1) = 0 := by
  have := add_yes isd_36583 (n := -1) ⟨by rw [mo_36583]; decide, by rw [mo_36583]; decide, by rw [mo_36583]; show Cal.into 36583 1200 < _; rw [into_b]; decide⟩
  rw [mo_36583] at this
  exact ⟨this.1.trans into_b, this.2⟩
theorem val_add3 : Cal.addv 65535 1 = 0 ∧ Cal.adde 65535 1 = 30 :=
  add_no (by decide) (fun h => by have := h.2.1; rw [mo_65535] at this; omega)
theorem mon_c : Cal.months 30 58 = 1 := by rw [months_is, mo_30, mo_58, into_c]; decide
theorem val_bet1 : Cal.betv 30 58 = 1 ∧ Cal.bete 30 58 = 0 := by
  unfold Cal.betv Cal.bete; rw [if_pos (by decide), if_neg (by decide), if_pos (by decide), mon_c]; exact ⟨rfl, rfl⟩
theorem val_bet2 : Cal.betv 58 30 = -1 ∧ Cal.bete 58 30 = 0 := by
  unfold Cal.betv Cal.bete; rw [if_pos (by decide), if_pos (by decide), if_pos (by decide), mon_c]; exact ⟨rfl, rfl⟩
theorem val_age1 : Cal.agev 36583 36947 = 0 ∧ Cal.agee 36583 36947 = 0 := by
  unfold Cal.agev Cal.agee; rw [if_pos (by decide), if_pos (by decide), months_is, mo_36583, mo_36947, into_a]; decide
theorem val_age2 : Cal.agev 36583 36948 = 1 ∧ Cal.agee 36583 36948 = 0 := by
  unfold Cal.agev Cal.agee; rw [if_pos (by decide), if_pos (by decide), months_is, mo_36583, mo_36948, into_a]; decide
theorem val_month : Cal.nv 36583 = 1201 ∧ Cal.ev 36583 = 0 := by
  unfold Cal.nv Cal.ev; rw [if_pos isd_36583, if_pos isd_36583, mo_36583]; exact ⟨rfl, rfl⟩
theorem val_first : Cal.fv 1201 = 36555 ∧ Cal.fe 1201 = 0 := by decide +kernel
theorem val_week : Cal.wv 36583 = 2 ∧ Cal.ev 36583 = 0 := by decide +kernel
theorem val_text1 : textv 36583 = ⟨#[50, 48, 48, 48, 45, 48, 50, 45, 50, 57]⟩ := by
  unfold textv Cal.yv Cal.mv Cal.dv; rw [if_pos isd_36583, if_pos isd_36583, if_pos isd_36583, if_pos isd_36583, mo_36583]; decide +kernel
theorem val_text2 : textv 65535 = ⟨#[50, 48, 55, 57, 45, 48, 54, 45, 48, 54]⟩ := by
  unfold textv Cal.yv Cal.mv Cal.dv; rw [if_pos (by decide), if_pos (by decide), if_pos (by decide), if_pos (by decide), mo_65535]; decide +kernel

set_option maxHeartbeats 4000000 in
set_option maxRecDepth 100000 in
theorem awake_any (w : World) (hL : Lens w) :
    Calls Tryd.prog 21 #[] w fun e w' => e = .returned (.bool true) ∧ Below w.heap.size w w' := by
  have HL0 := Lib.hid hL; clear hL
  have B0 := Lib.hid (Below.refl w.heap.size w)
  go_enter Tryd.func21, Tryd.ntmps21
  go_wp2_with fail
  refine (day_any 2000 2 29 _ HL0.out (by decide)).mono ?_
  rintro e w' ⟨rfl, rfl⟩
  rw [val_day1.1, val_day1.2]
  go_wp2_with fail
  refine (day_any 1900 2 29 _ HL0.out (by decide)).mono ?_
  rintro e w' ⟨rfl, rfl⟩
  rw [val_day2.1, val_day2.2]
  go_wp2_with fail
  refine (add_any 36583 12 _ HL0.out).mono ?_
  rintro e w1 ⟨rfl, hb1⟩
  have HL1 := Lib.hid (HL0.out.below hb1)
  have B1 := Lib.hid (below_next B0.out hb1)
  clear hb1
  rw [val_add1.1, val_add1.2]
  go_wp2_with fail
  refine (add_any 36583 (-1) _ HL1.out).mono ?_
  rintro e w2 ⟨rfl, hb2⟩
  have HL2 := Lib.hid (HL1.out.below hb2)
  have B2 := Lib.hid (below_next B1.out hb2)
  clear hb2
  rw [val_add2.1, val_add2.2]
  go_wp2_with fail
  refine (add_any 65535 1 _ HL2.out).mono ?_
  rintro e w3 ⟨rfl, hb3⟩
  have HL3 := Lib.hid (HL2.out.below hb3)
  have B3 := Lib.hid (below_next B2.out hb3)
  clear hb3
  rw [val_add3.1, val_add3.2]
  go_wp2_with fail
  refine (between_any 30 58 _ HL3.out).mono ?_
  rintro e w4 ⟨rfl, hb4⟩
  have HL4 := Lib.hid (HL3.out.below hb4)
  have B4 := Lib.hid (below_next B3.out hb4)
  clear hb4
  rw [val_bet1.1, val_bet1.2]
  go_wp2_with fail
  refine (between_any 58 30 _ HL4.out).mono ?_
  rintro e w5 ⟨rfl, hb5⟩
  have HL5 := Lib.hid (HL4.out.below hb5)
  have B5 := Lib.hid (below_next B4.out hb5)
  clear hb5
  rw [val_bet2.1, val_bet2.2]
  go_wp2_with fail
  refine (age_any 36583 36947 _ HL5.out).mono ?_
  rintro e w6 ⟨rfl, hb6⟩
  have HL6 := Lib.hid (HL5.out.below hb6)
  have B6 := Lib.hid (below_next B5.out hb6)
  clear hb6
  rw [val_age1.1, val_age1.2]
  go_wp2_with fail
  refine (age_any 36583 36948 _ HL6.out).mono ?_
  rintro e w7 ⟨rfl, hb7⟩
  have HL7 := Lib.hid (HL6.out.below hb7)
  have B7 := Lib.hid (below_next B6.out hb7)
  clear hb7
  rw [val_age2.1, val_age2.2]
  go_wp2_with fail
  refine (monthN_any 36583 _ HL7.out).mono ?_
  rintro e w8 ⟨rfl, hb8⟩
  have HL8 := Lib.hid (HL7.out.below hb8)
  have B8 := Lib.hid (below_next B7.out hb8)
  clear hb8
  rw [val_month.1, val_month.2]
  go_wp2_with fail
  refine (first_any 1201 _ HL8.out).mono ?_
  rintro e w' ⟨rfl, rfl⟩
  rw [val_first.1, val_first.2]
  go_wp2_with fail
  refine (weekday_any 36583 _).mono ?_
  rintro e w' ⟨rfl, rfl⟩
  rw [val_week.1, val_week.2]
  go_wp2_with fail
  refine (text_any 36583 _ HL8.out).mono ?_
  rintro e w9 ⟨rfl, hb9⟩
  have HL9 := Lib.hid (HL8.out.below hb9)
  have B9 := Lib.hid (below_next B8.out hb9)
  clear hb9
  rw [val_text1]
  go_wp2_with fail
  refine (text_any 65535 _ HL9.out).mono ?_
  rintro e w10 ⟨rfl, hb10⟩
  have HL10 := Lib.hid (HL9.out.below hb10)
  have B10 := Lib.hid (below_next B9.out hb10)
  clear hb10
  rw [val_text2]
  go_wp2
  go_ret
  exact ⟨rfl, B10.out⟩

end Go.Proofs.YtncnmokaamjlbaaDoor
