/- The walks of Pick and of the laws CalendarNext and CalendarYears. -/
import Derived.Test.YtncnmokaamjlbaaDoorCalAwake
import Derived.Test.YtncnmokaamjlbaaDoorCalPlain3
namespace Go.Proofs.YtncnmokaamjlbaaDoor
open Go.RowKit

theorem tmod_cases (x n : Int) (h : 1 ≤ n) : (x.tmod n < 0 → x % n = x.tmod n + n) ∧ (0 ≤ x.tmod n → x % n = x.tmod n) ∧ -n < x.tmod n ∧ x.tmod n < n := by
  have h1 : x.tmod n = x % n - ((if 0 ≤ x ∨ n ∣ x then 0 else n.natAbs : Nat) : Int) := Int.tmod_eq_emod
  have h2 := Int.emod_nonneg x (show n ≠ 0 by omega)
  have h3 := Int.emod_lt_of_pos x (show 0 < n by omega)
  split at h1 <;> omega

set_option maxHeartbeats 400000 in
theorem pick_any (x n : Int) (w : World) (h1 : 1 ≤ n) (h2 : n ≤ 4611686018427387904) :
    Calls Tryd.prog 28 #[.int .i64 x, .int .i64 n] w fun e w' => e = .returned (.int .i64 (x % n)) ∧ w = w' := by
  obtain ⟨c1, c2, c3, c4⟩ := tmod_cases x n h1
  by_cases h0 : 0 ≤ x
  · have hge := Int.emod_nonneg x (show n ≠ 0 by omega)
    clear c1 c2 c3 c4
    go_enter Tryd.func28, Tryd.ntmps28
    go_wp2
    go_ret
    exact ⟨rfl, rfl⟩
  · by_cases ht : x.tmod n < 0
    · have hf := Lib.hid (c1 ht)
      clear c1 c2
      go_enter Tryd.func28, Tryd.ntmps28
      go_wp2
      go_ret
      exact ⟨ret_int hf.out.symm, rfl⟩
    · have hf := Lib.hid (c2 (by omega))
      clear c1 c2
      go_enter Tryd.func28, Tryd.ntmps28
      go_wp2
      go_ret
      exact ⟨ret_int hf.out.symm, rfl⟩

theorem pick_isD (x : Int) : Cal.IsD (x % 65536) := ⟨Int.emod_nonneg x (by decide), Int.emod_lt_of_pos x (by decide)⟩

set_option maxHeartbeats 2000000 in
set_option maxRecDepth 100000 in
theorem next_law (d : Int) (w : World) (hL : Lens w) :
    Calls Tryd.prog 6 #[.int .i64 d] w fun e w' => e = .returned (.bool true) ∧ Below w.heap.size w w' := by
  have HL := Lib.hid hL; clear hL
  by_cases hd : Cal.IsD d
  · obtain ⟨e1, e2, e3, e4, e5, e6⟩ := Cal.isD_val hd
    have h0 := hd.1; have h1 := hd.2
    have hb := Cal.yv_bd d hd
    have hback := Lib.hid (Cal.day_back hd)
    have hfirst := Lib.hid (Cal.first_back hd)
    have hle := hback.out.2.2
    have He := Lib.hid e4
    have hw7 := Lib.hid e6
    have hw : 1 ≤ Cal.wv d ∧ Cal.wv d ≤ 7 := by omega
    have hnv : 0 ≤ Cal.nv d ∧ Cal.nv d ≤ 2153 := by have := Cal.mo_spec d h0 h1; omega
    have hd1 : d - Cal.dv d + 1 ≤ 65536 ∧ -100 ≤ d - Cal.dv d + 1 := by omega
    clear e1 e2 e3 e4 e5 e6
    by_cases hz : d = 0
    · subst hz
      obtain ⟨z1, z2, z3, z4, z5⟩ := Cal.zero_vals
      have Z := Lib.hid Cal.zero_vals
      rw [z1, z2, z3] at hback hle
      rw [z5, z3] at hfirst
      clear z1 z2 z3 z4 z5
      clear hb hw hnv hd1
      go_enter Tryd.func6, Tryd.ntmps6
      go_wp2_with fail
      refine (awake_any _ HL.out).mono ?_; rintro e w1 ⟨rfl, hb1⟩; have HL1 := Lib.hid (HL.out.below hb1)
      go_wp2_with fail
      refine (ymd_any _ _ HL1.out).mono ?_; rintro e w2 ⟨rfl, hb2⟩; have HL2 := Lib.hid (HL1.out.below hb2)
      rw [He.out, Z.out.1, Z.out.2.1, Z.out.2.2.1]
      go_wp2_with fail
      refine (weekday_any _ _).mono ?_; rintro e w' ⟨rfl, rfl⟩
      rw [He.out, Z.out.2.2.2.1]
      go_wp2_with fail
      refine (monthN_any _ _ HL2.out).mono ?_; rintro e w3 ⟨rfl, hb3⟩; have HL3 := Lib.hid (HL2.out.below hb3)
      rw [He.out, Z.out.2.2.2.2]
      go_wp2_with fail
      refine (day_any _ _ _ _ HL3.out (by omega)).mono ?_; rintro e w' ⟨rfl, rfl⟩
      rw [hback.out.1, hback.out.2.1]
      go_wp2_with fail
      refine (first_any _ _ HL3.out).mono ?_; rintro e w' ⟨rfl, rfl⟩
      rw [hfirst.out.1, hfirst.out.2]
      go_wp2_with (go_at_call 19; refine (len_any _ _ _ HL3.out).mono ?_; rintro e w' ⟨rfl, rfl⟩)
      go_ret
      exact ⟨rfl, below_next (below_next hb1 hb2) hb3⟩
    · have hpos : 0 < d := by omega
      have hp : Cal.IsD (d - 1) := ⟨by omega, by omega⟩
      have hz' : (d == 0) = false := beq_eq_false_iff_ne.2 hz
      have He' := Lib.hid (show Cal.ev (d - 1) = 0 from (Cal.isD_val hp).2.2.2.1)
      have hwk := Lib.hid (Cal.week_next d hd hpos)
      have hw' : 1 ≤ Cal.wv (d - 1) ∧ Cal.wv (d - 1) ≤ 7 := by have := (Cal.isD_val hp).2.2.2.2.2; omega
      have hcase : ∃ (A B C O : Int), (Cal.yv (d - 1) = A ∧ Cal.mv (d - 1) = B ∧ Cal.dv (d - 1) = C ∧ Cal.nv (d - 1) = O) ∧ ((1 < Cal.dv d ∧ A = Cal.yv d ∧ B = Cal.mv d ∧ C = Cal.dv d - 1 ∧ O = Cal.nv d) ∨ (Cal.dv d ≤ 1 ∧ 1 < Cal.mv d ∧ A = Cal.yv d ∧ B = Cal.mv d - 1 ∧ C = Cal.lenI (Cal.yv d) (Cal.mv d - 1) ∧ O = Cal.nv d - 1) ∨ (Cal.dv d ≤ 1 ∧ Cal.mv d ≤ 1 ∧ A = Cal.yv d - 1 ∧ B = 12 ∧ C = 31 ∧ O = Cal.nv d - 1)) := by
        refine ⟨_, _, _, _, ⟨rfl, rfl, rfl, rfl⟩, ?_⟩
        by_cases c1 : 1 < Cal.dv d
        · exact .inl ⟨c1, Cal.prev_day hd hpos c1⟩
        by_cases c2 : 1 < Cal.mv d
        · exact .inr (.inl ⟨by omega, c2, Cal.prev_m hd hpos (by omega) c2⟩)
        · exact .inr (.inr ⟨by omega, by omega, Cal.prev_y hd hpos (by omega) (by omega)⟩)
      obtain ⟨A, B, C, O, hv, hcase⟩ := hcase
      have Hv := Lib.hid hv
      clear hv hz hp hd
      rcases hcase with ⟨c1, rfl, rfl, rfl, rfl⟩ | ⟨c1, c2, rfl, rfl, rfl, rfl⟩ | ⟨c1, c2, rfl, rfl, rfl, rfl⟩
      all_goals
        go_enter Tryd.func6, Tryd.ntmps6
        go_wp2_with fail
        refine (awake_any _ HL.out).mono ?_; rintro e w1 ⟨rfl, hb1⟩; have HL1 := Lib.hid (HL.out.below hb1)
        go_wp2_with fail
        refine (ymd_any _ _ HL1.out).mono ?_; rintro e w2 ⟨rfl, hb2⟩; have HL2 := Lib.hid (HL1.out.below hb2)
        rw [He.out]
        go_wp2_with fail
        refine (weekday_any _ _).mono ?_; rintro e w' ⟨rfl, rfl⟩
        rw [He.out, hwk.out]
        go_wp2_with fail
        refine (monthN_any _ _ HL2.out).mono ?_; rintro e w3 ⟨rfl, hb3⟩; have HL3 := Lib.hid (HL2.out.below hb3)
        rw [He.out]
        go_wp2_with fail
        refine (day_any _ _ _ _ HL3.out (by omega)).mono ?_; rintro e w' ⟨rfl, rfl⟩
        rw [hback.out.1, hback.out.2.1]
        go_wp2_with fail
        refine (first_any _ _ HL3.out).mono ?_; rintro e w' ⟨rfl, rfl⟩
        rw [hfirst.out.1, hfirst.out.2]
        go_wp2_with (go_at_call 19; refine (len_any _ _ _ HL3.out).mono ?_; rintro e w' ⟨rfl, rfl⟩)
        refine (ymd_any _ _ HL3.out).mono ?_; rintro e w4 ⟨rfl, hb4⟩; have HL4 := Lib.hid (HL3.out.below hb4)
        rw [He'.out, Hv.out.1, Hv.out.2.1, Hv.out.2.2.1]
        go_wp2_with fail
        refine (weekday_any _ _).mono ?_; rintro e w' ⟨rfl, rfl⟩
        rw [He'.out]
        go_wp2_with fail
        refine (monthN_any _ _ HL4.out).mono ?_; rintro e w5 ⟨rfl, hb5⟩; have HL5 := Lib.hid (HL4.out.below hb5)
        rw [He'.out, Hv.out.2.2.2]
        go_wp2_with (go_at_call 19; refine (len_any _ _ _ HL5.out).mono ?_; rintro e w' ⟨rfl, rfl⟩)
        go_ret
        exact ⟨rfl, below_next (below_next (below_next (below_next hb1 hb2) hb3) hb4) hb5⟩
  · have Z := Lib.hid (Cal.notD_val hd)
    have hor : d < 0 ∨ 65536 ≤ d := by unfold Cal.IsD at hd; omega
    clear hd
    rcases hor with hor | hor
    all_goals
      go_enter Tryd.func6, Tryd.ntmps6
      go_wp2_with fail
      refine (awake_any _ HL.out).mono ?_; rintro e w1 ⟨rfl, hb1⟩; have HL1 := Lib.hid (HL.out.below hb1)
      go_wp2_with fail
      refine (ymd_any _ _ HL1.out).mono ?_; rintro e w2 ⟨rfl, hb2⟩; have HL2 := Lib.hid (HL1.out.below hb2)
      rw [Z.out.1, Z.out.2.1, Z.out.2.2.1, Z.out.2.2.2.1]
      go_wp2_with fail
      refine (weekday_any _ _).mono ?_; rintro e w' ⟨rfl, rfl⟩
      rw [Z.out.2.2.2.2.2, Z.out.2.2.2.1]
      go_wp2_with fail
      refine (monthN_any _ _ HL2.out).mono ?_; rintro e w3 ⟨rfl, hb3⟩; have HL3 := Lib.hid (HL2.out.below hb3)
      rw [Z.out.2.2.2.2.1, Z.out.2.2.2.1]
      go_wp2_with fail
      go_ret
      exact ⟨rfl, below_next (below_next hb1 hb2) hb3⟩

end Go.Proofs.YtncnmokaamjlbaaDoor
