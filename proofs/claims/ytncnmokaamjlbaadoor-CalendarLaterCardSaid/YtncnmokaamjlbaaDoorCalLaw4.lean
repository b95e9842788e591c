/- The walks of the laws CalendarLater, CalendarWhole, CalendarBirthdays, CalendarWrong. -/
import Derived.Test.YtncnmokaamjlbaaDoorCalLaw2
namespace Go.Proofs.YtncnmokaamjlbaaDoor
open Go.RowKit

set_option maxHeartbeats 4000000 in
set_option maxRecDepth 100000 in
theorem later_bad (a b n : Int) (w : World) (hL : Lens w) (ha : ¬ Cal.IsD a) :
    Calls Tryd.prog 8 #[.int .i64 a, .int .i64 b, .int .i64 n] w fun e w' => e = .returned (.bool true) ∧ Below w.heap.size w w' := by
  have HL := Lib.hid hL; clear hL
  have Z := Lib.hid (Cal.notD_val ha)
  have A := Lib.hid (add_bad (n := n) ha)
  clear ha
  go_enter Tryd.func8, Tryd.ntmps8
  go_wp2_with fail
  refine (awake_any _ HL.out).mono ?_; rintro e w1 ⟨rfl, hb1⟩; have HL1 := Lib.hid (HL.out.below hb1)
  go_wp2_with fail
  refine (add_any _ _ _ HL1.out).mono ?_; rintro e w2 ⟨rfl, hb2⟩; have HL2 := Lib.hid (HL1.out.below hb2)
  rw [A.out.1, A.out.2]
  go_wp2_with fail
  refine (add_any _ _ _ HL2.out).mono ?_; rintro e w3 ⟨rfl, hb3⟩; have HL3 := Lib.hid (HL2.out.below hb3)
  go_wp2_with fail
  refine (ymd_any _ _ HL3.out).mono ?_; rintro e w4 ⟨rfl, hb4⟩; have HL4 := Lib.hid (HL3.out.below hb4)
  rw [Z.out.2.2.2.1]
  go_wp2_with fail
  go_ret
  exact ⟨rfl, below_next (below_next (below_next hb1 hb2) hb3) hb4⟩

set_option maxHeartbeats 4000000 in
set_option maxRecDepth 100000 in
theorem later_out (a b n : Int) (w : World) (hL : Lens w) (ha : Cal.IsD a) (h1 : ¬ Cal.AddOk a n) :
    Calls Tryd.prog 8 #[.int .i64 a, .int .i64 b, .int .i64 n] w fun e w' => e = .returned (.bool true) ∧ Below w.heap.size w w' := by
  have HL := Lib.hid hL; clear hL
  have V := Lib.hid (Cal.isD_val ha)
  have A := Lib.hid (add_no ha h1)
  have E := Cal.add_ends ha h1
  have hm := (Cal.mo_spec a ha.1 ha.2).2.2
  have hdb := (Cal.yv_bd a ha).2.2.2.2
  clear ha h1
  have E' : n < -(Cal.mo a : Int) ∨ (-(Cal.mo a : Int) ≤ n ∧ 2153 - (Cal.mo a : Int) < n) ∨ ((n == 2153 - (Cal.mo a : Int)) = true ∧ -(Cal.mo a : Int) ≤ n ∧ n ≤ 2153 - (Cal.mo a : Int) ∧ 6 < Cal.dv a) := by
    rcases E with h | h | ⟨h, h'⟩
    · exact .inl h
    · exact .inr (.inl ⟨by omega, h⟩)
    · exact .inr (.inr ⟨beq_iff_eq.2 h, by omega, by omega, h'⟩)
  clear E
  rcases E' with E | ⟨E0, E⟩ | ⟨E0, E1, E2, E3⟩
  all_goals
    go_enter Tryd.func8, Tryd.ntmps8
    go_wp2_with fail
    refine (awake_any _ HL.out).mono ?_; rintro e w1 ⟨rfl, hb1⟩; have HL1 := Lib.hid (HL.out.below hb1)
    go_wp2_with fail
    refine (add_any _ _ _ HL1.out).mono ?_; rintro e w2 ⟨rfl, hb2⟩; have HL2 := Lib.hid (HL1.out.below hb2)
    rw [A.out.1, A.out.2]
    go_wp2_with fail
    refine (add_any _ _ _ HL2.out).mono ?_; rintro e w3 ⟨rfl, hb3⟩; have HL3 := Lib.hid (HL2.out.below hb3)
    go_wp2_with fail
    refine (ymd_any _ _ HL3.out).mono ?_; rintro e w4 ⟨rfl, hb4⟩; have HL4 := Lib.hid (HL3.out.below hb4)
    rw [V.out.2.2.2.1]
    go_wp2_with fail
    refine (monthN_any _ _ HL4.out).mono ?_; rintro e w5 ⟨rfl, hb5⟩; have HL5 := Lib.hid (HL4.out.below hb5)
    rw [V.out.2.2.2.1, V.out.2.2.2.2.1]
    go_wp2_with fail
    refine (monthN_any _ _ HL5.out).mono ?_; rintro e w6 ⟨rfl, hb6⟩; have HL6 := Lib.hid (HL5.out.below hb6)
    rw [Cal.last_vals.1, Cal.last_vals.2.2]
    go_wp2_with fail
    refine (ymd_any _ _ HL6.out).mono ?_; rintro e w7 ⟨rfl, hb7⟩
    rw [Cal.last_vals.2.1, Cal.last_vals.2.2]
    go_wp2
    go_ret
    exact ⟨rfl, below_next (below_next (below_next (below_next (below_next (below_next hb1 hb2) hb3) hb4) hb5) hb6) hb7⟩

set_option maxHeartbeats 4000000 in
set_option maxRecDepth 100000 in
theorem later_in (a b n : Int) (k : Nat) (w : World) (hL : Lens w) (ha : Cal.IsD a) (hk : (Cal.mo a : Int) + n = k) (hk1 : k ≤ 2153) (hin : Cal.into a k < 65536) :
    Calls Tryd.prog 8 #[.int .i64 a, .int .i64 b, .int .i64 n] w fun e w' => e = .returned (.bool true) ∧ Below w.heap.size w w' := by
  have HL := Lib.hid hL; clear hL
  have V := Lib.hid (Cal.isD_val ha)
  have A := Lib.hid (Cal.addE ha k hk hin hk1)
  have I := Lib.hid (Cal.into_vals ha k hin)
  have hm := (Cal.mo_spec a ha.1 ha.2).2.2
  have hdb := (Cal.yv_bd a ha).2.2.2.2
  have HK := Lib.hid hk
  have hk2 : -2153 ≤ n ∧ n ≤ 2153 := by omega
  have hmin : Cal.dv (Cal.into a k) ≤ Cal.dv a ∧ Cal.dv (Cal.into a k) ≤ Cal.lenI (Cal.yv (Cal.into a k)) (Cal.mv (Cal.into a k)) ∧ (Cal.dv a ≤ Cal.lenI (Cal.yv (Cal.into a k)) (Cal.mv (Cal.into a k)) → Cal.dv a ≤ Cal.dv (Cal.into a k)) ∧ (Cal.lenI (Cal.yv (Cal.into a k)) (Cal.mv (Cal.into a k)) < Cal.dv a → Cal.lenI (Cal.yv (Cal.into a k)) (Cal.mv (Cal.into a k)) ≤ Cal.dv (Cal.into a k)) := by
    have := I.out.2.1; omega
  have hlast : (Cal.adde b n ≠ 0) ∨ (Cal.adde b n = 0 ∧ ∃ y, Cal.addv b n = y ∧ ((a < b ∧ Cal.into a k ≤ y) ∨ (b < a ∧ y ≤ Cal.into a k) ∨ (a = b ∧ y = Cal.into a k))) := by
    by_cases hb : Cal.IsD b
    · rcases Cal.add_cases hb n with ⟨_, h, _⟩ | ⟨l, hl, _, _, h3, h4⟩
      · left; rw [h]; decide
      · right
        refine ⟨h4, _, h3, ?_⟩
        rcases Int.lt_trichotomy a b with c | c | c
        · exact .inl ⟨c, Cal.into_mono ha hb (by omega) n k l hk hl⟩
        · subst c; exact .inr (.inr ⟨rfl, by rw [show l = k by omega]⟩)
        · exact .inr (.inl ⟨c, Cal.into_mono hb ha (by omega) n l k hl hk⟩)
    · left; rw [(add_bad hb).2]; decide
  clear hk ha
  rcases hlast with h | ⟨h, y, hy, h1 | h1 | ⟨h1, h2⟩⟩
  · have H := Lib.hid h
    have h' : (Cal.adde b n != 0) = true := bne_iff_ne.2 h
    clear h
    go_enter Tryd.func8, Tryd.ntmps8
    go_wp2_with fail
    refine (awake_any _ HL.out).mono ?_; rintro e w1 ⟨rfl, hb1⟩; have HL1 := Lib.hid (HL.out.below hb1)
    go_wp2_with fail
    refine (add_any _ _ _ HL1.out).mono ?_; rintro e w2 ⟨rfl, hb2⟩; have HL2 := Lib.hid (HL1.out.below hb2)
    rw [A.out.1, A.out.2]
    go_wp2_with fail
    refine (add_any _ _ _ HL2.out).mono ?_; rintro e w3 ⟨rfl, hb3⟩; have HL3 := Lib.hid (HL2.out.below hb3)
    go_wp2_with fail
    refine (ymd_any _ _ HL3.out).mono ?_; rintro e w4 ⟨rfl, hb4⟩; have HL4 := Lib.hid (HL3.out.below hb4)
    rw [V.out.2.2.2.1]
    go_wp2_with fail
    refine (monthN_any _ _ HL4.out).mono ?_; rintro e w5 ⟨rfl, hb5⟩; have HL5 := Lib.hid (HL4.out.below hb5)
    rw [V.out.2.2.2.1, V.out.2.2.2.2.1]
    go_wp2_with fail
    refine (monthN_any _ _ HL5.out).mono ?_; rintro e w6 ⟨rfl, hb6⟩; have HL6 := Lib.hid (HL5.out.below hb6)
    rw [I.out.1, I.out.2.2, ← HK.out]
    go_wp2_with fail
    refine (ymd_any _ _ HL6.out).mono ?_; rintro e w7 ⟨rfl, hb7⟩; have HL7 := Lib.hid (HL6.out.below hb7)
    rw [I.out.2.2]
    go_wp2_with (go_at_call 19; refine (len_any _ _ _ HL7.out).mono ?_; rintro e w' ⟨rfl, rfl⟩)
    all_goals
      go_ret
      exact ⟨rfl, below_next (below_next (below_next (below_next (below_next (below_next hb1 hb2) hb3) hb4) hb5) hb6) hb7⟩
  all_goals
    have H := Lib.hid h
    have HY := Lib.hid hy
    clear h hy
    try (subst h2)
    try (subst h1)
    go_enter Tryd.func8, Tryd.ntmps8
    go_wp2_with fail
    refine (awake_any _ HL.out).mono ?_; rintro e w1 ⟨rfl, hb1⟩; have HL1 := Lib.hid (HL.out.below hb1)
    go_wp2_with fail
    refine (add_any _ _ _ HL1.out).mono ?_; rintro e w2 ⟨rfl, hb2⟩; have HL2 := Lib.hid (HL1.out.below hb2)
    rw [A.out.1, A.out.2]
    go_wp2_with fail
    refine (add_any _ _ _ HL2.out).mono ?_; rintro e w3 ⟨rfl, hb3⟩; have HL3 := Lib.hid (HL2.out.below hb3)
    rw [H.out, HY.out]
    go_wp2_with fail
    refine (ymd_any _ _ HL3.out).mono ?_; rintro e w4 ⟨rfl, hb4⟩; have HL4 := Lib.hid (HL3.out.below hb4)
    rw [V.out.2.2.2.1]
    go_wp2_with fail
    refine (monthN_any _ _ HL4.out).mono ?_; rintro e w5 ⟨rfl, hb5⟩; have HL5 := Lib.hid (HL4.out.below hb5)
    rw [V.out.2.2.2.1, V.out.2.2.2.2.1]
    go_wp2_with fail
    refine (monthN_any _ _ HL5.out).mono ?_; rintro e w6 ⟨rfl, hb6⟩; have HL6 := Lib.hid (HL5.out.below hb6)
    rw [I.out.1, I.out.2.2, ← HK.out]
    go_wp2_with fail
    refine (ymd_any _ _ HL6.out).mono ?_; rintro e w7 ⟨rfl, hb7⟩; have HL7 := Lib.hid (HL6.out.below hb7)
    rw [I.out.2.2]
    go_wp2_with (go_at_call 19; refine (len_any _ _ _ HL7.out).mono ?_; rintro e w' ⟨rfl, rfl⟩)
    all_goals
      go_ret
      exact ⟨rfl, below_next (below_next (below_next (below_next (below_next (below_next hb1 hb2) hb3) hb4) hb5) hb6) hb7⟩

theorem later_law (a b n : Int) (w : World) (hL : Lens w) :
    Calls Tryd.prog 8 #[.int .i64 a, .int .i64 b, .int .i64 n] w fun e w' => e = .returned (.bool true) ∧ Below w.heap.size w w' := by
  by_cases ha : Cal.IsD a
  · rcases Cal.add_cases ha n with ⟨_, _, h⟩ | ⟨k, hk, hk1, hin, _⟩
    · exact later_out a b n w hL ha h
    · exact later_in a b n k w hL ha hk hk1 hin
  · exact later_bad a b n w hL ha

end Go.Proofs.YtncnmokaamjlbaaDoor
