/- The walks of the laws CalendarWhole, CalendarBirthdays, CalendarWrong. -/
import Derived.Test.YtncnmokaamjlbaaDoorCalLaw2
namespace Go.Proofs.YtncnmokaamjlbaaDoor
open Go.RowKit

theorem whole_key {a b : Int} (ha : Cal.IsD a) (hb : Cal.IsD b) (h : a ≤ b) :
    ∃ (n x y h : Int), Hid ((Cal.betv a b = n ∧ Cal.bete a b = 0 ∧ Cal.betv b a = -n ∧ Cal.bete b a = 0 ∧ Cal.agev a b = n / 12 ∧ Cal.agee a b = 0) ∧ (Cal.addv a n = x ∧ Cal.adde a n = 0) ∧ (Cal.addv a (n + 1) = y ∧ Cal.adde a (n + 1) = h)) ∧ 0 ≤ n ∧ n ≤ 2153 ∧ x ≤ b ∧ a ≤ x ∧ (h = 30 ∨ (h = 0 ∧ b < y)) := by
  obtain ⟨k, hk, hk1, hk2, hk3, hk4⟩ := Cal.months_spec ha hb h
  have hv := Cal.bet_vals ha hb h
  rw [hk] at hv
  have hx := Cal.addE ha (n := (k : Int)) (Cal.mo a + k) (by omega) (by have := hb.2; omega) hk1
  refine ⟨k, _, _, _, ⟨hv, hx, rfl, rfl⟩, by omega, by omega, hk2, hk4, ?_⟩
  rcases Cal.add_cases ha (k + 1) with ⟨_, h, _⟩ | ⟨l, hl, _, _, h3, h4⟩
  · exact .inl h
  · refine .inr ⟨h4, ?_⟩
    rw [h3, show l = Cal.mo a + k + 1 by omega]
    exact hk3

set_option maxHeartbeats 4000000 in
set_option maxRecDepth 100000 in
theorem whole_law (a0 b0 : Int) (w : World) (hL : Lens w) :
    Calls Tryd.prog 9 #[.int .i64 a0, .int .i64 b0] w fun e w' => e = .returned (.bool true) ∧ Below w.heap.size w w' := by
  have HL := Lib.hid hL; clear hL
  have ha0 := pick_isD a0
  have hb0 := pick_isD b0
  obtain ⟨a1, ea⟩ : ∃ a1, a1 = a0 % 65536 := ⟨_, rfl⟩
  obtain ⟨b1, eb⟩ : ∃ b1, b1 = b0 % 65536 := ⟨_, rfl⟩
  rw [← ea] at ha0
  rw [← eb] at hb0
  have EA := Lib.hid ea.symm
  have EB := Lib.hid eb.symm
  clear ea eb
  have hA := ha0.1; have hA' := ha0.2; have hB := hb0.1; have hB' := hb0.2
  rcases Int.lt_trichotomy a1 b1 with c | c | c
  · obtain ⟨n, x, y, h, K, k1, k2, k3, k4, k5⟩ := whole_key ha0 hb0 (by omega)
    clear ha0 hb0
    rcases k5 with rfl | ⟨rfl, k6⟩
    all_goals
      go_enter Tryd.func9, Tryd.ntmps9
      go_wp2_with fail
      refine (awake_any _ HL.out).mono ?_; rintro e w1 ⟨rfl, hb1⟩; have HL1 := Lib.hid (HL.out.below hb1)
      go_wp2_with fail
      refine (pick_any _ _ _ (by omega) (by omega)).mono ?_; rintro e w' ⟨rfl, rfl⟩; rw [EA.out]
      go_wp2_with fail
      refine (pick_any _ _ _ (by omega) (by omega)).mono ?_; rintro e w' ⟨rfl, rfl⟩; rw [EB.out]
      go_wp2_with fail
      refine (between_any _ _ _ HL1.out).mono ?_; rintro e w2 ⟨rfl, hb2⟩; have HL2 := Lib.hid (HL1.out.below hb2)
      rw [K.out.1.1, K.out.1.2.1]
      go_wp2_with fail
      refine (between_any _ _ _ HL2.out).mono ?_; rintro e w3 ⟨rfl, hb3⟩; have HL3 := Lib.hid (HL2.out.below hb3)
      rw [K.out.1.2.2.1, K.out.1.2.2.2.1]
      go_wp2_with fail
      refine (add_any _ _ _ HL3.out).mono ?_; rintro e w4 ⟨rfl, hb4⟩; have HL4 := Lib.hid (HL3.out.below hb4)
      rw [K.out.2.1.1, K.out.2.1.2]
      go_wp2_with fail
      refine (add_any _ _ _ HL4.out).mono ?_; rintro e w5 ⟨rfl, hb5⟩; have HL5 := Lib.hid (HL4.out.below hb5)
      rw [K.out.2.2.1, K.out.2.2.2]
      go_wp2_with fail
      refine (age_any _ _ _ HL5.out).mono ?_; rintro e w6 ⟨rfl, hb6⟩
      rw [K.out.1.2.2.2.2.1, K.out.1.2.2.2.2.2]
      go_wp2
      go_ret
      exact ⟨rfl, below_next (below_next (below_next (below_next (below_next hb1 hb2) hb3) hb4) hb5) hb6⟩
  · subst c
    obtain ⟨n, x, y, h, K, k1, k2, k3, k4, k5⟩ := whole_key ha0 ha0 (by omega)
    clear ha0 hb0
    rcases k5 with rfl | ⟨rfl, k6⟩
    all_goals
      go_enter Tryd.func9, Tryd.ntmps9
      go_wp2_with fail
      refine (awake_any _ HL.out).mono ?_; rintro e w1 ⟨rfl, hb1⟩; have HL1 := Lib.hid (HL.out.below hb1)
      go_wp2_with fail
      refine (pick_any _ _ _ (by omega) (by omega)).mono ?_; rintro e w' ⟨rfl, rfl⟩; rw [EA.out]
      go_wp2_with fail
      refine (pick_any _ _ _ (by omega) (by omega)).mono ?_; rintro e w' ⟨rfl, rfl⟩; rw [EB.out]
      go_wp2_with fail
      refine (between_any _ _ _ HL1.out).mono ?_; rintro e w2 ⟨rfl, hb2⟩; have HL2 := Lib.hid (HL1.out.below hb2)
      rw [K.out.1.1, K.out.1.2.1]
      go_wp2_with fail
      refine (between_any _ _ _ HL2.out).mono ?_; rintro e w3 ⟨rfl, hb3⟩; have HL3 := Lib.hid (HL2.out.below hb3)
      rw [K.out.1.2.2.1, K.out.1.2.2.2.1]
      go_wp2_with fail
      refine (add_any _ _ _ HL3.out).mono ?_; rintro e w4 ⟨rfl, hb4⟩; have HL4 := Lib.hid (HL3.out.below hb4)
      rw [K.out.2.1.1, K.out.2.1.2]
      go_wp2_with fail
      refine (add_any _ _ _ HL4.out).mono ?_; rintro e w5 ⟨rfl, hb5⟩; have HL5 := Lib.hid (HL4.out.below hb5)
      rw [K.out.2.2.1, K.out.2.2.2]
      go_wp2_with fail
      refine (age_any _ _ _ HL5.out).mono ?_; rintro e w6 ⟨rfl, hb6⟩
      rw [K.out.1.2.2.2.2.1, K.out.1.2.2.2.2.2]
      go_wp2
      go_ret
      exact ⟨rfl, below_next (below_next (below_next (below_next (below_next hb1 hb2) hb3) hb4) hb5) hb6⟩
  · obtain ⟨n, x, y, h, K, k1, k2, k3, k4, k5⟩ := whole_key hb0 ha0 (by omega)
    clear ha0 hb0
    rcases k5 with rfl | ⟨rfl, k6⟩
    all_goals
      go_enter Tryd.func9, Tryd.ntmps9
      go_wp2_with fail
      refine (awake_any _ HL.out).mono ?_; rintro e w1 ⟨rfl, hb1⟩; have HL1 := Lib.hid (HL.out.below hb1)
      go_wp2_with fail
      refine (pick_any _ _ _ (by omega) (by omega)).mono ?_; rintro e w' ⟨rfl, rfl⟩; rw [EA.out]
      go_wp2_with fail
      refine (pick_any _ _ _ (by omega) (by omega)).mono ?_; rintro e w' ⟨rfl, rfl⟩; rw [EB.out]
      go_wp2_with fail
      refine (between_any _ _ _ HL1.out).mono ?_; rintro e w2 ⟨rfl, hb2⟩; have HL2 := Lib.hid (HL1.out.below hb2)
      rw [K.out.1.1, K.out.1.2.1]
      go_wp2_with fail
      refine (between_any _ _ _ HL2.out).mono ?_; rintro e w3 ⟨rfl, hb3⟩; have HL3 := Lib.hid (HL2.out.below hb3)
      rw [K.out.1.2.2.1, K.out.1.2.2.2.1]
      go_wp2_with fail
      refine (add_any _ _ _ HL3.out).mono ?_; rintro e w4 ⟨rfl, hb4⟩; have HL4 := Lib.hid (HL3.out.below hb4)
      rw [K.out.2.1.1, K.out.2.1.2]
      go_wp2_with fail
      refine (add_any _ _ _ HL4.out).mono ?_; rintro e w5 ⟨rfl, hb5⟩; have HL5 := Lib.hid (HL4.out.below hb5)
      rw [K.out.2.2.1, K.out.2.2.2]
      go_wp2_with fail
      refine (age_any _ _ _ HL5.out).mono ?_; rintro e w6 ⟨rfl, hb6⟩
      rw [K.out.1.2.2.2.2.1, K.out.1.2.2.2.2.2]
      go_wp2
      go_ret
      exact ⟨rfl, below_next (below_next (below_next (below_next (below_next hb1 hb2) hb3) hb4) hb5) hb6⟩

theorem birth_key {a : Int} (ha : Cal.IsD a) (k : Int) (hk : 1 ≤ k) (hk1 : k ≤ 179) :
    Cal.adde a (12 * k) = 30 ∨ ∃ day, Hid (Cal.addv a (12 * k) = day ∧ Cal.adde a (12 * k) = 0 ∧ (Cal.agev a day = k ∧ Cal.agee a day = 0) ∧ (Cal.agev a (day - 1) = k - 1 ∧ Cal.agee a (day - 1) = 0) ∧ (Cal.agev a a = 0 ∧ Cal.agee a a = 0) ∧ Cal.agee day a = 2 ∧ Cal.agev day a = 0) ∧ 1 ≤ day ∧ day < 65536 := by
  rcases Cal.add_cases ha (12 * k) with ⟨_, h, _⟩ | ⟨l, hl, hl1, hl2, h3, h4⟩
  · exact .inl h
  right
  obtain ⟨K, rfl⟩ := Int.eq_ofNat_of_zero_le (show 0 ≤ k by omega)
  obtain rfl : l = Cal.mo a + 12 * K := by omega
  have hs := Cal.mo_spec a ha.1 ha.2
  have b1 := Cal.into_bd ha (Cal.mo a + 12 * K)
  have b2 := Cal.into_bd ha (Cal.mo a + 12 * K + 1)
  have b3 := Cal.into_bd ha (Cal.mo a + (12 * K - 1))
  rw [show Cal.mo a + (12 * K - 1) + 1 = Cal.mo a + 12 * K by omega] at b3
  have s1 := Cal.st_lt (show Cal.mo a + 1 < Cal.mo a + 12 * K by omega)
  have hD : Cal.IsD (Cal.into a (Cal.mo a + 12 * K)) := Cal.into_isD ha _ hl2
  have hD' : Cal.IsD (Cal.into a (Cal.mo a + 12 * K) - 1) := ⟨by have := ha.1; omega, by omega⟩
  have m1 := Cal.months_of ha hD (12 * K) (Int.le_refl _) (by omega)
  have m2 := Cal.months_of ha hD' (12 * K - 1) (by omega) (by rw [show Cal.mo a + (12 * K - 1) + 1 = Cal.mo a + 12 * K by omega]; omega)
  have v1 := Cal.bet_vals ha hD (by omega)
  have v2 := Cal.bet_vals ha hD' (by omega)
  have v3 := Cal.bet_vals ha ha (Int.le_refl _)
  have m3 : Cal.months a a = 0 := by unfold Cal.months; rw [Cal.into_self ha, if_pos (by omega)]; omega
  refine ⟨_, ⟨h3, h4, ⟨?_, v1.2.2.2.2.2⟩, ⟨?_, v2.2.2.2.2.2⟩, ⟨?_, v3.2.2.2.2.2⟩, ?_, ?_⟩, by have := ha.1; omega, hl2⟩
  · rw [v1.2.2.2.2.1, m1]; omega
  · rw [v2.2.2.2.2.1, m2]; omega
  · rw [v3.2.2.2.2.1, m3]; rfl
  · unfold Cal.agee; rw [if_neg (fun x => by have := x.2.2; omega)]
  · unfold Cal.agev; rw [if_neg (fun x => by have := x.2.2; omega)]

set_option maxHeartbeats 4000000 in
set_option maxRecDepth 100000 in
theorem birthdays_law (a0 y0 : Int) (w : World) (hL : Lens w) (hy0 : 0 ≤ y0) (hy1 : y0 ≤ 255) :
    Calls Tryd.prog 10 #[.int .i64 a0, .int .u8 y0] w fun e w' => e = .returned (.bool true) ∧ Below w.heap.size w w' := by
  have HL := Lib.hid hL; clear hL
  have ha0 := pick_isD a0
  obtain ⟨a1, ea⟩ : ∃ a1, a1 = a0 % 65536 := ⟨_, rfl⟩
  rw [← ea] at ha0
  have EA := Lib.hid ea.symm
  clear ea
  have hA := ha0.1; have hA' := ha0.2
  have hk := birth_key ha0 (1 + y0 % 179) (by omega) (by omega)
  have hkb : 0 ≤ y0 % 179 ∧ y0 % 179 ≤ 178 := by omega
  clear ha0
  rcases hk with h | ⟨day, K, k1, k2⟩
  · have H := Lib.hid h; clear h
    go_enter Tryd.func10, Tryd.ntmps10
    go_wp2_with fail
    refine (awake_any _ HL.out).mono ?_; rintro e w1 ⟨rfl, hb1⟩; have HL1 := Lib.hid (HL.out.below hb1)
    go_wp2_with fail
    refine (pick_any _ _ _ (by omega) (by omega)).mono ?_; rintro e w' ⟨rfl, rfl⟩; rw [EA.out]
    go_wp2_with fail
    refine (add_any _ _ _ HL1.out).mono ?_; rintro e w2 ⟨rfl, hb2⟩
    rw [H.out]
    go_wp2
    go_ret
    exact ⟨rfl, below_next hb1 hb2⟩
  · go_enter Tryd.func10, Tryd.ntmps10
    go_wp2_with fail
    refine (awake_any _ HL.out).mono ?_; rintro e w1 ⟨rfl, hb1⟩; have HL1 := Lib.hid (HL.out.below hb1)
    go_wp2_with fail
    refine (pick_any _ _ _ (by omega) (by omega)).mono ?_; rintro e w' ⟨rfl, rfl⟩; rw [EA.out]
    go_wp2_with fail
    refine (add_any _ _ _ HL1.out).mono ?_; rintro e w2 ⟨rfl, hb2⟩; have HL2 := Lib.hid (HL1.out.below hb2)
    rw [K.out.1, K.out.2.1]
    go_wp2_with fail
    refine (age_any _ _ _ HL2.out).mono ?_; rintro e w3 ⟨rfl, hb3⟩; have HL3 := Lib.hid (HL2.out.below hb3)
    rw [K.out.2.2.1.1, K.out.2.2.1.2]
    go_wp2_with fail
    refine (age_any _ _ _ HL3.out).mono ?_; rintro e w4 ⟨rfl, hb4⟩; have HL4 := Lib.hid (HL3.out.below hb4)
    rw [K.out.2.2.2.1.1, K.out.2.2.2.1.2]
    go_wp2_with fail
    refine (age_any _ _ _ HL4.out).mono ?_; rintro e w5 ⟨rfl, hb5⟩; have HL5 := Lib.hid (HL4.out.below hb5)
    rw [K.out.2.2.2.2.1.1, K.out.2.2.2.2.1.2]
    go_wp2_with fail
    refine (age_any _ _ _ HL5.out).mono ?_; rintro e w6 ⟨rfl, hb6⟩
    rw [K.out.2.2.2.2.2.1, K.out.2.2.2.2.2.2]
    go_wp2
    go_ret
    exact ⟨rfl, below_next (below_next (below_next (below_next (below_next hb1 hb2) hb3) hb4) hb5) hb6⟩

theorem wrong_key (d : Int) (hd : ¬ Cal.IsD d) (b n : Int) : Cal.addv d n = 0 ∧ Cal.adde d n = 2 ∧ Cal.betv d b = 0 ∧ Cal.bete d b = 2 ∧ Cal.betv b d = 0 ∧ Cal.bete b d = 2 ∧ Cal.agev d b = 0 ∧ Cal.agee d b = 2 ∧ Cal.agev b d = 0 ∧ Cal.agee b d = 2 ∧ Cal.nv d = 0 ∧ Cal.ev d = 2 := by
  have h1 := add_bad (n := n) hd
  have h2 := Cal.notD_val hd
  refine ⟨h1.1, h1.2, ?_, ?_, ?_, ?_, ?_, ?_, ?_, ?_, h2.2.2.2.2.1, h2.2.2.2.1⟩
  · unfold Cal.betv; rw [if_neg (fun x => hd x.1)]
  · unfold Cal.bete; rw [if_neg (fun x => hd x.1)]
  · unfold Cal.betv; rw [if_neg (fun x => hd x.2)]
  · unfold Cal.bete; rw [if_neg (fun x => hd x.2)]
  · unfold Cal.agev; rw [if_neg (fun x => hd x.1)]
  · unfold Cal.agee; rw [if_neg (fun x => hd x.1)]
  · unfold Cal.agev; rw [if_neg (fun x => hd x.2.1)]
  · unfold Cal.agee; rw [if_neg (fun x => hd x.2.1)]

theorem wrong_month (m : Int) (h : m < 0 ∨ 2154 ≤ m) : Cal.fv m = 0 ∧ Cal.fe m = 2 ∧ Cal.dayv 2000 m 1 = 0 ∧ Cal.daye 2000 m 1 = 2 ∧ Cal.lenI 2000 m = 0 := by
  have h1 : ¬ Cal.IsM m := fun x => by unfold Cal.IsM at x; omega
  have h2 : ¬ Cal.DayOk 2000 m 1 := fun x => by unfold Cal.DayOk at x; omega
  unfold Cal.fv Cal.fe Cal.dayv Cal.daye
  rw [if_neg h1, if_neg h1, if_neg h2, if_neg h2, Cal.len_out _ _ (by omega)]
  exact ⟨rfl, rfl, rfl, rfl, rfl⟩

theorem wrong_year (d : Int) (h : d < 1900 ∨ 2079 < d) : Cal.dayv d 1 1 = 0 ∧ Cal.daye d 1 1 = 2 := by
  have h2 : ¬ Cal.DayOk d 1 1 := fun x => by unfold Cal.DayOk at x; omega
  unfold Cal.dayv Cal.daye
  rw [if_neg h2, if_neg h2]
  exact ⟨rfl, rfl⟩

set_option maxHeartbeats 4000000 in
set_option maxRecDepth 100000 in
theorem wrong_law (d0 m0 x0 : Int) (w : World) (hL : Lens w) (hd0 : -9223372036854775808 ≤ d0) (hm1 : m0 ≤ 9223372036854775807) :
    Calls Tryd.prog 11 #[.int .i64 d0, .int .i64 m0, .int .i64 x0] w fun e w' => e = .returned (.bool true) ∧ Below w.heap.size w w' := by
  have HL := Lib.hid hL; clear hL
  obtain ⟨a1, ea⟩ : ∃ a1, a1 = x0 % 65536 := ⟨_, rfl⟩
  have EA := Lib.hid ea.symm
  clear ea
  obtain ⟨d, hd⟩ : ∃ d, Hid ((d0 < 0 ∧ d = d0) ∨ (0 ≤ d0 ∧ d0 < 65536 ∧ d = d0 - 65536) ∨ (65536 ≤ d0 ∧ d = d0)) := by
    by_cases c1 : d0 < 0
    · exact ⟨d0, .inl ⟨c1, rfl⟩⟩
    by_cases c2 : d0 < 65536
    · exact ⟨_, .inr (.inl ⟨by omega, c2, rfl⟩)⟩
    · exact ⟨d0, .inr (.inr ⟨by omega, rfl⟩)⟩
  obtain ⟨m, hm⟩ : ∃ m, Hid ((m0 < 0 ∧ m = m0) ∨ (0 ≤ m0 ∧ m0 < 2154 ∧ m = m0 + 2154) ∨ (2154 ≤ m0 ∧ m = m0)) := by
    by_cases c1 : m0 < 0
    · exact ⟨m0, .inl ⟨c1, rfl⟩⟩
    by_cases c2 : m0 < 2154
    · exact ⟨_, .inr (.inl ⟨by omega, c2, rfl⟩)⟩
    · exact ⟨m0, .inr (.inr ⟨by omega, rfl⟩)⟩
  have hnd : d < 0 ∨ 65536 ≤ d := by have := hd.out; omega
  have hnm : m < 0 ∨ 2154 ≤ m := by have := hm.out; omega
  have hD : ¬ Cal.IsD d := fun x => by unfold Cal.IsD at x; omega
  have K := Lib.hid (wrong_key d hD)
  have M := Lib.hid (wrong_month m hnm)
  have Y := Lib.hid (wrong_year d (by omega))
  have T := Lib.hid (show textv d = ⟨#[]⟩ by unfold textv; rw [if_neg hD])
  clear hD
  have hor : (d0 < 0 ∧ d = d0) ∨ (0 ≤ d0 ∧ d0 < 65536 ∧ d = d0 - 65536) ∨ (65536 ≤ d0 ∧ d = d0) := hd.out
  have hor2 : (m0 < 0 ∧ m = m0) ∨ (0 ≤ m0 ∧ m0 < 2154 ∧ m = m0 + 2154) ∨ (2154 ≤ m0 ∧ m = m0) := hm.out
  clear hd hm hnd hnm
  rcases hor with ⟨c1, rfl⟩ | ⟨c1, c2, rfl⟩ | ⟨c1, rfl⟩ <;> rcases hor2 with ⟨c3, rfl⟩ | ⟨c3, c4, rfl⟩ | ⟨c3, rfl⟩
  all_goals
    go_enter Tryd.func11, Tryd.ntmps11
    go_wp2_with fail
    refine (awake_any _ HL.out).mono ?_; rintro e w1 ⟨rfl, hb1⟩; have HL1 := Lib.hid (HL.out.below hb1)
    go_wp2_with fail
    refine (pick_any _ _ _ (by omega) (by omega)).mono ?_; rintro e w' ⟨rfl, rfl⟩; rw [EA.out]
    go_wp2_with fail
    refine (add_any _ _ _ HL1.out).mono ?_; rintro e w2 ⟨rfl, hb2⟩; have HL2 := Lib.hid (HL1.out.below hb2)
    rw [(K.out a1 1).1, (K.out a1 1).2.1]
    go_wp2_with fail
    refine (between_any _ _ _ HL2.out).mono ?_; rintro e w3 ⟨rfl, hb3⟩; have HL3 := Lib.hid (HL2.out.below hb3)
    rw [(K.out a1 1).2.2.1, (K.out a1 1).2.2.2.1]
    go_wp2_with fail
    refine (between_any _ _ _ HL3.out).mono ?_; rintro e w4 ⟨rfl, hb4⟩; have HL4 := Lib.hid (HL3.out.below hb4)
    rw [(K.out a1 1).2.2.2.2.1, (K.out a1 1).2.2.2.2.2.1]
    go_wp2_with fail
    refine (age_any _ _ _ HL4.out).mono ?_; rintro e w5 ⟨rfl, hb5⟩; have HL5 := Lib.hid (HL4.out.below hb5)
    rw [(K.out a1 1).2.2.2.2.2.2.1, (K.out a1 1).2.2.2.2.2.2.2.1]
    go_wp2_with fail
    refine (age_any _ _ _ HL5.out).mono ?_; rintro e w6 ⟨rfl, hb6⟩; have HL6 := Lib.hid (HL5.out.below hb6)
    rw [(K.out a1 1).2.2.2.2.2.2.2.2.1, (K.out a1 1).2.2.2.2.2.2.2.2.2.1]
    go_wp2_with fail
    refine (monthN_any _ _ HL6.out).mono ?_; rintro e w7 ⟨rfl, hb7⟩; have HL7 := Lib.hid (HL6.out.below hb7)
    rw [(K.out a1 1).2.2.2.2.2.2.2.2.2.2.1, (K.out a1 1).2.2.2.2.2.2.2.2.2.2.2]
    go_wp2_with fail
    refine (first_any _ _ HL7.out).mono ?_; rintro e w' ⟨rfl, rfl⟩
    rw [M.out.1, M.out.2.1]
    go_wp2_with fail
    refine (day_any _ _ _ _ HL7.out (by omega)).mono ?_; rintro e w' ⟨rfl, rfl⟩
    rw [M.out.2.2.1, M.out.2.2.2.1]
    go_wp2_with fail
    refine (day_any _ _ _ _ HL7.out (by omega)).mono ?_; rintro e w' ⟨rfl, rfl⟩
    rw [Y.out.1, Y.out.2]
    go_wp2_with fail
    refine (len_any _ _ _ HL7.out).mono ?_; rintro e w' ⟨rfl, rfl⟩
    rw [M.out.2.2.2.2]
    go_wp2_with fail
    refine (text_any _ _ HL7.out).mono ?_; rintro e w8 ⟨rfl, hb8⟩
    rw [T.out]
    go_wp2
    go_ret
    exact ⟨rfl, below_next (below_next (below_next (below_next (below_next (below_next (below_next hb1 hb2) hb3) hb4) hb5) hb6) hb7) hb8⟩

end Go.Proofs.YtncnmokaamjlbaaDoor
