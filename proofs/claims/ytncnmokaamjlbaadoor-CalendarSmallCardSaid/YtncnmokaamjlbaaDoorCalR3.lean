/- The walks of the reference's Add, Between, Age. -/
import Derived.Test.YtncnmokaamjlbaaDoorCalR2
namespace Go.Proofs.YtncnmokaamjlbaaDoor
open Go.RowKit

set_option maxHeartbeats 1000000 in
theorem radd_any (a n : Int) (w : World) :
    Calls Tryd.prog 42 #[.int .i64 a, .int .i64 n] w fun e w' => e = .returned (.tuple #[.int .i64 (Cal.addv a n), .int .i64 (Cal.adde a n)]) ∧ w = w' := by
  by_cases hd : Cal.IsD a
  · have Hd := Lib.hid hd
    obtain ⟨hm1, hm2, hm3⟩ := Cal.mo_spec a hd.1 hd.2
    have hb := Cal.yv_bd a hd
    have he := Lib.hid (show Cal.ev a = 0 by unfold Cal.ev; rw [if_pos hd])
    have hmo := Cal.mo_of_ym a hd
    by_cases c1 : n < -2153
    · have hn := Lib.hid (add_no hd (n := n) (fun h => by unfold Cal.AddOk at h; omega))
      clear hd hmo
      go_enter Tryd.func42, Tryd.ntmps42
      go_wp2_with (go_at_call 38; refine (rymd_any _ _).mono ?_; rintro e w' ⟨rfl, rfl⟩; rw [he.out])
      go_ret2
      exact ⟨ret_two hn.out.1.symm hn.out.2.symm, rfl⟩
    by_cases c2 : 2153 < n
    · have hn := Lib.hid (add_no hd (n := n) (fun h => by unfold Cal.AddOk at h; omega))
      clear hd hmo
      go_enter Tryd.func42, Tryd.ntmps42
      go_wp2_with (go_at_call 38; refine (rymd_any _ _).mono ?_; rintro e w' ⟨rfl, rfl⟩; rw [he.out])
      go_ret2
      exact ⟨ret_two hn.out.1.symm hn.out.2.symm, rfl⟩
    by_cases c3 : (Cal.mo a : Int) + n < 0
    · have hn := Lib.hid (add_no hd (n := n) (fun h => by unfold Cal.AddOk at h; omega))
      have c3' : 12 * (Cal.yv a - 1900) + Cal.mv a - 1 + n < 0 := by omega
      clear hd hmo c3
      go_enter Tryd.func42, Tryd.ntmps42
      go_wp2_with (go_at_call 38; refine (rymd_any _ _).mono ?_; rintro e w' ⟨rfl, rfl⟩; rw [he.out])
      go_ret2
      exact ⟨ret_two hn.out.1.symm hn.out.2.symm, rfl⟩
    obtain ⟨k, hk⟩ : ∃ k : Nat, (Cal.mo a : Int) + n = k := Int.eq_ofNat_of_zero_le (by omega)
    have hk1 : k ≤ 5000 := by omega
    have Hk := Lib.hid (show 12 * (Cal.yv a - 1900) + Cal.mv a - 1 + n = k by omega)
    have hk2 : 12 * (Cal.yv a - 1900) + Cal.mv a - 1 + n ≤ k ∧ k ≤ 12 * (Cal.yv a - 1900) + Cal.mv a - 1 + n := by omega
    have hlen := Cal.len_lo (1900 + (k : Int) / 12) ((k : Int) % 12 + 1) (by omega) (by omega)
    by_cases c4 : k < 2154 ∧ Cal.into a k < 65536
    · have hok := add_yes hd (n := n) ⟨by omega, by omega, by rw [hk, Int.toNat_natCast]; exact c4.2⟩
      rw [hk, Int.toNat_natCast] at hok
      have hn := Lib.hid hok
      have hday := Lib.hid (fun d' h => (Cal.day_into hd k hk1 d' h).1 c4.1 c4.2)
      clear hd hk hok hmo c4
      go_enter Tryd.func42, Tryd.ntmps42
      go_wp2_with fail
      refine (rymd_any _ _).mono ?_; rintro e w' ⟨rfl, rfl⟩; rw [he.out]
      go_wp2_with fail
      rw [Hk.out]
      clear hk2 Hk
      refine (rlen_any _ _ _).mono ?_; rintro e w' ⟨rfl, rfl⟩
      go_wp2_with fail
      all_goals
        refine (rday_any _ _ _ _).mono ?_; rintro e w' ⟨rfl, rfl⟩
        rw [(hday.out _ (by omega)).1, (hday.out _ (by omega)).2]
        go_wp2
        go_ret2
        exact ⟨ret_two hn.out.1.symm hn.out.2.symm, rfl⟩
    · have hn := Lib.hid (add_no hd (n := n) (fun h => by have := h.2.2; rw [hk, Int.toNat_natCast] at this; unfold Cal.AddOk at h; omega))
      have hday := Lib.hid (fun d' h => (Cal.day_into hd k hk1 d' h).2 (by omega))
      clear hd hk hmo c4
      go_enter Tryd.func42, Tryd.ntmps42
      go_wp2_with fail
      refine (rymd_any _ _).mono ?_; rintro e w' ⟨rfl, rfl⟩; rw [he.out]
      go_wp2_with fail
      rw [Hk.out]
      clear hk2 Hk
      refine (rlen_any _ _ _).mono ?_; rintro e w' ⟨rfl, rfl⟩
      go_wp2_with fail
      all_goals
        refine (rday_any _ _ _ _).mono ?_; rintro e w' ⟨rfl, rfl⟩
        rw [(hday.out _ (by omega)).1, (hday.out _ (by omega)).2]
        go_wp2
        go_ret2
        exact ⟨ret_two hn.out.1.symm hn.out.2.symm, rfl⟩
  · have hn := Lib.hid (add_bad (n := n) hd)
    have he := Lib.hid (show Cal.ev a = 2 by unfold Cal.ev; rw [if_neg hd])
    clear hd
    go_enter Tryd.func42, Tryd.ntmps42
    go_wp2_with (go_at_call 38; refine (rymd_any _ _).mono ?_; rintro e w' ⟨rfl, rfl⟩; rw [he.out])
    go_ret2
    exact ⟨ret_two hn.out.1.symm hn.out.2.symm, rfl⟩

theorem into_eq {a : Int} (ha : Cal.IsD a) (n : Nat) : Cal.into a n = Cal.st n + min (Cal.dv a) (Cal.lenI (Cal.yr n) (Cal.mn n)) - 1 := by
  unfold Cal.into Cal.dv; rw [if_pos ha]; omega

set_option maxHeartbeats 1000000 in
theorem rbetween_up (a b : Int) (w : World) (ha : Cal.IsD a) (hb : Cal.IsD b) (hab : a ≤ b) :
    Calls Tryd.prog 43 #[.int .i64 a, .int .i64 b] w fun e w' => e = .returned (.tuple #[.int .i64 (Cal.months a b), .int .i64 0]) ∧ w = w' := by
  have Ha := Lib.hid ha
  have Hb := Lib.hid hb
  obtain ⟨hm1, hm2, hm3⟩ := Cal.mo_spec b hb.1 hb.2
  have ha0 := ha.1; have ha1 := ha.2; have hb1 := hb.2
  have hd := Cal.yv_bd a ha
  have hv := Lib.hid (show Cal.yv a = Cal.yr (Cal.mo a + 0) ∧ Cal.mv a = Cal.mn (Cal.mo a + 0) ∧ a - Cal.dv a + 1 = Cal.st (Cal.mo a + 0) by
    unfold Cal.yv Cal.mv Cal.dv; rw [if_pos ha, if_pos ha, if_pos ha]; exact ⟨rfl, rfl, by rw [Nat.add_zero]; omega⟩)
  have hs := Lib.hid (show Cal.into a (Cal.mo a + 0) ≤ b by rw [Nat.add_zero, Cal.into_self ha]; exact hab)
  have he := Lib.hid (show Cal.ev a = 0 by unfold Cal.ev; rw [if_pos ha])
  clear ha hb
  go_enter Tryd.func43, Tryd.ntmps43
  go_wp2_with (first | (go_at_call 50; (first | (with_reducible refine (ris_yes a _ Ha.out).mono ?_) | (with_reducible refine (ris_yes b _ Hb.out).mono ?_)); rintro e w' ⟨rfl, rfl⟩) | (go_at_call 38; refine (rymd_any _ _).mono ?_; rintro e w' ⟨rfl, rfl⟩; rw [he.out]))
  go_loop [8, 9, 12, 13] (fun y m f c => ∃ n : Nat, y = .int .i64 (Cal.yr (Cal.mo a + n)) ∧ m = .int .i64 (Cal.mn (Cal.mo a + n)) ∧ f = .int .i64 (Cal.st (Cal.mo a + n)) ∧ c = .int .i64 n ∧ Hid (Cal.into a (Cal.mo a + n) ≤ b)) (fun _ _ _ c => 3000 - (intOf c).toNat)
  case atStart => exact ⟨0, by rw [hv.out.1], by rw [hv.out.2.1], by rw [← hv.out.2.2], rfl, hs⟩
  case round =>
    obtain ⟨n, rfl, rfl, rfl, rfl, hi⟩ := hrel
    have hnb : Cal.mo a + n ≤ 2153 := by
      have h1 := Cal.into_bd Ha.out (Cal.mo a + n)
      have h2 := hi.out
      have := Cal.st_inv (show Cal.st (Cal.mo a + n) ≤ b by omega) (show b < Cal.st 2154 by rw [Cal.st_2154]; omega)
      omega
    have hy := yr_bd (Cal.mo a + n) (by omega)
    have hy' := yr_bd (Cal.mo a + n + 1) (by omega)
    have hm := Cal.mn_bd (Cal.mo a + n)
    have hst := st_big (Cal.mo a + n) (by omega)
    have hst' := st_big (Cal.mo a + n + 1) (by omega)
    have hle := Cal.len_lo (Cal.yr (Cal.mo a + n)) (Cal.mn (Cal.mo a + n)) hm.1 hm.2
    have hss := Lib.hid (Cal.st_succ (Cal.mo a + n))
    have hie := Lib.hid (into_eq Ha.out (Cal.mo a + n + 1))
    have hle' := Cal.len_lo (Cal.yr (Cal.mo a + n + 1)) (Cal.mn (Cal.mo a + n + 1)) (Cal.mn_bd _).1 (Cal.mn_bd _).2
    have hmof := Lib.hid (fun h => Cal.months_of Ha.out Hb.out n hi.out h)
    by_cases h11 : (Cal.mo a + n) % 12 = 11
    · have e1 := Lib.hid (mn_next _ h11)
      have e2 := Lib.hid (Cal.yr_next _ h11)
      have e3 : 12 ≤ Cal.mn (Cal.mo a + n) := by have := e1.out.2; omega
      have e4 := Lib.hid (show Cal.lenI (Cal.yr (Cal.mo a + n) + 1) 1 = Cal.lenI (Cal.yr (Cal.mo a + n + 1)) (Cal.mn (Cal.mo a + n + 1)) by rw [e1.out.1, e2.out])
      clear h11
      by_cases hc : b < Cal.into a (Cal.mo a + n + 1)
      · have hf := Lib.hid (hmof.out hc)
        clear hmof
        go_wp2_with fail
        refine (rlen_any _ _ _).mono ?_; rintro e w' ⟨rfl, rfl⟩
        go_wp2_with fail
        rw [← hss.out]
        refine (rlen_any _ _ _).mono ?_; rintro e w' ⟨rfl, rfl⟩
        rw [e4.out]
        have hie1 : Cal.into a (Cal.mo a + n + 1) ≤ Cal.st (Cal.mo a + n + 1) + min (Cal.dv a) (Cal.lenI (Cal.yr (Cal.mo a + n + 1)) (Cal.mn (Cal.mo a + n + 1))) - 1 := by have := hie.out; omega
        go_wp2
        all_goals
          go_ret2
          exact ⟨ret_two hf.out.symm rfl, rfl⟩
      · have hf := Lib.hid (Int.not_lt.mp hc)
        clear hmof
        go_wp2_with fail
        refine (rlen_any _ _ _).mono ?_; rintro e w' ⟨rfl, rfl⟩
        go_wp2_with fail
        rw [← hss.out]
        refine (rlen_any _ _ _).mono ?_; rintro e w' ⟨rfl, rfl⟩
        rw [e4.out]
        have hie1 : Cal.st (Cal.mo a + n + 1) + min (Cal.dv a) (Cal.lenI (Cal.yr (Cal.mo a + n + 1)) (Cal.mn (Cal.mo a + n + 1))) - 1 ≤ Cal.into a (Cal.mo a + n + 1) := by have := hie.out; omega
        go_wp2
        all_goals
          go_round
          case rel => exact ⟨n + 1, by rw [← Nat.add_assoc, e2.out], by rw [← Nat.add_assoc, e1.out.1], by rw [← Nat.add_assoc], by go_num, hf⟩
          case measure => simp [intOf]; omega
    · have e1 := Lib.hid (mn_same _ h11)
      have e2 := Lib.hid (Cal.yr_same _ h11)
      have e3 : Cal.mn (Cal.mo a + n) ≤ 11 := e1.out.2
      have e4 := Lib.hid (show Cal.lenI (Cal.yr (Cal.mo a + n)) (Cal.mn (Cal.mo a + n) + 1) = Cal.lenI (Cal.yr (Cal.mo a + n + 1)) (Cal.mn (Cal.mo a + n + 1)) by rw [e1.out.1, e2.out])
      clear h11
      by_cases hc : b < Cal.into a (Cal.mo a + n + 1)
      · have hf := Lib.hid (hmof.out hc)
        clear hmof
        go_wp2_with fail
        refine (rlen_any _ _ _).mono ?_; rintro e w' ⟨rfl, rfl⟩
        go_wp2_with fail
        rw [← hss.out]
        refine (rlen_any _ _ _).mono ?_; rintro e w' ⟨rfl, rfl⟩
        rw [e4.out]
        have hie1 : Cal.into a (Cal.mo a + n + 1) ≤ Cal.st (Cal.mo a + n + 1) + min (Cal.dv a) (Cal.lenI (Cal.yr (Cal.mo a + n + 1)) (Cal.mn (Cal.mo a + n + 1))) - 1 := by have := hie.out; omega
        go_wp2
        all_goals
          go_ret2
          exact ⟨ret_two hf.out.symm rfl, rfl⟩
      · have hf := Lib.hid (Int.not_lt.mp hc)
        clear hmof
        go_wp2_with fail
        refine (rlen_any _ _ _).mono ?_; rintro e w' ⟨rfl, rfl⟩
        go_wp2_with fail
        rw [← hss.out]
        refine (rlen_any _ _ _).mono ?_; rintro e w' ⟨rfl, rfl⟩
        rw [e4.out]
        have hie1 : Cal.st (Cal.mo a + n + 1) + min (Cal.dv a) (Cal.lenI (Cal.yr (Cal.mo a + n + 1)) (Cal.mn (Cal.mo a + n + 1))) - 1 ≤ Cal.into a (Cal.mo a + n + 1) := by have := hie.out; omega
        go_wp2
        all_goals
          go_round
          case rel => exact ⟨n + 1, by rw [← Nat.add_assoc, e2.out], by rw [← Nat.add_assoc, e1.out.1], by rw [← Nat.add_assoc], by go_num, hf⟩
          case measure => simp [intOf]; omega

set_option maxHeartbeats 1000000 in
theorem rbetween_any (a b : Int) (w : World) :
    Calls Tryd.prog 43 #[.int .i64 a, .int .i64 b] w fun e w' => e = .returned (.tuple #[.int .i64 (Cal.betv a b), .int .i64 (Cal.bete a b)]) ∧ w = w' := by
  by_cases ha : Cal.IsD a
  · by_cases hb : Cal.IsD b
    · by_cases hab : a ≤ b
      · have hn := Lib.hid (show Cal.betv a b = Cal.months a b ∧ Cal.bete a b = 0 by unfold Cal.betv Cal.bete; rw [if_pos ⟨ha, hb⟩, if_neg (by omega), if_pos ⟨ha, hb⟩]; exact ⟨rfl, rfl⟩)
        rw [hn.out.1, hn.out.2]
        exact rbetween_up a b w ha hb hab
      · have hn := Lib.hid (show Cal.betv a b = -Cal.months b a ∧ Cal.bete a b = 0 by unfold Cal.betv Cal.bete; rw [if_pos ⟨ha, hb⟩, if_pos (by omega), if_pos ⟨ha, hb⟩]; exact ⟨rfl, rfl⟩)
        have Ha := Lib.hid ha
        have Hb := Lib.hid hb
        have hmb := Cal.months_bd hb ha (by omega)
        have hab' : b < a := by omega
        clear ha hb hab
        go_enter Tryd.func43, Tryd.ntmps43
        go_wp2_with (first | (go_at_call 50; (first | (with_reducible refine (ris_yes a _ Ha.out).mono ?_) | (with_reducible refine (ris_yes b _ Hb.out).mono ?_)); rintro e w' ⟨rfl, rfl⟩))
        refine (rbetween_up b a _ Hb.out Ha.out (by omega)).mono ?_
        rintro e w' ⟨rfl, rfl⟩
        go_wp2
        go_ret2
        exact ⟨ret_two hn.out.1.symm hn.out.2.symm, rfl⟩
    · have hn := Lib.hid (show Cal.betv a b = 0 ∧ Cal.bete a b = 2 by unfold Cal.betv Cal.bete; rw [if_neg (fun h => hb h.2), if_neg (fun h => hb h.2)]; exact ⟨rfl, rfl⟩)
      have Ha := Lib.hid ha
      have Hb := Lib.hid hb
      clear ha hb
      go_enter Tryd.func43, Tryd.ntmps43
      go_wp2_with (first | (go_at_call 50; (first | (with_reducible refine (ris_yes a _ Ha.out).mono ?_) | (with_reducible refine (ris_no b _ Hb.out).mono ?_)); rintro e w' ⟨rfl, rfl⟩))
      go_ret2
      exact ⟨ret_two hn.out.1.symm hn.out.2.symm, rfl⟩
  · have hn := Lib.hid (show Cal.betv a b = 0 ∧ Cal.bete a b = 2 by unfold Cal.betv Cal.bete; rw [if_neg (fun h => ha h.1), if_neg (fun h => ha h.1)]; exact ⟨rfl, rfl⟩)
    have Ha := Lib.hid ha
    clear ha
    go_enter Tryd.func43, Tryd.ntmps43
    go_wp2_with (first | (go_at_call 50; (with_reducible refine (ris_no a _ Ha.out).mono ?_); rintro e w' ⟨rfl, rfl⟩))
    go_ret2
    exact ⟨ret_two hn.out.1.symm hn.out.2.symm, rfl⟩

set_option maxHeartbeats 1000000 in
theorem rage_any (a b : Int) (w : World) :
    Calls Tryd.prog 44 #[.int .i64 a, .int .i64 b] w fun e w' => e = .returned (.tuple #[.int .i64 (Cal.agev a b), .int .i64 (Cal.agee a b)]) ∧ w = w' := by
  by_cases ha : Cal.IsD a
  · by_cases hb : Cal.IsD b
    · by_cases hab : a ≤ b
      · have hn := Lib.hid (show Cal.agev a b = Cal.months a b / 12 ∧ Cal.agee a b = 0 by unfold Cal.agev Cal.agee; rw [if_pos ⟨ha, hb, hab⟩, if_pos ⟨ha, hb, hab⟩]; exact ⟨rfl, rfl⟩)
        have hmb := Cal.months_bd ha hb hab
        have Ha := Lib.hid ha
        have Hb := Lib.hid hb
        clear ha hb
        go_enter Tryd.func44, Tryd.ntmps44
        go_wp2_with (first | (go_at_call 50; (first | (with_reducible refine (ris_yes a _ Ha.out).mono ?_) | (with_reducible refine (ris_yes b _ Hb.out).mono ?_)); rintro e w' ⟨rfl, rfl⟩))
        refine (rbetween_up a b _ Ha.out Hb.out hab).mono ?_
        rintro e w' ⟨rfl, rfl⟩
        go_wp2
        go_ret2
        exact ⟨ret_two hn.out.1.symm hn.out.2.symm, rfl⟩
      · have hn := Lib.hid (show Cal.agev a b = 0 ∧ Cal.agee a b = 2 by unfold Cal.agev Cal.agee; rw [if_neg (fun h => hab h.2.2), if_neg (fun h => hab h.2.2)]; exact ⟨rfl, rfl⟩)
        have Ha := Lib.hid ha
        have Hb := Lib.hid hb
        clear ha hb
        go_enter Tryd.func44, Tryd.ntmps44
        go_wp2_with (first | (go_at_call 50; (first | (with_reducible refine (ris_yes a _ Ha.out).mono ?_) | (with_reducible refine (ris_yes b _ Hb.out).mono ?_)); rintro e w' ⟨rfl, rfl⟩))
        go_ret2
        exact ⟨ret_two hn.out.1.symm hn.out.2.symm, rfl⟩
    · have hn := Lib.hid (show Cal.agev a b = 0 ∧ Cal.agee a b = 2 by unfold Cal.agev Cal.agee; rw [if_neg (fun h => hb h.2.1), if_neg (fun h => hb h.2.1)]; exact ⟨rfl, rfl⟩)
      have Ha := Lib.hid ha
      have Hb := Lib.hid hb
      clear ha hb
      go_enter Tryd.func44, Tryd.ntmps44
      go_wp2_with (first | (go_at_call 50; (first | (with_reducible refine (ris_yes a _ Ha.out).mono ?_) | (with_reducible refine (ris_no b _ Hb.out).mono ?_)); rintro e w' ⟨rfl, rfl⟩))
      go_ret2
      exact ⟨ret_two hn.out.1.symm hn.out.2.symm, rfl⟩
  · have hn := Lib.hid (show Cal.agev a b = 0 ∧ Cal.agee a b = 2 by unfold Cal.agev Cal.agee; rw [if_neg (fun h => ha h.1), if_neg (fun h => ha h.1)]; exact ⟨rfl, rfl⟩)
    have Ha := Lib.hid ha
    clear ha
    go_enter Tryd.func44, Tryd.ntmps44
    go_wp2_with (first | (go_at_call 50; (with_reducible refine (ris_no a _ Ha.out).mono ?_); rintro e w' ⟨rfl, rfl⟩))
    go_ret2
    exact ⟨ret_two hn.out.1.symm hn.out.2.symm, rfl⟩

end Go.Proofs.YtncnmokaamjlbaaDoor
