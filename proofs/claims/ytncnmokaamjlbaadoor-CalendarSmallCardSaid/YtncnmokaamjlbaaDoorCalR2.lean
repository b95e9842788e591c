/- The walks of the reference's YMD, Month, Weekday, First, Add, Between, Age. -/
import Derived.Test.YtncnmokaamjlbaaDoorCalR1
import Derived.Test.YtncnmokaamjlbaaDoorCalW4
namespace Go.Proofs.YtncnmokaamjlbaaDoor
open Go.RowKit

theorem mn_next (n : Nat) (h : n % 12 = 11) : Cal.mn (n + 1) = 1 ∧ Cal.mn n = 12 := by unfold Cal.mn; omega
theorem mn_same (n : Nat) (h : n % 12 ≠ 11) : Cal.mn (n + 1) = Cal.mn n + 1 ∧ Cal.mn n ≤ 11 := by unfold Cal.mn; omega
theorem yr_bd (n : Nat) (h : n ≤ 2300) : 1900 ≤ Cal.yr n ∧ Cal.yr n ≤ 2200 := by unfold Cal.yr; omega

set_option maxHeartbeats 1000000 in
theorem rymd_any (d : Int) (w : World) :
    Calls Tryd.prog 38 #[.int .i64 d] w fun e w' => e = .returned (.tuple #[.int .i64 (Cal.yv d), .int .i64 (Cal.mv d), .int .i64 (Cal.dv d), .int .i64 (Cal.ev d)]) ∧ w = w' := by
  by_cases hd : Cal.IsD d
  · have Hd := Lib.hid hd
    obtain ⟨hm1, hm2, hm3⟩ := Cal.mo_spec d hd.1 hd.2
    have h0 := hd.1; have h1 := hd.2
    have hn := Lib.hid (show Cal.yv d = Cal.yr (Cal.mo d) ∧ Cal.mv d = Cal.mn (Cal.mo d) ∧ Cal.dv d = d - Cal.st (Cal.mo d) + 1 ∧ Cal.ev d = 0 by
      unfold Cal.yv Cal.mv Cal.dv Cal.ev; rw [if_pos hd, if_pos hd, if_pos hd, if_pos hd]; exact ⟨rfl, rfl, rfl, rfl⟩)
    clear hd
    go_enter Tryd.func38, Tryd.ntmps38
    go_wp2_with (first | (go_at_call 50; refine (ris_yes _ _ Hd.out).mono ?_; rintro e w' ⟨rfl, rfl⟩))
    go_loop [6, 7, 8] (fun y m l => ∃ n : Nat, n ≤ Cal.mo d ∧ y = .int .i64 (Cal.yr n) ∧ m = .int .i64 (Cal.mn n) ∧ l = .int .i64 (d - Cal.st n)) (fun _ _ l => (intOf l).toNat)
    case atStart => exact ⟨0, by omega, rfl, rfl, by rw [Cal.st_zero, Int.sub_zero]⟩
    case round =>
      obtain ⟨n, hnm, rfl, rfl, rfl⟩ := hrel
      have hy := yr_bd n (by omega)
      have hm := Cal.mn_bd n
      have hst := st_big n (by omega)
      have hle := Cal.len_lo (Cal.yr n) (Cal.mn n) hm.1 hm.2
      have hss := Lib.hid (Cal.st_succ n)
      by_cases hlt : n < Cal.mo d
      · have hge : Cal.lenI (Cal.yr n) (Cal.mn n) ≤ d - Cal.st n := by have := Cal.st_le (show n + 1 ≤ Cal.mo d from hlt); rw [hss.out] at this; omega
        by_cases h11 : n % 12 = 11
        · have e1 := Lib.hid (mn_next n h11)
          have e2 := Lib.hid (Cal.yr_next n h11)
          have e3 : 12 ≤ Cal.mn n := by have := e1.out.2; omega
          clear h11
          go_wp2_with (go_at_call 20; refine (rlen_any _ _ _).mono ?_; rintro e w' ⟨rfl, rfl⟩)
          go_round
          case rel => exact ⟨n + 1, by omega, by rw [e2.out], by rw [e1.out.1], by rw [hss.out]; go_num⟩
          case measure => simp [intOf]; omega
        · have e1 := Lib.hid (mn_same n h11)
          have e2 := Lib.hid (Cal.yr_same n h11)
          have e3 : Cal.mn n ≤ 11 := e1.out.2
          clear h11
          go_wp2_with (go_at_call 20; refine (rlen_any _ _ _).mono ?_; rintro e w' ⟨rfl, rfl⟩)
          go_round
          case rel => exact ⟨n + 1, by omega, by rw [e2.out], by rw [e1.out.1], by rw [hss.out]; go_num⟩
          case measure => simp [intOf]; omega
      · obtain rfl : n = Cal.mo d := by omega
        have hge : d - Cal.st (Cal.mo d) < Cal.lenI (Cal.yr (Cal.mo d)) (Cal.mn (Cal.mo d)) := by rw [hss.out] at hm2; omega
        clear hlt
        go_wp2_with (go_at_call 20; refine (rlen_any _ _ _).mono ?_; rintro e w' ⟨rfl, rfl⟩)
        refine bodyPost_ret (results_tmp4 rfl _ _ _) rfl ?_
        exact ⟨ret_four hn.out.1.symm hn.out.2.1.symm hn.out.2.2.1.symm hn.out.2.2.2.symm, rfl⟩
  · have hn := Lib.hid (show Cal.yv d = 0 ∧ Cal.mv d = 0 ∧ Cal.dv d = 0 ∧ Cal.ev d = 2 by
      unfold Cal.yv Cal.mv Cal.dv Cal.ev; rw [if_neg hd, if_neg hd, if_neg hd, if_neg hd]; exact ⟨rfl, rfl, rfl, rfl⟩)
    have Hd := Lib.hid hd; clear hd
    go_enter Tryd.func38, Tryd.ntmps38
    go_wp2_with (first | (go_at_call 50; refine (ris_no _ _ Hd.out).mono ?_; rintro e w' ⟨rfl, rfl⟩))
    refine bodyPost_ret (results_tmp4 rfl _ _ _) rfl ?_
    exact ⟨ret_four hn.out.1.symm hn.out.2.1.symm hn.out.2.2.1.symm hn.out.2.2.2.symm, rfl⟩

set_option maxHeartbeats 400000 in
theorem rmonth_any (d : Int) (w : World) :
    Calls Tryd.prog 39 #[.int .i64 d] w fun e w' => e = .returned (.tuple #[.int .i64 (Cal.nv d), .int .i64 (Cal.ev d)]) ∧ w = w' := by
  by_cases hd : Cal.IsD d
  · have hb := Cal.yv_bd d hd
    have he := Lib.hid (show Cal.ev d = 0 by unfold Cal.ev; rw [if_pos hd])
    have hn := Lib.hid (show Cal.nv d = 12 * (Cal.yv d - 1900) + Cal.mv d - 1 by rw [Cal.mo_of_ym d hd]; unfold Cal.nv; rw [if_pos hd])
    clear hd
    go_enter Tryd.func39, Tryd.ntmps39
    go_wp2_with (go_at_call 38; refine (rymd_any _ _).mono ?_; rintro e w' ⟨rfl, rfl⟩; rw [he.out])
    go_ret2
    exact ⟨ret_two hn.out.symm he.out.symm, rfl⟩
  · have hn := Lib.hid (show Cal.nv d = 0 ∧ Cal.ev d = 2 by unfold Cal.nv Cal.ev; rw [if_neg hd, if_neg hd]; exact ⟨rfl, rfl⟩)
    clear hd
    go_enter Tryd.func39, Tryd.ntmps39
    go_wp2_with (go_at_call 38; refine (rymd_any _ _).mono ?_; rintro e w' ⟨rfl, rfl⟩; rw [hn.out.2])
    go_ret2
    exact ⟨ret_two hn.out.1.symm hn.out.2.symm, rfl⟩

set_option maxHeartbeats 400000 in
theorem rweekday_any (d : Int) (w : World) :
    Calls Tryd.prog 40 #[.int .i64 d] w fun e w' => e = .returned (.tuple #[.int .i64 (Cal.wv d), .int .i64 (Cal.ev d)]) ∧ w = w' := by
  by_cases hd : Cal.IsD d
  · have Hd := Lib.hid hd
    have hn := Lib.hid (show Cal.wv d = d % 7 + 1 ∧ Cal.ev d = 0 by unfold Cal.wv Cal.ev; rw [if_pos hd, if_pos hd]; exact ⟨rfl, rfl⟩)
    have h0 := hd.1; have h1 := hd.2
    clear hd
    go_enter Tryd.func40, Tryd.ntmps40
    go_wp2_with (first | (go_at_call 50; refine (ris_yes _ _ Hd.out).mono ?_; rintro e w' ⟨rfl, rfl⟩))
    go_ret2
    exact ⟨ret_two hn.out.1.symm hn.out.2.symm, rfl⟩
  · have hn := Lib.hid (show Cal.wv d = 0 ∧ Cal.ev d = 2 by unfold Cal.wv Cal.ev; rw [if_neg hd, if_neg hd]; exact ⟨rfl, rfl⟩)
    have Hd := Lib.hid hd; clear hd
    go_enter Tryd.func40, Tryd.ntmps40
    go_wp2_with (first | (go_at_call 50; refine (ris_no _ _ Hd.out).mono ?_; rintro e w' ⟨rfl, rfl⟩))
    go_ret2
    exact ⟨ret_two hn.out.1.symm hn.out.2.symm, rfl⟩

theorem day_first (n : Nat) (h : n < 2154) : Cal.dayv (1900 + (n : Int) / 12) ((n : Int) % 12 + 1) 1 = Cal.st n ∧ Cal.daye (1900 + (n : Int) / 12) ((n : Int) % 12 + 1) 1 = 0 := by
  have hn : Cal.mnum (1900 + (n : Int) / 12) ((n : Int) % 12 + 1) = n := by unfold Cal.mnum; omega
  have hl := Cal.len_lo (1900 + (n : Int) / 12) ((n : Int) % 12 + 1) (by omega) (by omega)
  have hs := Cal.st_le (show n ≤ 2153 by omega)
  rw [Cal.st_2153] at hs
  have hok : Cal.DayOk (1900 + (n : Int) / 12) ((n : Int) % 12 + 1) 1 := ⟨by omega, by omega, by omega, by omega, by omega, by omega, by rw [hn]; omega⟩
  unfold Cal.dayv Cal.daye
  rw [if_pos hok, if_pos hok, hn]
  exact ⟨by omega, rfl⟩

set_option maxHeartbeats 400000 in
theorem rfirst_any (n : Int) (w : World) :
    Calls Tryd.prog 35 #[.int .i64 n] w fun e w' => e = .returned (.tuple #[.int .i64 (Cal.fv n), .int .i64 (Cal.fe n)]) ∧ w = w' := by
  by_cases h0 : n < 0
  · have hn := Lib.hid (show Cal.fv n = 0 ∧ Cal.fe n = 2 by unfold Cal.fv Cal.fe; rw [if_neg (fun h => by unfold Cal.IsM at h; omega), if_neg (fun h => by unfold Cal.IsM at h; omega)]; exact ⟨rfl, rfl⟩)
    go_enter Tryd.func35, Tryd.ntmps35
    go_wp2
    go_ret2
    exact ⟨ret_two hn.out.1.symm hn.out.2.symm, rfl⟩
  by_cases h1 : 2153 < n
  · have hn := Lib.hid (show Cal.fv n = 0 ∧ Cal.fe n = 2 by unfold Cal.fv Cal.fe; rw [if_neg (fun h => by unfold Cal.IsM at h; omega), if_neg (fun h => by unfold Cal.IsM at h; omega)]; exact ⟨rfl, rfl⟩)
    go_enter Tryd.func35, Tryd.ntmps35
    go_wp2
    go_ret2
    exact ⟨ret_two hn.out.1.symm hn.out.2.symm, rfl⟩
  have hm : Cal.IsM n := ⟨by omega, by omega⟩
  obtain ⟨n, rfl⟩ := Int.eq_ofNat_of_zero_le hm.1
  have hn := Lib.hid (show Cal.fv n = Cal.st n ∧ Cal.fe n = 0 by unfold Cal.fv Cal.fe; rw [if_pos hm, if_pos hm]; exact ⟨rfl, rfl⟩)
  have hf := Lib.hid (day_first n (by omega))
  clear hm
  go_enter Tryd.func35, Tryd.ntmps35
  go_wp2_with (first | (go_at_call 16; refine (rday_any _ _ _ _).mono ?_; rintro e w' ⟨rfl, rfl⟩; rw [hf.out.1, hf.out.2]))
  go_ret2
  exact ⟨ret_two hn.out.1.symm hn.out.2.symm, rfl⟩

end Go.Proofs.YtncnmokaamjlbaaDoor
