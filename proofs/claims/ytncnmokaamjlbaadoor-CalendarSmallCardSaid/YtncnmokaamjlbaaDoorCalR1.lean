/- The walks of the reference's Leap, Len, Is, Day, YMD. -/
import Derived.Test.YtncnmokaamjlbaaDoorCalW3
namespace Go.Proofs.YtncnmokaamjlbaaDoor
open Go.RowKit

theorem leap_ref (y : Int) : Cal.leap y = if y.tmod 400 = 0 then true else (y.tmod 4 == 0 && y.tmod 100 != 0) := by
  have d4 : y.tmod 400 = 0 → y.tmod 4 = 0 := fun h => Int.tmod_eq_zero_of_dvd (Int.dvd_trans (by decide) (Int.dvd_of_tmod_eq_zero h))
  unfold Cal.leap
  by_cases h : y.tmod 400 = 0
  · rw [if_pos h, h, d4 h]; simp
  · have h' : (y.tmod 400 == 0) = false := beq_eq_false_iff_ne.2 h
    rw [if_neg h, h', Bool.or_false]

set_option maxHeartbeats 400000 in
theorem rleap_any (y : Int) (w : World) :
    Calls Tryd.prog 18 #[.int .i64 y] w fun e w' => e = .returned (.bool (Cal.leap y)) ∧ w = w' := by
  have hl := leap_ref y
  by_cases h : y.tmod 400 = 0
  · rw [if_pos h] at hl
    have Hl := Lib.hid hl
    have h' : (y.tmod 400 == 0) = true := by simpa using h
    clear hl h
    go_enter Tryd.func18, Tryd.ntmps18
    go_wp2
    go_ret
    exact ⟨by rw [Hl.out]; rfl, rfl⟩
  · rw [if_neg h] at hl
    have Hl := Lib.hid hl
    have h' : (y.tmod 400 == 0) = false := by simpa using h
    clear hl h
    by_cases h4 : (y.tmod 4 == 0) = true
    · go_enter Tryd.func18, Tryd.ntmps18
      go_wp2
      go_ret
      exact ⟨by rw [Hl.out, h4, Bool.true_and]; rfl, rfl⟩
    · have h4' : (y.tmod 4 == 0) = false := by simpa using h4
      clear h4
      go_enter Tryd.func18, Tryd.ntmps18
      go_wp2
      go_ret
      exact ⟨by rw [Hl.out, h4', Bool.false_and]; rfl, rfl⟩

set_option maxHeartbeats 1000000 in
theorem rlen_any (y m : Int) (w : World) :
    Calls Tryd.prog 20 #[.int .i64 y, .int .i64 m] w fun e w' => e = .returned (.int .i64 (Cal.lenI y m)) ∧ w = w' := by
  by_cases h1 : m < 1
  · have hfin := Lib.hid (Cal.len_out y m (.inl h1))
    go_enter Tryd.func20, Tryd.ntmps20
    go_wp2
    go_ret
    exact ⟨by rw [hfin.out]; rfl, rfl⟩
  by_cases h2 : 12 < m
  · have hfin := Lib.hid (Cal.len_out y m (.inr h2))
    go_enter Tryd.func20, Tryd.ntmps20
    go_wp2
    go_ret
    exact ⟨by rw [hfin.out]; rfl, rfl⟩
  by_cases hm2 : m = 2
  · subst hm2
    clear h1 h2
    by_cases hl : Cal.leap y = true
    · have hfin := Lib.hid (show Cal.lenI y 2 = 29 by unfold Cal.lenI; rw [if_neg (by omega), if_pos ⟨rfl, hl⟩])
      have Hl := Lib.hid hl; clear hl
      go_enter Tryd.func20, Tryd.ntmps20
      go_wp2_with (go_at_call 18; refine (rleap_any _ _).mono ?_; rintro e w' ⟨rfl, rfl⟩; rw [Hl.out])
      go_ret
      exact ⟨by rw [hfin.out]; rfl, rfl⟩
    · have hl' : Cal.leap y = false := by simpa using hl
      clear hl
      have hfin := Lib.hid (show Cal.lenI y 2 = 28 by unfold Cal.lenI; rw [if_neg (by omega), if_neg (by rw [hl']; simp)]; rfl)
      have Hl := Lib.hid hl'; clear hl'
      go_enter Tryd.func20, Tryd.ntmps20
      go_wp2_with (go_at_call 18; refine (rleap_any _ _).mono ?_; rintro e w' ⟨rfl, rfl⟩; rw [Hl.out])
      go_ret
      exact ⟨by rw [hfin.out]; rfl, rfl⟩
  have hfin := show Cal.lenI y m = Cal.tab m by unfold Cal.lenI; rw [if_neg (by omega), if_neg (fun h => hm2 h.1)]
  have : m = 1 ∨ m = 3 ∨ m = 4 ∨ m = 5 ∨ m = 6 ∨ m = 7 ∨ m = 8 ∨ m = 9 ∨ m = 10 ∨ m = 11 ∨ m = 12 := by omega
  clear h1 h2 hm2
  rcases this with rfl | rfl | rfl | rfl | rfl | rfl | rfl | rfl | rfl | rfl | rfl
  all_goals
    have Hf := Lib.hid hfin; clear hfin
    go_enter Tryd.func20, Tryd.ntmps20
    go_wp2
    go_ret
    exact ⟨by rw [Hf.out]; rfl, rfl⟩

theorem ris_yes (d : Int) (w : World) (h : Cal.IsD d) :
    Calls Tryd.prog 50 #[.int .i64 d] w fun e w' => e = .returned (.bool true) ∧ w = w' := by
  obtain ⟨h0, h1⟩ := h
  go_enter Tryd.func50, Tryd.ntmps50
  go_wp2
  go_ret
  exact ⟨rfl, rfl⟩

theorem ris_no (d : Int) (w : World) (h : ¬ Cal.IsD d) :
    Calls Tryd.prog 50 #[.int .i64 d] w fun e w' => e = .returned (.bool false) ∧ w = w' := by
  by_cases h0 : d < 0
  · clear h
    go_enter Tryd.func50, Tryd.ntmps50
    go_wp2
    go_ret
    exact ⟨rfl, rfl⟩
  · have h1 : 65536 ≤ d := by unfold Cal.IsD at h; omega
    clear h
    go_enter Tryd.func50, Tryd.ntmps50
    go_wp2
    go_ret
    exact ⟨ret_bool (decide_eq_false (by omega)), rfl⟩

/-- The first day of the year 1900 + k. -/
theorem st_year (k : Nat) : Cal.st (12 * (k + 1)) = Cal.st (12 * k) + 365 + if Cal.leap (1900 + k) = true then 1 else 0 := by
  have h := Cal.lps_succ (1900 + k) (by omega)
  unfold Cal.st Cal.yr
  rw [show 12 * (k + 1) / 12 = k + 1 by omega, show 12 * (k + 1) % 12 = 0 by omega, show 12 * k / 12 = k by omega, show 12 * k % 12 = 0 by omega]
  rw [show (1900 + ((k + 1 : Nat) : Int) - 1) = 1900 + k by omega, h]
  simp only [show ∀ y, Cal.cum y 0 = 0 from fun _ => rfl]
  omega

theorem st_month (k j : Nat) (h : j < 12) : Cal.st (12 * k + j) = Cal.st (12 * k) + Cal.cum (1900 + k) j := by
  unfold Cal.st Cal.yr
  rw [show (12 * k + j) / 12 = k by omega, show (12 * k + j) % 12 = j by omega, show 12 * k / 12 = k by omega, show 12 * k % 12 = 0 by omega]
  simp only [show ∀ y, Cal.cum y 0 = 0 from fun _ => rfl]
  omega

theorem rday_no (y m d : Int) (w : World) (h : y < 1900 ∨ 2079 < y ∨ m < 1 ∨ 12 < m ∨ d < 1 ∨ Cal.lenI y m < d) :
    Calls Tryd.prog 16 #[.int .i64 y, .int .i64 m, .int .i64 d] w fun e w' => e = .returned (.tuple #[.int .i64 0, .int .i64 2]) ∧ w = w' := by
  by_cases c1 : y < 1900
  · clear h
    go_enter Tryd.func16, Tryd.ntmps16
    go_wp2
    go_ret2
    exact ⟨rfl, rfl⟩
  by_cases c2 : 2079 < y
  · clear h
    go_enter Tryd.func16, Tryd.ntmps16
    go_wp2
    go_ret2
    exact ⟨rfl, rfl⟩
  by_cases c3 : m < 1
  · clear h
    go_enter Tryd.func16, Tryd.ntmps16
    go_wp2
    go_ret2
    exact ⟨rfl, rfl⟩
  by_cases c4 : 12 < m
  · clear h
    go_enter Tryd.func16, Tryd.ntmps16
    go_wp2
    go_ret2
    exact ⟨rfl, rfl⟩
  by_cases c5 : d < 1
  · clear h
    go_enter Tryd.func16, Tryd.ntmps16
    go_wp2
    go_ret2
    exact ⟨rfl, rfl⟩
  have c6 : Cal.lenI y m < d := by omega
  clear h
  go_enter Tryd.func16, Tryd.ntmps16
  go_wp2_with (go_at_call 20; refine (rlen_any _ _ _).mono ?_; rintro e w' ⟨rfl, rfl⟩)
  go_ret2
  exact ⟨rfl, rfl⟩

theorem st_big (k : Nat) (h : k ≤ 2300) : 0 ≤ Cal.st k ∧ Cal.st k ≤ 71300 := by
  have := Cal.st_add 0 k
  rw [Cal.st_zero, Nat.zero_add] at this
  omega

set_option maxHeartbeats 1000000 in
theorem rday_yes (Y M : Nat) (d : Int) (w : World) (h1 : Y ≤ 179) (h2 : M < 12) (h3 : 1 ≤ d) (h4 : d ≤ Cal.lenI (1900 + Y) (M + 1)) :
    Calls Tryd.prog 16 #[.int .i64 (1900 + Y), .int .i64 (M + 1), .int .i64 d] w fun e w' =>
      e = .returned (.tuple #[.int .i64 (Cal.dayv (1900 + Y) (M + 1) d), .int .i64 (Cal.daye (1900 + Y) (M + 1) d)]) ∧ w = w' := by
  have hle := Cal.len_le (1900 + Y) (M + 1)
  have hn : Cal.mnum (1900 + Y) (M + 1) = 12 * Y + M := by unfold Cal.mnum; omega
  have hsm := st_month Y M h2
  have hfin : Cal.st (12 * Y) + Cal.cum (1900 + Y) M + d - 1 < 65536 → Cal.dayv (1900 + Y) (M + 1) d = d - 1 + Cal.st (12 * Y) + Cal.cum (1900 + Y) M ∧ Cal.daye (1900 + Y) (M + 1) d = 0 := fun h => by
    have hok : Cal.DayOk (1900 + Y) (M + 1) d := ⟨by omega, by omega, by omega, by omega, h3, h4, by rw [hn, hsm]; exact h⟩
    unfold Cal.dayv Cal.daye
    rw [if_pos hok, if_pos hok, hn, hsm]
    exact ⟨by omega, rfl⟩
  have hno : 65536 ≤ Cal.st (12 * Y) + Cal.cum (1900 + Y) M + d - 1 → Cal.dayv (1900 + Y) (M + 1) d = 0 ∧ Cal.daye (1900 + Y) (M + 1) d = 2 := fun h => by
    have hok : ¬ Cal.DayOk (1900 + Y) (M + 1) d := fun x => by have := x.2.2.2.2.2.2; rw [hn, hsm] at this; omega
    unfold Cal.dayv Cal.daye
    rw [if_neg hok, if_neg hok]
    exact ⟨rfl, rfl⟩
  have Hfin := Lib.hid hfin
  have Hno := Lib.hid hno
  clear hfin hno hn hsm
  go_enter Tryd.func16, Tryd.ntmps16
  go_wp2_with (go_at_call 20; refine (rlen_any _ _ _).mono ?_; rintro e w' ⟨rfl, rfl⟩)
  go_loop [8, 9] (fun n k => ∃ j : Nat, j ≤ Y ∧ k = .int .i64 (1900 + j) ∧ n = .int .i64 (d - 1 + Cal.st (12 * j))) (fun _ k => 3000 - (intOf k).toNat)
  case atStart => exact ⟨0, by omega, rfl, by rw [Nat.mul_zero, Cal.st_zero, Int.add_zero]⟩
  case round =>
    obtain ⟨j, hj, rfl, rfl⟩ := hrel
    have hb := st_big (12 * j) (by omega)
    by_cases hlt : j < Y
    · have hs := Lib.hid (st_year j)
      by_cases hl : Cal.leap (1900 + j) = true
      · have Hl := Lib.hid hl; clear hl
        go_wp2_with (go_at_call 18; refine (rleap_any _ _).mono ?_; rintro e w' ⟨rfl, rfl⟩; rw [Hl.out])
        go_round
        case rel => exact ⟨j + 1, by omega, by go_num, by have := hs.out; rw [if_pos Hl.out] at this; rw [this]; go_num⟩
        case measure => simp [intOf]; omega
      · have hl' : Cal.leap (1900 + j) = false := by simpa using hl
        have Hl := Lib.hid hl'; clear hl hl'
        go_wp2_with (go_at_call 18; refine (rleap_any _ _).mono ?_; rintro e w' ⟨rfl, rfl⟩; rw [Hl.out])
        go_round
        case rel => exact ⟨j + 1, by omega, by go_num, by have := hs.out; rw [if_neg (by rw [Hl.out]; simp)] at this; rw [this]; go_num⟩
        case measure => simp [intOf]; omega
    · obtain rfl : j = Y := by omega
      clear hlt hj
      go_wp2
      go_loop [8, 10] (fun n k => ∃ i : Nat, i ≤ M ∧ k = .int .i64 (i + 1) ∧ n = .int .i64 (d - 1 + Cal.st (12 * j) + Cal.cum (1900 + j) i)) (fun _ k => 13 - (intOf k).toNat)
      case atStart => exact ⟨0, by omega, rfl, by simp only [Cal.cum, Int.add_zero]⟩
      case round =>
        obtain ⟨i, hi, rfl, rfl⟩ := hrel
        have hc := cum_bd (1900 + j) i (by omega)
        have hl := Cal.len_le (1900 + j) (i + 1)
        by_cases hlt : i < M
        · go_wp2_with (go_at_call 20; refine (rlen_any _ _ _).mono ?_; rintro e w' ⟨rfl, rfl⟩)
          go_round
          case rel => exact ⟨i + 1, by omega, by go_num, by simp only [Cal.cum]; go_num⟩
          case measure => simp [intOf]; omega
        · obtain rfl : i = M := by omega
          by_cases hd : Cal.st (12 * j) + Cal.cum (1900 + j) i + d - 1 < 65536
          · have hf := Lib.hid (Hfin.out hd)
            clear Hfin Hno
            go_wp2
            go_ret2
            exact ⟨ret_two hf.out.1.symm hf.out.2.symm, rfl⟩
          · have hf := Lib.hid (Hno.out (by omega))
            clear Hfin Hno
            go_wp2
            go_ret2
            exact ⟨ret_two hf.out.1.symm hf.out.2.symm, rfl⟩

theorem rday_any (y m d : Int) (w : World) :
    Calls Tryd.prog 16 #[.int .i64 y, .int .i64 m, .int .i64 d] w fun e w' => e = .returned (.tuple #[.int .i64 (Cal.dayv y m d), .int .i64 (Cal.daye y m d)]) ∧ w = w' := by
  by_cases h : y < 1900 ∨ 2079 < y ∨ m < 1 ∨ 12 < m ∨ d < 1 ∨ Cal.lenI y m < d
  · have hok : ¬ Cal.DayOk y m d := fun x => by unfold Cal.DayOk at x; omega
    unfold Cal.dayv Cal.daye
    rw [if_neg hok, if_neg hok]
    exact rday_no y m d w h
  · obtain ⟨Y, hY⟩ : ∃ Y : Nat, y - 1900 = Y := Int.eq_ofNat_of_zero_le (by omega)
    obtain ⟨M, hM⟩ : ∃ M : Nat, m - 1 = M := Int.eq_ofNat_of_zero_le (by omega)
    obtain rfl : y = 1900 + Y := by omega
    obtain rfl : m = M + 1 := by omega
    exact rday_yes Y M d w (by omega) (by omega) (by omega) (by omega)

end Go.Proofs.YtncnmokaamjlbaaDoor
