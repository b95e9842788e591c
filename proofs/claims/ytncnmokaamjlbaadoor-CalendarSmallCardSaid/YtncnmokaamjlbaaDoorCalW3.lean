/- The walks of the calendar's exported functions on numbers: Day, YMD, Month, First, Weekday, Add, Between, Age. -/
import Derived.Test.YtncnmokaamjlbaaDoorCalW2
import Derived.Test.YtncnmokaamjlbaaDoorCalPlain2
namespace Go.Proofs.YtncnmokaamjlbaaDoor
open Go.RowKit

theorem results_tmp4 {fn : Func} {t u v x : Tmp} (h : fn.results = #[.tmp t, .tmp u, .tmp v, .tmp x]) (tmps : Array Value) (P : Program) (w : World) :
    (results fn tmps).run P w = .ok (.tuple #[tmps.getD t undef, tmps.getD u undef, tmps.getD v undef, tmps.getD x undef]) w := by simp [results, h]

theorem ret_two {k l : IntKind} {a b c d : Int} (h : a = c) (h' : b = d) : Ending.returned (.tuple #[.int k a, .int l b]) = .returned (.tuple #[.int k c, .int l d]) := by rw [h, h']
theorem ret_four {k l m n : IntKind} {a b c d a' b' c' d' : Int} (h : a = a') (h1 : b = b') (h2 : c = c') (h3 : d = d') : Ending.returned (.tuple #[.int k a, .int l b, .int m c, .int n d]) = .returned (.tuple #[.int k a', .int l b', .int m c', .int n d']) := by rw [h, h1, h2, h3]

theorem below_next {w w1 w2 : World} (h1 : Below w.heap.size w w1) (h2 : Below w1.heap.size w1 w2) : Below w.heap.size w w2 := h1.trans (h2.mono h1.size)

theorem isDate_yes (d : Int) (w : World) (h : Cal.IsD d) :
    Calls Tryd.prog 37 #[.int .i64 d] w fun e w' => e = .returned (.bool true) ∧ w = w' := by
  obtain ⟨h0, h1⟩ := h
  go_enter Tryd.func37, Tryd.ntmps37
  go_wp2
  go_ret
  exact ⟨rfl, rfl⟩

theorem isDate_no (d : Int) (w : World) (h : ¬ Cal.IsD d) :
    Calls Tryd.prog 37 #[.int .i64 d] w fun e w' => e = .returned (.bool false) ∧ w = w' := by
  by_cases h0 : d < 0
  · clear h
    go_enter Tryd.func37, Tryd.ntmps37
    go_wp2
    go_ret
    exact ⟨rfl, rfl⟩
  · have h1 : 65536 ≤ d := by unfold Cal.IsD at h; omega
    clear h
    go_enter Tryd.func37, Tryd.ntmps37
    go_wp2
    go_ret
    exact ⟨ret_bool (decide_eq_false (by omega)), rfl⟩

set_option maxHeartbeats 400000 in
theorem day_any (y m d : Int) (w : World) (hL : Lens w) (hd : d ≤ 9223372036854775807) :
    Calls Tryd.prog 15 #[.int .i64 y, .int .i64 m, .int .i64 d] w fun e w' => e = .returned (.tuple #[.int .i64 (Cal.dayv y m d), .int .i64 (Cal.daye y m d)]) ∧ w = w' := by
  have HL := Lib.hid hL; clear hL
  have no : ¬ Cal.DayOk y m d → Cal.dayv y m d = 0 ∧ Cal.daye y m d = 2 := fun h => ⟨by unfold Cal.dayv; rw [if_neg h], by unfold Cal.daye; rw [if_neg h]⟩
  by_cases h1 : y < 1900
  · have hn := Lib.hid (no (fun h => by unfold Cal.DayOk at h; omega)); clear no
    go_enter Tryd.func15, Tryd.ntmps15
    go_wp2
    go_ret2
    exact ⟨ret_two hn.out.1.symm hn.out.2.symm, rfl⟩
  by_cases h2 : 2079 < y
  · have hn := Lib.hid (no (fun h => by unfold Cal.DayOk at h; omega)); clear no
    go_enter Tryd.func15, Tryd.ntmps15
    go_wp2
    go_ret2
    exact ⟨ret_two hn.out.1.symm hn.out.2.symm, rfl⟩
  by_cases h3 : d < 1
  · have hn := Lib.hid (no (fun h => by unfold Cal.DayOk at h; omega)); clear no
    go_enter Tryd.func15, Tryd.ntmps15
    go_wp2
    go_ret2
    exact ⟨ret_two hn.out.1.symm hn.out.2.symm, rfl⟩
  by_cases h4 : Cal.lenI y m < d
  · have hn := Lib.hid (no (fun h => by unfold Cal.DayOk at h; omega)); clear no
    go_enter Tryd.func15, Tryd.ntmps15
    go_wp2_with (go_at_call 19; refine (len_any _ _ _ HL.out).mono ?_; rintro e w' ⟨rfl, rfl⟩)
    go_ret2
    exact ⟨ret_two hn.out.1.symm hn.out.2.symm, rfl⟩
  have hm : 1 ≤ m ∧ m ≤ 12 := by
    by_cases h : m < 1 ∨ 12 < m
    · have := Cal.len_out y m h; omega
    · omega
  obtain ⟨hm1, hm2⟩ := hm
  have hle := Cal.len_le y m
  have hb := Cal.st_add 0 (Cal.mnum y m)
  rw [Cal.st_zero, Nat.zero_add] at hb
  have hmb : Cal.mnum y m ≤ 2160 := by unfold Cal.mnum; omega
  have Hn := Lib.hid (show (12 * (y - 1900) + m - 1).toNat = Cal.mnum y m from rfl)
  by_cases h5 : Cal.st (Cal.mnum y m) + d - 1 < 65536
  · have hok : Cal.DayOk y m d := ⟨by omega, by omega, hm1, hm2, by omega, by omega, h5⟩
    have hn := Lib.hid (show Cal.dayv y m d = Cal.st (Cal.mnum y m) + d - 1 ∧ Cal.daye y m d = 0 from ⟨by unfold Cal.dayv; rw [if_pos hok], by unfold Cal.daye; rw [if_pos hok]⟩)
    clear no hok
    go_enter Tryd.func15, Tryd.ntmps15
    go_wp2_with (first | (go_at_call 19; refine (len_any _ _ _ HL.out).mono ?_; rintro e w' ⟨rfl, rfl⟩) | (go_at_call 36; refine (start_any _ _ HL.out (by omega) (by omega)).mono ?_; rintro e w' ⟨rfl, rfl⟩; rw [Hn.out]) | (go_at_call 37; refine (isDate_yes _ _ ⟨by omega, by omega⟩).mono ?_; rintro e w' ⟨rfl, rfl⟩))
    go_ret2
    exact ⟨ret_two hn.out.1.symm hn.out.2.symm, rfl⟩
  · have hn := Lib.hid (no (fun h => by unfold Cal.DayOk at h; omega)); clear no
    go_enter Tryd.func15, Tryd.ntmps15
    go_wp2_with (first | (go_at_call 19; refine (len_any _ _ _ HL.out).mono ?_; rintro e w' ⟨rfl, rfl⟩) | (go_at_call 36; refine (start_any _ _ HL.out (by omega) (by omega)).mono ?_; rintro e w' ⟨rfl, rfl⟩; rw [Hn.out]) | (go_at_call 37; refine (isDate_no _ _ (fun h => by unfold Cal.IsD at h; omega)).mono ?_; rintro e w' ⟨rfl, rfl⟩))
    go_ret2
    exact ⟨ret_two hn.out.1.symm hn.out.2.symm, rfl⟩

set_option maxHeartbeats 400000 in
theorem ymd_any (d : Int) (w : World) (hL : Lens w) :
    Calls Tryd.prog 24 #[.int .i64 d] w fun e w' => e = .returned (.tuple #[.int .i64 (Cal.yv d), .int .i64 (Cal.mv d), .int .i64 (Cal.dv d), .int .i64 (Cal.ev d)]) ∧ Below w.heap.size w w' := by
  have HL := Lib.hid hL; clear hL
  by_cases hd : Cal.IsD d
  · have Hd := Lib.hid hd
    have hm := Cal.mo_spec d hd.1 hd.2
    obtain ⟨hm1, hm2, hm3⟩ := hm
    have hst := Cal.st_nonneg (Cal.mo d)
    have h0 := hd.1; have h1 := hd.2
    have hn := Lib.hid (show Cal.yv d = 1900 + (Cal.mo d : Int) / 12 ∧ Cal.mv d = (Cal.mo d : Int) % 12 + 1 ∧ Cal.dv d = d - Cal.st (Cal.mo d) + 1 ∧ Cal.ev d = 0 by
      unfold Cal.yv Cal.mv Cal.dv Cal.ev Cal.yr Cal.mn; rw [if_pos hd, if_pos hd, if_pos hd, if_pos hd]; exact ⟨by omega, by omega, rfl, rfl⟩)
    clear hd
    go_enter Tryd.func24, Tryd.ntmps24
    go_wp2_with (first | (go_at_call 37; refine (isDate_yes _ _ Hd.out).mono ?_; rintro e w' ⟨rfl, rfl⟩))
    refine (month_any d _ HL.out h0 h1).mono ?_
    rintro e w1 ⟨rfl, hb⟩
    go_wp2_with (first | (go_at_call 36; refine (start_any _ _ (HL.out.below hb) (by omega) (by omega)).mono ?_; rintro e w' ⟨rfl, rfl⟩; rw [Int.toNat_natCast]))
    refine bodyPost_ret (results_tmp4 rfl _ _ _) rfl ?_
    exact ⟨ret_four hn.out.1.symm hn.out.2.1.symm hn.out.2.2.1.symm hn.out.2.2.2.symm, hb⟩
  · have hn := Lib.hid (show Cal.yv d = 0 ∧ Cal.mv d = 0 ∧ Cal.dv d = 0 ∧ Cal.ev d = 2 by
      unfold Cal.yv Cal.mv Cal.dv Cal.ev; rw [if_neg hd, if_neg hd, if_neg hd, if_neg hd]; exact ⟨rfl, rfl, rfl, rfl⟩)
    have Hd := Lib.hid hd; clear hd
    go_enter Tryd.func24, Tryd.ntmps24
    go_wp2_with (first | (go_at_call 37; refine (isDate_no _ _ Hd.out).mono ?_; rintro e w' ⟨rfl, rfl⟩))
    refine bodyPost_ret (results_tmp4 rfl _ _ _) rfl ?_
    exact ⟨ret_four hn.out.1.symm hn.out.2.1.symm hn.out.2.2.1.symm hn.out.2.2.2.symm, Below.refl _ _⟩

end Go.Proofs.YtncnmokaamjlbaaDoor
