/- The walks of Age, written and Text. -/
import Derived.Test.YtncnmokaamjlbaaDoorCalW4
namespace Go.Proofs.YtncnmokaamjlbaaDoor
open Go.RowKit

set_option maxHeartbeats 1000000 in
theorem age_any (a b : Int) (w : World) (hL : Lens w) :
    Calls Tryd.prog 31 #[.int .i64 a, .int .i64 b] w fun e w' => e = .returned (.tuple #[.int .i64 (Cal.agev a b), .int .i64 (Cal.agee a b)]) ∧ Below w.heap.size w w' := by
  have HL := Lib.hid hL; clear hL
  by_cases ha : Cal.IsD a
  · by_cases hb : Cal.IsD b
    · by_cases hab : a ≤ b
      · have hn := Lib.hid (show Cal.agev a b = Cal.months a b / 12 ∧ Cal.agee a b = 0 by unfold Cal.agev Cal.agee; rw [if_pos ⟨ha, hb, hab⟩, if_pos ⟨ha, hb, hab⟩]; exact ⟨rfl, rfl⟩)
        have hmb := Cal.months_bd ha hb hab
        have Ha := Lib.hid ha
        have Hb := Lib.hid hb
        clear ha hb
        go_enter Tryd.func31, Tryd.ntmps31
        go_wp2_with (first | (go_at_call 37; (first | (with_reducible refine (isDate_yes a _ Ha.out).mono ?_) | (with_reducible refine (isDate_yes b _ Hb.out).mono ?_)); rintro e w' ⟨rfl, rfl⟩))
        refine (between_up a b _ HL.out Ha.out Hb.out hab).mono ?_
        rintro e w1 ⟨rfl, hb1⟩
        go_wp2
        go_ret2
        exact ⟨ret_two hn.out.1.symm hn.out.2.symm, hb1⟩
      · have hn := Lib.hid (show Cal.agev a b = 0 ∧ Cal.agee a b = 2 by unfold Cal.agev Cal.agee; rw [if_neg (fun h => hab h.2.2), if_neg (fun h => hab h.2.2)]; exact ⟨rfl, rfl⟩)
        have Ha := Lib.hid ha
        have Hb := Lib.hid hb
        clear ha hb
        go_enter Tryd.func31, Tryd.ntmps31
        go_wp2_with (first | (go_at_call 37; (first | (with_reducible refine (isDate_yes a _ Ha.out).mono ?_) | (with_reducible refine (isDate_yes b _ Hb.out).mono ?_)); rintro e w' ⟨rfl, rfl⟩))
        go_ret2
        exact ⟨ret_two hn.out.1.symm hn.out.2.symm, Below.refl _ _⟩
    · have hn := Lib.hid (show Cal.agev a b = 0 ∧ Cal.agee a b = 2 by unfold Cal.agev Cal.agee; rw [if_neg (fun h => hb h.2.1), if_neg (fun h => hb h.2.1)]; exact ⟨rfl, rfl⟩)
      have Ha := Lib.hid ha
      have Hb := Lib.hid hb
      clear ha hb
      go_enter Tryd.func31, Tryd.ntmps31
      go_wp2_with (first | (go_at_call 37; (first | (with_reducible refine (isDate_yes a _ Ha.out).mono ?_) | (with_reducible refine (isDate_no b _ Hb.out).mono ?_)); rintro e w' ⟨rfl, rfl⟩))
      go_ret2
      exact ⟨ret_two hn.out.1.symm hn.out.2.symm, Below.refl _ _⟩
  · have hn := Lib.hid (show Cal.agev a b = 0 ∧ Cal.agee a b = 2 by unfold Cal.agev Cal.agee; rw [if_neg (fun h => ha h.1), if_neg (fun h => ha h.1)]; exact ⟨rfl, rfl⟩)
    have Ha := Lib.hid ha
    clear ha
    go_enter Tryd.func31, Tryd.ntmps31
    go_wp2_with (first | (go_at_call 37; (with_reducible refine (isDate_no a _ Ha.out).mono ?_); rintro e w' ⟨rfl, rfl⟩))
    go_ret2
    exact ⟨ret_two hn.out.1.symm hn.out.2.symm, Below.refl _ _⟩

set_option maxHeartbeats 1000000 in
theorem written_year (c0 c1 c2 c3 c4 c5 c6 c7 c8 c9 : Int) (n : Int) (w : World) (h0 : 0 ≤ n) (h1 : n ≤ 9999) :
    Calls Tryd.prog 46 #[.agg #[.int .u8 c0, .int .u8 c1, .int .u8 c2, .int .u8 c3, .int .u8 c4, .int .u8 c5, .int .u8 c6, .int .u8 c7, .int .u8 c8, .int .u8 c9], .int .i64 0, .int .i64 4, .int .i64 n] w fun e w' =>
      e = .returned (.agg #[.int .u8 (48 + n / 10 / 10 / 10 % 10), .int .u8 (48 + n / 10 / 10 % 10), .int .u8 (48 + n / 10 % 10), .int .u8 (48 + n % 10), .int .u8 c4, .int .u8 c5, .int .u8 c6, .int .u8 c7, .int .u8 c8, .int .u8 c9]) ∧ w' = (w.alloc (.cells #[.int .u8 (48 + n / 10 / 10 / 10 % 10), .int .u8 (48 + n / 10 / 10 % 10), .int .u8 (48 + n / 10 % 10), .int .u8 (48 + n % 10), .int .u8 c4, .int .u8 c5, .int .u8 c6, .int .u8 c7, .int .u8 c8, .int .u8 c9] 43)).alloc (.cells #[.int .u8 (48 + n / 10 / 10 / 10 % 10), .int .u8 (48 + n / 10 / 10 % 10), .int .u8 (48 + n / 10 % 10), .int .u8 (48 + n % 10), .int .u8 c4, .int .u8 c5, .int .u8 c6, .int .u8 c7, .int .u8 c8, .int .u8 c9] 43) := by
  go_enter Tryd.func46, Tryd.ntmps46
  go_wp2
  go_rounds 5
  go_returns
  exact ⟨rfl, rfl⟩

set_option maxHeartbeats 1000000 in
theorem written_month (c0 c1 c2 c3 c4 c5 c6 c7 c8 c9 : Int) (n : Int) (w : World) (h0 : 0 ≤ n) (h1 : n ≤ 9999) :
    Calls Tryd.prog 46 #[.agg #[.int .u8 c0, .int .u8 c1, .int .u8 c2, .int .u8 c3, .int .u8 c4, .int .u8 c5, .int .u8 c6, .int .u8 c7, .int .u8 c8, .int .u8 c9], .int .i64 5, .int .i64 2, .int .i64 n] w fun e w' =>
      e = .returned (.agg #[.int .u8 c0, .int .u8 c1, .int .u8 c2, .int .u8 c3, .int .u8 c4, .int .u8 (48 + n / 10 % 10), .int .u8 (48 + n % 10), .int .u8 c7, .int .u8 c8, .int .u8 c9]) ∧ w' = (w.alloc (.cells #[.int .u8 c0, .int .u8 c1, .int .u8 c2, .int .u8 c3, .int .u8 c4, .int .u8 (48 + n / 10 % 10), .int .u8 (48 + n % 10), .int .u8 c7, .int .u8 c8, .int .u8 c9] 43)).alloc (.cells #[.int .u8 c0, .int .u8 c1, .int .u8 c2, .int .u8 c3, .int .u8 c4, .int .u8 (48 + n / 10 % 10), .int .u8 (48 + n % 10), .int .u8 c7, .int .u8 c8, .int .u8 c9] 43) := by
  go_enter Tryd.func46, Tryd.ntmps46
  go_wp2
  go_rounds 3
  go_returns
  exact ⟨rfl, rfl⟩

set_option maxHeartbeats 1000000 in
theorem written_day (c0 c1 c2 c3 c4 c5 c6 c7 c8 c9 : Int) (n : Int) (w : World) (h0 : 0 ≤ n) (h1 : n ≤ 9999) :
    Calls Tryd.prog 46 #[.agg #[.int .u8 c0, .int .u8 c1, .int .u8 c2, .int .u8 c3, .int .u8 c4, .int .u8 c5, .int .u8 c6, .int .u8 c7, .int .u8 c8, .int .u8 c9], .int .i64 8, .int .i64 2, .int .i64 n] w fun e w' =>
      e = .returned (.agg #[.int .u8 c0, .int .u8 c1, .int .u8 c2, .int .u8 c3, .int .u8 c4, .int .u8 c5, .int .u8 c6, .int .u8 c7, .int .u8 (48 + n / 10 % 10), .int .u8 (48 + n % 10)]) ∧ w' = (w.alloc (.cells #[.int .u8 c0, .int .u8 c1, .int .u8 c2, .int .u8 c3, .int .u8 c4, .int .u8 c5, .int .u8 c6, .int .u8 c7, .int .u8 (48 + n / 10 % 10), .int .u8 (48 + n % 10)] 43)).alloc (.cells #[.int .u8 c0, .int .u8 c1, .int .u8 c2, .int .u8 c3, .int .u8 c4, .int .u8 c5, .int .u8 c6, .int .u8 c7, .int .u8 (48 + n / 10 % 10), .int .u8 (48 + n % 10)] 43) := by
  go_enter Tryd.func46, Tryd.ntmps46
  go_wp2
  go_rounds 3
  go_returns
  exact ⟨rfl, rfl⟩

/-- A date's text: the bytes. -/
def txt (y m d : Int) : ByteArray := strOfNums [48 + y / 10 / 10 / 10 % 10, 48 + y / 10 / 10 % 10, 48 + y / 10 % 10, 48 + y % 10, 45, 48 + m / 10 % 10, 48 + m % 10, 45, 48 + d / 10 % 10, 48 + d % 10]

/-- What Text answers. -/
noncomputable def textv (d : Int) : ByteArray := if Cal.IsD d then txt (Cal.yv d) (Cal.mv d) (Cal.dv d) else ⟨#[]⟩

set_option maxHeartbeats 1000000 in
theorem text_any (d : Int) (w : World) (hL : Lens w) :
    Calls Tryd.prog 32 #[.int .i64 d] w fun e w' => e = .returned (.string (textv d)) ∧ Below w.heap.size w w' := by
  by_cases hd : Cal.IsD d
  · have hb := Cal.yv_bd d hd
    have he := Lib.hid (show Cal.ev d = 0 by unfold Cal.ev; rw [if_pos hd])
    have hn := Lib.hid (show textv d = txt (Cal.yv d) (Cal.mv d) (Cal.dv d) by unfold textv; rw [if_pos hd])
    clear hd
    go_enter Tryd.func32, Tryd.ntmps32
    go_wp2_with fail
    refine (ymd_any d _ hL).mono ?_
    rintro e w1 ⟨rfl, hb1⟩
    rw [he.out]
    clear hL he
    go_wp2_with fail
    refine (written_year _ _ _ _ _ _ _ _ _ _ _ _ (by omega) (by omega)).mono ?_
    rintro e w2 ⟨rfl, rfl⟩
    go_wp2_with fail
    refine (written_month _ _ _ _ _ _ _ _ _ _ _ _ (by omega) (by omega)).mono ?_
    rintro e w2 ⟨rfl, rfl⟩
    go_wp2_with fail
    refine (written_day _ _ _ _ _ _ _ _ _ _ _ _ (by omega) (by omega)).mono ?_
    rintro e w2 ⟨rfl, rfl⟩
    go_wp2_with fail
    generalize hy : Cal.yv d = y at *
    generalize hm : Cal.mv d = m at *
    generalize hdd : Cal.dv d = dd at *
    clear hy hm hdd
    rw [run_convert_bytes_arg _ 39 5 Tryd.underlying39 Tryd.underlying5 _ 0 10 10 [48 + y / 10 / 10 / 10 % 10, 48 + y / 10 / 10 % 10, 48 + y / 10 % 10, 48 + y % 10, 45, 48 + m / 10 % 10, 48 + m % 10, 45, 48 + dd / 10 % 10, 48 + dd % 10] rfl ?hc 9 Tryd.underlying9]
    case hc =>
      intro i hi
      have : i = 0 ∨ i = 1 ∨ i = 2 ∨ i = 3 ∨ i = 4 ∨ i = 5 ∨ i = 6 ∨ i = 7 ∨ i = 8 ∨ i = 9 := by omega
      rcases this with rfl | rfl | rfl | rfl | rfl | rfl | rfl | rfl | rfl | rfl <;> simp [go_sem]
    go_wp2
    go_ret
    refine ⟨by rw [hn.out]; rfl, ?_⟩
    refine hb1.trans ?_
    have := hb1.size
    go_grown
  · have he := Lib.hid (show Cal.ev d = 2 by unfold Cal.ev; rw [if_neg hd])
    have hn := Lib.hid (show textv d = ⟨#[]⟩ by unfold textv; rw [if_neg hd])
    clear hd
    go_enter Tryd.func32, Tryd.ntmps32
    go_wp2_with fail
    refine (ymd_any d _ hL).mono ?_
    rintro e w1 ⟨rfl, hb1⟩
    rw [he.out]
    go_wp2
    go_ret
    exact ⟨by rw [hn.out]; rfl, hb1⟩

end Go.Proofs.YtncnmokaamjlbaaDoor
