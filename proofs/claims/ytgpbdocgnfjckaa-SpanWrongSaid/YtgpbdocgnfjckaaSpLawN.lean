/- SpanNumbers: the walk of the law. -/
import Derived.Test.YtgpbdocgnfjckaaSpAwake
import Derived.Test.YtgpbdocgnfjckaaSpPlain7
namespace Go.Proofs.Ytgpbdocgnfjckaa
open Go.RowKit Go.Shelf Sp

theorem Words.step {W W' : World} {o : Obj} {p : Option Addr} {n : Nat} (h : Words W p n) (hb : Below (W.alloc o).heap.size (W.alloc o) W') : Words W' p n :=
  (h.below ((Below.refl _ _).alloc (Nat.le_refl _) o)).below hb

theorem befv_ok {l : Sps} (h : validB l = true) (d : Int) : befv l d = bef l d := by unfold befv; rw [h]; rfl

set_option maxHeartbeats 1000000 in
theorem pick_any (x n : Int) (w : World) (hn : 1 ≤ n) (hn1 : n ≤ 100000) :
    Calls Try.prog 31 #[.int .i64 x, .int .i64 n] w fun e w' => (∃ r, e = .returned (.int .i64 r) ∧ 0 ≤ r ∧ r < n) ∧ w = w' := by
  have h1 := Int.tmod_lt_of_pos x (show 0 < n by omega)
  have h2 := Int.lt_tmod_of_pos x (show 0 < n by omega)
  have hn0 : (n == 0) = false := by simp; omega
  have hn2 : ¬ n < 1 := by omega
  have hn3 : (n == -1) = false := by simp; omega
  have hd : ∀ k : IntKind, k = .i64 → True := fun _ _ => trivial
  by_cases h : x.tmod n < 0
  · go_enter Try.func31, Try.ntmps31
    go_wp2
    go_ret
    exact ⟨⟨_, rfl, by omega, by omega⟩, rfl⟩
  · go_enter Try.func31, Try.ntmps31
    go_wp2
    go_ret
    exact ⟨⟨_, rfl, by omega, by omega⟩, rfl⟩

theorem has_is (l : Sps) (d : Int) (x : Bool) (p : Option Addr) (cap : Nat) (w : World) (hx : mem l d = x) (hl : l.length ≤ 100000) (hv : validB l = true) (hc : Cells w p l) :
    Calls Try.prog 20 #[.slice p l.length cap, .int .i64 d] w fun e w' => e = .returned (.bool x) ∧ Below w.heap.size w w' := by
  subst hx; exact has_ok l d p cap w hl hv hc

set_option maxHeartbeats 8000000 in
set_option maxRecDepth 100000 in
theorem numbers_law (pm : Option Addr) (nm cm : Nat) (n day : Int) (w : World) (hm : Words w pm nm) :
    Calls Try.prog 8 #[.slice pm nm cm, .int .i64 n, .int .i64 day] w fun e w' => e = .returned (.bool true) ∧ Below w.heap.size w w' := by
  have B0 := Lib.hid (Below.refl w.heap.size w)
  have Cm0 := Lib.hid hm
  clear hm
  go_enter Try.func8, Try.ntmps8
  go_wp2_with fail
  refine (awake_any _).mono ?_
  rintro e W1 ⟨rfl, hb⟩
  have B1 := Lib.hid (below_next B0.out hb)
  have Cm1 := Lib.hid (Words.below Cm0.out hb)
  clear hb B0 Cm0
  go_wp2_with fail
  refine (built_any pm nm cm _ Cm1.out).mono ?_
  rintro e W2 ⟨v, l, rfl, hv, hlen, ho, hb⟩
  obtain ⟨pl, cl, rfl, hcl⟩ := ho.form
  have HV := Lib.hid hv
  clear hv
  have B2 := Lib.hid (below_next B1.out hb)
  have Cm2 := Lib.hid (Words.below Cm1.out hb)
  have Cl2 := Lib.hid (hcl)
  clear hb B1 Cm1 hcl ho
  obtain ⟨all, hall⟩ : ∃ all, bef l 65536 = all := ⟨_, rfl⟩
  have HA := Lib.hid hall
  have ha := bef_bd HV.out 65536
  have ha1 : 0 ≤ all ∧ all ≤ 65537 := by omega
  clear hall ha
  go_wp2_with fail
  refine (days_is l _ _ _ all ((befv_ok HV.out _).trans HA.out) (by omega) Cl2.out).mono ?_
  rintro e W3 ⟨rfl, hb⟩
  have B3 := Lib.hid (below_next B2.out hb)
  have Cm3 := Lib.hid (Words.below Cm2.out hb)
  have Cl3 := Lib.hid (Cells.below Cl2.out hb)
  clear hb B2 Cm2 Cl2
  go_wp2_with fail
  refine (pick_any n (all + 2) _ (by omega) (by omega)).mono ?_
  rintro e _ ⟨⟨r, rfl, hr0, hr1⟩, rfl⟩
  have hns := Lib.hid (nth_some HV.out hr0)
  rw [HA.out] at hns
  obtain ⟨b, hb⟩ : ∃ b, bef l day = b := ⟨_, rfl⟩
  have HB := Lib.hid hb
  have hb1 := bef_bd HV.out day
  have hb2 : 0 ≤ b ∧ b ≤ 65537 := by omega
  clear hb hb1
  by_cases hlt : r < all
  · rw [decide_eq_true hlt] at hns
    obtain ⟨d, hd⟩ := Option.isSome_iff_exists.1 hns.out
    have hd1 := nth_spec HV.out hr0 hd
    have HD := Lib.hid hd
    have HD1 := Lib.hid hd1
    clear hd hd1 hns
    go_wp2_with fail
    refine (nth_is l r _ _ _ (some d) HD.out (by omega) HV.out (by omega) (by omega) Cl3.out).mono ?_
    rintro e W4 ⟨rfl, hb⟩
    have B4 := Lib.hid (below_next B3.out hb)
    have Cm4 := Lib.hid (Words.below Cm3.out hb)
    have Cl4 := Lib.hid (Cells.below Cl3.out hb)
    clear hb B3 Cm3 Cl3
    go_wp2_with fail
    refine (before_is l d _ _ _ r ((befv_ok HV.out _).trans HD1.out.2) (by omega) Cl4.out).mono ?_
    rintro e W5 ⟨rfl, hb⟩
    have B5 := Lib.hid (below_next B4.out hb)
    have Cm5 := Lib.hid (Words.below Cm4.out hb)
    have Cl5 := Lib.hid (Cells.below Cl4.out hb)
    clear hb B4 Cm4 Cl4
    go_wp2_with fail
    refine (has_is l d true _ _ _ HD1.out.1 (by omega) HV.out Cl5.out).mono ?_
    rintro e W6 ⟨rfl, hb⟩
    have B6 := Lib.hid (below_next B5.out hb)
    have Cm6 := Lib.hid (Words.below Cm5.out hb)
    have Cl6 := Lib.hid (Cells.below Cl5.out hb)
    clear hb B5 Cm5 Cl5
    go_wp2_with fail
    refine (before_is l day _ _ _ b ((befv_ok HV.out _).trans HB.out) (by omega) Cl6.out).mono ?_
    rintro e W7 ⟨rfl, hb⟩
    have B7 := Lib.hid (below_next B6.out hb)
    have Cm7 := Lib.hid (Words.below Cm6.out hb)
    have Cl7 := Lib.hid (Cells.below Cl6.out hb)
    clear hb B6 Cm6 Cl6
    by_cases hmem : mem l day = true
    · have hx := nth_bef HV.out hmem
      rw [HB.out] at hx
      have HM := Lib.hid hmem
      have HX := Lib.hid hx
      clear hmem hx
      go_wp2_with fail
      refine (nth_is l b _ _ _ (some day) HX.out (by omega) HV.out (by omega) (by omega) Cl7.out).mono ?_
      rintro e W8 ⟨rfl, hb⟩
      have B8 := Lib.hid (below_next B7.out hb)
      have Cm8 := Lib.hid (Words.below Cm7.out hb)
      have Cl8 := Lib.hid (Cells.below Cl7.out hb)
      clear hb B7 Cm7 Cl7
      go_wp2_with fail
      refine (has_is l day true _ _ _ HM.out (by omega) HV.out Cl8.out).mono ?_
      rintro e W9 ⟨rfl, hb⟩
      have B9 := Lib.hid (below_next B8.out hb)
      have Cm9 := Lib.hid (Words.below Cm8.out hb)
      have Cl9 := Lib.hid (Cells.below Cl8.out hb)
      clear hb B8 Cm8 Cl8
      go_wp2_with fail
      refine (nth_bad l (-1) _ _ _ (by omega) (.inr (by omega)) Cl9.out).mono ?_
      rintro e W10 ⟨rfl, hb⟩
      have B10 := Lib.hid (below_next B9.out hb)
      have Cm10 := Lib.hid (Words.below Cm9.out hb)
      have Cl10 := Lib.hid (Cells.below Cl9.out hb)
      clear hb B9 Cm9 Cl9
      go_wp2_with fail
      refine (before_is l 0 _ _ _ 0 ((befv_ok HV.out _).trans (bef_low HV.out (by omega))) (by omega) Cl10.out).mono ?_
      rintro e W11 ⟨rfl, hb⟩
      have B11 := Lib.hid (below_next B10.out hb)
      have Cm11 := Lib.hid (Words.below Cm10.out hb)
      have Cl11 := Lib.hid (Cells.below Cl10.out hb)
      clear hb B10 Cm10 Cl10
      go_wp2_with fail
      refine (before_is l 65536 _ _ _ all ((befv_ok HV.out _).trans HA.out) (by omega) Cl11.out).mono ?_
      rintro e W12 ⟨rfl, hb⟩
      have B12 := Lib.hid (below_next B11.out hb)
      have Cm12 := Lib.hid (Words.below Cm11.out hb)
      have Cl12 := Lib.hid (Cells.below Cl11.out hb)
      clear hb B11 Cm11 Cl11
      go_wp2_with fail
      refine (before_is l (-9223372036854775808) _ _ _ 0 ((befv_ok HV.out _).trans (bef_low HV.out (by omega))) (by omega) Cl12.out).mono ?_
      rintro e W13 ⟨rfl, hb⟩
      have B13 := Lib.hid (below_next B12.out hb)
      have Cm13 := Lib.hid (Words.below Cm12.out hb)
      have Cl13 := Lib.hid (Cells.below Cl12.out hb)
      clear hb B12 Cm12 Cl12
      go_wp2_with fail
      refine (before_is l 9223372036854775807 _ _ _ all (((befv_ok HV.out _).trans (bef_high HV.out (by omega))).trans HA.out) (by omega) Cl13.out).mono ?_
      rintro e W14 ⟨rfl, hb⟩
      have B14 := Lib.hid (below_next B13.out hb)
      have Cm14 := Lib.hid (Words.below Cm13.out hb)
      have Cl14 := Lib.hid (Cells.below Cl13.out hb)
      clear hb B13 Cm13 Cl13
      go_wp2
      go_ret
      exact ⟨rfl, B14.out⟩
    · have HM := Lib.hid (show mem l day = false by simpa using hmem)
      clear hmem
      cases hx : nth l b with
      | none =>
        have HX := Lib.hid hx
        clear hx
        go_wp2_with fail
        refine (nth_is l b _ _ _ none HX.out (by omega) HV.out (by omega) (by omega) Cl7.out).mono ?_
        rintro e W8 ⟨rfl, hb⟩
        have B8 := Lib.hid (below_next B7.out hb)
        have Cm8 := Lib.hid (Words.below Cm7.out hb)
        have Cl8 := Lib.hid (Cells.below Cl7.out hb)
        clear hb B7 Cm7 Cl7
        go_wp2_with fail
        refine (has_is l day false _ _ _ HM.out (by omega) HV.out Cl8.out).mono ?_
        rintro e W9 ⟨rfl, hb⟩
        have B9 := Lib.hid (below_next B8.out hb)
        have Cm9 := Lib.hid (Words.below Cm8.out hb)
        have Cl9 := Lib.hid (Cells.below Cl8.out hb)
        clear hb B8 Cm8 Cl8
        go_wp2_with fail
        refine (nth_bad l (-1) _ _ _ (by omega) (.inr (by omega)) Cl9.out).mono ?_
        rintro e W10 ⟨rfl, hb⟩
        have B10 := Lib.hid (below_next B9.out hb)
        have Cm10 := Lib.hid (Words.below Cm9.out hb)
        have Cl10 := Lib.hid (Cells.below Cl9.out hb)
        clear hb B9 Cm9 Cl9
        go_wp2_with fail
        refine (before_is l 0 _ _ _ 0 ((befv_ok HV.out _).trans (bef_low HV.out (by omega))) (by omega) Cl10.out).mono ?_
        rintro e W11 ⟨rfl, hb⟩
        have B11 := Lib.hid (below_next B10.out hb)
        have Cm11 := Lib.hid (Words.below Cm10.out hb)
        have Cl11 := Lib.hid (Cells.below Cl10.out hb)
        clear hb B10 Cm10 Cl10
        go_wp2_with fail
        refine (before_is l 65536 _ _ _ all ((befv_ok HV.out _).trans HA.out) (by omega) Cl11.out).mono ?_
        rintro e W12 ⟨rfl, hb⟩
        have B12 := Lib.hid (below_next B11.out hb)
        have Cm12 := Lib.hid (Words.below Cm11.out hb)
        have Cl12 := Lib.hid (Cells.below Cl11.out hb)
        clear hb B11 Cm11 Cl11
        go_wp2_with fail
        refine (before_is l (-9223372036854775808) _ _ _ 0 ((befv_ok HV.out _).trans (bef_low HV.out (by omega))) (by omega) Cl12.out).mono ?_
        rintro e W13 ⟨rfl, hb⟩
        have B13 := Lib.hid (below_next B12.out hb)
        have Cm13 := Lib.hid (Words.below Cm12.out hb)
        have Cl13 := Lib.hid (Cells.below Cl12.out hb)
        clear hb B12 Cm12 Cl12
        go_wp2_with fail
        refine (before_is l 9223372036854775807 _ _ _ all (((befv_ok HV.out _).trans (bef_high HV.out (by omega))).trans HA.out) (by omega) Cl13.out).mono ?_
        rintro e W14 ⟨rfl, hb⟩
        have B14 := Lib.hid (below_next B13.out hb)
        have Cm14 := Lib.hid (Words.below Cm13.out hb)
        have Cl14 := Lib.hid (Cells.below Cl13.out hb)
        clear hb B13 Cm13 Cl13
        go_wp2
        go_ret
        exact ⟨rfl, B14.out⟩
      | some x =>
        have hxx := nth_ge HV.out (d := day) (x := x) (by rw [HB.out]; exact hx)
        have HX := Lib.hid hx
        clear hx
        have hxn : ¬ x < day := by omega
        go_wp2_with fail
        refine (nth_is l b _ _ _ (some x) HX.out (by omega) HV.out (by omega) (by omega) Cl7.out).mono ?_
        rintro e W8 ⟨rfl, hb⟩
        have B8 := Lib.hid (below_next B7.out hb)
        have Cm8 := Lib.hid (Words.below Cm7.out hb)
        have Cl8 := Lib.hid (Cells.below Cl7.out hb)
        clear hb B7 Cm7 Cl7
        go_wp2_with fail
        refine (has_is l day false _ _ _ HM.out (by omega) HV.out Cl8.out).mono ?_
        rintro e W9 ⟨rfl, hb⟩
        have B9 := Lib.hid (below_next B8.out hb)
        have Cm9 := Lib.hid (Words.below Cm8.out hb)
        have Cl9 := Lib.hid (Cells.below Cl8.out hb)
        clear hb B8 Cm8 Cl8
        go_wp2_with fail
        refine (nth_bad l (-1) _ _ _ (by omega) (.inr (by omega)) Cl9.out).mono ?_
        rintro e W10 ⟨rfl, hb⟩
        have B10 := Lib.hid (below_next B9.out hb)
        have Cm10 := Lib.hid (Words.below Cm9.out hb)
        have Cl10 := Lib.hid (Cells.below Cl9.out hb)
        clear hb B9 Cm9 Cl9
        go_wp2_with fail
        refine (before_is l 0 _ _ _ 0 ((befv_ok HV.out _).trans (bef_low HV.out (by omega))) (by omega) Cl10.out).mono ?_
        rintro e W11 ⟨rfl, hb⟩
        have B11 := Lib.hid (below_next B10.out hb)
        have Cm11 := Lib.hid (Words.below Cm10.out hb)
        have Cl11 := Lib.hid (Cells.below Cl10.out hb)
        clear hb B10 Cm10 Cl10
        go_wp2_with fail
        refine (before_is l 65536 _ _ _ all ((befv_ok HV.out _).trans HA.out) (by omega) Cl11.out).mono ?_
        rintro e W12 ⟨rfl, hb⟩
        have B12 := Lib.hid (below_next B11.out hb)
        have Cm12 := Lib.hid (Words.below Cm11.out hb)
        have Cl12 := Lib.hid (Cells.below Cl11.out hb)
        clear hb B11 Cm11 Cl11
        go_wp2_with fail
        refine (before_is l (-9223372036854775808) _ _ _ 0 ((befv_ok HV.out _).trans (bef_low HV.out (by omega))) (by omega) Cl12.out).mono ?_
        rintro e W13 ⟨rfl, hb⟩
        have B13 := Lib.hid (below_next B12.out hb)
        have Cm13 := Lib.hid (Words.below Cm12.out hb)
        have Cl13 := Lib.hid (Cells.below Cl12.out hb)
        clear hb B12 Cm12 Cl12
        go_wp2_with fail
        refine (before_is l 9223372036854775807 _ _ _ all (((befv_ok HV.out _).trans (bef_high HV.out (by omega))).trans HA.out) (by omega) Cl13.out).mono ?_
        rintro e W14 ⟨rfl, hb⟩
        have B14 := Lib.hid (below_next B13.out hb)
        have Cm14 := Lib.hid (Words.below Cm13.out hb)
        have Cl14 := Lib.hid (Cells.below Cl13.out hb)
        clear hb B13 Cm13 Cl13
        go_wp2
        go_ret
        exact ⟨rfl, B14.out⟩
  · rw [decide_eq_false hlt] at hns
    have HD := Lib.hid (show nth l r = none by simpa using hns.out)
    clear hns
    have hlt2 : all ≤ r := by omega
    go_wp2_with fail
    refine (nth_is l r _ _ _ none HD.out (by omega) HV.out (by omega) (by omega) Cl3.out).mono ?_
    rintro e W4 ⟨rfl, hb⟩
    have B4 := Lib.hid (below_next B3.out hb)
    have Cm4 := Lib.hid (Words.below Cm3.out hb)
    have Cl4 := Lib.hid (Cells.below Cl3.out hb)
    clear hb B3 Cm3 Cl3
    go_wp2_with fail
    refine (before_is l day _ _ _ b ((befv_ok HV.out _).trans HB.out) (by omega) Cl4.out).mono ?_
    rintro e W5 ⟨rfl, hb⟩
    have B5 := Lib.hid (below_next B4.out hb)
    have Cm5 := Lib.hid (Words.below Cm4.out hb)
    have Cl5 := Lib.hid (Cells.below Cl4.out hb)
    clear hb B4 Cm4 Cl4
    by_cases hmem : mem l day = true
    · have hx := nth_bef HV.out hmem
      rw [HB.out] at hx
      have HM := Lib.hid hmem
      have HX := Lib.hid hx
      clear hmem hx
      go_wp2_with fail
      refine (nth_is l b _ _ _ (some day) HX.out (by omega) HV.out (by omega) (by omega) Cl5.out).mono ?_
      rintro e W6 ⟨rfl, hb⟩
      have B6 := Lib.hid (below_next B5.out hb)
      have Cm6 := Lib.hid (Words.below Cm5.out hb)
      have Cl6 := Lib.hid (Cells.below Cl5.out hb)
      clear hb B5 Cm5 Cl5
      go_wp2_with fail
      refine (has_is l day true _ _ _ HM.out (by omega) HV.out Cl6.out).mono ?_
      rintro e W7 ⟨rfl, hb⟩
      have B7 := Lib.hid (below_next B6.out hb)
      have Cm7 := Lib.hid (Words.below Cm6.out hb)
      have Cl7 := Lib.hid (Cells.below Cl6.out hb)
      clear hb B6 Cm6 Cl6
      go_wp2_with fail
      refine (nth_bad l (-1) _ _ _ (by omega) (.inr (by omega)) Cl7.out).mono ?_
      rintro e W8 ⟨rfl, hb⟩
      have B8 := Lib.hid (below_next B7.out hb)
      have Cm8 := Lib.hid (Words.below Cm7.out hb)
      have Cl8 := Lib.hid (Cells.below Cl7.out hb)
      clear hb B7 Cm7 Cl7
      go_wp2_with fail
      refine (before_is l 0 _ _ _ 0 ((befv_ok HV.out _).trans (bef_low HV.out (by omega))) (by omega) Cl8.out).mono ?_
      rintro e W9 ⟨rfl, hb⟩
      have B9 := Lib.hid (below_next B8.out hb)
      have Cm9 := Lib.hid (Words.below Cm8.out hb)
      have Cl9 := Lib.hid (Cells.below Cl8.out hb)
      clear hb B8 Cm8 Cl8
      go_wp2_with fail
      refine (before_is l 65536 _ _ _ all ((befv_ok HV.out _).trans HA.out) (by omega) Cl9.out).mono ?_
      rintro e W10 ⟨rfl, hb⟩
      have B10 := Lib.hid (below_next B9.out hb)
      have Cm10 := Lib.hid (Words.below Cm9.out hb)
      have Cl10 := Lib.hid (Cells.below Cl9.out hb)
      clear hb B9 Cm9 Cl9
      go_wp2_with fail
      refine (before_is l (-9223372036854775808) _ _ _ 0 ((befv_ok HV.out _).trans (bef_low HV.out (by omega))) (by omega) Cl10.out).mono ?_
      rintro e W11 ⟨rfl, hb⟩
      have B11 := Lib.hid (below_next B10.out hb)
      have Cm11 := Lib.hid (Words.below Cm10.out hb)
      have Cl11 := Lib.hid (Cells.below Cl10.out hb)
      clear hb B10 Cm10 Cl10
      go_wp2_with fail
      refine (before_is l 9223372036854775807 _ _ _ all (((befv_ok HV.out _).trans (bef_high HV.out (by omega))).trans HA.out) (by omega) Cl11.out).mono ?_
      rintro e W12 ⟨rfl, hb⟩
      have B12 := Lib.hid (below_next B11.out hb)
      have Cm12 := Lib.hid (Words.below Cm11.out hb)
      have Cl12 := Lib.hid (Cells.below Cl11.out hb)
      clear hb B11 Cm11 Cl11
      go_wp2
      go_ret
      exact ⟨rfl, B12.out⟩
    · have HM := Lib.hid (show mem l day = false by simpa using hmem)
      clear hmem
      cases hx : nth l b with
      | none =>
        have HX := Lib.hid hx
        clear hx
        go_wp2_with fail
        refine (nth_is l b _ _ _ none HX.out (by omega) HV.out (by omega) (by omega) Cl5.out).mono ?_
        rintro e W6 ⟨rfl, hb⟩
        have B6 := Lib.hid (below_next B5.out hb)
        have Cm6 := Lib.hid (Words.below Cm5.out hb)
        have Cl6 := Lib.hid (Cells.below Cl5.out hb)
        clear hb B5 Cm5 Cl5
        go_wp2_with fail
        refine (has_is l day false _ _ _ HM.out (by omega) HV.out Cl6.out).mono ?_
        rintro e W7 ⟨rfl, hb⟩
        have B7 := Lib.hid (below_next B6.out hb)
        have Cm7 := Lib.hid (Words.below Cm6.out hb)
        have Cl7 := Lib.hid (Cells.below Cl6.out hb)
        clear hb B6 Cm6 Cl6
        go_wp2_with fail
        refine (nth_bad l (-1) _ _ _ (by omega) (.inr (by omega)) Cl7.out).mono ?_
        rintro e W8 ⟨rfl, hb⟩
        have B8 := Lib.hid (below_next B7.out hb)
        have Cm8 := Lib.hid (Words.below Cm7.out hb)
        have Cl8 := Lib.hid (Cells.below Cl7.out hb)
        clear hb B7 Cm7 Cl7
        go_wp2_with fail
        refine (before_is l 0 _ _ _ 0 ((befv_ok HV.out _).trans (bef_low HV.out (by omega))) (by omega) Cl8.out).mono ?_
        rintro e W9 ⟨rfl, hb⟩
        have B9 := Lib.hid (below_next B8.out hb)
        have Cm9 := Lib.hid (Words.below Cm8.out hb)
        have Cl9 := Lib.hid (Cells.below Cl8.out hb)
        clear hb B8 Cm8 Cl8
        go_wp2_with fail
        refine (before_is l 65536 _ _ _ all ((befv_ok HV.out _).trans HA.out) (by omega) Cl9.out).mono ?_
        rintro e W10 ⟨rfl, hb⟩
        have B10 := Lib.hid (below_next B9.out hb)
        have Cm10 := Lib.hid (Words.below Cm9.out hb)
        have Cl10 := Lib.hid (Cells.below Cl9.out hb)
        clear hb B9 Cm9 Cl9
        go_wp2_with fail
        refine (before_is l (-9223372036854775808) _ _ _ 0 ((befv_ok HV.out _).trans (bef_low HV.out (by omega))) (by omega) Cl10.out).mono ?_
        rintro e W11 ⟨rfl, hb⟩
        have B11 := Lib.hid (below_next B10.out hb)
        have Cm11 := Lib.hid (Words.below Cm10.out hb)
        have Cl11 := Lib.hid (Cells.below Cl10.out hb)
        clear hb B10 Cm10 Cl10
        go_wp2_with fail
        refine (before_is l 9223372036854775807 _ _ _ all (((befv_ok HV.out _).trans (bef_high HV.out (by omega))).trans HA.out) (by omega) Cl11.out).mono ?_
        rintro e W12 ⟨rfl, hb⟩
        have B12 := Lib.hid (below_next B11.out hb)
        have Cm12 := Lib.hid (Words.below Cm11.out hb)
        have Cl12 := Lib.hid (Cells.below Cl11.out hb)
        clear hb B11 Cm11 Cl11
        go_wp2
        go_ret
        exact ⟨rfl, B12.out⟩
      | some x =>
        have hxx := nth_ge HV.out (d := day) (x := x) (by rw [HB.out]; exact hx)
        have HX := Lib.hid hx
        clear hx
        have hxn : ¬ x < day := by omega
        go_wp2_with fail
        refine (nth_is l b _ _ _ (some x) HX.out (by omega) HV.out (by omega) (by omega) Cl5.out).mono ?_
        rintro e W6 ⟨rfl, hb⟩
        have B6 := Lib.hid (below_next B5.out hb)
        have Cm6 := Lib.hid (Words.below Cm5.out hb)
        have Cl6 := Lib.hid (Cells.below Cl5.out hb)
        clear hb B5 Cm5 Cl5
        go_wp2_with fail
        refine (has_is l day false _ _ _ HM.out (by omega) HV.out Cl6.out).mono ?_
        rintro e W7 ⟨rfl, hb⟩
        have B7 := Lib.hid (below_next B6.out hb)
        have Cm7 := Lib.hid (Words.below Cm6.out hb)
        have Cl7 := Lib.hid (Cells.below Cl6.out hb)
        clear hb B6 Cm6 Cl6
        go_wp2_with fail
        refine (nth_bad l (-1) _ _ _ (by omega) (.inr (by omega)) Cl7.out).mono ?_
        rintro e W8 ⟨rfl, hb⟩
        have B8 := Lib.hid (below_next B7.out hb)
        have Cm8 := Lib.hid (Words.below Cm7.out hb)
        have Cl8 := Lib.hid (Cells.below Cl7.out hb)
        clear hb B7 Cm7 Cl7
        go_wp2_with fail
        refine (before_is l 0 _ _ _ 0 ((befv_ok HV.out _).trans (bef_low HV.out (by omega))) (by omega) Cl8.out).mono ?_
        rintro e W9 ⟨rfl, hb⟩
        have B9 := Lib.hid (below_next B8.out hb)
        have Cm9 := Lib.hid (Words.below Cm8.out hb)
        have Cl9 := Lib.hid (Cells.below Cl8.out hb)
        clear hb B8 Cm8 Cl8
        go_wp2_with fail
        refine (before_is l 65536 _ _ _ all ((befv_ok HV.out _).trans HA.out) (by omega) Cl9.out).mono ?_
        rintro e W10 ⟨rfl, hb⟩
        have B10 := Lib.hid (below_next B9.out hb)
        have Cm10 := Lib.hid (Words.below Cm9.out hb)
        have Cl10 := Lib.hid (Cells.below Cl9.out hb)
        clear hb B9 Cm9 Cl9
        go_wp2_with fail
        refine (before_is l (-9223372036854775808) _ _ _ 0 ((befv_ok HV.out _).trans (bef_low HV.out (by omega))) (by omega) Cl10.out).mono ?_
        rintro e W11 ⟨rfl, hb⟩
        have B11 := Lib.hid (below_next B10.out hb)
        have Cm11 := Lib.hid (Words.below Cm10.out hb)
        have Cl11 := Lib.hid (Cells.below Cl10.out hb)
        clear hb B10 Cm10 Cl10
        go_wp2_with fail
        refine (before_is l 9223372036854775807 _ _ _ all (((befv_ok HV.out _).trans (bef_high HV.out (by omega))).trans HA.out) (by omega) Cl11.out).mono ?_
        rintro e W12 ⟨rfl, hb⟩
        have B12 := Lib.hid (below_next B11.out hb)
        have Cm12 := Lib.hid (Words.below Cm11.out hb)
        have Cl12 := Lib.hid (Cells.below Cl11.out hb)
        clear hb B11 Cm11 Cl11
        go_wp2
        go_ret
        exact ⟨rfl, B12.out⟩

end Go.Proofs.Ytgpbdocgnfjckaa
