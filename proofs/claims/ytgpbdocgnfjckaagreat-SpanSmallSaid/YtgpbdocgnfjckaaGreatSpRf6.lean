/- SpanAsks. -/
import Derived.Test.YtgpbdocgnfjckaaGreatSpRf5
namespace Go.Proofs.YtgpbdocgnfjckaaGreat
open Go.RowKit Go.Shelf Sp

/-- What Has answers. -/
theorem phas_any (l : Sps) (day : Int) (p : Option Addr) (cap : Nat) (w : World) (x : Bool) (hx : (validB l && mem l day) = x) (hl : l.length ≤ 100000) (hc : Cells w p l) :
    Calls Tryz.prog 32 #[.slice p l.length cap, .int .i64 day] w fun e w' => e = .returned (.bool x) ∧ Below w.heap.size w w' := by
  subst hx
  cases hv : validB l with
  | true => exact has_ok l day p cap w hl hv hc
  | false => exact has_bad l day p cap w hl hv hc
theorem rhas_is (l : Sps) (day : Int) (p : Option Addr) (cap : Nat) (w : World) (x : Bool) (hx : (validB l && mem l day) = x) (hl : l.length ≤ 10000) (hc : Cells w p l) :
    Calls Tryz.prog 33 #[.slice p l.length cap, .int .i64 day] w fun e w' => e = .returned (.bool x) ∧ Below w.heap.size w w' := by
  subst hx; exact rhas_any l day p cap w hl hc

/-- What Nth answers. -/
def nthv (l : Sps) (n : Int) : Int × Bool := if validB l = true ∧ 0 ≤ n then ((nth l n).getD 0, (nth l n).isSome) else (0, false)
theorem pnth_any (l : Sps) (n : Int) (p : Option Addr) (cap : Nat) (w : World) (x : Int) (y : Bool) (hx : nthv l n = (x, y)) (hl : l.length ≤ 10000) (hn1 : n ≤ 9223372036854775807) (hc : Cells w p l) :
    Calls Tryz.prog 28 #[.slice p l.length cap, .int .i64 n] w fun e w' => e = .returned (.tuple #[.int .i64 x, .bool y]) ∧ Below w.heap.size w w' := by
  unfold nthv at hx
  split at hx
  · rename_i h
    obtain ⟨rfl, rfl⟩ := Prod.mk.injEq .. ▸ hx
    exact nth_ok l n p cap w (by omega) h.1 h.2 (by omega) hc
  · rename_i h
    obtain ⟨rfl, rfl⟩ := Prod.mk.injEq .. ▸ hx
    refine nth_bad l n p cap w (by omega) ?_ hc
    cases hv : validB l with
    | false => exact .inl rfl
    | true => right; rw [hv] at h; simp at h; omega
theorem rnth_any (l : Sps) (n : Int) (p : Option Addr) (cap : Nat) (w : World) (x : Int) (y : Bool) (hx : nthv l n = (x, y)) (hl : l.length ≤ 10000) (hn0 : -9223372036854775808 ≤ n) (hn1 : n ≤ 9223372036854775807) (hc : Cells w p l) :
    Calls Tryz.prog 29 #[.slice p l.length cap, .int .i64 n] w fun e w' => e = .returned (.tuple #[.int .i64 x, .bool y]) ∧ Below w.heap.size w w' := by
  unfold nthv at hx
  split at hx
  · rename_i h
    obtain ⟨rfl, rfl⟩ := Prod.mk.injEq .. ▸ hx
    exact rnth_ok l n p cap w hl h.1 h.2 hn1 hc
  · rename_i h
    obtain ⟨rfl, rfl⟩ := Prod.mk.injEq .. ▸ hx
    cases hv : validB l with
    | false => exact rnth_bad l n p cap w hl hv hc
    | true => exact rnth_neg l n p cap w hl hv (by rw [hv] at h; simp at h; omega) hn0 hc
theorem rbefore_is (l : Sps) (d : Int) (p : Option Addr) (cap : Nat) (w : World) (r : Int) (hr : befv l d = r) (hl : l.length ≤ 10000) (hc : Cells w p l) :
    Calls Tryz.prog 35 #[.slice p l.length cap, .int .i64 d] w fun e w' => e = .returned (.int .i64 r) ∧ Below w.heap.size w w' := by
  subst hr; exact rbefore_any l d p cap w hl hc

set_option maxHeartbeats 8000000 in
set_option maxRecDepth 100000 in
theorem asks_ok (l : Sps) (day n : Int) (p : Option Addr) (cap : Nat) (w : World) (hl : l.length ≤ 100) (hv : validB l = true ∧ 0 ≤ n) (hn0 : -9223372036854775808 ≤ n) (hn1 : n ≤ 9223372036854775807) (hc : Cells w p l) :
    Calls Tryz.prog 8 #[.slice p l.length cap, .int .i64 day, .int .i64 n] w fun e w' => e = .returned (.bool true) ∧ Below w.heap.size w w' := by
  have B0 := Lib.hid (Below.refl w.heap.size w)
  have Cl0 := Lib.hid hc
  have HV := Lib.hid hv
  obtain ⟨x, y, hxy⟩ : ∃ x y, nthv l n = (x, y) := ⟨_, _, rfl⟩
  obtain ⟨hh, hhe⟩ : ∃ hh, (validB l && mem l day) = hh := ⟨_, rfl⟩
  obtain ⟨bd, hbd⟩ : ∃ bd, befv l day = bd := ⟨_, rfl⟩
  obtain ⟨ba, hba⟩ : ∃ ba, befv l 65536 = ba := ⟨_, rfl⟩
  have HXY := Lib.hid hxy
  have HHH := Lib.hid hhe
  have HBD := Lib.hid hbd
  have HBA := Lib.hid hba
  have tx : (x == x) = true := by simp
  have tbd : (bd == bd) = true := by simp
  have tba : (ba == ba) = true := by simp
  clear hc hv hxy hhe hbd hba
  have hbl : (brg n l).length ≤ 100 := by have := brg_length n l l.length (Nat.le_refl _); rw [List.take_length] at this; omega
  cases y <;> cases hh
  all_goals
    go_enter Tryz.func8, Tryz.ntmps8
    go_wp2_with fail
    refine (lent_any l p cap _ hl Cl0.out).mono ?_
    rintro e W1 ⟨g, c, rfl, h12, hg, ho, hb⟩
    have ci := (show Cells W1 (some ⟨g, 0, none⟩) (l ++ mks) by obtain ⟨q9, c9, e9, h9⟩ := ho.form; injection e9 with e1 _ _; subst e1; exact h9).left
    have hov := ho.ovr (by rw [List.length_append, mks_len])
    have hgl := hov.lt
    have B1 := Lib.hid (below_next B0.out hb)
    have Cl1 := Lib.hid (Cells.below Cl0.out hb)
    clear hb B0 Cl0
    have Cn1 := Lib.hid ci
    have Ci1 := Lib.hid ho
    clear ci ho hov
    have B1le : g < W1.heap.size := hgl
    go_wp2_with fail
    refine (pnth_any l n _ c _ x _ HXY.out (by omega) hn1 Cn1.out).mono ?_
    rintro e W2 ⟨rfl, hb⟩
    have B2le := hb.size
    have B2 := Lib.hid (below_next B1.out hb)
    have Cl2 := Lib.hid (Cells.below Cl1.out hb)
    have Cn2 := Lib.hid (Cells.below Cn1.out hb)
    have Ci2 := Lib.hid (Owns.below Ci1.out hb)
    clear hb B1 Cl1 Cn1 Ci1
    go_wp2_with fail
    refine (rnth_any l n p cap _ x _ HXY.out (by omega) hn0 hn1 Cl2.out).mono ?_
    rintro e W3 ⟨rfl, hb⟩
    have B3le := hb.size
    have B3 := Lib.hid (below_next B2.out hb)
    have Cl3 := Lib.hid (Cells.below Cl2.out hb)
    have Cn3 := Lib.hid (Cells.below Cn2.out hb)
    have Ci3 := Lib.hid (Owns.below Ci2.out hb)
    clear hb B2 Cl2 Cn2 Ci2
    go_wp2_with fail
    refine (bridge_ok l n _ c _ (by omega) HV.out.1 HV.out.2 Cn3.out).mono ?_
    rintro e W4 ⟨v, rfl, ho, hb⟩
    have B4le := hb.size
    have B4 := Lib.hid (below_next B3.out hb)
    have Cl4 := Lib.hid (Cells.below Cl3.out hb)
    have Cn4 := Lib.hid (Cells.below Cn3.out hb)
    have Ci4 := Lib.hid (Owns.below Ci3.out hb)
    clear hb B3 Cl3 Cn3 Ci3
    obtain ⟨pa, ca, rfl, _⟩ := ho.form
    have Ca4 := Lib.hid ho
    clear ho
    go_wp2_with fail
    refine (rbridge_ok l n p cap _ (by omega) HV.out.1 HV.out.2 hn1 Cl4.out).mono ?_
    rintro e W5 ⟨v2, rfl, ho, hb⟩
    have B5 := Lib.hid (below_next B4.out hb)
    have Cl5 := Lib.hid (Cells.below Cl4.out hb)
    have Cn5 := Lib.hid (Cells.below Cn4.out hb)
    have Ci5 := Lib.hid (Owns.below Ci4.out hb)
    have Ca5 := Lib.hid (Owns.below Ca4.out hb)
    clear hb B4 Cl4 Cn4 Ci4 Ca4
    obtain ⟨pb, cb, rfl, _⟩ := ho.form
    have Cb5 := Lib.hid ho
    clear ho
    go_wp2_with fail
    refine (phas_any l day _ c _ _ HHH.out (by omega) Cn5.out).mono ?_
    rintro e W6 ⟨rfl, hb⟩
    have B6 := Lib.hid (below_next B5.out hb)
    have Cl6 := Lib.hid (Cells.below Cl5.out hb)
    have Cn6 := Lib.hid (Cells.below Cn5.out hb)
    have Ci6 := Lib.hid (Owns.below Ci5.out hb)
    have Ca6 := Lib.hid (Owns.below Ca5.out hb)
    have Cb6 := Lib.hid (Owns.below Cb5.out hb)
    clear hb B5 Cl5 Cn5 Ci5 Ca5 Cb5
    go_wp2_with fail
    refine (rhas_is l day p cap _ _ HHH.out (by omega) Cl6.out).mono ?_
    rintro e W7 ⟨rfl, hb⟩
    have B7 := Lib.hid (below_next B6.out hb)
    have Cl7 := Lib.hid (Cells.below Cl6.out hb)
    have Cn7 := Lib.hid (Cells.below Cn6.out hb)
    have Ci7 := Lib.hid (Owns.below Ci6.out hb)
    have Ca7 := Lib.hid (Owns.below Ca6.out hb)
    have Cb7 := Lib.hid (Owns.below Cb6.out hb)
    clear hb B6 Cl6 Cn6 Ci6 Ca6 Cb6
    go_wp2_with fail
    refine (before_is l day _ c _ bd HBD.out (by omega) Cn7.out).mono ?_
    rintro e W8 ⟨rfl, hb⟩
    have B8 := Lib.hid (below_next B7.out hb)
    have Cl8 := Lib.hid (Cells.below Cl7.out hb)
    have Cn8 := Lib.hid (Cells.below Cn7.out hb)
    have Ci8 := Lib.hid (Owns.below Ci7.out hb)
    have Ca8 := Lib.hid (Owns.below Ca7.out hb)
    have Cb8 := Lib.hid (Owns.below Cb7.out hb)
    clear hb B7 Cl7 Cn7 Ci7 Ca7 Cb7
    go_wp2_with fail
    refine (rbefore_is l day p cap _ bd HBD.out (by omega) Cl8.out).mono ?_
    rintro e W9 ⟨rfl, hb⟩
    have B9 := Lib.hid (below_next B8.out hb)
    have Cl9 := Lib.hid (Cells.below Cl8.out hb)
    have Cn9 := Lib.hid (Cells.below Cn8.out hb)
    have Ci9 := Lib.hid (Owns.below Ci8.out hb)
    have Ca9 := Lib.hid (Owns.below Ca8.out hb)
    have Cb9 := Lib.hid (Owns.below Cb8.out hb)
    clear hb B8 Cl8 Cn8 Ci8 Ca8 Cb8
    go_wp2_with fail
    refine (days_is l _ c _ ba HBA.out (by omega) Cn9.out).mono ?_
    rintro e W10 ⟨rfl, hb⟩
    have B10 := Lib.hid (below_next B9.out hb)
    have Cl10 := Lib.hid (Cells.below Cl9.out hb)
    have Cn10 := Lib.hid (Cells.below Cn9.out hb)
    have Ci10 := Lib.hid (Owns.below Ci9.out hb)
    have Ca10 := Lib.hid (Owns.below Ca9.out hb)
    have Cb10 := Lib.hid (Owns.below Cb9.out hb)
    clear hb B9 Cl9 Cn9 Ci9 Ca9 Cb9
    go_wp2_with fail
    refine (rbefore_is l 65536 p cap _ ba HBA.out (by omega) Cl10.out).mono ?_
    rintro e W11 ⟨rfl, hb⟩
    have B11 := Lib.hid (below_next B10.out hb)
    have Cl11 := Lib.hid (Cells.below Cl10.out hb)
    have Cn11 := Lib.hid (Cells.below Cn10.out hb)
    have Ci11 := Lib.hid (Owns.below Ci10.out hb)
    have Ca11 := Lib.hid (Owns.below Ca10.out hb)
    have Cb11 := Lib.hid (Owns.below Cb10.out hb)
    clear hb B10 Cl10 Cn10 Ci10 Ca10 Cb10
    go_wp2_with fail
    refine (kept_any l g c l.length p cap _ w.heap.size rfl hl Ci11.out h12 Cl11.out).mono ?_
    rintro e W12 ⟨rfl, hb⟩
    have B12 := Lib.hid (below_next B11.out hb)
    have Cl12 := Lib.hid (Cells.below Cl11.out hb)
    have Cn12 := Lib.hid (Cells.below Cn11.out hb)
    have Ci12 := Lib.hid (Owns.below Ci11.out hb)
    have Ca12 := Lib.hid (Owns.below Ca11.out hb)
    have Cb12 := Lib.hid (Owns.below Cb11.out hb)
    clear hb B11 Cl11 Cn11 Ci11 Ca11 Cb11
    go_wp2_with fail
    refine (over_any g c l.length _ hl h12 (Ci12.out.ovr (by rw [List.length_append, mks_len]))).mono ?_
    rintro e W13 ⟨rfl, hbut⟩
    have B13 := Lib.hid (hbut.belowOf B12.out hg)
    have Ca13 := Lib.hid (hbut.owns Ca12.out (by omega))
    have Cb13 := Lib.hid (hbut.owns Cb12.out (by omega))
    clear hbut B12 Cl12 Cn12 Ci12 Ca12 Cb12
    go_wp2_with fail
    refine (same_any (brg n l) (brg n l) pa pb ca cb _ (by omega) (cellsOf Ca13.out) (cellsOf Cb13.out)).mono ?_
    rintro e W14 ⟨he, hb⟩
    subst he
    have B14 := Lib.hid (below_next B13.out hb)
    have Ca14 := Lib.hid (Owns.below Ca13.out hb)
    have Cb14 := Lib.hid (Owns.below Cb13.out hb)
    clear hb B13 Ca13 Cb13
    go_wp2_with fail
    go_ret
    exact ⟨ret_bool (by simp), B14.out⟩

set_option maxHeartbeats 8000000 in
set_option maxRecDepth 100000 in
theorem asks_bad (l : Sps) (day n : Int) (p : Option Addr) (cap : Nat) (w : World) (hl : l.length ≤ 100) (hv : validB l = false ∨ n < 0) (hn0 : -9223372036854775808 ≤ n) (hn1 : n ≤ 9223372036854775807) (hc : Cells w p l) :
    Calls Tryz.prog 8 #[.slice p l.length cap, .int .i64 day, .int .i64 n] w fun e w' => e = .returned (.bool true) ∧ Below w.heap.size w w' := by
  have B0 := Lib.hid (Below.refl w.heap.size w)
  have Cl0 := Lib.hid hc
  have HV := Lib.hid hv
  obtain ⟨x, y, hxy⟩ : ∃ x y, nthv l n = (x, y) := ⟨_, _, rfl⟩
  obtain ⟨hh, hhe⟩ : ∃ hh, (validB l && mem l day) = hh := ⟨_, rfl⟩
  obtain ⟨bd, hbd⟩ : ∃ bd, befv l day = bd := ⟨_, rfl⟩
  obtain ⟨ba, hba⟩ : ∃ ba, befv l 65536 = ba := ⟨_, rfl⟩
  have HXY := Lib.hid hxy
  have HHH := Lib.hid hhe
  have HBD := Lib.hid hbd
  have HBA := Lib.hid hba
  have tx : (x == x) = true := by simp
  have tbd : (bd == bd) = true := by simp
  have tba : (ba == ba) = true := by simp
  clear hc hv hxy hhe hbd hba
  cases y <;> cases hh
  all_goals
    go_enter Tryz.func8, Tryz.ntmps8
    go_wp2_with fail
    refine (lent_any l p cap _ hl Cl0.out).mono ?_
    rintro e W1 ⟨g, c, rfl, h12, hg, ho, hb⟩
    have ci := (show Cells W1 (some ⟨g, 0, none⟩) (l ++ mks) by obtain ⟨q9, c9, e9, h9⟩ := ho.form; injection e9 with e1 _ _; subst e1; exact h9).left
    have hov := ho.ovr (by rw [List.length_append, mks_len])
    have hgl := hov.lt
    have B1 := Lib.hid (below_next B0.out hb)
    have Cl1 := Lib.hid (Cells.below Cl0.out hb)
    clear hb B0 Cl0
    have Cn1 := Lib.hid ci
    have Ci1 := Lib.hid ho
    clear ci ho hov
    have B1le : g < W1.heap.size := hgl
    go_wp2_with fail
    refine (pnth_any l n _ c _ x _ HXY.out (by omega) hn1 Cn1.out).mono ?_
    rintro e W2 ⟨rfl, hb⟩
    have B2le := hb.size
    have B2 := Lib.hid (below_next B1.out hb)
    have Cl2 := Lib.hid (Cells.below Cl1.out hb)
    have Cn2 := Lib.hid (Cells.below Cn1.out hb)
    have Ci2 := Lib.hid (Owns.below Ci1.out hb)
    clear hb B1 Cl1 Cn1 Ci1
    go_wp2_with fail
    refine (rnth_any l n p cap _ x _ HXY.out (by omega) hn0 hn1 Cl2.out).mono ?_
    rintro e W3 ⟨rfl, hb⟩
    have B3le := hb.size
    have B3 := Lib.hid (below_next B2.out hb)
    have Cl3 := Lib.hid (Cells.below Cl2.out hb)
    have Cn3 := Lib.hid (Cells.below Cn2.out hb)
    have Ci3 := Lib.hid (Owns.below Ci2.out hb)
    clear hb B2 Cl2 Cn2 Ci2
    go_wp2_with fail
    refine (bridge_bad l n _ c _ (by omega) HV.out Cn3.out).mono ?_
    rintro e W4 ⟨rfl, hb⟩
    have B4 := Lib.hid (below_next B3.out hb)
    have Cl4 := Lib.hid (Cells.below Cl3.out hb)
    have Cn4 := Lib.hid (Cells.below Cn3.out hb)
    have Ci4 := Lib.hid (Owns.below Ci3.out hb)
    clear hb B3 Cl3 Cn3 Ci3
    go_wp2_with fail
    refine (rbridge_bad l n p cap _ (by omega) HV.out Cl4.out).mono ?_
    rintro e W5 ⟨rfl, hb⟩
    have B5 := Lib.hid (below_next B4.out hb)
    have Cl5 := Lib.hid (Cells.below Cl4.out hb)
    have Cn5 := Lib.hid (Cells.below Cn4.out hb)
    have Ci5 := Lib.hid (Owns.below Ci4.out hb)
    clear hb B4 Cl4 Cn4 Ci4
    go_wp2_with fail
    refine (phas_any l day _ c _ _ HHH.out (by omega) Cn5.out).mono ?_
    rintro e W6 ⟨rfl, hb⟩
    have B6 := Lib.hid (below_next B5.out hb)
    have Cl6 := Lib.hid (Cells.below Cl5.out hb)
    have Cn6 := Lib.hid (Cells.below Cn5.out hb)
    have Ci6 := Lib.hid (Owns.below Ci5.out hb)
    clear hb B5 Cl5 Cn5 Ci5
    go_wp2_with fail
    refine (rhas_is l day p cap _ _ HHH.out (by omega) Cl6.out).mono ?_
    rintro e W7 ⟨rfl, hb⟩
    have B7 := Lib.hid (below_next B6.out hb)
    have Cl7 := Lib.hid (Cells.below Cl6.out hb)
    have Cn7 := Lib.hid (Cells.below Cn6.out hb)
    have Ci7 := Lib.hid (Owns.below Ci6.out hb)
    clear hb B6 Cl6 Cn6 Ci6
    go_wp2_with fail
    refine (before_is l day _ c _ bd HBD.out (by omega) Cn7.out).mono ?_
    rintro e W8 ⟨rfl, hb⟩
    have B8 := Lib.hid (below_next B7.out hb)
    have Cl8 := Lib.hid (Cells.below Cl7.out hb)
    have Cn8 := Lib.hid (Cells.below Cn7.out hb)
    have Ci8 := Lib.hid (Owns.below Ci7.out hb)
    clear hb B7 Cl7 Cn7 Ci7
    go_wp2_with fail
    refine (rbefore_is l day p cap _ bd HBD.out (by omega) Cl8.out).mono ?_
    rintro e W9 ⟨rfl, hb⟩
    have B9 := Lib.hid (below_next B8.out hb)
    have Cl9 := Lib.hid (Cells.below Cl8.out hb)
    have Cn9 := Lib.hid (Cells.below Cn8.out hb)
    have Ci9 := Lib.hid (Owns.below Ci8.out hb)
    clear hb B8 Cl8 Cn8 Ci8
    go_wp2_with fail
    refine (days_is l _ c _ ba HBA.out (by omega) Cn9.out).mono ?_
    rintro e W10 ⟨rfl, hb⟩
    have B10 := Lib.hid (below_next B9.out hb)
    have Cl10 := Lib.hid (Cells.below Cl9.out hb)
    have Cn10 := Lib.hid (Cells.below Cn9.out hb)
    have Ci10 := Lib.hid (Owns.below Ci9.out hb)
    clear hb B9 Cl9 Cn9 Ci9
    go_wp2_with fail
    refine (rbefore_is l 65536 p cap _ ba HBA.out (by omega) Cl10.out).mono ?_
    rintro e W11 ⟨rfl, hb⟩
    have B11 := Lib.hid (below_next B10.out hb)
    have Cl11 := Lib.hid (Cells.below Cl10.out hb)
    have Cn11 := Lib.hid (Cells.below Cn10.out hb)
    have Ci11 := Lib.hid (Owns.below Ci10.out hb)
    clear hb B10 Cl10 Cn10 Ci10
    go_wp2_with fail
    refine (kept_any l g c l.length p cap _ w.heap.size rfl hl Ci11.out h12 Cl11.out).mono ?_
    rintro e W12 ⟨rfl, hb⟩
    have B12 := Lib.hid (below_next B11.out hb)
    have Cl12 := Lib.hid (Cells.below Cl11.out hb)
    have Cn12 := Lib.hid (Cells.below Cn11.out hb)
    have Ci12 := Lib.hid (Owns.below Ci11.out hb)
    clear hb B11 Cl11 Cn11 Ci11
    go_wp2_with fail
    refine (over_any g c l.length _ hl h12 (Ci12.out.ovr (by rw [List.length_append, mks_len]))).mono ?_
    rintro e W13 ⟨rfl, hbut⟩
    have B13 := Lib.hid (hbut.belowOf B12.out hg)
    clear hbut B12 Cl12 Cn12 Ci12
    go_wp2_with fail
    refine (same_yes [] none none 0 0 _ (by decide) (Cells.nil _ _) (Cells.nil _ _)).mono ?_
    rintro e W14 ⟨rfl, hb⟩
    have B14 := Lib.hid (below_next B13.out hb)
    clear hb B13 
    go_wp2_with fail
    go_ret
    exact ⟨rfl, B14.out⟩


theorem asks_any (l : Sps) (day n : Int) (p : Option Addr) (cap : Nat) (w : World) (hl : l.length ≤ 100) (hn0 : -9223372036854775808 ≤ n) (hn1 : n ≤ 9223372036854775807) (hc : Cells w p l) :
    Calls Tryz.prog 8 #[.slice p l.length cap, .int .i64 day, .int .i64 n] w fun e w' => e = .returned (.bool true) ∧ Below w.heap.size w w' := by
  cases hv : validB l with
  | false => exact asks_bad l day n p cap w hl (.inl hv) hn0 hn1 hc
  | true =>
    by_cases hn : 0 ≤ n
    · exact asks_ok l day n p cap w hl ⟨hv, hn⟩ hn0 hn1 hc
    · exact asks_bad l day n p cap w hl (.inr (by omega)) hn0 hn1 hc


end Go.Proofs.YtgpbdocgnfjckaaGreat
