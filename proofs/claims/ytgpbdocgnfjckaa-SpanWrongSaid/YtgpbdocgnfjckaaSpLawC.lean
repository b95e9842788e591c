/- SpanCounts: the walk of the law. -/
import Derived.Test.YtgpbdocgnfjckaaSpLawN
namespace Go.Proofs.Ytgpbdocgnfjckaa
open Go.RowKit Go.Shelf Sp

theorem within_is (a b : Sps) (x : Bool) (pa pb : Option Addr) (ca cb : Nat) (hx : withinB a b = x) (la : a.length ≤ 10000) (lb : b.length ≤ 10000) (va : validB a = true) (vb : validB b = true) (w : World) (hA : Cells w pa a) (hB : Cells w pb b) :
    Calls Try.prog 21 #[.slice pa a.length ca, .slice pb b.length cb] w fun e w' => e = .returned (.bool x) ∧ Below w.heap.size w w' := by
  subst hx; exact within_ok a b pa pb ca cb la lb va vb w hA hB

set_option maxHeartbeats 8000000 in
set_option maxRecDepth 100000 in
theorem counts_law (pm pn : Option Addr) (nm cm nn cn : Nat) (w : World) (hm : Words w pm nm) (hn : Words w pn nn) :
    Calls Try.prog 9 #[.slice pm nm cm, .slice pn nn cn] w fun e w' => e = .returned (.bool true) ∧ Below w.heap.size w w' := by
  have B0 := Lib.hid (Below.refl w.heap.size w)
  have Cm0 := Lib.hid hm
  have Cn0 := Lib.hid hn
  clear hm hn
  go_enter Try.func9, Try.ntmps9
  go_wp2_with fail
  refine (awake_any _).mono ?_
  rintro e W1 ⟨rfl, hb⟩
  have B1 := Lib.hid (below_next B0.out hb)
  have Cm1 := Lib.hid (Words.below Cm0.out hb)
  have Cn1 := Lib.hid (Words.below Cn0.out hb)
  clear hb B0 Cm0 Cn0
  go_wp2_with fail
  refine (built_any pm nm cm _ Cm1.out).mono ?_
  rintro e W2 ⟨v, a, rfl, hv, hla, ho, hb⟩
  obtain ⟨pa, ca, rfl, hca⟩ := ho.form
  have VA := Lib.hid hv
  clear hv
  have B2 := Lib.hid (below_next B1.out hb)
  have Cm2 := Lib.hid (Words.below Cm1.out hb)
  have Cn2 := Lib.hid (Words.below Cn1.out hb)
  have Ca2 := Lib.hid (hca)
  clear hb B1 Cm1 Cn1 hca ho
  go_wp2_with fail
  refine (built_any pn nn cn _ Cn2.out).mono ?_
  rintro e W3 ⟨v, b, rfl, hv, hlb, ho, hb⟩
  obtain ⟨pb, cb, rfl, hcb⟩ := ho.form
  have VB := Lib.hid hv
  clear hv
  have B3 := Lib.hid (below_next B2.out hb)
  have Cm3 := Lib.hid (Words.below Cm2.out hb)
  have Cn3 := Lib.hid (Words.below Cn2.out hb)
  have Ca3 := Lib.hid (Cells.below Ca2.out hb)
  have Cb3 := Lib.hid (hcb)
  clear hb B2 Cm2 Cn2 Ca2 hcb ho
  go_wp2_with fail
  refine (union_ok a b _ _ _ _ (by omega) (by omega) VA.out VB.out _ Ca3.out Cb3.out).mono ?_
  rintro e W4 ⟨v, su, rfl, hs, hlu, ho, hb⟩
  obtain ⟨pu, cu, rfl, hcu⟩ := ho.form
  have SU := Lib.hid hs
  have VU := Lib.hid hs.valid
  clear hs
  have B4 := Lib.hid (below_next B3.out hb)
  have Cm4 := Lib.hid (Words.below Cm3.out hb)
  have Cn4 := Lib.hid (Words.below Cn3.out hb)
  have Ca4 := Lib.hid (Cells.below Ca3.out hb)
  have Cb4 := Lib.hid (Cells.below Cb3.out hb)
  have Cu4 := Lib.hid (hcu)
  clear hb B3 Cm3 Cn3 Ca3 Cb3 hcu ho
  go_wp2_with fail
  refine (meet_ok a b _ _ _ _ (by omega) (by omega) VA.out VB.out _ Ca4.out Cb4.out).mono ?_
  rintro e W5 ⟨v, sv, rfl, hs, hlv, ho, hb⟩
  obtain ⟨pv, cv, rfl, hcv⟩ := ho.form
  have SV := Lib.hid hs
  have VV := Lib.hid hs.valid
  clear hs
  have B5 := Lib.hid (below_next B4.out hb)
  have Cm5 := Lib.hid (Words.below Cm4.out hb)
  have Cn5 := Lib.hid (Words.below Cn4.out hb)
  have Ca5 := Lib.hid (Cells.below Ca4.out hb)
  have Cb5 := Lib.hid (Cells.below Cb4.out hb)
  have Cu5 := Lib.hid (Cells.below Cu4.out hb)
  have Cv5 := Lib.hid (hcv)
  clear hb B4 Cm4 Cn4 Ca4 Cb4 Cu4 hcv ho
  go_wp2_with fail
  refine (minus_ok a b _ _ _ _ (by omega) (by omega) VA.out VB.out _ Ca5.out Cb5.out).mono ?_
  rintro e W6 ⟨v, sw, rfl, hs, hlw, ho, hb⟩
  obtain ⟨pw, cw, rfl, hcw⟩ := ho.form
  have SW := Lib.hid hs
  have VW := Lib.hid hs.valid
  clear hs
  have B6 := Lib.hid (below_next B5.out hb)
  have Cm6 := Lib.hid (Words.below Cm5.out hb)
  have Cn6 := Lib.hid (Words.below Cn5.out hb)
  have Ca6 := Lib.hid (Cells.below Ca5.out hb)
  have Cb6 := Lib.hid (Cells.below Cb5.out hb)
  have Cu6 := Lib.hid (Cells.below Cu5.out hb)
  have Cv6 := Lib.hid (Cells.below Cv5.out hb)
  have Cw6 := Lib.hid (hcw)
  clear hb B5 Cm5 Cn5 Ca5 Cb5 Cu5 Cv5 hcw ho
  go_wp2_with fail
  refine (minus_ok b a _ _ _ _ (by omega) (by omega) VB.out VA.out _ Cb6.out Ca6.out).mono ?_
  rintro e W7 ⟨v, sx, rfl, hs, hlx, ho, hb⟩
  obtain ⟨px, cx, rfl, hcx⟩ := ho.form
  have SX := Lib.hid hs
  have VX := Lib.hid hs.valid
  clear hs
  have B7 := Lib.hid (below_next B6.out hb)
  have Cm7 := Lib.hid (Words.below Cm6.out hb)
  have Cn7 := Lib.hid (Words.below Cn6.out hb)
  have Ca7 := Lib.hid (Cells.below Ca6.out hb)
  have Cb7 := Lib.hid (Cells.below Cb6.out hb)
  have Cu7 := Lib.hid (Cells.below Cu6.out hb)
  have Cv7 := Lib.hid (Cells.below Cv6.out hb)
  have Cw7 := Lib.hid (Cells.below Cw6.out hb)
  have Cx7 := Lib.hid (hcx)
  clear hb B6 Cm6 Cn6 Ca6 Cb6 Cu6 Cv6 Cw6 hcx ho
  obtain ⟨da, hd⟩ : ∃ d, bef a 65536 = d := ⟨_, rfl⟩
  have Da := Lib.hid hd
  have hb0 := bef_bd VA.out 65536
  have bda : 0 ≤ da ∧ da ≤ 65537 := by omega
  clear hd hb0
  obtain ⟨db, hd⟩ : ∃ d, bef b 65536 = d := ⟨_, rfl⟩
  have Db := Lib.hid hd
  have hb0 := bef_bd VB.out 65536
  have bdb : 0 ≤ db ∧ db ≤ 65537 := by omega
  clear hd hb0
  obtain ⟨du, hd⟩ : ∃ d, bef su 65536 = d := ⟨_, rfl⟩
  have Du := Lib.hid hd
  have hb0 := bef_bd VU.out 65536
  have bdu : 0 ≤ du ∧ du ≤ 65537 := by omega
  clear hd hb0
  obtain ⟨dv, hd⟩ : ∃ d, bef sv 65536 = d := ⟨_, rfl⟩
  have Dv := Lib.hid hd
  have hb0 := bef_bd VV.out 65536
  have bdv : 0 ≤ dv ∧ dv ≤ 65537 := by omega
  clear hd hb0
  obtain ⟨dw, hd⟩ : ∃ d, bef sw 65536 = d := ⟨_, rfl⟩
  have Dw := Lib.hid hd
  have hb0 := bef_bd VW.out 65536
  have bdw : 0 ≤ dw ∧ dw ≤ 65537 := by omega
  clear hd hb0
  obtain ⟨dx, hd⟩ : ∃ d, bef sx 65536 = d := ⟨_, rfl⟩
  have Dx := Lib.hid hd
  have hb0 := bef_bd VX.out 65536
  have bdx : 0 ≤ dx ∧ dx ≤ 65537 := by omega
  clear hd hb0
  have hq1 := count_union VA.out VB.out SU.out SV.out
  rw [Du.out, Dv.out, Da.out, Db.out] at hq1
  have hq2 := count_parts SU.out SV.out SW.out SX.out
  rw [Du.out, Dv.out, Dw.out, Dx.out] at hq2
  have t1 : (du + dv != da + db) = false := by simp; omega
  have t2 : (dw + dx + dv != du) = false := by simp; omega
  have bq : du ≤ 65537 ∧ dw + dx ≤ 65537 := by omega
  have hw3 := Lib.hid (within_minus VA.out VB.out SW.out)
  have hw4 := Lib.hid (within_days VA.out VB.out SV.out)
  rw [Dv.out, Db.out] at hw4
  clear hq1 hq2
  go_wp2_with fail
  refine (days_is su _ _ _ du ((befv_ok VU.out _).trans Du.out) (by omega) Cu7.out).mono ?_
  rintro e W8 ⟨rfl, hb⟩
  have B8 := Lib.hid (below_next B7.out hb)
  have Cm8 := Lib.hid (Words.below Cm7.out hb)
  have Cn8 := Lib.hid (Words.below Cn7.out hb)
  have Ca8 := Lib.hid (Cells.below Ca7.out hb)
  have Cb8 := Lib.hid (Cells.below Cb7.out hb)
  have Cu8 := Lib.hid (Cells.below Cu7.out hb)
  have Cv8 := Lib.hid (Cells.below Cv7.out hb)
  have Cw8 := Lib.hid (Cells.below Cw7.out hb)
  have Cx8 := Lib.hid (Cells.below Cx7.out hb)
  clear hb B7 Cm7 Cn7 Ca7 Cb7 Cu7 Cv7 Cw7 Cx7
  go_wp2_with fail
  refine (days_is sv _ _ _ dv ((befv_ok VV.out _).trans Dv.out) (by omega) Cv8.out).mono ?_
  rintro e W9 ⟨rfl, hb⟩
  have B9 := Lib.hid (below_next B8.out hb)
  have Cm9 := Lib.hid (Words.below Cm8.out hb)
  have Cn9 := Lib.hid (Words.below Cn8.out hb)
  have Ca9 := Lib.hid (Cells.below Ca8.out hb)
  have Cb9 := Lib.hid (Cells.below Cb8.out hb)
  have Cu9 := Lib.hid (Cells.below Cu8.out hb)
  have Cv9 := Lib.hid (Cells.below Cv8.out hb)
  have Cw9 := Lib.hid (Cells.below Cw8.out hb)
  have Cx9 := Lib.hid (Cells.below Cx8.out hb)
  clear hb B8 Cm8 Cn8 Ca8 Cb8 Cu8 Cv8 Cw8 Cx8
  go_wp2_with fail
  refine (days_is a _ _ _ da ((befv_ok VA.out _).trans Da.out) (by omega) Ca9.out).mono ?_
  rintro e W10 ⟨rfl, hb⟩
  have B10 := Lib.hid (below_next B9.out hb)
  have Cm10 := Lib.hid (Words.below Cm9.out hb)
  have Cn10 := Lib.hid (Words.below Cn9.out hb)
  have Ca10 := Lib.hid (Cells.below Ca9.out hb)
  have Cb10 := Lib.hid (Cells.below Cb9.out hb)
  have Cu10 := Lib.hid (Cells.below Cu9.out hb)
  have Cv10 := Lib.hid (Cells.below Cv9.out hb)
  have Cw10 := Lib.hid (Cells.below Cw9.out hb)
  have Cx10 := Lib.hid (Cells.below Cx9.out hb)
  clear hb B9 Cm9 Cn9 Ca9 Cb9 Cu9 Cv9 Cw9 Cx9
  go_wp2_with fail
  refine (days_is b _ _ _ db ((befv_ok VB.out _).trans Db.out) (by omega) Cb10.out).mono ?_
  rintro e W11 ⟨rfl, hb⟩
  have B11 := Lib.hid (below_next B10.out hb)
  have Cm11 := Lib.hid (Words.below Cm10.out hb)
  have Cn11 := Lib.hid (Words.below Cn10.out hb)
  have Ca11 := Lib.hid (Cells.below Ca10.out hb)
  have Cb11 := Lib.hid (Cells.below Cb10.out hb)
  have Cu11 := Lib.hid (Cells.below Cu10.out hb)
  have Cv11 := Lib.hid (Cells.below Cv10.out hb)
  have Cw11 := Lib.hid (Cells.below Cw10.out hb)
  have Cx11 := Lib.hid (Cells.below Cx10.out hb)
  clear hb B10 Cm10 Cn10 Ca10 Cb10 Cu10 Cv10 Cw10 Cx10
  go_wp2_with fail
  refine (days_is sw _ _ _ dw ((befv_ok VW.out _).trans Dw.out) (by omega) Cw11.out).mono ?_
  rintro e W12 ⟨rfl, hb⟩
  have B12 := Lib.hid (below_next B11.out hb)
  have Cm12 := Lib.hid (Words.below Cm11.out hb)
  have Cn12 := Lib.hid (Words.below Cn11.out hb)
  have Ca12 := Lib.hid (Cells.below Ca11.out hb)
  have Cb12 := Lib.hid (Cells.below Cb11.out hb)
  have Cu12 := Lib.hid (Cells.below Cu11.out hb)
  have Cv12 := Lib.hid (Cells.below Cv11.out hb)
  have Cw12 := Lib.hid (Cells.below Cw11.out hb)
  have Cx12 := Lib.hid (Cells.below Cx11.out hb)
  clear hb B11 Cm11 Cn11 Ca11 Cb11 Cu11 Cv11 Cw11 Cx11
  go_wp2_with fail
  refine (days_is sx _ _ _ dx ((befv_ok VX.out _).trans Dx.out) (by omega) Cx12.out).mono ?_
  rintro e W13 ⟨rfl, hb⟩
  have B13 := Lib.hid (below_next B12.out hb)
  have Cm13 := Lib.hid (Words.below Cm12.out hb)
  have Cn13 := Lib.hid (Words.below Cn12.out hb)
  have Ca13 := Lib.hid (Cells.below Ca12.out hb)
  have Cb13 := Lib.hid (Cells.below Cb12.out hb)
  have Cu13 := Lib.hid (Cells.below Cu12.out hb)
  have Cv13 := Lib.hid (Cells.below Cv12.out hb)
  have Cw13 := Lib.hid (Cells.below Cw12.out hb)
  have Cx13 := Lib.hid (Cells.below Cx12.out hb)
  clear hb B12 Cm12 Cn12 Ca12 Cb12 Cu12 Cv12 Cw12 Cx12
  go_wp2_with fail
  refine (days_is sv _ _ _ dv ((befv_ok VV.out _).trans Dv.out) (by omega) Cv13.out).mono ?_
  rintro e W14 ⟨rfl, hb⟩
  have B14 := Lib.hid (below_next B13.out hb)
  have Cm14 := Lib.hid (Words.below Cm13.out hb)
  have Cn14 := Lib.hid (Words.below Cn13.out hb)
  have Ca14 := Lib.hid (Cells.below Ca13.out hb)
  have Cb14 := Lib.hid (Cells.below Cb13.out hb)
  have Cu14 := Lib.hid (Cells.below Cu13.out hb)
  have Cv14 := Lib.hid (Cells.below Cv13.out hb)
  have Cw14 := Lib.hid (Cells.below Cw13.out hb)
  have Cx14 := Lib.hid (Cells.below Cx13.out hb)
  clear hb B13 Cm13 Cn13 Ca13 Cb13 Cu13 Cv13 Cw13 Cx13
  go_wp2_with fail
  refine (days_is su _ _ _ du ((befv_ok VU.out _).trans Du.out) (by omega) Cu14.out).mono ?_
  rintro e W15 ⟨rfl, hb⟩
  have B15 := Lib.hid (below_next B14.out hb)
  have Cm15 := Lib.hid (Words.below Cm14.out hb)
  have Cn15 := Lib.hid (Words.below Cn14.out hb)
  have Ca15 := Lib.hid (Cells.below Ca14.out hb)
  have Cb15 := Lib.hid (Cells.below Cb14.out hb)
  have Cu15 := Lib.hid (Cells.below Cu14.out hb)
  have Cv15 := Lib.hid (Cells.below Cv14.out hb)
  have Cw15 := Lib.hid (Cells.below Cw14.out hb)
  have Cx15 := Lib.hid (Cells.below Cx14.out hb)
  clear hb B14 Cm14 Cn14 Ca14 Cb14 Cu14 Cv14 Cw14 Cx14
  go_wp2_with fail
  refine (within_is sv a true _ _ _ _ (within_meet VA.out SV.out) (by omega) (by omega) VV.out VA.out _ Cv15.out Ca15.out).mono ?_
  rintro e W16 ⟨rfl, hb⟩
  have B16 := Lib.hid (below_next B15.out hb)
  have Cm16 := Lib.hid (Words.below Cm15.out hb)
  have Cn16 := Lib.hid (Words.below Cn15.out hb)
  have Ca16 := Lib.hid (Cells.below Ca15.out hb)
  have Cb16 := Lib.hid (Cells.below Cb15.out hb)
  have Cu16 := Lib.hid (Cells.below Cu15.out hb)
  have Cv16 := Lib.hid (Cells.below Cv15.out hb)
  have Cw16 := Lib.hid (Cells.below Cw15.out hb)
  have Cx16 := Lib.hid (Cells.below Cx15.out hb)
  clear hb B15 Cm15 Cn15 Ca15 Cb15 Cu15 Cv15 Cw15 Cx15
  go_wp2_with fail
  refine (within_is a su true _ _ _ _ (within_union VA.out SU.out) (by omega) (by omega) VA.out VU.out _ Ca16.out Cu16.out).mono ?_
  rintro e W17 ⟨rfl, hb⟩
  have B17 := Lib.hid (below_next B16.out hb)
  have Cm17 := Lib.hid (Words.below Cm16.out hb)
  have Cn17 := Lib.hid (Words.below Cn16.out hb)
  have Ca17 := Lib.hid (Cells.below Ca16.out hb)
  have Cb17 := Lib.hid (Cells.below Cb16.out hb)
  have Cu17 := Lib.hid (Cells.below Cu16.out hb)
  have Cv17 := Lib.hid (Cells.below Cv16.out hb)
  have Cw17 := Lib.hid (Cells.below Cw16.out hb)
  have Cx17 := Lib.hid (Cells.below Cx16.out hb)
  clear hb B16 Cm16 Cn16 Ca16 Cb16 Cu16 Cv16 Cw16 Cx16
  by_cases hw : sw.length = 0
  · rw [decide_eq_true hw] at hw3
    have t3 : ((sw.length : Int) == 0) = true := by simpa using hw
    clear hw
    go_wp2_with fail
    refine (within_is a b true _ _ _ _ hw3.out (by omega) (by omega) VA.out VB.out _ Ca17.out Cb17.out).mono ?_
    rintro e W18 ⟨rfl, hb⟩
    have B18 := Lib.hid (below_next B17.out hb)
    have Cm18 := Lib.hid (Words.below Cm17.out hb)
    have Cn18 := Lib.hid (Words.below Cn17.out hb)
    have Ca18 := Lib.hid (Cells.below Ca17.out hb)
    have Cb18 := Lib.hid (Cells.below Cb17.out hb)
    have Cu18 := Lib.hid (Cells.below Cu17.out hb)
    have Cv18 := Lib.hid (Cells.below Cv17.out hb)
    have Cw18 := Lib.hid (Cells.below Cw17.out hb)
    have Cx18 := Lib.hid (Cells.below Cx17.out hb)
    clear hb B17 Cm17 Cn17 Ca17 Cb17 Cu17 Cv17 Cw17 Cx17
    by_cases hd : dv = db
    · rw [decide_eq_true hd] at hw4
      have t4 : (dv == db) = true := by simpa using hd
      clear hd
      go_wp2_with fail
      refine (within_is b a true _ _ _ _ hw4.out (by omega) (by omega) VB.out VA.out _ Cb18.out Ca18.out).mono ?_
      rintro e W19 ⟨rfl, hb⟩
      have B19 := Lib.hid (below_next B18.out hb)
      have Cm19 := Lib.hid (Words.below Cm18.out hb)
      have Cn19 := Lib.hid (Words.below Cn18.out hb)
      have Ca19 := Lib.hid (Cells.below Ca18.out hb)
      have Cb19 := Lib.hid (Cells.below Cb18.out hb)
      have Cu19 := Lib.hid (Cells.below Cu18.out hb)
      have Cv19 := Lib.hid (Cells.below Cv18.out hb)
      have Cw19 := Lib.hid (Cells.below Cw18.out hb)
      have Cx19 := Lib.hid (Cells.below Cx18.out hb)
      clear hb B18 Cm18 Cn18 Ca18 Cb18 Cu18 Cv18 Cw18 Cx18
      go_wp2_with fail
      refine (days_is sv _ _ _ dv ((befv_ok VV.out _).trans Dv.out) (by omega) Cv19.out).mono ?_
      rintro e W20 ⟨rfl, hb⟩
      have B20 := Lib.hid (below_next B19.out hb)
      have Cm20 := Lib.hid (Words.below Cm19.out hb)
      have Cn20 := Lib.hid (Words.below Cn19.out hb)
      have Ca20 := Lib.hid (Cells.below Ca19.out hb)
      have Cb20 := Lib.hid (Cells.below Cb19.out hb)
      have Cu20 := Lib.hid (Cells.below Cu19.out hb)
      have Cv20 := Lib.hid (Cells.below Cv19.out hb)
      have Cw20 := Lib.hid (Cells.below Cw19.out hb)
      have Cx20 := Lib.hid (Cells.below Cx19.out hb)
      clear hb B19 Cm19 Cn19 Ca19 Cb19 Cu19 Cv19 Cw19 Cx19
      go_wp2_with fail
      refine (days_is b _ _ _ db ((befv_ok VB.out _).trans Db.out) (by omega) Cb20.out).mono ?_
      rintro e W21 ⟨rfl, hb⟩
      have B21 := Lib.hid (below_next B20.out hb)
      have Cm21 := Lib.hid (Words.below Cm20.out hb)
      have Cn21 := Lib.hid (Words.below Cn20.out hb)
      have Ca21 := Lib.hid (Cells.below Ca20.out hb)
      have Cb21 := Lib.hid (Cells.below Cb20.out hb)
      have Cu21 := Lib.hid (Cells.below Cu20.out hb)
      have Cv21 := Lib.hid (Cells.below Cv20.out hb)
      have Cw21 := Lib.hid (Cells.below Cw20.out hb)
      have Cx21 := Lib.hid (Cells.below Cx20.out hb)
      clear hb B20 Cm20 Cn20 Ca20 Cb20 Cu20 Cv20 Cw20 Cx20
      go_wp2
      go_ret
      exact ⟨rfl, B21.out⟩
    · rw [decide_eq_false hd] at hw4
      have t4 : (dv == db) = false := by simpa using hd
      clear hd
      go_wp2_with fail
      refine (within_is b a false _ _ _ _ hw4.out (by omega) (by omega) VB.out VA.out _ Cb18.out Ca18.out).mono ?_
      rintro e W19 ⟨rfl, hb⟩
      have B19 := Lib.hid (below_next B18.out hb)
      have Cm19 := Lib.hid (Words.below Cm18.out hb)
      have Cn19 := Lib.hid (Words.below Cn18.out hb)
      have Ca19 := Lib.hid (Cells.below Ca18.out hb)
      have Cb19 := Lib.hid (Cells.below Cb18.out hb)
      have Cu19 := Lib.hid (Cells.below Cu18.out hb)
      have Cv19 := Lib.hid (Cells.below Cv18.out hb)
      have Cw19 := Lib.hid (Cells.below Cw18.out hb)
      have Cx19 := Lib.hid (Cells.below Cx18.out hb)
      clear hb B18 Cm18 Cn18 Ca18 Cb18 Cu18 Cv18 Cw18 Cx18
      go_wp2_with fail
      refine (days_is sv _ _ _ dv ((befv_ok VV.out _).trans Dv.out) (by omega) Cv19.out).mono ?_
      rintro e W20 ⟨rfl, hb⟩
      have B20 := Lib.hid (below_next B19.out hb)
      have Cm20 := Lib.hid (Words.below Cm19.out hb)
      have Cn20 := Lib.hid (Words.below Cn19.out hb)
      have Ca20 := Lib.hid (Cells.below Ca19.out hb)
      have Cb20 := Lib.hid (Cells.below Cb19.out hb)
      have Cu20 := Lib.hid (Cells.below Cu19.out hb)
      have Cv20 := Lib.hid (Cells.below Cv19.out hb)
      have Cw20 := Lib.hid (Cells.below Cw19.out hb)
      have Cx20 := Lib.hid (Cells.below Cx19.out hb)
      clear hb B19 Cm19 Cn19 Ca19 Cb19 Cu19 Cv19 Cw19 Cx19
      go_wp2_with fail
      refine (days_is b _ _ _ db ((befv_ok VB.out _).trans Db.out) (by omega) Cb20.out).mono ?_
      rintro e W21 ⟨rfl, hb⟩
      have B21 := Lib.hid (below_next B20.out hb)
      have Cm21 := Lib.hid (Words.below Cm20.out hb)
      have Cn21 := Lib.hid (Words.below Cn20.out hb)
      have Ca21 := Lib.hid (Cells.below Ca20.out hb)
      have Cb21 := Lib.hid (Cells.below Cb20.out hb)
      have Cu21 := Lib.hid (Cells.below Cu20.out hb)
      have Cv21 := Lib.hid (Cells.below Cv20.out hb)
      have Cw21 := Lib.hid (Cells.below Cw20.out hb)
      have Cx21 := Lib.hid (Cells.below Cx20.out hb)
      clear hb B20 Cm20 Cn20 Ca20 Cb20 Cu20 Cv20 Cw20 Cx20
      go_wp2
      go_ret
      exact ⟨rfl, B21.out⟩
  · rw [decide_eq_false hw] at hw3
    have t3 : ((sw.length : Int) == 0) = false := by simpa using hw
    clear hw
    go_wp2_with fail
    refine (within_is a b false _ _ _ _ hw3.out (by omega) (by omega) VA.out VB.out _ Ca17.out Cb17.out).mono ?_
    rintro e W18 ⟨rfl, hb⟩
    have B18 := Lib.hid (below_next B17.out hb)
    have Cm18 := Lib.hid (Words.below Cm17.out hb)
    have Cn18 := Lib.hid (Words.below Cn17.out hb)
    have Ca18 := Lib.hid (Cells.below Ca17.out hb)
    have Cb18 := Lib.hid (Cells.below Cb17.out hb)
    have Cu18 := Lib.hid (Cells.below Cu17.out hb)
    have Cv18 := Lib.hid (Cells.below Cv17.out hb)
    have Cw18 := Lib.hid (Cells.below Cw17.out hb)
    have Cx18 := Lib.hid (Cells.below Cx17.out hb)
    clear hb B17 Cm17 Cn17 Ca17 Cb17 Cu17 Cv17 Cw17 Cx17
    by_cases hd : dv = db
    · rw [decide_eq_true hd] at hw4
      have t4 : (dv == db) = true := by simpa using hd
      clear hd
      go_wp2_with fail
      refine (within_is b a true _ _ _ _ hw4.out (by omega) (by omega) VB.out VA.out _ Cb18.out Ca18.out).mono ?_
      rintro e W19 ⟨rfl, hb⟩
      have B19 := Lib.hid (below_next B18.out hb)
      have Cm19 := Lib.hid (Words.below Cm18.out hb)
      have Cn19 := Lib.hid (Words.below Cn18.out hb)
      have Ca19 := Lib.hid (Cells.below Ca18.out hb)
      have Cb19 := Lib.hid (Cells.below Cb18.out hb)
      have Cu19 := Lib.hid (Cells.below Cu18.out hb)
      have Cv19 := Lib.hid (Cells.below Cv18.out hb)
      have Cw19 := Lib.hid (Cells.below Cw18.out hb)
      have Cx19 := Lib.hid (Cells.below Cx18.out hb)
      clear hb B18 Cm18 Cn18 Ca18 Cb18 Cu18 Cv18 Cw18 Cx18
      go_wp2_with fail
      refine (days_is sv _ _ _ dv ((befv_ok VV.out _).trans Dv.out) (by omega) Cv19.out).mono ?_
      rintro e W20 ⟨rfl, hb⟩
      have B20 := Lib.hid (below_next B19.out hb)
      have Cm20 := Lib.hid (Words.below Cm19.out hb)
      have Cn20 := Lib.hid (Words.below Cn19.out hb)
      have Ca20 := Lib.hid (Cells.below Ca19.out hb)
      have Cb20 := Lib.hid (Cells.below Cb19.out hb)
      have Cu20 := Lib.hid (Cells.below Cu19.out hb)
      have Cv20 := Lib.hid (Cells.below Cv19.out hb)
      have Cw20 := Lib.hid (Cells.below Cw19.out hb)
      have Cx20 := Lib.hid (Cells.below Cx19.out hb)
      clear hb B19 Cm19 Cn19 Ca19 Cb19 Cu19 Cv19 Cw19 Cx19
      go_wp2_with fail
      refine (days_is b _ _ _ db ((befv_ok VB.out _).trans Db.out) (by omega) Cb20.out).mono ?_
      rintro e W21 ⟨rfl, hb⟩
      have B21 := Lib.hid (below_next B20.out hb)
      have Cm21 := Lib.hid (Words.below Cm20.out hb)
      have Cn21 := Lib.hid (Words.below Cn20.out hb)
      have Ca21 := Lib.hid (Cells.below Ca20.out hb)
      have Cb21 := Lib.hid (Cells.below Cb20.out hb)
      have Cu21 := Lib.hid (Cells.below Cu20.out hb)
      have Cv21 := Lib.hid (Cells.below Cv20.out hb)
      have Cw21 := Lib.hid (Cells.below Cw20.out hb)
      have Cx21 := Lib.hid (Cells.below Cx20.out hb)
      clear hb B20 Cm20 Cn20 Ca20 Cb20 Cu20 Cv20 Cw20 Cx20
      go_wp2
      go_ret
      exact ⟨rfl, B21.out⟩
    · rw [decide_eq_false hd] at hw4
      have t4 : (dv == db) = false := by simpa using hd
      clear hd
      go_wp2_with fail
      refine (within_is b a false _ _ _ _ hw4.out (by omega) (by omega) VB.out VA.out _ Cb18.out Ca18.out).mono ?_
      rintro e W19 ⟨rfl, hb⟩
      have B19 := Lib.hid (below_next B18.out hb)
      have Cm19 := Lib.hid (Words.below Cm18.out hb)
      have Cn19 := Lib.hid (Words.below Cn18.out hb)
      have Ca19 := Lib.hid (Cells.below Ca18.out hb)
      have Cb19 := Lib.hid (Cells.below Cb18.out hb)
      have Cu19 := Lib.hid (Cells.below Cu18.out hb)
      have Cv19 := Lib.hid (Cells.below Cv18.out hb)
      have Cw19 := Lib.hid (Cells.below Cw18.out hb)
      have Cx19 := Lib.hid (Cells.below Cx18.out hb)
      clear hb B18 Cm18 Cn18 Ca18 Cb18 Cu18 Cv18 Cw18 Cx18
      go_wp2_with fail
      refine (days_is sv _ _ _ dv ((befv_ok VV.out _).trans Dv.out) (by omega) Cv19.out).mono ?_
      rintro e W20 ⟨rfl, hb⟩
      have B20 := Lib.hid (below_next B19.out hb)
      have Cm20 := Lib.hid (Words.below Cm19.out hb)
      have Cn20 := Lib.hid (Words.below Cn19.out hb)
      have Ca20 := Lib.hid (Cells.below Ca19.out hb)
      have Cb20 := Lib.hid (Cells.below Cb19.out hb)
      have Cu20 := Lib.hid (Cells.below Cu19.out hb)
      have Cv20 := Lib.hid (Cells.below Cv19.out hb)
      have Cw20 := Lib.hid (Cells.below Cw19.out hb)
      have Cx20 := Lib.hid (Cells.below Cx19.out hb)
      clear hb B19 Cm19 Cn19 Ca19 Cb19 Cu19 Cv19 Cw19 Cx19
      go_wp2_with fail
      refine (days_is b _ _ _ db ((befv_ok VB.out _).trans Db.out) (by omega) Cb20.out).mono ?_
      rintro e W21 ⟨rfl, hb⟩
      have B21 := Lib.hid (below_next B20.out hb)
      have Cm21 := Lib.hid (Words.below Cm20.out hb)
      have Cn21 := Lib.hid (Words.below Cn20.out hb)
      have Ca21 := Lib.hid (Cells.below Ca20.out hb)
      have Cb21 := Lib.hid (Cells.below Cb20.out hb)
      have Cu21 := Lib.hid (Cells.below Cu20.out hb)
      have Cv21 := Lib.hid (Cells.below Cv20.out hb)
      have Cw21 := Lib.hid (Cells.below Cw20.out hb)
      have Cx21 := Lib.hid (Cells.below Cx20.out hb)
      clear hb B20 Cm20 Cn20 Ca20 Cb20 Cu20 Cv20 Cw20 Cx20
      go_wp2
      go_ret
      exact ⟨rfl, B21.out⟩

end Go.Proofs.Ytgpbdocgnfjckaa
