/- The reference's File, walked. -/
import Derived.Test.YtbpoedopdnjffaaGreatZpI
namespace Go.Proofs.YtbpoedopdnjffaaGreat
open Go.RowKit Go.Shelf Sp

set_option maxHeartbeats 16000000 in
set_option maxRecDepth 100000 in
theorem file_ok_6y (D : Dk) (hD : D.Ok) (f : Fl) (m : Int) (hm : m = max 0 D.last) (hnum : D.num < 1000) (v : Value) (ps : List (Cs × Value)) (w : World) (hrow : CRow w 0 v ps) (hps : ps.map Prod.fst = bkCs D) (hw : wf f = true) (hd : m ≤ f.day) (hk : f.kind = 6) (hcl : f.case ≤ D.cs.length) (hst : (ownP D.cs f).st = needP 6) (hh : f.n = 1) :
    Calls Tryz.prog 28 #[.agg #[v, .int .i64 m, .int .i64 m], flAgg f] w (FilePost D f w) := by
  have hn : ps.length = D.cs.length := by have := congrArg List.length hps; simpa [bkCs] using this
  obtain ⟨q0, cap0, rfl, _⟩ := hrow.src
  obtain ⟨n, hnn⟩ : ∃ n, n = D.cs.length := ⟨_, rfl⟩
  rw [← hnn] at hn
  rw [hn] at hrow ⊢
  obtain ⟨B, hB⟩ : ∃ B, w.heap.size = B := ⟨_, rfl⟩
  obtain ⟨F, hF⟩ : ∃ F, B + 1 = F := ⟨_, rfl⟩
  obtain ⟨R, hR⟩ : ∃ R, F + 1 = R := ⟨_, rfl⟩
  have W0 := Lib.hid (FW.start m f hrow hps hB hF hR)
  have hBF : B ≠ F := by omega
  have hBR : B ≠ R := by omega
  have hFR : F ≠ R := by omega
  have WF := Lib.hid ((wf_iff f).1 hw)
  have hday := WF.out.day
  have hlen := hD.len
  rw [← hnn] at hlen
  have DOK := Lib.hid hD.cs
  have hlast : D.last ≤ f.day := by omega
  have hop : opensP f = false := by unfold opensP; rw [hk]; rfl
  have hc1 : 1 ≤ f.case := (WF.out.kc (by omega) (by omega)).1
  obtain ⟨k, hkc⟩ : ∃ k : Nat, f.case = (k : Int) + 1 := ⟨(f.case - 1).toNat, by omega⟩
  have hkD : k < D.cs.length := by omega
  have hkn : k < n := by omega
  have hk0 : (0 : Int) ≤ (k : Int) := by omega
  have hk1 : (k : Int) < (n : Int) := by omega
  have hk2 : (k : Int) + 1 - 1 = (k : Int) := by omega
  have hk3 : decide ((n : Int) < (k : Int) + 1) = false := by simp; omega
  have HKD := Lib.hid hkD
  obtain ⟨c, hc⟩ : ∃ c, c = passP D.cs[k] f.day := ⟨_, rfl⟩
  have EO : ownP D.cs f = c := by rw [hc]; exact ownP_at hkc hkD
  have OKC := Lib.hid (show c.Ok by rw [hc]; exact passP_ok (hD.cs _ (List.getElem_mem hkD)) f.day)
  rw [EO] at hst
  have HGET := Lib.hid (fun h => show (D.cs.map fun c => passP c f.day)[k]'h = c from by rw [List.getElem_map]; exact hc.symm)
  have hdk : (if f.case.toNat - 1 = k then k else 0) = k := by rw [if_pos (by omega)]
  have HE0 : errD D f = 0 := by rw [errD_of hnum hw hlast, errL_own0 hop, if_neg (by omega), if_neg (by rw [EO, hk]; exact fun h => h hst), if_neg (fun h => by omega)]
  have HE := Lib.hid HE0
  have HS := Lib.hid (show (D.cs.map fun c => passP c f.day).set k (upholdP c f.day) = bkCs (stepD D f) from by
    rw [bk_step hD f HE0, hop, if_neg (by decide), show f.case.toNat - 1 = k by omega, EO, effP_6 hk, if_pos hh])
  replace hst : c.st = 3 := hst

  have HST := Lib.hid hst
  clear hst
  have HM := Lib.hid hm
  have HN := Lib.hid hnn
  have CF := Lib.hid (fun X => (formedR_any f X).mono fun e w' h => show e = .returned (.bool true) ∧ Below X.heap.size X w' from ⟨by rw [h.1, hw], h.2⟩)

  unfold flAgg at CF ⊢
  obtain ⟨kd, dy, cs, nn, tl, ho⟩ := f
  dsimp only at *
  subst hk
  subst hkc
  clear EO hc hop hc1 hdk hcl HE0
  subst hh
  clear hrow hps hn hw hm hnum hnn hD
  go_enter Tryz.func28, Tryz.ntmps28
  go_upto_region 1 with (fail)
  generalize hX : (World.alloc (World.alloc (World.alloc w _) _) _) = X
  have FX : FW w B F R (.slice q0 n cap0) m ⟨6, dy, (k : Int) + 1, 1, tl, ho⟩ (bkCs D) X := by rw [← hX]; exact W0.out
  have HX := Lib.hid FX
  obtain ⟨f0, f1, f2, f3, f4, f5⟩ := FX.fl.cell
  clear hX W0 FX hB hF hR
  go_wp2_with fail
  refine (CF.out X).mono ?_
  rintro e W1 ⟨rfl, hb1⟩
  have FX := HX.out.later hb1
  have HX1 := Lib.hid FX
  obtain ⟨b0, b1, b2, _⟩ := FX.box.cell
  obtain ⟨f0, f1, f2, f3, f4, f5⟩ := FX.fl.cell
  obtain ⟨y0, y1, y2, z0, z1, z2⟩ := FX.res_cell
  have CP := Lib.hid (show Calls Tryz.prog 31 #[.agg #[.slice q0 n cap0, .int .i64 m, .int .i64 m], .int .i64 dy] W1 (BkPost W1.heap.size (D.cs.map fun c => passP c dy) dy m W1) from by
    obtain ⟨ps, h1, h2⟩ := HX1.out.row
    refine passR_any D.cs m m dy _ ps W1 h2 (by rw [h1, HM.out]; rfl) DOK.out (by rw [← HN.out]; exact hlen) (by rw [HM.out]; omega) (by omega) (by omega))
  clear FX hb1 HX CF
  go_wp2_with fail
  refine CP.out.mono ?_
  rintro e W2 ⟨v2, ps2, rfl, hps2, hrow2, hb2⟩
  have hn2 : ps2.length = n := by rw [HN.out]; simpa using congrArg List.length hps2
  obtain ⟨q2, cap2, rfl, _⟩ := hrow2.src
  rw [hn2] at hrow2
  rw [hn2]
  have hsz2 := hb2.size
  go_upto_region 6 with (fail)
  generalize hN : W2.heap.size = N
  generalize hX2 : World.alloc W2 _ = X2
  have GX0 : GW w B F R N W1.heap.size (.slice q0 n cap0) (.slice q2 n cap2) m m ⟨6, dy, (k : Int) + 1, 1, tl, ho⟩ (bkCs D) (D.cs.map fun c => passP c dy) X2 := by
    obtain ⟨p0, _, h4⟩ := HX1.out.row
    rw [← hX2]; exact GW.new (HX1.out.later hb2) hps2 hrow2 HX1.out.bel.size (fun g e => (World.ownsRow.lt h4.1 g e).2) hN
  have GX := Lib.hid GX0
  obtain ⟨b0, b1, b2, _⟩ := GX0.fw.box.cell
  obtain ⟨f0, f1, f2, f3, f4, f5⟩ := GX0.fw.fl.cell
  obtain ⟨y0, y1, y2, z0, z1, z2⟩ := GX0.fw.res_cell
  obtain ⟨n0, n1, n2, nz0, nz2⟩ := GX0.cells
  dsimp only at f0 f1 f2 f3 f4 f5 n0 n1 n2
  have hszX : W1.heap.size ≤ N := by rw [← hN]; exact hsz2
  clear hX2 hN GX0 hps2 hrow2 hb2 HX1 CP hsz2
  go_upto_region 12 with (fail)
  have GL := GX.out.last dy
  generalize hX3 : World.setCell X2 _ _ = X3
  rw [hX3] at GL
  have G3 := Lib.hid GL
  obtain ⟨b0, b1, b2, _⟩ := GL.fw.box.cell
  obtain ⟨f0, f1, f2, f3, f4, f5⟩ := GL.fw.fl.cell
  obtain ⟨y0, y1, y2, z0, z1, z2⟩ := GL.fw.res_cell
  obtain ⟨n0, n1, n2, nz0, nz2⟩ := GL.cells
  dsimp only at f0 f1 f2 f3 f4 f5 n0 n1 n2
  have hlo := GL.lo2
  have hNs : N ≠ X3.heap.size := Nat.ne_of_lt GL.nxt.lt
  have hFs : F ≠ X3.heap.size := Nat.ne_of_lt GL.fw.fl.lt
  clear hX3 GX
  obtain ⟨g, cap3, u, hv, hg1, hg2, hgN, hgB, hgR, hcc, hou, hz⟩ := GL.read k (by rw [List.length_map]; exact HKD.out)
  rw [HGET.out] at hcc hou
  injection hv with hv1 hv2 hv3
  subst hv1
  obtain ⟨pu, cu, rfl, _⟩ := hou.form
  have HU := Lib.hid hou
  obtain ⟨r0, r1, r2, r3, r4, r5, r6, r7, r8, r9⟩ := hcc
  clear GL hou hz hv2 hv3
  go_upto_region 19 with (fail)
  generalize hC : X3.heap.size = C
  generalize hX4 : World.alloc X3 _ = X4
  have GH : HW w B F R N C W1.heap.size (.slice q0 n cap0) (.slice (some ⟨g, 0, none⟩) n cap2) m dy ⟨6, dy, (k : Int) + 1, 1, tl, ho⟩ (bkCs D) (D.cs.map fun c => passP c dy) c (.slice pu c.held.length cu) X4 := by rw [← hX4]; exact HW.new G3.out HU.out hC
  have H4 := Lib.hid GH
  obtain ⟨b0, b1, b2, _⟩ := GH.gw.fw.box.cell
  obtain ⟨f0, f1, f2, f3, f4, f5⟩ := GH.gw.fw.fl.cell
  obtain ⟨y0, y1, y2, z0, z1, z2⟩ := GH.gw.fw.res_cell
  obtain ⟨n0, n1, n2, nz0, nz2⟩ := GH.gw.cells
  obtain ⟨c0, c1, c2, c3, c4, c5, c6, c7, c8, c9⟩ := GH.at_.cell
  dsimp only at f0 f1 f2 f3 f4 f5 n0 n1 n2
  have xc0 := GH.at_.frozen 0
  have xc1 := GH.at_.frozen 1
  have xc2 := GH.at_.frozen 2
  have xc3 := GH.at_.frozen 3
  have xc4 := GH.at_.frozen 4
  have xc5 := GH.at_.frozen 5
  have xc6 := GH.at_.frozen 6
  have xc7 := GH.at_.frozen 7
  have xc8 := GH.at_.frozen 8
  have xc9 := GH.at_.frozen 9
  obtain ⟨l1, l2, l3, l4, l5⟩ := GH.lo3
  clear GH hX4 hC G3 HU
  rw [HST.out] at c1
  have CU := Lib.hid (fun X h => upheldR_any c dy (.slice pu c.held.length cu) X h OKC.out (by omega) (by omega))
  unfold csAgg at CU
  rw [HST.out] at CU
  go_wp2_with fail
  refine (CU.out _ H4.out.own).mono ?_
  rintro e W5 ⟨u5, rfl, ho5, hb5⟩
  obtain ⟨p5, k5, rfl, _⟩ := ho5.form
  obtain ⟨c', hc'⟩ : ∃ c', c' = upholdP c dy := ⟨_, rfl⟩
  rw [← hc'] at ho5 HS ⊢
  have GH := H4.out.later hb5
  have HS5 := GH.store ho5
  unfold setCase at HS5
  have H6 := Lib.hid HS5
  obtain ⟨b0, b1, b2, _⟩ := GH.gw.fw.box.cell
  obtain ⟨f0, f1, f2, f3, f4, f5⟩ := GH.gw.fw.fl.cell
  obtain ⟨y0, y1, y2, z0, z1, z2⟩ := GH.gw.fw.res_cell
  obtain ⟨n0, n1, n2, nz0, nz2⟩ := GH.gw.cells
  obtain ⟨c0, c1, c2, c3, c4, c5, c6, c7, c8, c9⟩ := GH.at_.cell
  dsimp only at f0 f1 f2 f3 f4 f5 n0 n1 n2
  have xc0 := GH.at_.frozen 0
  have xc1 := GH.at_.frozen 1
  have xc2 := GH.at_.frozen 2
  have xc3 := GH.at_.frozen 3
  have xc4 := GH.at_.frozen 4
  have xc5 := GH.at_.frozen 5
  have xc6 := GH.at_.frozen 6
  have xc7 := GH.at_.frozen 7
  have xc8 := GH.at_.frozen 8
  have xc9 := GH.at_.frozen 9
  unfold csAgg
  clear GH hb5 ho5 CU H4 HS5 hc'
  go_upto_region 45 with (fail)
  generalize hX5 : World.setCell _ _ _ = X5
  have GH5 : HW w B F R N C W1.heap.size (.slice q0 n cap0) (.slice (some ⟨g, 0, none⟩) n cap2) m dy ⟨6, dy, (k : Int) + 1, 1, tl, ho⟩ (bkCs D) (D.cs.map fun c => passP c dy) c' (.slice p5 c'.held.length k5) X5 := by rw [← hX5]; exact H6.out
  clear hX5 H6
  have H5 := Lib.hid GH5
  obtain ⟨g', cap', u', hv', hg1', hg2', hgN', hgB', hgR', hcc', _, hz'⟩ := GH5.gw.read k (by rw [List.length_map]; exact HKD.out)
  rw [HGET.out] at hcc'
  injection hv' with hv1' hv2' hv3'
  injection hv1' with hv1'
  injection hv1' with hv1'
  subst hv1'
  obtain ⟨r0, r1, r2, r3, r4, r5, r6, r7, r8, r9⟩ := hcc'
  obtain ⟨b0, b1, b2, _⟩ := GH5.gw.fw.box.cell
  obtain ⟨f0, f1, f2, f3, f4, f5⟩ := GH5.gw.fw.fl.cell
  obtain ⟨y0, y1, y2, z0, z1, z2⟩ := GH5.gw.fw.res_cell
  obtain ⟨n0, n1, n2, nz0, nz2⟩ := GH5.gw.cells
  obtain ⟨c0, c1, c2, c3, c4, c5, c6, c7, c8, c9⟩ := GH5.at_.cell
  dsimp only at f0 f1 f2 f3 f4 f5 n0 n1 n2
  have xc0 := GH5.at_.frozen 0
  have xc1 := GH5.at_.frozen 1
  have xc2 := GH5.at_.frozen 2
  have xc3 := GH5.at_.frozen 3
  have xc4 := GH5.at_.frozen 4
  have xc5 := GH5.at_.frozen 5
  have xc6 := GH5.at_.frozen 6
  have xc7 := GH5.at_.frozen 7
  have xc8 := GH5.at_.frozen 8
  have xc9 := GH5.at_.frozen 9
  have x0 := hz' (k * 10)
  have x1 := hz' (k * 10 + 1)
  have x2 := hz' (k * 10 + 2)
  have x3 := hz' (k * 10 + 3)
  have x4 := hz' (k * 10 + 4)
  have x5 := hz' (k * 10 + 5)
  have x6 := hz' (k * 10 + 6)
  have x7 := hz' (k * 10 + 7)
  have x8 := hz' (k * 10 + 8)
  have x9 := hz' (k * 10 + 9)
  have GS := H5.out.fin (k := k) (by rw [List.length_map]; exact HKD.out)
  unfold setCase at GS
  have S := Lib.hid GS
  clear GS GH5 hz' hv2' hv3'
  go_upto_region 46 with (fail)
  generalize hX6 : World.setCell _ _ _ = X6
  have G6 : GW w B F R N W1.heap.size (.slice q0 n cap0) (.slice (some ⟨g, 0, none⟩) n cap2) m dy ⟨6, dy, (k : Int) + 1, 1, tl, ho⟩ (bkCs D) ((D.cs.map fun c => passP c dy).set k c') X6 := by rw [← hX6]; exact S.out
  have E := Lib.hid (G6.done HE.out (by dsimp only; omega) HS.out)
  obtain ⟨y0, y1, y2, z0, z1, z2⟩ := G6.fw.res_cell
  obtain ⟨n0, n1, n2, nz0, nz2⟩ := G6.cells
  dsimp only at n0 n1 n2 E
  clear hX6 G6 S
  go_wp2
  refine bodyPost_ret (results_cell_row_tmp rfl _ _ R 37 _ (0, 0) _ rfl _ rfl E.out.1 Tryz.underlying37 rfl (by kernel_rfl)) rfl ?_
  exact E.out.2

set_option maxHeartbeats 16000000 in
set_option maxRecDepth 100000 in
theorem file_ok_6n (D : Dk) (hD : D.Ok) (f : Fl) (m : Int) (hm : m = max 0 D.last) (hnum : D.num < 1000) (v : Value) (ps : List (Cs × Value)) (w : World) (hrow : CRow w 0 v ps) (hps : ps.map Prod.fst = bkCs D) (hw : wf f = true) (hd : m ≤ f.day) (hk : f.kind = 6) (hcl : f.case ≤ D.cs.length) (hst : (ownP D.cs f).st = needP 6) (hh : f.n = 2) :
    Calls Tryz.prog 28 #[.agg #[v, .int .i64 m, .int .i64 m], flAgg f] w (FilePost D f w) := by
  have hn : ps.length = D.cs.length := by have := congrArg List.length hps; simpa [bkCs] using this
  obtain ⟨q0, cap0, rfl, _⟩ := hrow.src
  obtain ⟨n, hnn⟩ : ∃ n, n = D.cs.length := ⟨_, rfl⟩
  rw [← hnn] at hn
  rw [hn] at hrow ⊢
  obtain ⟨B, hB⟩ : ∃ B, w.heap.size = B := ⟨_, rfl⟩
  obtain ⟨F, hF⟩ : ∃ F, B + 1 = F := ⟨_, rfl⟩
  obtain ⟨R, hR⟩ : ∃ R, F + 1 = R := ⟨_, rfl⟩
  have W0 := Lib.hid (FW.start m f hrow hps hB hF hR)
  have hBF : B ≠ F := by omega
  have hBR : B ≠ R := by omega
  have hFR : F ≠ R := by omega
  have WF := Lib.hid ((wf_iff f).1 hw)
  have hday := WF.out.day
  have hlen := hD.len
  rw [← hnn] at hlen
  have DOK := Lib.hid hD.cs
  have hlast : D.last ≤ f.day := by omega
  have hop : opensP f = false := by unfold opensP; rw [hk]; rfl
  have hc1 : 1 ≤ f.case := (WF.out.kc (by omega) (by omega)).1
  obtain ⟨k, hkc⟩ : ∃ k : Nat, f.case = (k : Int) + 1 := ⟨(f.case - 1).toNat, by omega⟩
  have hkD : k < D.cs.length := by omega
  have hkn : k < n := by omega
  have hk0 : (0 : Int) ≤ (k : Int) := by omega
  have hk1 : (k : Int) < (n : Int) := by omega
  have hk2 : (k : Int) + 1 - 1 = (k : Int) := by omega
  have hk3 : decide ((n : Int) < (k : Int) + 1) = false := by simp; omega
  have HKD := Lib.hid hkD
  obtain ⟨c, hc⟩ : ∃ c, c = passP D.cs[k] f.day := ⟨_, rfl⟩
  have EO : ownP D.cs f = c := by rw [hc]; exact ownP_at hkc hkD
  have OKC := Lib.hid (show c.Ok by rw [hc]; exact passP_ok (hD.cs _ (List.getElem_mem hkD)) f.day)
  rw [EO] at hst
  have HGET := Lib.hid (fun h => show (D.cs.map fun c => passP c f.day)[k]'h = c from by rw [List.getElem_map]; exact hc.symm)
  have hdk : (if f.case.toNat - 1 = k then k else 0) = k := by rw [if_pos (by omega)]
  have HE0 : errD D f = 0 := by rw [errD_of hnum hw hlast, errL_own0 hop, if_neg (by omega), if_neg (by rw [EO, hk]; exact fun h => h hst), if_neg (fun h => by omega)]
  have HE := Lib.hid HE0
  have HS := Lib.hid (show (D.cs.map fun c => passP c f.day).set k { endHoldP c f.day with st := 5, due := f.day } = bkCs (stepD D f) from by
    rw [bk_step hD f HE0, hop, if_neg (by decide), show f.case.toNat - 1 = k by omega, EO, effP_6 hk, if_neg (by omega), endHold_set c 5 f.day f.day])
  replace hst : c.st = 3 := hst

  have HST := Lib.hid hst
  clear hst
  have HM := Lib.hid hm
  have HN := Lib.hid hnn
  have CF := Lib.hid (fun X => (formedR_any f X).mono fun e w' h => show e = .returned (.bool true) ∧ Below X.heap.size X w' from ⟨by rw [h.1, hw], h.2⟩)

  unfold flAgg at CF ⊢
  obtain ⟨kd, dy, cs, nn, tl, ho⟩ := f
  dsimp only at *
  subst hk
  subst hkc
  clear EO hc hop hc1 hdk hcl HE0
  subst hh
  clear hrow hps hn hw hm hnum hnn hD
  go_enter Tryz.func28, Tryz.ntmps28
  go_upto_region 1 with (fail)
  generalize hX : (World.alloc (World.alloc (World.alloc w _) _) _) = X
  have FX : FW w B F R (.slice q0 n cap0) m ⟨6, dy, (k : Int) + 1, 2, tl, ho⟩ (bkCs D) X := by rw [← hX]; exact W0.out
  have HX := Lib.hid FX
  obtain ⟨f0, f1, f2, f3, f4, f5⟩ := FX.fl.cell
  clear hX W0 FX hB hF hR
  go_wp2_with fail
  refine (CF.out X).mono ?_
  rintro e W1 ⟨rfl, hb1⟩
  have FX := HX.out.later hb1
  have HX1 := Lib.hid FX
  obtain ⟨b0, b1, b2, _⟩ := FX.box.cell
  obtain ⟨f0, f1, f2, f3, f4, f5⟩ := FX.fl.cell
  obtain ⟨y0, y1, y2, z0, z1, z2⟩ := FX.res_cell
  have CP := Lib.hid (show Calls Tryz.prog 31 #[.agg #[.slice q0 n cap0, .int .i64 m, .int .i64 m], .int .i64 dy] W1 (BkPost W1.heap.size (D.cs.map fun c => passP c dy) dy m W1) from by
    obtain ⟨ps, h1, h2⟩ := HX1.out.row
    refine passR_any D.cs m m dy _ ps W1 h2 (by rw [h1, HM.out]; rfl) DOK.out (by rw [← HN.out]; exact hlen) (by rw [HM.out]; omega) (by omega) (by omega))
  clear FX hb1 HX CF
  go_wp2_with fail
  refine CP.out.mono ?_
  rintro e W2 ⟨v2, ps2, rfl, hps2, hrow2, hb2⟩
  have hn2 : ps2.length = n := by rw [HN.out]; simpa using congrArg List.length hps2
  obtain ⟨q2, cap2, rfl, _⟩ := hrow2.src
  rw [hn2] at hrow2
  rw [hn2]
  have hsz2 := hb2.size
  go_upto_region 6 with (fail)
  generalize hN : W2.heap.size = N
  generalize hX2 : World.alloc W2 _ = X2
  have GX0 : GW w B F R N W1.heap.size (.slice q0 n cap0) (.slice q2 n cap2) m m ⟨6, dy, (k : Int) + 1, 2, tl, ho⟩ (bkCs D) (D.cs.map fun c => passP c dy) X2 := by
    obtain ⟨p0, _, h4⟩ := HX1.out.row
    rw [← hX2]; exact GW.new (HX1.out.later hb2) hps2 hrow2 HX1.out.bel.size (fun g e => (World.ownsRow.lt h4.1 g e).2) hN
  have GX := Lib.hid GX0
  obtain ⟨b0, b1, b2, _⟩ := GX0.fw.box.cell
  obtain ⟨f0, f1, f2, f3, f4, f5⟩ := GX0.fw.fl.cell
  obtain ⟨y0, y1, y2, z0, z1, z2⟩ := GX0.fw.res_cell
  obtain ⟨n0, n1, n2, nz0, nz2⟩ := GX0.cells
  dsimp only at f0 f1 f2 f3 f4 f5 n0 n1 n2
  have hszX : W1.heap.size ≤ N := by rw [← hN]; exact hsz2
  clear hX2 hN GX0 hps2 hrow2 hb2 HX1 CP hsz2
  go_upto_region 12 with (fail)
  have GL := GX.out.last dy
  generalize hX3 : World.setCell X2 _ _ = X3
  rw [hX3] at GL
  have G3 := Lib.hid GL
  obtain ⟨b0, b1, b2, _⟩ := GL.fw.box.cell
  obtain ⟨f0, f1, f2, f3, f4, f5⟩ := GL.fw.fl.cell
  obtain ⟨y0, y1, y2, z0, z1, z2⟩ := GL.fw.res_cell
  obtain ⟨n0, n1, n2, nz0, nz2⟩ := GL.cells
  dsimp only at f0 f1 f2 f3 f4 f5 n0 n1 n2
  have hlo := GL.lo2
  have hNs : N ≠ X3.heap.size := Nat.ne_of_lt GL.nxt.lt
  have hFs : F ≠ X3.heap.size := Nat.ne_of_lt GL.fw.fl.lt
  clear hX3 GX
  obtain ⟨g, cap3, u, hv, hg1, hg2, hgN, hgB, hgR, hcc, hou, hz⟩ := GL.read k (by rw [List.length_map]; exact HKD.out)
  rw [HGET.out] at hcc hou
  injection hv with hv1 hv2 hv3
  subst hv1
  obtain ⟨pu, cu, rfl, _⟩ := hou.form
  have HU := Lib.hid hou
  obtain ⟨r0, r1, r2, r3, r4, r5, r6, r7, r8, r9⟩ := hcc
  clear GL hou hz hv2 hv3
  go_upto_region 19 with (fail)
  generalize hC : X3.heap.size = C
  generalize hX4 : World.alloc X3 _ = X4
  have GH : HW w B F R N C W1.heap.size (.slice q0 n cap0) (.slice (some ⟨g, 0, none⟩) n cap2) m dy ⟨6, dy, (k : Int) + 1, 2, tl, ho⟩ (bkCs D) (D.cs.map fun c => passP c dy) c (.slice pu c.held.length cu) X4 := by rw [← hX4]; exact HW.new G3.out HU.out hC
  have H4 := Lib.hid GH
  obtain ⟨b0, b1, b2, _⟩ := GH.gw.fw.box.cell
  obtain ⟨f0, f1, f2, f3, f4, f5⟩ := GH.gw.fw.fl.cell
  obtain ⟨y0, y1, y2, z0, z1, z2⟩ := GH.gw.fw.res_cell
  obtain ⟨n0, n1, n2, nz0, nz2⟩ := GH.gw.cells
  obtain ⟨c0, c1, c2, c3, c4, c5, c6, c7, c8, c9⟩ := GH.at_.cell
  dsimp only at f0 f1 f2 f3 f4 f5 n0 n1 n2
  have xc0 := GH.at_.frozen 0
  have xc1 := GH.at_.frozen 1
  have xc2 := GH.at_.frozen 2
  have xc3 := GH.at_.frozen 3
  have xc4 := GH.at_.frozen 4
  have xc5 := GH.at_.frozen 5
  have xc6 := GH.at_.frozen 6
  have xc7 := GH.at_.frozen 7
  have xc8 := GH.at_.frozen 8
  have xc9 := GH.at_.frozen 9
  obtain ⟨l1, l2, l3, l4, l5⟩ := GH.lo3
  clear GH hX4 hC G3 HU
  rw [HST.out] at c1
  have CU := Lib.hid (fun X h => endR_any c dy (.slice pu c.held.length cu) X h OKC.out.h)
  unfold csAgg at CU
  rw [HST.out] at CU
  go_wp2_with fail
  refine (CU.out _ H4.out.own).mono ?_
  rintro e W5 ⟨u5, rfl, ho5, hb5⟩
  obtain ⟨p5, k5, rfl, _⟩ := ho5.form
  obtain ⟨c', hc'⟩ : ∃ c', c' = endHoldP c dy := ⟨_, rfl⟩
  rw [← hc'] at ho5 HS ⊢
  have GH := H4.out.later hb5
  have HS5 := GH.store ho5
  unfold setCase at HS5
  have H6 := Lib.hid HS5
  obtain ⟨b0, b1, b2, _⟩ := GH.gw.fw.box.cell
  obtain ⟨f0, f1, f2, f3, f4, f5⟩ := GH.gw.fw.fl.cell
  obtain ⟨y0, y1, y2, z0, z1, z2⟩ := GH.gw.fw.res_cell
  obtain ⟨n0, n1, n2, nz0, nz2⟩ := GH.gw.cells
  obtain ⟨c0, c1, c2, c3, c4, c5, c6, c7, c8, c9⟩ := GH.at_.cell
  dsimp only at f0 f1 f2 f3 f4 f5 n0 n1 n2
  have xc0 := GH.at_.frozen 0
  have xc1 := GH.at_.frozen 1
  have xc2 := GH.at_.frozen 2
  have xc3 := GH.at_.frozen 3
  have xc4 := GH.at_.frozen 4
  have xc5 := GH.at_.frozen 5
  have xc6 := GH.at_.frozen 6
  have xc7 := GH.at_.frozen 7
  have xc8 := GH.at_.frozen 8
  have xc9 := GH.at_.frozen 9
  unfold csAgg
  clear GH hb5 ho5 CU H4 HS5 hc'
  go_upto_region 41 with (fail)
  generalize hX7 : World.setCell _ _ _ = X7
  have GH7 : HW w B F R N C W1.heap.size (.slice q0 n cap0) (.slice (some ⟨g, 0, none⟩) n cap2) m dy ⟨6, dy, (k : Int) + 1, 2, tl, ho⟩ (bkCs D) (D.cs.map fun c => passP c dy) c' (.slice p5 c'.held.length k5) X7 := by rw [← hX7]; exact H6.out
  have H7 := Lib.hid GH7
  obtain ⟨b0, b1, b2, _⟩ := GH7.gw.fw.box.cell
  obtain ⟨f0, f1, f2, f3, f4, f5⟩ := GH7.gw.fw.fl.cell
  obtain ⟨y0, y1, y2, z0, z1, z2⟩ := GH7.gw.fw.res_cell
  obtain ⟨n0, n1, n2, nz0, nz2⟩ := GH7.gw.cells
  obtain ⟨c0, c1, c2, c3, c4, c5, c6, c7, c8, c9⟩ := GH7.at_.cell
  dsimp only at f0 f1 f2 f3 f4 f5 n0 n1 n2
  have xc0 := GH7.at_.frozen 0
  have xc1 := GH7.at_.frozen 1
  have xc2 := GH7.at_.frozen 2
  have xc3 := GH7.at_.frozen 3
  have xc4 := GH7.at_.frozen 4
  have xc5 := GH7.at_.frozen 5
  have xc6 := GH7.at_.frozen 6
  have xc7 := GH7.at_.frozen 7
  have xc8 := GH7.at_.frozen 8
  have xc9 := GH7.at_.frozen 9
  clear GH7 hX7 H6
  go_region
  go_upto_region 45 with (fail)
  generalize hX5 : World.drew _ = X5
  have GH5 : HW w B F R N C W1.heap.size (.slice q0 n cap0) (.slice (some ⟨g, 0, none⟩) n cap2) m dy ⟨6, dy, (k : Int) + 1, 2, tl, ho⟩ (bkCs D) (D.cs.map fun c => passP c dy) { c' with st := 5, due := dy } (.slice p5 c'.held.length k5) X5 := by rw [← hX5]; exact HW.later (HW.set2 H7.out 5 dy) (Below.refl _ _).drew
  clear hX5 H7
  have H5 := Lib.hid GH5
  obtain ⟨g', cap', u', hv', hg1', hg2', hgN', hgB', hgR', hcc', _, hz'⟩ := GH5.gw.read k (by rw [List.length_map]; exact HKD.out)
  rw [HGET.out] at hcc'
  injection hv' with hv1' hv2' hv3'
  injection hv1' with hv1'
  injection hv1' with hv1'
  subst hv1'
  obtain ⟨r0, r1, r2, r3, r4, r5, r6, r7, r8, r9⟩ := hcc'
  obtain ⟨b0, b1, b2, _⟩ := GH5.gw.fw.box.cell
  obtain ⟨f0, f1, f2, f3, f4, f5⟩ := GH5.gw.fw.fl.cell
  obtain ⟨y0, y1, y2, z0, z1, z2⟩ := GH5.gw.fw.res_cell
  obtain ⟨n0, n1, n2, nz0, nz2⟩ := GH5.gw.cells
  obtain ⟨c0, c1, c2, c3, c4, c5, c6, c7, c8, c9⟩ := GH5.at_.cell
  dsimp only at f0 f1 f2 f3 f4 f5 n0 n1 n2
  have xc0 := GH5.at_.frozen 0
  have xc1 := GH5.at_.frozen 1
  have xc2 := GH5.at_.frozen 2
  have xc3 := GH5.at_.frozen 3
  have xc4 := GH5.at_.frozen 4
  have xc5 := GH5.at_.frozen 5
  have xc6 := GH5.at_.frozen 6
  have xc7 := GH5.at_.frozen 7
  have xc8 := GH5.at_.frozen 8
  have xc9 := GH5.at_.frozen 9
  have x0 := hz' (k * 10)
  have x1 := hz' (k * 10 + 1)
  have x2 := hz' (k * 10 + 2)
  have x3 := hz' (k * 10 + 3)
  have x4 := hz' (k * 10 + 4)
  have x5 := hz' (k * 10 + 5)
  have x6 := hz' (k * 10 + 6)
  have x7 := hz' (k * 10 + 7)
  have x8 := hz' (k * 10 + 8)
  have x9 := hz' (k * 10 + 9)
  have GS := H5.out.fin (k := k) (by rw [List.length_map]; exact HKD.out)
  unfold setCase at GS
  have S := Lib.hid GS
  clear GS GH5 hz' hv2' hv3'
  go_upto_region 46 with (fail)
  generalize hX6 : World.setCell _ _ _ = X6
  have G6 : GW w B F R N W1.heap.size (.slice q0 n cap0) (.slice (some ⟨g, 0, none⟩) n cap2) m dy ⟨6, dy, (k : Int) + 1, 2, tl, ho⟩ (bkCs D) ((D.cs.map fun c => passP c dy).set k { c' with st := 5, due := dy }) X6 := by rw [← hX6]; exact S.out
  have E := Lib.hid (G6.done HE.out (by dsimp only; omega) HS.out)
  obtain ⟨y0, y1, y2, z0, z1, z2⟩ := G6.fw.res_cell
  obtain ⟨n0, n1, n2, nz0, nz2⟩ := G6.cells
  dsimp only at n0 n1 n2 E
  clear hX6 G6 S
  go_wp2
  refine bodyPost_ret (results_cell_row_tmp rfl _ _ R 37 _ (0, 0) _ rfl _ rfl E.out.1 Tryz.underlying37 rfl (by kernel_rfl)) rfl ?_
  exact E.out.2

end Go.Proofs.YtbpoedopdnjffaaGreat
