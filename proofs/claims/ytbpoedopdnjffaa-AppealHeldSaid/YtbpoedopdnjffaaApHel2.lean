/- AppealHeld: the law's walk. -/
import Derived.Test.YtbpoedopdnjffaaApHel
import Derived.Deep.CutRange
namespace Go.Proofs.Ytbpoedopdnjffaa
open Go.RowKit Go.Shelf Sp

theorem two_below (X : World) (o1 o2 : Obj) : Below X.heap.size X ((X.alloc o1).alloc o2) := ((Below.refl _ _).alloc (Nat.le_refl _) _).alloc (by simp) _

theorem ten_new (W : World) (v0 v1 v2 v3 v4 v5 v6 v7 v8 v9 : Value) :
    (W.alloc (.cells #[v0, v1, v2, v3, v4, v5, v6, v7, v8, v9] 39)).cell? ⟨W.heap.size, 0, none⟩ = some v0 ∧ (W.alloc (.cells #[v0, v1, v2, v3, v4, v5, v6, v7, v8, v9] 39)).cell? ⟨W.heap.size, 1, none⟩ = some v1 ∧
    (W.alloc (.cells #[v0, v1, v2, v3, v4, v5, v6, v7, v8, v9] 39)).cell? ⟨W.heap.size, 7, none⟩ = some v7 ∧ (W.alloc (.cells #[v0, v1, v2, v3, v4, v5, v6, v7, v8, v9] 39)).cell? ⟨W.heap.size, 8, none⟩ = some v8 ∧
    (W.alloc (.cells #[v0, v1, v2, v3, v4, v5, v6, v7, v8, v9] 39)).cell? ⟨W.heap.size, 9, none⟩ = some v9 := by
  have h := World.alloc_heap_new W (.cells #[v0, v1, v2, v3, v4, v5, v6, v7, v8, v9] 39)
  simp only [World.cell?, h]
  exact ⟨rfl, rfl, rfl, rfl, rfl⟩

set_option maxHeartbeats 8000000 in
set_option maxRecDepth 100000 in
theorem held_law (l : List Nt) (n x : Int) (hn : 0 ≤ n ∧ n ≤ 255) (p : Option Addr) (cap : Nat) (w : World) (hc : NCells w p l) (bd : ∀ y ∈ l, y.Bd) :
    Calls Try.prog 6 #[.slice p l.length cap, .int .u8 n, .int .i64 x] w fun e w' => e = .returned (.bool true) ∧ Below w.heap.size w w' := by
  have NC := Lib.hid hc
  have BT := Lib.hid (builtP_bt bd)
  have CB := Lib.hid (fun W h => built_is l p cap W h bd)
  generalize builtP l = F at *
  have TK := Lib.hid BT.out.tk
  have hla := lastP_bt BT.out
  have h30 := BT.out.len
  have ht30 := BT.out.tk.2
  have CL := Lib.hid (fun q cq W h => last_any F q cq W h BT.out.bd (by omega))
  have CT := Lib.hid (fun q cq W h => taken_is F q cq W h BT.out.bd (by omega))
  have CH := Lib.hid (fun k d q cq W h => heldAll_any F k d q cq W h BT.out.bd (by omega))
  have PR := Lib.hid (fun d h0 hd => pre (F := F) (d := d) h0 hd)
  have PL := Lib.hid (fun d h0 hd => (pre (F := F) (d := d) h0 hd).last)
  have CA := Lib.hid (fun (d : Int) (q : Option Addr) (cq : Nat) (W : World) (h : FCells W q (upto d (takenP F))) (h1 : lastP (upto d (takenP F)) ≤ d) (h2 : d ≤ 65535) => at_ok (upto d (takenP F)) d q cq W h (fun f hf => BT.out.tk.1 f (upto_mem hf)) (by have := upto_len d (takenP F); omega) h1 h2)
  have TD := Lib.hid (show ∀ f ∈ takenP F, 0 ≤ f.day ∧ f.day ≤ 20000 from fun f hf => ⟨(BT.out.wf f (takenFrom_mem hf)).1.day.1, (BT.out.wf f (takenFrom_mem hf)).2⟩)
  generalize lastP F = la at *
  generalize takenP F = T at *
  clear hc bd
  obtain ⟨i0, hi0, hz0, hz1, hz2⟩ := info_parts info_int
  obtain ⟨j0, hj0, hy0, hy1, hy2⟩ := info_parts info_filing
  have hk5 : 0 ≤ n % 5 ∧ n % 5 < 5 := by omega
  go_enter Try.func6, Try.ntmps6
  go_wp2_with fail
  refine (awake_any _).mono ?_
  rintro e W1 ⟨rfl, hb⟩
  have B1 := Lib.hid hb
  have N1 := Lib.hid (NC.out.below hb)
  clear hb NC
  go_wp2_with fail
  refine (CB.out _ N1.out).mono ?_
  rintro e W2 ⟨q, cq, rfl, hq, hb⟩
  have B2 := Lib.hid (below_next B1.out hb)
  have F2 := Lib.hid hq
  clear hb hq B1 N1 CB
  go_wp2_with fail
  refine (CT.out q cq _ F2.out).mono ?_
  rintro e W3 ⟨t, ct, rfl, ht, hb⟩
  have B3 := Lib.hid (below_next B2.out hb)
  have F3 := Lib.hid (F2.out.below hb)
  have T3 := Lib.hid ht
  clear hb ht B2 F2
  go_wp2_with fail
  refine (CL.out q cq _ F3.out).mono ?_
  rintro e W5 ⟨rfl, hb⟩
  have B5 := Lib.hid (below_next B3.out hb)
  have F5 := Lib.hid (F3.out.below hb)
  have T5 := Lib.hid (T3.out.below hb)
  clear hb B3 F3 T3
  go_wp2_with fail
  refine (pick_any x (la + 800) _ (by omega) (by omega)).mono ?_
  rintro e _ ⟨rfl, rfl⟩
  obtain ⟨y, hy⟩ : ∃ y, y = x % (la + 800) := ⟨_, rfl⟩
  rw [← hy]
  have hyl : -1 ≤ y ∧ y ≤ 70000 := by
    have h1 := Int.emod_nonneg x (show la + 800 ≠ 0 by omega)
    have h2 := Int.emod_lt_of_pos x (show 0 < la + 800 by omega)
    omega
  clear hy
  obtain ⟨kk, hkk⟩ : ∃ kk, kk = n % 5 := ⟨_, rfl⟩
  rw [← hkk] at hk5 ⊢
  clear hkk
  go_wp2
  have L0 := Lib.hid (show Look W5.heap.size W5 (W5.alloc (.cells #[.int .i64 y] 3)) (.slice (some ⟨W5.heap.size, 0, none⟩) 1 1) 1 from
    ⟨⟨[y], rfl, ZOwns.one _, fun z hz => by rw [List.mem_singleton.1 hz]; exact hyl⟩, (Below.refl _ _).alloc (Nat.le_refl _) _⟩)
  generalize W5.alloc (.cells #[.int .i64 y] 3) = W6 at *
  generalize Value.slice (some ⟨W5.heap.size, 0, none⟩) 1 1 = v0 at *
  go_loopw [40, 10] (fun i u wr => ∃ (k : Nat) (v : Value), k ≤ T.length ∧ i = .int .i64 k ∧ v = u ∧ Hid (Look W5.heap.size W5 wr v (1 + 4 * k))) (fun i _ _ => T.length - (intOf i).toNat)
  case atStart => exact ⟨0, v0, by omega, rfl, rfl, L0⟩
  case round =>
    obtain ⟨k, v, hk, rfl, rfl, hI⟩ := hrel
    by_cases hlt : k < T.length
    · obtain ⟨b4, o4, rfl, g0, g1, g2, g3, g4, g5⟩ := (T5.out.below hI.out.bel).at k hlt
      have hdu := TD.out _ (List.getElem_mem hlt)
      have hb4 : b4 ≠ wr.heap.size := Nat.ne_of_lt (World.block_lt_of_cell? wr _ g0)
      generalize T[k] = c at *
      obtain ⟨zs, hzl, hZ, hzb⟩ := hI.out.own
      have HR := Lib.hid (show wr.ownsRow W5.heap.size 3 1 v (1 + 4 * k) (zs.map (Value.int .i64)) by rw [← hzl]; exact hZ)
      have HG := Lib.hid (fun (o1 o2 : Obj) (w1 : World) (v' : Value) h1 h2 h3 => Look.grow (X := (wr.alloc o1).alloc o2) (w1 := w1) (v' := v') (a := c.day - 1) (b := c.day) (c := c.day + 365) (d := c.day + 365 + 1) hzl hZ hzb hI.out.bel hI.out.bel.size (two_below _ _ _) h1 h2 h3)
      have hbnd : (-1 ≤ c.day - 1 ∧ c.day - 1 ≤ 70000) ∧ (-1 ≤ c.day ∧ c.day ≤ 70000) ∧ (-1 ≤ c.day + 365 ∧ c.day + 365 ≤ 70000) ∧ (-1 ≤ c.day + 365 + 1 ∧ c.day + 365 + 1 ≤ 70000) := by omega
      have HB := Lib.hid hbnd
      have hsz := hI.out.bel.size
      clear hzl hZ hzb hI hbnd
      go_wp2_with (first | (at_builtin; refine wpList_append_own _ rfl _ _ 43 rfl W5.heap.size 3 i0 _ 1 8 Try.underlying43 hi0 hz0 hz1 hz2 rfl (by decide) _ _ _ rfl ((HR.out.alloc _).alloc _) ⟨wr.heap.size + 1, 0, none⟩ 4 4 [.int .i64 (c.day - 1), .int .i64 c.day, .int .i64 (c.day + 365), .int .i64 (c.day + 365 + 1)] rfl rfl (four_cells _ _ _ _ _ _ (by simp)) (by simp [Value.oneCell']) (by unfold maxLen; omega) (by omega) (by simp; omega) ?_; intro v' w1 hown' hgrow _) | fail)
      have H1 := Lib.hid (HG.out _ _ w1 v' HB.out hgrow hown')
      clear hown' hgrow
      go_roundw
      case rel => exact ⟨k + 1, v', by omega, by go_num, rfl, Lib.hid (by have := H1.out; rwa [show 1 + 4 * (k + 1) = 1 + 4 * k + 4 by omega])⟩
      case measure => simp [intOf]; omega
    · obtain rfl : k = T.length := by omega
      obtain ⟨zs, hzl, hZ, hzb⟩ := hI.out.own
      obtain ⟨pz, cz, rfl, hzc⟩ := hZ.form
      have B7 := Lib.hid (below_next B5.out hI.out.bel)
      have F7 := Lib.hid (F5.out.below hI.out.bel)
      have T7 := Lib.hid (T5.out.below hI.out.bel)
      have Z7 := Lib.hid hzc
      have ZB := Lib.hid hzb
      have hzn : zs.length ≤ 401 := by omega
      clear hzl hZ hzb hzc hI T5 B5 F5 L0 hyl
      generalize wr = W7 at *
      go_wp2
      go_loopw [62] (fun i wr => ∃ k : Nat, k ≤ zs.length ∧ i = .int .i64 k ∧ Hid (Below W7.heap.size W7 wr)) (fun i _ => zs.length - (intOf i).toNat)
      case atStart => exact ⟨0, by omega, rfl, Lib.hid (Below.refl _ _)⟩
      case round =>
        obtain ⟨k, hk, rfl, hI⟩ := hrel
        by_cases hlt : k < zs.length
        · obtain ⟨gz, rfl, hcz⟩ := (Z7.out.below hI.out) k hlt
          have hzd := ZB.out _ (List.getElem_mem hlt)
          generalize zs[k] = d at *
          by_cases hd1 : d < 0
          · go_wp2
            go_roundw
            case rel => exact ⟨k + 1, by omega, by go_num, hI⟩
            case measure => simp [intOf]; omega
          · by_cases hd2 : 65536 ≤ d
            · go_wp2
              go_roundw
              case rel => exact ⟨k + 1, by omega, by go_num, hI⟩
              case measure => simp [intOf]; omega
            · have F8 := Lib.hid (F7.out.below hI.out)
              have T8 := Lib.hid (T7.out.below hI.out)
              have PD := Lib.hid (PR.out d (by omega) (by omega))
              have CAd := Lib.hid (fun q cq W h => CA.out d q cq W h (PL.out d (by omega) (by omega)) (by omega))
              have HUP := Lib.hid (fun m (hm : m < T.length) => upto_step (T := T) hm d)
              have HUT := Lib.hid (show upto d (T.take T.length) = upto d T by rw [List.take_length])
              have HUL := Lib.hid (fun m => (show (upto d (T.take m)).length ≤ 30 by have h1 := upto_len d (T.take m); rw [List.length_take] at h1; omega))
              generalize (runD (upto d T)).cs = P at *
              generalize wr = W8 at *
              go_wp2
              clear hcz
              go_loopw [74, 15] (fun i u wr => ∃ (m : Nat) (v : Value), m ≤ T.length ∧ i = .int .i64 m ∧ v = u ∧ Hid (FOwns wr W8.heap.size v (upto d (T.take m))) ∧ Hid (Below W8.heap.size W8 wr)) (fun i _ _ => T.length - (intOf i).toNat)
              case atStart => exact ⟨0, _, by omega, rfl, rfl, Lib.hid (World.ownsRow_nil _ _ _ _), Lib.hid (Below.refl _ _)⟩
              case round =>
                obtain ⟨m, v, hm, rfl, rfl, hO, hb⟩ := hrel
                by_cases hlt2 : m < T.length
                · obtain ⟨bt, ot, rfl, r0, r1, r2, r3, r4, r5⟩ := (T8.out.below hb.out).at m hlt2
                  have hst := HUP.out m hlt2
                  have hml := HUL.out m
                  have hday := TD.out _ (List.getElem_mem hlt2)
                  have hbt : bt ≠ wr.heap.size := Nat.ne_of_lt (World.block_lt_of_cell? wr _ r0)
                  have hsz := hb.out.size
                  generalize T[m] = f at *
                  by_cases hfd : f.day ≤ d
                  · rw [if_pos hfd] at hst
                    have HST := Lib.hid hst
                    obtain ⟨c, hcl⟩ : ∃ c, (upto d (T.take m)).length = c := ⟨_, rfl⟩
                    have HCL := Lib.hid hcl
                    rw [hcl] at hml
                    have HR := Lib.hid (show wr.ownsRow W8.heap.size 30 6 v c (fflat (upto d (T.take m))) by rw [← hcl]; exact hO.out)
                    have hfd2 : ¬ d < f.day := by omega
                    clear hst hcl
                    go_wp2_with (first | (at_builtin; refine wpList_append_own _ rfl _ _ 22 rfl W8.heap.size 30 j0 _ 6 48 Try.underlying22 hj0 hy0 hy1 hy2 rfl (by decide) _ _ _ rfl ((HR.out.alloc _).alloc _) ⟨wr.heap.size + 1, 0, none⟩ 1 1 (flRow f) rfl rfl (fcell_six _ f _ (by simp)) (flRow_cell f) (by unfold maxLen; omega) (by omega) (by simp; omega) ?_; intro v' w1 hown' hgrow _) | fail)
                    have H1 := Lib.hid (show FOwns w1 W8.heap.size v' (upto d (T.take (m + 1))) by rw [HST.out]; exact FOwns.grow HCL.out hown')
                    have H2 := Lib.hid (show Below W8.heap.size W8 w1 from (((hb.out.alloc hsz _).alloc (by simp; omega) _).grown hgrow (by simp; omega) (fun g' e => (World.ownsRow.lt HR.out g' e).1)))
                    clear hown' hgrow
                    go_roundw
                    case rel => exact ⟨m + 1, v', by omega, by go_num, rfl, H1, H2⟩
                    case measure => simp [intOf]; omega
                  · rw [if_neg hfd, List.append_nil] at hst
                    have HST := Lib.hid hst
                    have H2 := Lib.hid (fun o => (hb.out.alloc hsz o))
                    have H1 := Lib.hid (fun o => show FOwns (wr.alloc o) W8.heap.size v (upto d (T.take (m + 1))) by rw [HST.out]; exact World.ownsRow.alloc hO.out o)
                    clear hst
                    go_wp2
                    go_roundw
                    case rel => exact ⟨m + 1, v, by omega, by go_num, rfl, Lib.hid (H1.out _), Lib.hid (H2.out _)⟩
                    case measure => simp [intOf]; omega
                · obtain rfl : m = T.length := by omega
                  have hO2 := hO.out
                  rw [HUT.out] at hO2
                  obtain ⟨pq, pc, rfl, hpc⟩ := hO2.form
                  have B9 := Lib.hid (below_next hI.out hb.out)
                  have F9 := Lib.hid (F8.out.below hb.out)
                  have P9 := Lib.hid hpc
                  clear hO hO2 hpc hb hI F8 T8 HUP HUT
                  go_wp2_with fail
                  refine (CAd.out pq pc _ P9.out).mono ?_
                  rintro e W10 ⟨qa, ca, rfl, ha, hb⟩
                  have B10 := Lib.hid (below_next B9.out hb)
                  have F10 := Lib.hid (F9.out.below hb)
                  have A10 := Lib.hid ha
                  have hPl := PD.out.len
                  clear ha hb B9 F9 P9 CAd HUL
                  obtain ⟨bw, hbw⟩ : ∃ bw, bw = heldD F kk d := ⟨_, rfl⟩
                  have HBW := Lib.hid hbw
                  clear hbw
                  go_upto_region 26 with (fail)
                  go_cut [20] from 63 to 169 (fun v20 wx => v20 = .bool bw ∧ wx = W10)
                  case first =>
                    by_cases hk1 : kk < 1
                    · have hf := Lib.hid (show false = bw by rw [HBW.out]; exact (PD.out.no kk (.inl hk1)).symm)
                      go_wp2
                      go_meet
                      exact ⟨congrArg Value.bool hf.out, rfl⟩
                    · by_cases hk2 : (P.length : Int) < kk
                      · have hf := Lib.hid (show false = bw by rw [HBW.out]; exact (PD.out.no kk (.inr hk2)).symm)
                        go_wp2
                        go_meet
                        exact ⟨congrArg Value.bool hf.out, rfl⟩
                      · obtain ⟨j, hj⟩ : ∃ j : Nat, kk = (j : Int) + 1 := ⟨(kk - 1).toNat, by omega⟩
                        have hjl : j < P.length := by omega
                        have hf := Lib.hid (show ((passP P[j] d).st == 3 && (passP P[j] d).hold) = bw by rw [HBW.out, hj]; exact (PD.out.yes j hjl).symm)
                        obtain ⟨b4, o4, q4, c4, rfl, hx4, _⟩ := A10.out.at j hjl
                        have x1 : W10.cell? ⟨b4, o4 + j * 10 + 1, none⟩ = some (.int .u8 (passP P[j] d).st) := hx4.2.1
                        have x7 : W10.cell? ⟨b4, o4 + j * 10 + 7, none⟩ = some (.bool (passP P[j] d).hold) := hx4.2.2.2.2.2.2.2.1
                        have hj3 : kk - 1 = (j : Int) := by omega
                        have hj4 : (j : Int) < (P.length : Int) := by omega
                        generalize (passP P[j] d).st = st at *
                        generalize (passP P[j] d).hold = ho at *
                        clear hx4 hj
                        by_cases h3 : st = 3
                        · subst h3
                          have hf2 := Lib.hid (show ho = bw by rw [← hf.out]; simp)
                          go_wp2
                          go_meet
                          exact ⟨congrArg Value.bool hf2.out, rfl⟩
                        · have e3 : (st == 3) = false := by simpa using h3
                          have hf2 := Lib.hid (show false = bw by rw [← hf.out, e3]; rfl)
                          go_wp2
                          go_meet
                          exact ⟨congrArg Value.bool hf2.out, rfl⟩
                  case rest =>
                  obtain ⟨rfl, rfl⟩ := hcut
                  have CHd := Lib.hid (CH.out kk d q cq _ F10.out)
                  rw [← HBW.out] at CHd
                  go_wp2_with fail
                  refine CHd.out.mono ?_
                  rintro e W11 ⟨rfl, hb⟩
                  have B11 := Lib.hid (below_next B10.out hb)
                  have A11 := Lib.hid (A10.out.below hb)
                  clear hb B10 A10 F10 CHd
                  go_wp2
                  go_loopw [128] (fun i wr => ∃ j : Nat, j ≤ P.length ∧ i = .int .i64 j ∧ Hid (Below W11.heap.size W11 wr)) (fun i _ => P.length - (intOf i).toNat)
                  case atStart => exact ⟨0, by omega, rfl, Lib.hid (Below.refl _ _)⟩
                  case round =>
                    obtain ⟨j, hj, rfl, hI⟩ := hrel
                    by_cases hlt3 : j < P.length
                    · obtain ⟨bx, ox, px, kx, rfl, hcx, hsx⟩ := (A11.out.below hI.out).at j hlt3
                      obtain ⟨okj, ivj⟩ := PD.out.ok _ (List.getElem_mem hlt3)
                      have PC := Lib.hid (pre_case okj ivj)
                      obtain ⟨g0, g1, g2, g3, g4, g5, g6, g7, g8, g9⟩ := hcx
                      have hbx : bx ≠ wr.heap.size := Nat.ne_of_lt (World.block_lt_of_cell? wr _ g0)
                      generalize atP P[j] d = X at *
                      obtain ⟨el, st, op, dy, chx, lv, du, ho, si, he⟩ := X
                      dsimp only at g0 g1 g2 g3 g4 g5 g6 g7 g8 g9 hsx
                      have HSX := Lib.hid hsx
                      have HL2 := Lib.hid PC.out.2.1
                      have CV := Lib.hid (fun W h => valid_is he true px kx W PC.out.1 (by have := HL2.out; dsimp only at this; omega) h)
                      have HI2 := Lib.hid (fun o => hI.out.alloc hI.out.size o)
                      clear okj ivj hsx
                      have h3 := PC.out.2.2.1
                      have h4 := PC.out.2.2.2.1
                      have h5 := PC.out.2.2.2.2
                      dsimp only at h3 h4 h5
                      cases el with
                      | true =>
                        have e1 := h3 rfl
                        subst e1
                        clear h3
                        cases ho with
                        | true =>
                          have e2 := h4 rfl
                          subst e2
                          clear h4 h5
                          go_wp2_with fail
                          refine (CV.out _ (HSX.out.below ((Below.refl _ _).alloc (Nat.le_refl _) _))).mono ?_
                          rintro e W12 ⟨rfl, hb12⟩
                          have J := Lib.hid (below_next (HI2.out _) hb12)
                          have y0 := (hb12.cell (p := ⟨wr.heap.size, 0, none⟩) (by simp)).trans (ten_new wr _ _ _ _ _ _ _ _ _ _).1
                          have y1 := (hb12.cell (p := ⟨wr.heap.size, 1, none⟩) (by simp)).trans (ten_new wr _ _ _ _ _ _ _ _ _ _).2.1
                          have y7 := (hb12.cell (p := ⟨wr.heap.size, 7, none⟩) (by simp)).trans (ten_new wr _ _ _ _ _ _ _ _ _ _).2.2.1
                          have y8 := (hb12.cell (p := ⟨wr.heap.size, 8, none⟩) (by simp)).trans (ten_new wr _ _ _ _ _ _ _ _ _ _).2.2.2.1
                          have y9 := (hb12.cell (p := ⟨wr.heap.size, 9, none⟩) (by simp)).trans (ten_new wr _ _ _ _ _ _ _ _ _ _).2.2.2.2
                          clear hb12
                          go_wp2
                          go_roundw
                          case rel => exact ⟨j + 1, by omega, by go_num, J⟩
                          case measure => simp [intOf]; omega
                        | false =>
                          have e2 := h5 rfl
                          subst e2
                          clear h4 h5
                          by_cases hs3 : st = 3
                          · subst hs3
                            go_wp2_with fail
                            refine (CV.out _ (HSX.out.below ((Below.refl _ _).alloc (Nat.le_refl _) _))).mono ?_
                            rintro e W12 ⟨rfl, hb12⟩
                            have J := Lib.hid (below_next (HI2.out _) hb12)
                            have y0 := (hb12.cell (p := ⟨wr.heap.size, 0, none⟩) (by simp)).trans (ten_new wr _ _ _ _ _ _ _ _ _ _).1
                            have y1 := (hb12.cell (p := ⟨wr.heap.size, 1, none⟩) (by simp)).trans (ten_new wr _ _ _ _ _ _ _ _ _ _).2.1
                            have y7 := (hb12.cell (p := ⟨wr.heap.size, 7, none⟩) (by simp)).trans (ten_new wr _ _ _ _ _ _ _ _ _ _).2.2.1
                            have y8 := (hb12.cell (p := ⟨wr.heap.size, 8, none⟩) (by simp)).trans (ten_new wr _ _ _ _ _ _ _ _ _ _).2.2.2.1
                            have y9 := (hb12.cell (p := ⟨wr.heap.size, 9, none⟩) (by simp)).trans (ten_new wr _ _ _ _ _ _ _ _ _ _).2.2.2.2
                            clear hb12
                            go_wp2
                            go_roundw
                            case rel => exact ⟨j + 1, by omega, by go_num, J⟩
                            case measure => simp [intOf]; omega
                          · have es3 : (st == 3) = false := by simpa using hs3
                            go_wp2_with fail
                            refine (CV.out _ (HSX.out.below ((Below.refl _ _).alloc (Nat.le_refl _) _))).mono ?_
                            rintro e W12 ⟨rfl, hb12⟩
                            have J := Lib.hid (below_next (HI2.out _) hb12)
                            have y0 := (hb12.cell (p := ⟨wr.heap.size, 0, none⟩) (by simp)).trans (ten_new wr _ _ _ _ _ _ _ _ _ _).1
                            have y1 := (hb12.cell (p := ⟨wr.heap.size, 1, none⟩) (by simp)).trans (ten_new wr _ _ _ _ _ _ _ _ _ _).2.1
                            have y7 := (hb12.cell (p := ⟨wr.heap.size, 7, none⟩) (by simp)).trans (ten_new wr _ _ _ _ _ _ _ _ _ _).2.2.1
                            have y8 := (hb12.cell (p := ⟨wr.heap.size, 8, none⟩) (by simp)).trans (ten_new wr _ _ _ _ _ _ _ _ _ _).2.2.2.1
                            have y9 := (hb12.cell (p := ⟨wr.heap.size, 9, none⟩) (by simp)).trans (ten_new wr _ _ _ _ _ _ _ _ _ _).2.2.2.2
                            clear hb12
                            go_wp2
                            go_roundw
                            case rel => exact ⟨j + 1, by omega, by go_num, J⟩
                            case measure => simp [intOf]; omega
                      | false =>
                        clear h3
                        cases ho with
                        | true =>
                          have e2 := h4 rfl
                          subst e2
                          clear h4 h5
                          go_wp2_with fail
                          refine (CV.out _ (HSX.out.below ((Below.refl _ _).alloc (Nat.le_refl _) _))).mono ?_
                          rintro e W12 ⟨rfl, hb12⟩
                          have J := Lib.hid (below_next (HI2.out _) hb12)
                          have y0 := (hb12.cell (p := ⟨wr.heap.size, 0, none⟩) (by simp)).trans (ten_new wr _ _ _ _ _ _ _ _ _ _).1
                          have y1 := (hb12.cell (p := ⟨wr.heap.size, 1, none⟩) (by simp)).trans (ten_new wr _ _ _ _ _ _ _ _ _ _).2.1
                          have y7 := (hb12.cell (p := ⟨wr.heap.size, 7, none⟩) (by simp)).trans (ten_new wr _ _ _ _ _ _ _ _ _ _).2.2.1
                          have y8 := (hb12.cell (p := ⟨wr.heap.size, 8, none⟩) (by simp)).trans (ten_new wr _ _ _ _ _ _ _ _ _ _).2.2.2.1
                          have y9 := (hb12.cell (p := ⟨wr.heap.size, 9, none⟩) (by simp)).trans (ten_new wr _ _ _ _ _ _ _ _ _ _).2.2.2.2
                          clear hb12
                          go_wp2
                          go_roundw
                          case rel => exact ⟨j + 1, by omega, by go_num, J⟩
                          case measure => simp [intOf]; omega
                        | false =>
                          have e2 := h5 rfl
                          subst e2
                          clear h4 h5
                          by_cases hs3 : st = 3
                          · subst hs3
                            go_wp2_with fail
                            refine (CV.out _ (HSX.out.below ((Below.refl _ _).alloc (Nat.le_refl _) _))).mono ?_
                            rintro e W12 ⟨rfl, hb12⟩
                            have J := Lib.hid (below_next (HI2.out _) hb12)
                            have y0 := (hb12.cell (p := ⟨wr.heap.size, 0, none⟩) (by simp)).trans (ten_new wr _ _ _ _ _ _ _ _ _ _).1
                            have y1 := (hb12.cell (p := ⟨wr.heap.size, 1, none⟩) (by simp)).trans (ten_new wr _ _ _ _ _ _ _ _ _ _).2.1
                            have y7 := (hb12.cell (p := ⟨wr.heap.size, 7, none⟩) (by simp)).trans (ten_new wr _ _ _ _ _ _ _ _ _ _).2.2.1
                            have y8 := (hb12.cell (p := ⟨wr.heap.size, 8, none⟩) (by simp)).trans (ten_new wr _ _ _ _ _ _ _ _ _ _).2.2.2.1
                            have y9 := (hb12.cell (p := ⟨wr.heap.size, 9, none⟩) (by simp)).trans (ten_new wr _ _ _ _ _ _ _ _ _ _).2.2.2.2
                            clear hb12
                            go_wp2
                            go_roundw
                            case rel => exact ⟨j + 1, by omega, by go_num, J⟩
                            case measure => simp [intOf]; omega
                          · have es3 : (st == 3) = false := by simpa using hs3
                            go_wp2_with fail
                            refine (CV.out _ (HSX.out.below ((Below.refl _ _).alloc (Nat.le_refl _) _))).mono ?_
                            rintro e W12 ⟨rfl, hb12⟩
                            have J := Lib.hid (below_next (HI2.out _) hb12)
                            have y0 := (hb12.cell (p := ⟨wr.heap.size, 0, none⟩) (by simp)).trans (ten_new wr _ _ _ _ _ _ _ _ _ _).1
                            have y1 := (hb12.cell (p := ⟨wr.heap.size, 1, none⟩) (by simp)).trans (ten_new wr _ _ _ _ _ _ _ _ _ _).2.1
                            have y7 := (hb12.cell (p := ⟨wr.heap.size, 7, none⟩) (by simp)).trans (ten_new wr _ _ _ _ _ _ _ _ _ _).2.2.1
                            have y8 := (hb12.cell (p := ⟨wr.heap.size, 8, none⟩) (by simp)).trans (ten_new wr _ _ _ _ _ _ _ _ _ _).2.2.2.1
                            have y9 := (hb12.cell (p := ⟨wr.heap.size, 9, none⟩) (by simp)).trans (ten_new wr _ _ _ _ _ _ _ _ _ _).2.2.2.2
                            clear hb12
                            go_wp2
                            go_roundw
                            case rel => exact ⟨j + 1, by omega, by go_num, J⟩
                            case measure => simp [intOf]; omega
                    · obtain rfl : j = P.length := by omega
                      have J := Lib.hid (below_next B11.out hI.out)
                      go_wp2
                      go_roundw
                      case rel => exact ⟨k + 1, by omega, by go_num, J⟩
                      case measure => simp [intOf]; omega
        · obtain rfl : k = zs.length := by omega
          have B8 := Lib.hid (below_next B7.out hI.out)
          go_wp2
          go_ret
          exact ⟨rfl, B8.out⟩

end Go.Proofs.Ytbpoedopdnjffaa
