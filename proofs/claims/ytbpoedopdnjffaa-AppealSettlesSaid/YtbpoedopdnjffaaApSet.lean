/- AppealSettles: the law. -/
import Derived.Test.YtbpoedopdnjffaaApLawK
namespace Go.Proofs.Ytbpoedopdnjffaa
open Go.RowKit Go.Shelf Sp

/-- The day on which a case settles, and what is so about it. -/
theorem stl {F : List Fl} (hB : Bt F) {j : Nat} (hj : j < (runD F).cs.length) :
    0 ≤ (setlP (runD F).cs[j]).due ∧ (setlP (runD F).cs[j]).due ≤ 66302 ∧ (runD F).cs[j].opened ≤ (setlP (runD F).cs[j]).due ∧
    ((runD F).cs[j].el = false → (setlP (runD F).cs[j]).due ≤ tcF (j + 1) (runD F).cs[j].opened (takenP F) + 767) ∧
    ((setlP (runD F).cs[j]).due ≤ 100000 → 4 ≤ (passP (runD F).cs[j] (setlP (runD F).cs[j]).due).st ∧ (passP (runD F).cs[j] (setlP (runD F).cs[j]).due).due = (setlP (runD F).cs[j]).due) ∧
    (lastP F ≤ (setlP (runD F).cs[j]).due - 1 → (passP (runD F).cs[j] ((setlP (runD F).cs[j]).due - 1)).st < 4) := by
  have H := (hist F).all j hj
  obtain ⟨ok, iv⟩ := hB.cs.1 _ (List.getElem_mem hj)
  generalize (runD F).cs[j] = c at *
  have sd := setlP_done ok
  have du := sd.2.2.due
  have le := setlP_due_le ok
  have mono := passP_due_mono ok 100000
  have op := iv.op
  have dd := ok.days
  refine ⟨du.1, du.2, by have : (setlP c).due = (passP c 100000).due := rfl; omega, fun he => ?_, fun h1 => ?_, fun h1 => ?_⟩
  · obtain ⟨a2, a3, a4⟩ := H.2.2 he
    have hst := ok.st
    have hd1 := (iv.dec he).1
    rcases (show c.st = 2 ∨ c.st = 3 ∨ 4 ≤ c.st by omega) with e | e | e
    · have := a2 e; have := le.1 e; omega
    · have := a3 e; have := le.2.1 e; omega
    · have := a4 e; rw [le.2.2 e]; omega
  · rw [passP_settled ok (Int.le_refl _) h1]
    exact ⟨sd.2.1, rfl⟩
  · exact setl_before ok iv h1 (by omega) (by omega)

theorem tcF_bd {F : List Fl} (hB : Bt F) (k x : Int) (hx : 0 ≤ x ∧ x ≤ 65535) (m : Nat) : 0 ≤ tcF k x ((takenP F).take m) ∧ tcF k x ((takenP F).take m) ≤ 65535 := by
  suffices ∀ T : List Fl, (∀ f ∈ T, f.Wf) → 0 ≤ tcF k x T ∧ tcF k x T ≤ 65535 from this _ fun f hf => (hB.wf f (takenFrom_mem (List.mem_of_mem_take hf))).1
  intro T
  unfold tcF
  induction T generalizing x with
  | nil => intro _; exact hx
  | cons f T ih =>
    intro h
    rw [List.foldl_cons]
    have := (h f (List.mem_cons_self ..)).day
    exact ih _ (by split <;> omega) (fun g hg => h g (List.mem_cons_of_mem _ hg))
theorem tcF_step {T : List Fl} {m : Nat} (h : m < T.length) (k x : Int) : tcF k x (T.take (m + 1)) = if T[m].case = k then T[m].day else tcF k x (T.take m) := by
  rw [List.take_succ_eq_append_getElem h, tcF_snoc]

set_option maxHeartbeats 8000000 in
set_option maxRecDepth 100000 in
theorem settles_law (l : List Nt) (n : Int) (hn : 0 ≤ n ∧ n ≤ 255) (p : Option Addr) (cap : Nat) (w : World) (hc : NCells w p l) (bd : ∀ y ∈ l, y.Bd) :
    Calls Try.prog 8 #[.slice p l.length cap, .int .u8 n] w fun e w' => e = .returned (.bool true) ∧ Below w.heap.size w w' := by
  have NC := Lib.hid hc
  have BT := Lib.hid (builtP_bt bd)
  have CB := Lib.hid (fun W h => built_is l p cap W h bd)
  generalize builtP l = F at *
  have TK := Lib.hid BT.out.tk
  have hla := lastP_bt BT.out
  have h30 := BT.out.len
  have ht30 := BT.out.tk.2
  have hLen := BT.out.cs.2
  have CL := Lib.hid (fun q cq W h => last_any F q cq W h BT.out.bd (by omega))
  have CA := Lib.hid (fun (d : Int) (q : Option Addr) (cq : Nat) (W : World) (h : FCells W q F) (h1 : lastP F ≤ d) (h2 : d ≤ 65535) => at_ok F d q cq W h BT.out.bd (by omega) h1 h2)
  have CT := Lib.hid (fun q cq W h => taken_is F q cq W h BT.out.bd (by omega))
  have CS := Lib.hid (fun n q cq W h => settles_any F n q cq W h BT.out.bd (by omega))
  have ST := Lib.hid (fun j hj => stl BT.out (j := j) hj)
  have SY := Lib.hid (fun j hj => setlD_yes (l := F) (k := j) hj)
  have SN := Lib.hid (fun n h => setlD_no (l := F) (n := n) h)
  have IV := Lib.hid BT.out.cs.1
  have TB := Lib.hid (fun k x hx m => tcF_bd BT.out k x hx m)
  generalize lastP F = la at *
  generalize (runD F).cs = L at *
  generalize takenP F = T at *
  clear hc bd
  go_enter Try.func8, Try.ntmps8
  go_wp2_with fail
  refine (awake_any _).mono ?_
  rintro e W1 ⟨rfl, hb⟩
  have B1 := Lib.hid hb
  have N1 := Lib.hid (NC.out.below hb)
  clear hb NC
  go_wp2_with fail
  refine (CB.out _ N1.out).mono ?_
  rintro e W2 ⟨q, cq, rfl, hq, hb⟩
  have B2 := Lib.hid (below_next B1.out hb)
  have F2 := Lib.hid hq
  clear hb hq B1 N1 CB
  go_wp2_with fail
  refine (CL.out q cq _ F2.out).mono ?_
  rintro e W3 ⟨rfl, hb⟩
  have B3 := Lib.hid (below_next B2.out hb)
  have F3 := Lib.hid (F2.out.below hb)
  clear hb B2 F2
  go_wp2_with fail
  refine (CA.out la q cq _ F3.out (Int.le_refl _) (by omega)).mono ?_
  rintro e W4 ⟨qa, ca, rfl, ha, hb⟩
  have B4 := Lib.hid (below_next B3.out hb)
  have F4 := Lib.hid (F3.out.below hb)
  have C4 := Lib.hid ha
  clear hb ha B3 F3
  have hmod : 0 ≤ n % ((L.length : Int) + 1) ∧ n % ((L.length : Int) + 1) ≤ L.length := by
    have h1 := Int.emod_nonneg n (show (L.length : Int) + 1 ≠ 0 by omega)
    have h2 := Int.emod_lt_of_pos n (show (0 : Int) < (L.length : Int) + 1 by omega)
    omega
  have htm : n.tmod ((L.length : Int) + 1) = n % ((L.length : Int) + 1) := Int.tmod_eq_emod_of_nonneg hn.1
  obtain ⟨j, hj⟩ : ∃ j : Nat, n % ((L.length : Int) + 1) = j := ⟨(n % ((L.length : Int) + 1)).toNat, by omega⟩
  rw [hj] at hmod htm
  have hz : ¬ (L.length : Int) + 1 = 0 := by omega
  by_cases hjl : j < L.length
  · have hcom : (1 : Int) + (j : Int) = (j : Int) + 1 := by omega
    have S1 := Lib.hid (CS.out ((j : Int) + 1) q cq _ F4.out)
    rw [SY.out j hjl] at S1
    obtain ⟨s0, s1, s2, s3, s4, s5⟩ := ST.out j hjl
    obtain ⟨ok, iv⟩ := IV.out _ (List.getElem_mem hjl)
    have hop := iv.op
    obtain ⟨b4, o4, q4, c4, rfl, hx4, _⟩ := C4.out.at j hjl
    have X4 := Lib.hid hx4
    have hcs : ∀ d, (atP L[j] d).el = L[j].el ∧ (atP L[j] d).opened = L[j].opened := fun d => ⟨(atP_same L[j] d).1, (atP_same L[j] d).2.1⟩
    have hcell : W4.cell? ⟨b4, o4 + j * 10, none⟩ = some (.bool L[j].el) ∧ W4.cell? ⟨b4, o4 + j * 10 + 2, none⟩ = some (.int .i64 L[j].opened) := by
      rw [← (hcs la).1, ← (hcs la).2]; exact ⟨hx4.1, hx4.2.2.1⟩
    have XC := Lib.hid hcell
    have S3 := Lib.hid s3
    have S4 := Lib.hid s4
    have S5 := Lib.hid s5
    have TBj := Lib.hid (TB.out ((j : Int) + 1) L[j].opened (by omega))
    obtain ⟨D, hD⟩ : ∃ D, D = (setlP L[j]).due := ⟨_, rfl⟩
    have CD := Lib.hid (fun d i (hi : i < L.length) W b o qq cc (h : CaseCells W b (o + i * 10) (atP L[i] d) (.slice qq (atP L[i] d).held.length cc)) => show W.cell? ⟨b, o + i * 10 + 1, none⟩ = some (.int .u8 (passP L[i] d).st) ∧ W.cell? ⟨b, o + i * 10 + 6, none⟩ = some (.int .i64 (passP L[i] d).due) from ⟨h.2.1, h.2.2.2.2.2.2.1⟩)
    simp only [← hD] at S1 S3 S4 S5 s0 s1 s2
    obtain ⟨op, hopp⟩ : ∃ op, op = L[j].opened := ⟨_, rfl⟩
    obtain ⟨el, hel⟩ : ∃ el, el = L[j].el := ⟨_, rfl⟩
    rw [← hopp] at S3 s2 TBj XC hop
    rw [← hel] at S3 XC
    clear s3 s4 s5 ok iv hx4 hcs hcell hD hopp hel X4 C4
    have hjk : (j : Int) + 1 ≤ (L.length : Int) := by omega
    have hjk2 : (j : Int) < (L.length : Int) := by omega
    have hjd : decide ((j : Int) + 1 ≤ (L.length : Int)) = true := by simp; omega
    have hj0 : (0 : Int) ≤ (j : Int) := by omega
    go_wp2_with fail
    refine S1.out.mono ?_
    rintro e W5 ⟨rfl, hb⟩
    have B5 := Lib.hid (below_next B4.out hb)
    have F5 := Lib.hid (F4.out.below hb)
    have hxb : b4 < W4.heap.size := World.block_lt_of_cell? W4 _ XC.out.1
    have x1 := (hb.cell (p := ⟨b4, o4 + j * 10, none⟩) hxb).trans XC.out.1
    have x2 := (hb.cell (p := ⟨b4, o4 + j * 10 + 2, none⟩) hxb).trans XC.out.2
    have X5 := Lib.hid (And.intro x1 x2)
    clear hb B4 F4 XC hxb
    go_wp2_with fail
    refine (CT.out q cq _ F5.out).mono ?_
    rintro e W6 ⟨t, ct, rfl, ht, hb⟩
    have B6 := Lib.hid (below_next B5.out hb)
    have F6 := Lib.hid (F5.out.below hb)
    have hxb : b4 < W5.heap.size := World.block_lt_of_cell? W5 _ X5.out.1
    have X6 := Lib.hid (And.intro ((hb.cell (p := ⟨b4, o4 + j * 10, none⟩) hxb).trans X5.out.1) ((hb.cell (p := ⟨b4, o4 + j * 10 + 2, none⟩) hxb).trans X5.out.2))
    have T6 := Lib.hid ht
    have TL := Lib.hid ht30
    clear hb ht B5 F5 X5 hxb x1 x2
    have htl := TL.out
    go_wp2
    go_loopw [67, 12] (fun i tv wr => ∃ k : Nat, k ≤ T.length ∧ i = .int .i64 k ∧ tv = .int .i64 (tcF ((j : Int) + 1) op (T.take k)) ∧ Hid (Below W6.heap.size W6 wr)) (fun i _ _ => T.length - (intOf i).toNat)
    case atStart => exact ⟨0, by omega, rfl, by simp [tcF], Lib.hid (Below.refl _ _)⟩
    case round =>
      obtain ⟨k, hk, rfl, rfl, hI⟩ := hrel
      by_cases hlt : k < T.length
      · obtain ⟨bt, ot, rfl, r0, r1, r2, r3, r4, r5⟩ := (T6.out.below hI.out).at k hlt
        have hstep := Lib.hid (tcF_step hlt ((j : Int) + 1) op)
        have hbd := TBj.out k
        generalize tcF ((j : Int) + 1) op (T.take k) = tk at *
        generalize T[k] = f at *
        have HI2 := Lib.hid (fun o => hI.out.alloc hI.out.size o)
        have hbt : bt ≠ wr.heap.size := Nat.ne_of_lt (World.block_lt_of_cell? wr _ r0)
        by_cases hcs : f.case = (j : Int) + 1
        · have h9 := Lib.hid (show tcF ((j : Int) + 1) op (T.take (k + 1)) = f.day by rw [hstep.out, if_pos hcs])
          rw [hcs] at r2
          go_wp2
          go_roundw
          case rel => exact ⟨k + 1, by omega, by go_num, by rw [h9.out], Lib.hid (HI2.out _)⟩
          case measure => simp [intOf]; omega
        · have h9 := Lib.hid (show tcF ((j : Int) + 1) op (T.take (k + 1)) = tk by rw [hstep.out, if_neg hcs])
          have hcb : (f.case == (j : Int) + 1) = false := by simpa using hcs
          go_wp2
          go_roundw
          case rel => exact ⟨k + 1, by omega, by go_num, by rw [h9.out], Lib.hid (HI2.out _)⟩
          case measure => simp [intOf]; omega
      · obtain rfl : k = T.length := by omega
        have hbd := TBj.out T.length
        rw [List.take_length] at hbd ⊢
        have hxb : b4 < W6.heap.size := World.block_lt_of_cell? W6 _ X6.out.1
        have x1 := (hI.out.cell (p := ⟨b4, o4 + j * 10, none⟩) hxb).trans X6.out.1
        have x2 := (hI.out.cell (p := ⟨b4, o4 + j * 10 + 2, none⟩) hxb).trans X6.out.2
        have B7 := Lib.hid (below_next B6.out hI.out)
        have F7 := Lib.hid (F6.out.below hI.out)
        have hs3 := S3.out
        have hs2 : ¬ D < op := by omega
        generalize tcF ((j : Int) + 1) op T = tk at *
        clear hI T6 F6 B6 X6
        have hjj : (j : Int) + 1 - 1 = (j : Int) := by omega
        cases el with
        | false =>
          have hs4 : ¬ tk + 767 < D := by have := hs3 rfl; omega
          clear hs3 S3
          by_cases hp1 : la ≤ D
          · by_cases hp2 : D < 65536
            · have hs5 := S4.out (by omega)
              have HS5 := Lib.hid hs5
              go_wp2_with fail
              refine (CA.out D q cq _ F7.out hp1 (by omega)).mono ?_
              rintro e W8 ⟨qd, cd, rfl, hd, hb⟩
              have B8 := Lib.hid (below_next B7.out hb)
              have F8 := Lib.hid (F7.out.below hb)
              obtain ⟨b6, o6, q6, c6, rfl, hx6, _⟩ := hd.at j hjl
              obtain ⟨z1, z2⟩ := CD.out D j hjl _ _ _ _ _ hx6
              rw [HS5.out.2] at z2
              have hst6 := HS5.out.1
              generalize (passP L[j] D).st = st1 at *
              have hst7 : ¬ st1 < 4 := by omega
              clear hd hx6 hb HS5
              by_cases hq1 : la ≤ D - 1
              · have hq2 : D - 1 < 65536 := by omega
                have hst := Lib.hid (S5.out hq1)
                go_wp2_with fail
                refine (CA.out (D - 1) q cq _ F8.out hq1 (by omega)).mono ?_
                rintro e W12 ⟨qd, cd, rfl, hd, hb⟩
                have B12 := Lib.hid (below_next B8.out hb)
                obtain ⟨b5, o5, q5, c5, rfl, hx5, _⟩ := hd.at j hjl
                obtain ⟨y1, y2⟩ := CD.out (D - 1) j hjl _ _ _ _ _ hx5
                have hst' := hst.out
                generalize (passP L[j] (D - 1)).st = st2 at *
                clear hd hx5 hb
                go_wp2
                go_ret
                exact ⟨rfl, B12.out⟩
              · go_wp2
                go_ret
                exact ⟨rfl, B8.out⟩
            · clear S4
              by_cases hq2 : D - 1 < 65536
              · have hq1 : la ≤ D - 1 := by omega
                have hst := Lib.hid (S5.out hq1)
                go_wp2_with fail
                refine (CA.out (D - 1) q cq _ F7.out hq1 (by omega)).mono ?_
                rintro e W12 ⟨qd, cd, rfl, hd, hb⟩
                have B12 := Lib.hid (below_next B7.out hb)
                obtain ⟨b5, o5, q5, c5, rfl, hx5, _⟩ := hd.at j hjl
                obtain ⟨y1, y2⟩ := CD.out (D - 1) j hjl _ _ _ _ _ hx5
                have hst' := hst.out
                generalize (passP L[j] (D - 1)).st = st2 at *
                clear hd hx5 hb
                go_wp2
                go_ret
                exact ⟨rfl, B12.out⟩
              · go_wp2
                go_ret
                exact ⟨rfl, B7.out⟩
          · have hq1 : ¬ la ≤ D - 1 := by omega
            go_wp2
            go_ret
            exact ⟨rfl, B7.out⟩
        | true =>
          clear hs3 S3
          by_cases hp1 : la ≤ D
          · by_cases hp2 : D < 65536
            · have hs5 := S4.out (by omega)
              have HS5 := Lib.hid hs5
              go_wp2_with fail
              refine (CA.out D q cq _ F7.out hp1 (by omega)).mono ?_
              rintro e W8 ⟨qd, cd, rfl, hd, hb⟩
              have B8 := Lib.hid (below_next B7.out hb)
              have F8 := Lib.hid (F7.out.below hb)
              obtain ⟨b6, o6, q6, c6, rfl, hx6, _⟩ := hd.at j hjl
              obtain ⟨z1, z2⟩ := CD.out D j hjl _ _ _ _ _ hx6
              rw [HS5.out.2] at z2
              have hst6 := HS5.out.1
              generalize (passP L[j] D).st = st1 at *
              have hst7 : ¬ st1 < 4 := by omega
              clear hd hx6 hb HS5
              by_cases hq1 : la ≤ D - 1
              · have hq2 : D - 1 < 65536 := by omega
                have hst := Lib.hid (S5.out hq1)
                go_wp2_with fail
                refine (CA.out (D - 1) q cq _ F8.out hq1 (by omega)).mono ?_
                rintro e W12 ⟨qd, cd, rfl, hd, hb⟩
                have B12 := Lib.hid (below_next B8.out hb)
                obtain ⟨b5, o5, q5, c5, rfl, hx5, _⟩ := hd.at j hjl
                obtain ⟨y1, y2⟩ := CD.out (D - 1) j hjl _ _ _ _ _ hx5
                have hst' := hst.out
                generalize (passP L[j] (D - 1)).st = st2 at *
                clear hd hx5 hb
                go_wp2
                go_ret
                exact ⟨rfl, B12.out⟩
              · go_wp2
                go_ret
                exact ⟨rfl, B8.out⟩
            · clear S4
              by_cases hq2 : D - 1 < 65536
              · have hq1 : la ≤ D - 1 := by omega
                have hst := Lib.hid (S5.out hq1)
                go_wp2_with fail
                refine (CA.out (D - 1) q cq _ F7.out hq1 (by omega)).mono ?_
                rintro e W12 ⟨qd, cd, rfl, hd, hb⟩
                have B12 := Lib.hid (below_next B7.out hb)
                obtain ⟨b5, o5, q5, c5, rfl, hx5, _⟩ := hd.at j hjl
                obtain ⟨y1, y2⟩ := CD.out (D - 1) j hjl _ _ _ _ _ hx5
                have hst' := hst.out
                generalize (passP L[j] (D - 1)).st = st2 at *
                clear hd hx5 hb
                go_wp2
                go_ret
                exact ⟨rfl, B12.out⟩
              · go_wp2
                go_ret
                exact ⟨rfl, B7.out⟩
          · have hq1 : ¬ la ≤ D - 1 := by omega
            go_wp2
            go_ret
            exact ⟨rfl, B7.out⟩
  · have e1 : j = L.length := by omega
    subst e1
    have hcom : (1 : Int) + (L.length : Int) = (L.length : Int) + 1 := by omega
    have S1 := Lib.hid (CS.out ((L.length : Int) + 1) q cq _ F4.out)
    rw [SN.out ((L.length : Int) + 1) (by omega)] at S1
    go_wp2_with fail
    refine S1.out.mono ?_
    rintro e W5 ⟨rfl, hb⟩
    have B5 := Lib.hid (below_next B4.out hb)
    go_wp2
    go_ret
    exact ⟨rfl, B5.out⟩

end Go.Proofs.Ytbpoedopdnjffaa
