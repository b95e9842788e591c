/- AppealRejected: the law. -/
import Derived.Test.YtbpoedopdnjffaaApLawK
namespace Go.Proofs.Ytbpoedopdnjffaa
open Go.RowKit Go.Shelf Sp

set_option maxHeartbeats 4000000 in
set_option maxRecDepth 100000 in
theorem rejected_law (l : List Nt) (x : Int) (p : Option Addr) (cap : Nat) (w : World) (hc : NCells w p l) (bd : ∀ y ∈ l, y.Bd) :
    Calls Try.prog 7 #[.slice p l.length cap, .int .i64 x] w fun e w' => e = .returned (.bool true) ∧ Below w.heap.size w w' := by
  have NC := Lib.hid hc
  have BT := Lib.hid (builtP_bt bd)
  have CB := Lib.hid (fun W h => built_is l p cap W h bd)
  generalize builtP l = F at *
  have TK := Lib.hid BT.out.tk
  have AG := Lib.hid (again F)
  have HL := Lib.hid (lastP_bt BT.out)
  have h30 := BT.out.len
  have ht30 := TK.out.2
  clear hc bd
  go_enter Try.func7, Try.ntmps7
  go_wp2_with fail
  refine (awake_any _).mono ?_
  rintro e W1 ⟨rfl, hb⟩
  have B1 := Lib.hid hb
  have N1 := Lib.hid (NC.out.below hb)
  clear hb NC
  go_wp2_with fail
  refine (CB.out _ N1.out).mono ?_
  rintro e W2 ⟨q, cq, rfl, hq, hb⟩
  have B2 := Lib.hid (below_next B1.out hb)
  have F2 := Lib.hid hq
  clear hb hq B1 N1 CB
  go_wp2_with fail
  refine (taken_is F q cq _ F2.out BT.out.bd (by omega)).mono ?_
  rintro e W3 ⟨t, ct, rfl, ht, hb⟩
  have B3 := Lib.hid (below_next B2.out hb)
  have F3 := Lib.hid (F2.out.below hb)
  have T3 := Lib.hid ht
  clear hb ht B2 F2
  obtain ⟨T, hT⟩ : ∃ T, T = takenP F := ⟨_, rfl⟩
  have HT := Lib.hid hT
  rw [← hT] at T3 TK AG ht30 ⊢
  clear hT
  go_wp2_with fail
  refine (run_is T t ct _ T3.out TK.out.1 (by omega)).mono ?_
  rintro e W4 ⟨r, cr, rfl, hr, hb⟩
  have B4 := Lib.hid (below_next B3.out hb)
  have F4 := Lib.hid (F3.out.below hb)
  have T4 := Lib.hid (T3.out.below hb)
  have R4 := Lib.hid hr
  clear hb hr B3 F3 T3
  go_wp2
  go_loopw [22] (fun i wr => ∃ k m : Nat, k ≤ T.length ∧ i = .int .i64 k ∧ wr = W4.drewN m) (fun i _ => T.length - (intOf i).toNat)
  case atStart => exact ⟨0, 0, by omega, rfl, rfl⟩
  case round =>
    obtain ⟨k, m, hk, rfl, rfl⟩ := hrel
    by_cases hlt : k < T.length
    · obtain ⟨g, rfl, hg⟩ := R4.out k (by rw [errsD_length]; exact hlt)
      rw [AG.out.errs _ (List.getElem_mem _)] at hg
      by_cases h0 : 0 < k
      · obtain ⟨bt, ot, rfl, _, t1, _⟩ := T4.out.at k hlt
        obtain ⟨bt2, ot2, e2, _, s1, _⟩ := T4.out.at (k - 1) (by omega)
        cases e2
        have hasc := List.pairwise_iff_getElem.1 AG.out.asc (k - 1) k (by omega) hlt (by omega)
        generalize T[k].day = dk at *
        generalize T[k - 1].day = dj at *
        have hk1 : (k : Int) - 1 = ((k - 1 : Nat) : Int) := by omega
        have hnl : decide (dk < dj) = false := by simp; omega
        go_wp2_with fail
        go_quiet (fail)
        go_wp2
        go_roundw
        case rel => exact ⟨k + 1, m + nq, by omega, by go_num, rfl⟩
        case measure => simp [intOf]; omega
      · obtain rfl : k = 0 := by omega
        go_wp2_with fail
        go_quiet (fail)
        go_wp2
        go_roundw
        case rel => exact ⟨1, m + nq, by omega, by go_num, rfl⟩
        case measure => simp [intOf]; omega
    · obtain rfl : k = T.length := by omega
      have B5 := Lib.hid (show Below w.heap.size w (W4.drewN m) from below_drewN B4.out m)
      have F5 := Lib.hid (show FCells (W4.drewN m) q F from F4.out)
      have T5 := Lib.hid (show FCells (W4.drewN m) t T from T4.out)
      generalize W4.drewN m = W5 at *
      clear R4 T4 F4 B4 hlt hk
      go_wp2_with fail
      refine (last_any F q cq _ F5.out BT.out.bd (by omega)).mono ?_
      rintro e W6 ⟨rfl, hb⟩
      have B6 := Lib.hid (below_next B5.out hb)
      have F6 := Lib.hid (F5.out.below hb)
      have T6 := Lib.hid (T5.out.below hb)
      clear hb B5 F5 T5
      go_wp2_with fail
      refine (pick_any x 1500 _ (by decide) (by decide)).mono ?_
      rintro e _ ⟨rfl, rfl⟩
      obtain ⟨d, hd⟩ : ∃ d, d = lastP F + x % 1500 := ⟨_, rfl⟩
      have hdl : lastP F ≤ d := by omega
      have hx : 0 ≤ x % 1500 ∧ x % 1500 < 1500 := by omega
      have hd0 : 0 ≤ d ∧ d ≤ 30000 := by have := HL.out; omega
      have A1 := Lib.hid (atD_last hdl (by omega))
      have E1 := Lib.hid (atErr_taken F d)
      have E2 := Lib.hid (atD_taken F d)
      have L1 := Lib.hid (atD_len F d)
      have L2 := Lib.hid (atD_held F d)
      rw [← HT.out] at E1 E2
      generalize lastP F = la at *
      go_wp2_with fail
      rw [← hd]
      clear hd
      refine (at_is F d q cq _ F6.out BT.out.bd (by omega)).mono ?_
      rintro e W7 ⟨qa, ca, rfl, ha, hb⟩
      rw [A1.out.1]
      have B7 := Lib.hid (below_next B6.out hb)
      have T7 := Lib.hid (T6.out.below hb)
      have C7 := Lib.hid ha
      clear ha hb B6 T6 F6
      go_wp2_with fail
      refine (at_is T d t ct _ T7.out TK.out.1 (by omega)).mono ?_
      rintro e W8 ⟨qb, cb, rfl, ha, hb⟩
      rw [E1.out, E2.out, A1.out.1]
      rw [E2.out] at ha
      have B8 := Lib.hid (below_next B7.out hb)
      have C8 := Lib.hid (C7.out.below hb)
      have D8 := Lib.hid ha
      clear ha hb B7 C7 T7
      go_wp2_with fail
      refine (sameCases_yes (atD F d) qa qb ca cb _ (by have := L1.out; omega) L2.out C8.out D8.out).mono ?_
      rintro e W9 ⟨rfl, hb⟩
      have B9 := Lib.hid (below_next B8.out hb)
      have h65 : d < 65536 := by omega
      go_wp2
      go_ret
      exact ⟨rfl, B9.out⟩

end Go.Proofs.Ytbpoedopdnjffaa
