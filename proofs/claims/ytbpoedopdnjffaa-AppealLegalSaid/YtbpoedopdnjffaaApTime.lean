/- held, endHold, uphold, next, pass. -/
import Derived.Test.YtbpoedopdnjffaaApBox
namespace Go.Proofs.Ytbpoedopdnjffaa
open Go.RowKit Go.Shelf Sp

theorem union_is (a b : Sps) (pa pb : Option Addr) (ca cb : Nat) (la : a.length ≤ 10000) (lb : b.length ≤ 10000) (va : validB a = true) (vb : validB b = true) (w : World) (hA : Cells w pa a) (hB : Cells w pb b) :
    Calls Try.prog 20 #[.slice pa a.length ca, .slice pb b.length cb] w fun e W' => ∃ v, e = .returned (.tuple #[v, .int .i64 0]) ∧ Owns W' w.heap.size v (un a b) ∧ Below w.heap.size w W' := by
  refine (union_ok a b pa pb ca cb la lb va vb w hA hB).mono ?_
  rintro e W ⟨v, l, rfl, h1, _, h3, h4⟩
  obtain rfl := IsSet.uniq (un_set va vb) h1
  exact ⟨v, rfl, h3, h4⟩
theorem cells_new1' (W : World) (x y : Int) (k : Nat) (hk : W.heap.size = k) : Cells (W.alloc (.cells #[.int .i64 x, .int .i64 y] 47)) (some ⟨k, 0, none⟩) [(x, y)] := by
  subst hk
  exact .inr ⟨_, 0, rfl, fun i hi => by
    match i, hi with
    | 0, _ => exact ⟨by simp, by simp⟩⟩
theorem cells_drew {W : World} {p : Option Addr} {l : Sps} (h : Cells W p l) : Cells W.drew p l := h
theorem cells_of {W : World} {base : Nat} {p : Option Addr} {n c : Nat} {l : Sps} (h : Owns W base (.slice p n c) l) : Cells W p l := by
  obtain ⟨q, d, e, hc⟩ := h.form
  injection e with e1 _ _
  subst e1
  exact hc

set_option maxHeartbeats 1000000 in
set_option maxRecDepth 100000 in
theorem held_any (B : Nat) (c : Cs) (d : Int) (w : World) (h : CaseAt w B c) (ok : c.HOk) :
    Calls Try.prog 57 #[.pointer (some ⟨B, 0, none⟩), .int .i64 d] w fun e w' => ∃ v, e = .returned v ∧ Owns w' 0 v (heldP c d) ∧ Below w.heap.size w w' := by
  obtain ⟨v, h1, h2⟩ := h
  obtain ⟨_, _, _, _, _, _, _, c7, c8, c9⟩ := h1.cell
  have HO := Lib.hid h2
  have Bl := h1.lt
  clear h1 h2
  cases hh : c.hold with
  | false =>
    have hf := Lib.hid (show heldP c d = c.held by unfold heldP; rw [hh]; simp)
    rw [hh] at c7
    clear c8
    go_enter Try.func57, Try.ntmps57
    go_wp2
    go_ret
    exact ⟨v, rfl, by rw [hf.out]; exact HO.out, Below.refl _ _⟩
  | true =>
    rw [hh] at c7
    by_cases hd : c.since < d
    · have hf := Lib.hid (show heldP c d = un c.held [(c.since, min d 65536)] by unfold heldP; rw [if_pos ⟨hh, hd⟩])
      have hok := ok.hold hh
      have HV := Lib.hid ok.vh
      have HL := Lib.hid (show c.held.length ≤ 10000 by
        have h1 := ok.len
        omega)
      have HS := Lib.hid (show validB [(c.since, min d 65536)] = true by unfold validB; rw [validFrom_cons]; dsimp only; exact ⟨by omega, by omega, by omega, rfl⟩)
      obtain ⟨p, cap, rfl, _⟩ := HO.out.form
      have HC := Lib.hid (cells_of HO.out)
      generalize c.since = s at *
      generalize c.held = l at *
      have hmm : (if 65536 < d then (65536 : Int) else d) = min d 65536 := by split <;> omega
      obtain ⟨mm, hmd⟩ : ∃ mm, mm = min d 65536 := ⟨_, rfl⟩
      rw [← hmd] at hmm HS hf
      clear hok ok hmd
      go_enter Try.func57, Try.ntmps57
      go_wp2_with fail
      go_region_held3 (fun w9 => w9.cell? ⟨B, 8, none⟩ = some (.int .i64 s) ∧ w9.cell? ⟨B, 9, none⟩ = some (.slice p l.length cap))
        (first | go_keep | (go_split_ands; refine ⟨?_, ?_⟩ <;> (rw [hb.cell (by simp; omega)]; assumption)))
        (first | (go_at_call 20; refine (union_is l [(s, mm)] p _ cap 1 HL.out (by simp) HV.out HS.out _ ?_ ?_).mono ?_
                  (exact cells_drew (HC.out.below ((Below.refl _ _).alloc (Nat.le_refl _) _)))
                  (exact cells_drew (cells_new1' _ _ _ _ rfl))
                  rintro e W1 ⟨u, rfl, ho, hb⟩))
      have hb2 := Lib.hid (show Below w.heap.size w W1 from (((Below.refl _ _).alloc (Nat.le_refl _) _).drew).trans (hb.mono (by simp)))
      have ho2 := Lib.hid ho.low
      clear hb ho
      go_wp2
      go_ret
      exact ⟨u, rfl, by rw [hf.out]; exact ho2.out, hb2.out⟩
    · have hf := Lib.hid (show heldP c d = c.held by unfold heldP; rw [if_neg (fun h => hd h.2)])
      go_enter Try.func57, Try.ntmps57
      go_wp2
      go_ret
      exact ⟨v, rfl, by rw [hf.out]; exact HO.out, Below.refl _ _⟩

set_option maxHeartbeats 1000000 in
theorem endHold_any (B : Nat) (c : Cs) (d : Int) (w : World) (h : CaseAt w B c) (ok : c.HOk) :
    Calls Try.prog 71 #[.pointer (some ⟨B, 0, none⟩), .int .i64 d] w fun e w' => e = .returned (.tuple #[]) ∧ CaseAt w' B (endHoldP c d) ∧ But B w w' := by
  have CH := Lib.hid (held_any B c d w h ok)
  have HC := Lib.hid h
  obtain ⟨v, h1, h2⟩ := h
  obtain ⟨_, _, _, _, _, _, _, c7, _, _⟩ := h1.cell
  cases hh : c.hold with
  | false =>
    have hf := Lib.hid (show endHoldP c d = c by unfold endHoldP; rw [hh]; simp)
    rw [hh] at c7
    clear h1 h2
    go_enter Try.func71, Try.ntmps71
    go_wp2
    refine bodyPost_ret (results_none rfl _ _ _) rfl ?_
    exact ⟨rfl, by rw [hf.out]; exact HC.out, But.refl _ _⟩
  | true =>
    have hf := Lib.hid (show endHoldP c d = { c with held := heldP c d, hold := false, since := 0 } by unfold endHoldP; rw [if_pos hh])
    rw [hh] at c7
    have H1 := Lib.hid h1
    clear h1 h2 HC
    go_enter Try.func71, Try.ntmps71
    go_wp2_with fail
    refine CH.out.mono ?_
    rintro e W1 ⟨u, rfl, ho, hb⟩
    have A1 := H1.out.later hb
    obtain ⟨pu, cu, rfl, _⟩ := ho.form
    have A2 := A1.set_.2.2.2.2.2.2 (heldP c d) (.slice pu (heldP c d).length cu)
    have O2 := ho.setBox A1 9 (.slice pu (heldP c d).length cu)
    have A3 := A2.set_.2.2.2.2.1 false
    have O3 := O2.setBox A2 7 (.bool false)
    have A4 := A3.set_.2.2.2.2.2.1 0
    have O4 := O3.setBox A3 8 (.int .i64 0)
    have hB := Lib.hid ((((But.of_below (g := B) hb).set_ 9 (.slice pu (heldP c d).length cu)).set_ 7 (.bool false)).set_ 8 (.int .i64 0))
    have HR := Lib.hid (show CaseAt _ B (endHoldP c d) from by rw [hf.out]; exact ⟨_, A4, O4⟩)
    obtain ⟨_, _, _, _, _, _, _, e7, e8, e9⟩ := A1.cell
    have f7 := A1.frozen 7
    have f8 := A1.frozen 8
    have f9 := A1.frozen 9
    clear A1 A2 A3 A4 O2 O3 O4 ho hb CH H1
    go_wp2
    go_end0
    exact ⟨rfl, HR.out, hB.out⟩

set_option maxHeartbeats 1000000 in
theorem uphold_any (B : Nat) (c : Cs) (d : Int) (w : World) (h : CaseAt w B c) (ok : c.Ok) (hd : 0 ≤ d ∧ d ≤ 65901) :
    Calls Try.prog 60 #[.pointer (some ⟨B, 0, none⟩), .int .i64 d] w fun e w' => e = .returned (.tuple #[]) ∧ CaseAt w' B (upholdP c d) ∧ But B w w' := by
  have CE := Lib.hid (endHold_any B c d w h ok.h)
  have hlev := ok.lev
  have hday := ok.days
  obtain ⟨e1, e2, _⟩ := endHoldP_level c d
  have E1 := Lib.hid e1
  have E2 := Lib.hid e2
  clear h ok e1 e2
  go_enter Try.func60, Try.ntmps60
  go_wp2_with fail
  refine CE.out.mono ?_
  rintro e W1 ⟨rfl, ⟨v, A1, O1⟩, hb⟩
  obtain ⟨_, g1, _, g3, _, g5, g6, _, _, _⟩ := A1.cell
  rw [E2.out] at g3
  rw [E1.out] at g5
  have f1 := A1.frozen 1
  have f6 := A1.frozen 6
  by_cases hl : 3 ≤ c.level
  · have A2 := A1.set_.1 4
    have O2 := O1.setBox A1 1 (.int .u8 4)
    have A3 := A2.set_.2.2.2.1 d
    have O3 := O2.setBox A2 6 (.int .i64 d)
    have HR := Lib.hid (show CaseAt _ B (upholdP c d) from by unfold upholdP; dsimp only; rw [if_pos (by rw [E1.out]; exact hl)]; exact ⟨_, A3, O3⟩)
    have hB := Lib.hid ((hb.set_ 1 (.int .u8 4)).set_ 6 (.int .i64 d))
    clear A1 A2 A3 O1 O2 O3 hb CE
    go_wp2
    refine bodyPost_ret (results_none rfl _ _ _) rfl ?_
    exact ⟨rfl, HR.out, hB.out⟩
  · have A2 := A1.set_.1 2
    have O2 := O1.setBox A1 1 (.int .u8 2)
    have A3 := A2.set_.2.2.2.1 (d + c.days)
    have O3 := O2.setBox A2 6 (.int .i64 (d + c.days))
    have HR := Lib.hid (show CaseAt _ B (upholdP c d) from by
      have e : upholdP c d = { endHoldP c d with st := 2, due := d + c.days } := by unfold upholdP; dsimp only; rw [if_neg (by rw [E1.out]; exact hl), E2.out]
      rw [e]
      exact ⟨_, A3, O3⟩)
    have hB := Lib.hid ((hb.set_ 1 (.int .u8 2)).set_ 6 (.int .i64 (d + c.days)))
    clear A1 A2 A3 O1 O2 O3 hb CE
    go_wp2
    go_end0
    exact ⟨rfl, HR.out, hB.out⟩

set_option maxHeartbeats 1000000 in
theorem next_any (B : Nat) (c : Cs) (w : World) (h : CaseAt w B c) (ok : c.Ok) :
    Calls Try.prog 40 #[.pointer (some ⟨B, 0, none⟩)] w fun e w' => e = .returned (.tuple #[]) ∧ CaseAt w' B (nextP c) ∧ But B w w' := by
  have hdue := ok.due
  by_cases h3 : c.st = 3
  · have := ok.due3 h3
    have CU := Lib.hid (uphold_any B c (c.due + 1) w h ok (by omega))
    have hf := Lib.hid (show nextP c = upholdP c (c.due + 1) by unfold nextP; rw [if_pos h3])
    obtain ⟨v, h1, h2⟩ := h
    obtain ⟨_, g1, _, _, _, _, g6, _, _, _⟩ := h1.cell
    rw [h3] at g1
    clear h1 h2 ok
    go_enter Try.func40, Try.ntmps40
    go_wp2_with fail
    refine CU.out.mono ?_
    rintro e W1 ⟨rfl, h4, h5⟩
    go_wp2
    refine bodyPost_ret (results_none rfl _ _ _) rfl ?_
    exact ⟨rfl, by rw [hf.out]; exact h4, h5⟩
  · have hf := Lib.hid (show nextP c = { c with st := 4, due := c.due + 1 } by unfold nextP; rw [if_neg h3])
    have b3 : (c.st == 3) = false := by simpa using h3
    obtain ⟨v, A1, O1⟩ := h
    obtain ⟨_, g1, _, _, _, _, g6, _, _, _⟩ := A1.cell
    have f1 := A1.frozen 1
    have f6 := A1.frozen 6
    have A2 := A1.set_.1 4
    have O2 := O1.setBox A1 1 (.int .u8 4)
    have A3 := A2.set_.2.2.2.1 (c.due + 1)
    have O3 := O2.setBox A2 6 (.int .i64 (c.due + 1))
    have HR := Lib.hid (show CaseAt _ B (nextP c) from by rw [hf.out]; exact ⟨_, A3, O3⟩)
    have hB := Lib.hid (((But.refl B w).set_ 1 (.int .u8 4)).set_ 6 (.int .i64 (c.due + 1)))
    clear A1 A2 A3 O1 O2 O3 ok
    go_enter Try.func40, Try.ntmps40
    go_wp2
    go_end0
    exact ⟨rfl, HR.out, hB.out⟩

/-- The rank of the state that lies in a cell. -/
def rankAt (W : World) (B : Nat) : Nat := match W.cell? ⟨B, 1, none⟩ with | some (.int _ x) => rankP x | _ => 0
theorem rankAt_of {W : World} {B : Nat} {c : Cs} (h : CaseAt W B c) : rankAt W B = rankP c.st := by
  obtain ⟨v, h1, _⟩ := h
  unfold rankAt
  rw [h1.cell.2.1]

set_option maxHeartbeats 1000000 in
theorem pass_any (B : Nat) (c : Cs) (d : Int) (w : World) (h : CaseAt w B c) (ok : c.Ok) :
    Calls Try.prog 56 #[.pointer (some ⟨B, 0, none⟩), .int .i64 d] w fun e w' => e = .returned (.tuple #[]) ∧ CaseAt w' B (passP c d) ∧ But B w w' := by
  have H0 := Lib.hid h
  have K0 := Lib.hid ok
  clear h ok
  go_enter Try.func56, Try.ntmps56
  go_wp2
  go_loopw [5] (fun _ wr => ∃ c' : Cs, Hid (CaseAt wr B c' ∧ c'.Ok ∧ passP c' d = passP c d ∧ But B w wr)) (fun _ wr => rankAt wr B)
  case atStart => exact ⟨c, Lib.hid ⟨H0.out, K0.out, rfl, But.refl _ _⟩⟩
  case round =>
    obtain ⟨c', hI⟩ := hrel
    obtain ⟨v, A1, _⟩ := hI.out.1
    have CE := Lib.hid (ends_any B c' v wr A1)
    obtain ⟨_, _, _, _, _, _, g6, _, _, _⟩ := A1.cell
    clear A1
    by_cases he : endsP c' = true
    · rw [he] at CE
      by_cases hlt : c'.due < d
      · have hg := Lib.hid ((goP_iff c' d).2 ⟨he, hlt⟩)
        have CN := Lib.hid (next_any B c' wr hI.out.1 hI.out.2.1)
        have hrk := Lib.hid (rankP_next hI.out.2.1 he)
        have hR0 := Lib.hid (rankAt_of hI.out.1)
        go_wp2_with fail
        refine CE.out.mono ?_
        rintro e w1 ⟨rfl, rfl⟩
        go_wp2_with fail
        refine CN.out.mono ?_
        rintro e W1 ⟨rfl, h4, h5⟩
        have J := Lib.hid (show CaseAt W1 B (nextP c') ∧ (nextP c').Ok ∧ passP (nextP c') d = passP c d ∧ But B w W1 from ⟨h4, (nextP_ok hI.out.2.1 he).1, (passP_next hI.out.2.1 hg.out).trans hI.out.2.2.1, hI.out.2.2.2.trans h5⟩)
        have hR1 := Lib.hid (rankAt_of h4)
        clear h4 h5 hI CE CN
        go_wp2
        go_roundw
        case rel => exact ⟨_, J⟩
        case measure => rw [hR0.out, hR1.out]; exact hrk.out
      · have hs := Lib.hid (show passP c' d = c' from passP_stop (fun h => hlt ((goP_iff c' d).1 h).2))
        go_wp2_with fail
        refine CE.out.mono ?_
        rintro e w1 ⟨rfl, rfl⟩
        go_wp2
        go_end0
        exact ⟨rfl, by rw [← hI.out.2.2.1, hs.out]; exact hI.out.1, hI.out.2.2.2⟩
    · have hs := Lib.hid (show passP c' d = c' from passP_stop (fun h => he ((goP_iff c' d).1 h).1))
      have he' : endsP c' = false := by simpa using he
      rw [he'] at CE
      go_wp2_with fail
      refine CE.out.mono ?_
      rintro e w1 ⟨rfl, rfl⟩
      go_wp2
      go_end0
      exact ⟨rfl, by rw [← hI.out.2.2.1, hs.out]; exact hI.out.1, hI.out.2.2.2⟩

end Go.Proofs.Ytbpoedopdnjffaa
