/- The walk of Name. -/
import Derived.Test.YthleaigkndfdaaaDoorLxR2
namespace Go.Proofs.YthleaigkndfdaaaDoor
open Go.RowKit Go.Shelf

theorem word_run {s : ByteArray} (h : (ls s).all Lx.inW = true) : bs ((ls s).takeWhile Lx.inW) = s := by rw [(Lx.tw_all _ _).2 h]; rfl
theorem word_run_ne {s : ByteArray} (h : (ls s).all Lx.inW = false) : bs ((ls s).takeWhile Lx.inW) ≠ s := by
  intro e
  have : (ls s).takeWhile Lx.inW = ls s := congrArg ls e
  rw [(Lx.tw_all _ _).1 this] at h; cases h
theorem wordB_of {s : ByteArray} (h0 : 0 < s.size) : Lx.wordB (ls s) = (Lx.isLet s[0] && (ls s).all Lx.inW) := by
  have h := ls_get s 0 h0
  generalize s[0] = c at h
  cases hl : ls s with
  | nil => rw [hl] at h; cases h
  | cons a r => rw [hl] at h; cases h; rfl
theorem ls_nil {s : ByteArray} (h : s.size = 0) : ls s = [] := List.eq_nil_of_length_eq_zero (by rw [ls_len]; exact h)
theorem nm_no {s : ByteArray} (h : Lx.wordB (ls s) = false) : Lx.nmv (ls s) = false := by unfold Lx.nmv; rw [h]; simp

set_option maxHeartbeats 2000000 in
set_option maxRecDepth 100000 in
theorem name_any (s : ByteArray) (w : World) (hs : s.size ≤ 9223372036854775807) (hM : MaxAt w) :
    Calls Tryd.prog 23 #[.string s] w fun e w' => e = .returned (.bool (Lx.nmv (ls s))) ∧ Below w.heap.size w w' := by
  rcases Nat.eq_zero_or_pos s.size with h0 | h0
  · have hr : Lx.nmv (ls s) = false := nm_no (by rw [ls_nil h0]; rfl)
    rw [hr]
    have hq : (s.toList == []) = true := by rw [ls_toList, ls_nil h0]; rfl
    go_enter Tryd.func23, Tryd.ntmps23
    go_wp2
    go_ret
    exact ⟨rfl, Below.refl _ _⟩
  · have hq : (s.toList == []) = false := by
      rw [ls_toList, beq_eq_false_iff_ne]; intro e
      have := congrArg List.length e
      rw [ls_len, List.length_nil] at this; omega
    by_cases h24 : s.size ≤ 24
    · have hw := wordB_of h0
      have C1 := Lib.hid (isLetter_any s[0])
      obtain ⟨b, hb⟩ : ∃ b, b = Lx.isLet s[0] := ⟨_, rfl⟩
      rw [← hb] at hw C1
      clear hb
      cases b with
      | false =>
        have hr : Lx.nmv (ls s) = false := nm_no hw
        rw [hr]
        clear hw hr
        go_enter Tryd.func23, Tryd.ntmps23
        go_wp2_with (refine (C1.out _).mono ?_; rintro e w1 ⟨rfl, rfl⟩)
        go_ret
        exact ⟨rfl, Below.refl _ _⟩
      | true =>
        rw [Bool.true_and] at hw
        have CR := run_word s
        cases hL : (ls s).all Lx.inW with
        | false =>
          have hne := word_run_ne hL
          have hr : Lx.nmv (ls s) = false := nm_no (hw.trans hL)
          rw [hr]
          clear hr hw hL
          generalize bs ((ls s).takeWhile Lx.inW) = t at CR hne
          replace CR := Lib.hid (fun W => CR W (by omega))
          have hq2 : (t.toList == s.toList) = false := by
            rw [ls_toList, ls_toList, beq_eq_false_iff_ne]; intro e; exact hne (bs_ls_eq e)
          clear hne
          go_enter Tryd.func23, Tryd.ntmps23
          go_wp2_with (first | (go_at_call 33; refine (C1.out _).mono ?_; rintro e w1 ⟨rfl, rfl⟩) | (go_at_call 34; refine (CR.out _).mono ?_; rintro e w1 ⟨rfl, rfl⟩))
          go_ret
          exact ⟨rfl, Below.refl _ _⟩
        | true =>
          rw [word_run hL] at CR
          replace CR := Lib.hid (fun W => CR W (by omega))
          have CZ := reserved_any s
          have hv : Lx.nmv (ls s) = !Lx.resv (ls s) := by unfold Lx.nmv; rw [hw, hL, ls_len, decide_eq_true h24]; rfl
          rw [hv]
          generalize Lx.resv (ls s) = r at CZ
          replace CZ := Lib.hid (fun W => CZ W hs)
          have HM := Lib.hid hM
          clear hM hv hw hL
          go_enter Tryd.func23, Tryd.ntmps23
          go_wp2_with (first | (go_at_call 33; refine (C1.out _).mono ?_; rintro e w1 ⟨rfl, rfl⟩) | (go_at_call 34; refine (CR.out _).mono ?_; rintro e w1 ⟨rfl, rfl⟩) | (go_at_call 24; refine (CZ.out _ HM.out).mono ?_; rintro e w1 ⟨rfl, b1⟩))
          go_ret
          exact ⟨rfl, b1⟩
    · have hr : Lx.nmv (ls s) = false := by unfold Lx.nmv; rw [ls_len, decide_eq_false h24]; simp
      rw [hr]
      go_enter Tryd.func23, Tryd.ntmps23
      go_wp2
      go_ret
      exact ⟨rfl, Below.refl _ _⟩

end Go.Proofs.YthleaigkndfdaaaDoor
