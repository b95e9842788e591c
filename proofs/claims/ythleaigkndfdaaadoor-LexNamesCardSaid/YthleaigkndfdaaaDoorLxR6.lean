/- The reference's Name, and the law LexNames. -/
import Derived.Test.YthleaigkndfdaaaDoorLxR5
import Derived.Test.YthleaigkndfdaaaDoorLxAwake
namespace Go.Proofs.YthleaigkndfdaaaDoor
open Go.RowKit Go.Shelf

theorem tw_full (s : ByteArray) : ((ls s).takeWhile Lx.inW).length = s.size ↔ (ls s).all Lx.inW = true := by
  rw [← Lx.tw_all]
  constructor
  · intro h
    exact (Lx.takeWhile_pre Lx.inW (ls s)).eq_of_length (by rw [h, ls_len])
  · intro h; rw [h, ls_len]

set_option maxHeartbeats 2000000 in
set_option maxRecDepth 100000 in
theorem nameR_any (s : ByteArray) (w : World) (hs : s.size ≤ 1000000) :
    Calls Tryd.prog 32 #[.string s] w fun e w' => e = .returned (.bool (Lx.nmv (ls s))) ∧ Below w.heap.size w w' := by
  rcases Nat.eq_zero_or_pos s.size with h0 | h0
  · have hr : Lx.nmv (ls s) = false := nm_no (by rw [ls_nil h0]; rfl)
    rw [hr]
    go_enter Tryd.func32, Tryd.ntmps32
    go_wp2
    go_ret
    exact ⟨rfl, Below.refl _ _⟩
  · by_cases h24 : s.size ≤ 24
    · have hw := wordB_of h0
      have C1 := Lib.hid (letterR_any s[0])
      obtain ⟨b, hb⟩ : ∃ b, b = Lx.isLet s[0] := ⟨_, rfl⟩
      rw [← hb] at hw C1
      clear hb
      cases b with
      | false =>
        have hr : Lx.nmv (ls s) = false := nm_no hw
        rw [hr]
        clear hw hr
        go_enter Tryd.func32, Tryd.ntmps32
        go_wp2_with (refine (C1.out _).mono ?_; rintro e w1 ⟨rfl, rfl⟩)
        go_ret
        exact ⟨rfl, Below.refl _ _⟩
      | true =>
        rw [Bool.true_and] at hw
        have CR := wordR_any s
        have hle := tw_le Lx.inW s
        have hfull := tw_full s
        generalize ((ls s).takeWhile Lx.inW).length = n at CR hle hfull
        cases hL : (ls s).all Lx.inW with
        | false =>
          have hr : Lx.nmv (ls s) = false := nm_no (hw.trans hL)
          rw [hr]
          have f1 : n < s.size := by
            rcases Nat.lt_or_ge n s.size with h | h
            · exact h
            · have := hfull.1 (by omega)
              rw [hL] at this; cases this
          clear hr hw hL hfull hle
          have CR' := Lib.hid (fun W => CR W (by omega))
          clear CR
          have f2 : ((n : Int) == (s.size : Int)) = false := by rw [beq_eq_false_iff_ne]; omega
          go_enter Tryd.func32, Tryd.ntmps32
          go_wp2_with (first | (go_at_call 47; refine (C1.out _).mono ?_; rintro e w1 ⟨rfl, rfl⟩) | (go_at_call 48; refine (CR'.out _).mono ?_; rintro e w1 ⟨rfl, rfl⟩))
          go_ret
          exact ⟨rfl, Below.refl _ _⟩
        | true =>
          have hn := hfull.2 hL
          subst hn
          have CR' := Lib.hid (fun W => CR W (by omega))
          have CZ := reservedR_any s
          have hv : Lx.nmv (ls s) = !Lx.resv (ls s) := by unfold Lx.nmv; rw [hw, hL, ls_len, decide_eq_true h24]; rfl
          rw [hv]
          generalize Lx.resv (ls s) = r at CZ
          replace CZ := Lib.hid CZ
          clear hv hw hL CR hle hfull
          go_enter Tryd.func32, Tryd.ntmps32
          go_wp2_with (first | (go_at_call 47; refine (C1.out _).mono ?_; rintro e w1 ⟨rfl, rfl⟩) | (go_at_call 48; refine (CR'.out _).mono ?_; rintro e w1 ⟨rfl, rfl⟩) | (go_at_call 31; refine (CZ.out _).mono ?_; rintro e w1 ⟨rfl, b1⟩))
          go_ret
          exact ⟨rfl, b1⟩
    · have hr : Lx.nmv (ls s) = false := by unfold Lx.nmv; rw [ls_len, decide_eq_false h24]; simp
      rw [hr]
      go_enter Tryd.func32, Tryd.ntmps32
      go_wp2
      go_ret
      exact ⟨rfl, Below.refl _ _⟩

set_option maxHeartbeats 2000000 in
set_option maxRecDepth 100000 in
theorem names_any (s : ByteArray) (w : World) (hs : s.size ≤ 1000000) (hM : MaxAt w) :
    Calls Tryd.prog 22 #[.string s] w fun e w' => e = .returned (.bool true) ∧ Below w.heap.size w w' := by
  have c1 := reserved_any s
  have c2 := reservedR_any s
  have c3 := name_any s
  have c4 := nameR_any s
  have HM := Lib.hid hM; clear hM
  generalize Lx.resv (ls s) = r at c1 c2
  generalize Lx.nmv (ls s) = m at c3 c4
  replace c1 := Lib.hid (fun W => c1 W (by omega))
  replace c2 := Lib.hid c2
  replace c3 := Lib.hid (fun W => c3 W (by omega))
  replace c4 := Lib.hid (fun W => c4 W (by omega))
  cases r <;> cases m
  all_goals
    go_enter Tryd.func22, Tryd.ntmps22
    go_wp2_with fail
    refine (c1.out _ HM.out).mono ?_
    rintro e w1 ⟨rfl, b1⟩
    go_wp2_with fail
    refine (c2.out _).mono ?_
    rintro e w2 ⟨rfl, b2⟩
    have B2 := below_next b1 b2
    clear b1 b2
    go_wp2_with fail
    refine (c3.out _ (HM.out.below B2)).mono ?_
    rintro e w3 ⟨rfl, b3⟩
    have B3 := below_next B2 b3
    clear b3 B2
    go_wp2_with fail
    refine (c4.out _).mono ?_
    rintro e w4 ⟨rfl, b4⟩
    have B4 := below_next B3 b4
    clear b4 B3
    go_wp2_with fail
    go_ret
    exact ⟨rfl, B4⟩

set_option maxHeartbeats 2000000 in
set_option maxRecDepth 100000 in
theorem names_law (s : ByteArray) (w : World) (hL : Lens w) (hM : MaxAt w) (hs : s.size ≤ 9223372036854775807) :
    Calls Tryd.prog 9 #[.string s] w fun e w' => e = .returned (.bool true) ∧ Below w.heap.size w w' := by
  have HL := Lib.hid hL
  by_cases h : s.size ≤ 3000
  · have CN := Lib.hid (names_any s w (by omega) hM)
    clear hM hL
    go_enter Tryd.func9, Tryd.ntmps9
    go_wp2_with fail
    refine CN.out.mono ?_
    rintro e w1 ⟨rfl, b1⟩
    go_wp2_with fail
    refine (awake_any _ (HL.out.below b1)).mono ?_
    rintro e w2 ⟨rfl, b2⟩
    have B2 := below_next b1 b2
    clear b1 b2
    go_wp2_with fail
    go_ret
    exact ⟨rfl, B2⟩
  · clear hM hL
    go_enter Tryd.func9, Tryd.ntmps9
    go_wp2_with fail
    refine (awake_any _ HL.out).mono ?_
    rintro e w2 ⟨rfl, b2⟩
    go_wp2_with fail
    go_ret
    exact ⟨rfl, b2⟩

end Go.Proofs.YthleaigkndfdaaaDoor
