/- AppealSmall answers true. -/
import Derived.Test.YtbpoedopdnjffaaGreatZqSmB
namespace Go.Proofs.YtbpoedopdnjffaaGreat
open Go.RowKit Go.Shelf Sp

set_option maxHeartbeats 8000000 in
set_option maxRecDepth 1000000 in
theorem small_law (w : World) :
    Calls Tryz.prog 4 #[] w fun e w' => e = .returned (.bool true) ∧ Below w.heap.size w w' := by
  go_enter Tryz.func4, Tryz.ntmps4
  go_wp2
  go_loopw [1] (fun i wr => ∃ k : Nat, k ≤ 240 ∧ i = .int .i64 k ∧ Hid (Below w.heap.size w wr)) (fun i _ => 240 - (intOf i).toNat)
  case atStart => exact ⟨0, by omega, rfl, Lib.hid (Below.refl _ _)⟩
  case round =>
    obtain ⟨k, hk, rfl, hB⟩ := hrel
    by_cases hlt : k < 240
    · have k0 : (0 : Int) ≤ (k : Int) := by omega
      have k1 : (k : Int) < 240 := by omega
      go_wp2_with fail
      refine (decide_f 5 _ _).mono ?_
      rintro e W1 ⟨rfl, hb⟩
      have B1 := Lib.hid (hB.out.trans (hb.mono hB.out.size))
      have F1 := Lib.hid (fl_new W1 w.heap.size 4 5 0 (1 + (k : Int) % 3) 0 false B1.out.size (by constructor <;> dsimp only <;> omega))
      have B2 := Lib.hid (B1.out.alloc B1.out.size (.cells #[.int .u8 4, .int .i64 5, .int .i64 0, .int .i64 (1 + (k : Int) % 3), .int .i64 0, .bool false] 26))
      clear hb B1 hB
      go_wp2_with fail
      go_loopw [4, 5, 3, 2] (fun iv xv dv v wr => ∃ (j : Nat) (x d : Int), j ≤ 4 ∧ iv = .int .i64 j ∧ xv = .int .i64 x ∧ 0 ≤ x ∧ x ≤ 240 ∧ dv = .int .i64 d ∧ 0 ≤ d ∧ d ≤ 5 + 366 * (j : Int) ∧ Hid (FL wr w.heap.size v (1 + j) ∧ Below w.heap.size w wr)) (fun iv _ _ _ _ => 4 - (intOf iv).toNat)
      case atStart => exact ⟨0, k, 5, by omega, rfl, rfl, by omega, by omega, rfl, by omega, by omega, Lib.hid ⟨F1.out, B2.out⟩⟩
      case round =>
        clear F1 B2
        obtain ⟨j, x, d, hj, rfl, rfl, x0, x1, rfl, d0, d1, hI⟩ := hrel
        by_cases hlt2 : j < 4
        · have j0 : (0 : Int) ≤ (j : Int) := by omega
          have j1 : (j : Int) < 4 := by omega
          go_upto_region 9 with (fail)
          go_cut [3] from 25 to 85 (fun dv wx => ∃ d' : Int, dv = .int .i64 d' ∧ 0 ≤ d' ∧ d' ≤ 371 + 366 * (j : Int) ∧ Hid (FL wx w.heap.size u2 (1 + j) ∧ Below w.heap.size w wx))
          case first =>
            rcases (show (x + (j : Int)) % 4 = 0 ∨ (x + (j : Int)) % 4 = 1 ∨ (x + (j : Int)) % 4 = 2 ∨ (x + (j : Int)) % 4 = 3 by omega) with h4 | h4 | h4 | h4
            all_goals (go_wp2_with fail; go_meet; exact ⟨_, rfl, by omega, by omega, Lib.hid ⟨hI.out.1.alloc _, hI.out.2.alloc hI.out.2.size _⟩⟩)
          case rest =>
          clear hI
          obtain ⟨d', rfl, e0, e1, hI⟩ := hcut
          rcases (show ((k : Int) + (j : Int)) % 5 = 0 ∨ ((k : Int) + (j : Int)) % 5 = 1 ∨ ((k : Int) + (j : Int)) % 5 = 2 ∨ ((k : Int) + (j : Int)) % 5 = 3 ∨ ((k : Int) + (j : Int)) % 5 = 4 by omega) with h5 | h5 | h5 | h5 | h5
          all_goals
            go_wp2_with fail
            refine (on_f _ _ _ _ _ _).mono ?_
            rintro e W2 ⟨rfl, hb⟩
            have F2 := Lib.hid (hI.out.1.later hb)
            have B2 := Lib.hid (hI.out.2.trans (hb.mono hI.out.2.size))
            clear hb hI
            go_wp2_with (first | (at_builtin; refine wpList_plain rfl fun KK hKK => ?_; refine wpFL_append W2 _ _ rfl rfl w.heap.size u2 (1 + j) rfl F2.out _ _ _ _ _ _ rfl (by constructor <;> dsimp only <;> omega) (by omega) B2.out.size ?_; intro v2 w2 hown2 hbel2; refine hKK _ _ ?_; clear hKK) | fail)
            go_roundw
            case rel => exact ⟨j + 1, _, d', by omega, by go_num, rfl, by omega, by omega, rfl, by omega, by omega, Lib.hid ⟨by have := hown2; rw [Nat.add_assoc] at this; exact this, B2.out.trans hbel2⟩⟩
            case measure => simp [intOf]; omega
        · obtain rfl : j = 4 := by omega
          go_wp2_with fail
          refine (runs_FL _ hI.out.1 (by omega)).mono ?_
          rintro e W3 ⟨rfl, hb⟩
          have F3 := Lib.hid (hI.out.1.later hb)
          have B3 := Lib.hid (hI.out.2.trans (hb.mono hI.out.2.size))
          clear hb hI
          by_cases h6 : (k : Int) % 6 = 0
          · go_wp2_with fail
            refine (asks_FL _ _ F3.out (by omega)).mono ?_
            rintro e W4 ⟨rfl, hb⟩
            have F4 := Lib.hid (F3.out.later hb)
            have B4 := Lib.hid (B3.out.trans (hb.mono B3.out.size))
            clear hb F3 B3
            go_wp2_with fail
            refine (asks_FL _ _ F4.out (by omega)).mono ?_
            rintro e W5 ⟨rfl, hb⟩
            have B5 := Lib.hid (B4.out.trans (hb.mono B4.out.size))
            clear hb F4 B4
            go_wp2
            go_roundw
            case rel => exact ⟨k + 1, by omega, by go_num, B5⟩
            case measure => simp [intOf]; omega
          · have h6' : ((k : Int) % 6 == 0) = false := by simpa using h6
            go_wp2
            go_roundw
            case rel => exact ⟨k + 1, by omega, by go_num, B3⟩
            case measure => simp [intOf]; omega
    · obtain rfl : k = 240 := by omega
      go_upto_region 22 with (fail)
      exact tail22 w _ hB _ _ _ _ _ _ _ _ _ _ _ _ _ _ _ _ _ _ _ _ _ _ _ _ _ _ _ _ _ _ _ _ _ _ _ _ _ _ _ _ _ _ _ _ _ _ _ _ _ _ _ _ _ _ _ _ _ _ _ _ _ _ _ _ _ _ _ _ _ _ _ _ _ _ _ _ _ _ _ _ _ _ _ _ _ _ _ _ _ _ _ _ _ _ _ _ _ _ _ _ _ _ _ _ _ _ _ _ _ _ _ _ _ _ _ _ _ _ _ _ _ _ _ _ _ _ _ _ _ _ _ _ _ _ _ _ _ _ _ _ _ _ _ _ _ _ _ _ _ _ _ _ _ _ _ _ _ _ _ _ _ _ _ _ _ _ _ _ _ _ _ _ _ _ _ _ _ _ _ _ _ _ _ _ _ _ _ _ _ _ _ _ _ _ _ _ _ _ _ _ _ _ _ _ _ _ _ _ _ _ _ _ _ _ _ _ _ _ _ _ _ _ _ _ _ _ _ _ _ _ _ _ _ _ _ _ _ _ _ _ _ _ _ _ _ _ _ _ _ _ _ _ _ _ _ _ _ _ _ _ _ _ _ _ _ _ _ _ _ _ _ _ _ _ _ _ _ _ _ _ _ _ _ _ (by assumption)

end Go.Proofs.YtbpoedopdnjffaaGreat
