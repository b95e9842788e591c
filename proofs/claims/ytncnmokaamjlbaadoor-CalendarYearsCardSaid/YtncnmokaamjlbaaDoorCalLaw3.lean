/- The walks of the laws CalendarYears and CalendarLater. -/
import Derived.Test.YtncnmokaamjlbaaDoorCalLaw2
namespace Go.Proofs.YtncnmokaamjlbaaDoor
open Go.RowKit

def cnt (f : Int) (k : Nat) : Int := Cal.lps (f + k - 1) - Cal.lps (f - 1)
theorem cnt_zero (f : Int) : cnt f 0 = 0 := by unfold cnt; rw [show f + ((0 : Nat) : Int) - 1 = f - 1 by omega]; omega
theorem cnt_succ (f : Int) (k : Nat) : cnt f (k + 1) = cnt f k + if Cal.leap (f + k) = true then 1 else 0 := by
  have := Cal.lps_succ_all (f + k - 1)
  rw [show f + (k : Int) - 1 + 1 = f + k by omega] at this
  unfold cnt
  rw [show f + ((k + 1 : Nat) : Int) - 1 = f + k by omega, this]; omega
theorem cnt_bd (f : Int) (k : Nat) (h : k ≤ 400) : 0 ≤ cnt f k ∧ cnt f k ≤ 200 := by unfold cnt Cal.lps; omega
theorem cnt_all (f : Int) : cnt f 400 = 97 := by
  have := Cal.lps_400 (f - 1)
  unfold cnt; rw [show f + ((400 : Nat) : Int) - 1 = f - 1 + 400 by omega, this]; omega

def dsum (y : Int) : Nat → Int
  | 0 => 0
  | j + 1 => dsum y j + Cal.lenI y j
theorem dsum_bd (y : Int) (j : Nat) (h : j ≤ 14) : 0 ≤ dsum y j ∧ dsum y j ≤ 434 := by
  have : ∀ j : Nat, 0 ≤ dsum y j ∧ dsum y j ≤ 31 * j := by
    intro j
    induction j with
    | zero => simp [dsum]
    | succ j ih => have := Cal.len_le y j; simp only [dsum]; omega
  have := this j; omega
theorem dsum_14 (y : Int) : dsum y 14 = 365 + if Cal.leap y = true then 1 else 0 := by
  simp only [dsum]
  by_cases h : Cal.leap y = true <;> simp [Cal.lenI, Cal.tab, h]

theorem leap_four (y : Int) (h : Cal.leap y = true) : (y.tmod 4 != 0) = false ∧ (y % 4 != 0) = false := by
  have h1 := (Cal.leap_all y).1 h
  have h2 : y.tmod 4 = 0 := Int.tmod_eq_zero_of_dvd (Int.dvd_of_emod_eq_zero h1.1)
  rw [h2, h1.1]; exact ⟨rfl, rfl⟩

set_option maxHeartbeats 2000000 in
set_option maxRecDepth 100000 in
theorem years_law (x : Int) (w : World) (hL : Lens w) :
    Calls Tryd.prog 7 #[.int .i64 x] w fun e w' => e = .returned (.bool true) ∧ Below w.heap.size w w' := by
  have HL := Lib.hid hL; clear hL
  go_enter Tryd.func7, Tryd.ntmps7
  go_wp2_with fail
  refine (awake_any _ HL.out).mono ?_; rintro e w1 ⟨rfl, hb1⟩; have HL1 := Lib.hid (HL.out.below hb1)
  go_wp2_with fail
  refine (pick_any _ _ _ (by omega) (by omega)).mono ?_; rintro e w' ⟨rfl, rfl⟩
  have hx1 := Int.emod_nonneg x (show (200001 : Int) ≠ 0 by decide)
  have hx2 := Int.emod_lt_of_pos x (show (0 : Int) < 200001 by decide)
  generalize x % 200001 = z at *
  go_wp2_with fail
  obtain ⟨f, hf⟩ : ∃ f, f = z - 100000 := ⟨_, rfl⟩
  have hf1 : -100000 ≤ f ∧ f ≤ 100000 := by omega
  rw [← hf]
  clear hf
  have Hc := Lib.hid (cnt_all f)
  go_loop [3, 4] (fun l y => ∃ k : Nat, k ≤ 400 ∧ y = .int .i64 (f + k) ∧ l = .int .i64 (cnt f k)) (fun _ y => (1000000 - intOf y).toNat)
  case atStart => exact ⟨0, by omega, by go_num, by rw [cnt_zero]⟩
  case round =>
    obtain ⟨k, hk, rfl, rfl⟩ := hrel
    have hcb := cnt_bd f k hk
    by_cases hlt : k < 400
    · have hsum := Lib.hid (dsum_14 (f + k))
      have hcs := Lib.hid (cnt_succ f k)
      have h400 := Lib.hid (Cal.leap_400 (f + k))
      go_wp2_with fail
      go_loop [5, 6] (fun t m => ∃ j : Nat, j ≤ 14 ∧ m = .int .i64 j ∧ t = .int .i64 (dsum (f + k) j)) (fun _ m => 15 - (intOf m).toNat)
      case atStart => exact ⟨0, by omega, rfl, rfl⟩
      case round =>
        obtain ⟨j, hj, rfl, rfl⟩ := hrel
        have hdb := dsum_bd (f + k) j hj
        have hlen := Cal.len_le (f + k) j
        by_cases hlt2 : j < 14
        · go_wp2_with (go_at_call 19; refine (len_any _ _ _ HL1.out).mono ?_; rintro e w' ⟨rfl, rfl⟩)
          go_round
          case rel => exact ⟨j + 1, by omega, by go_num, by simp only [dsum]⟩
          case measure => simp [intOf]; omega
        · obtain rfl : j = 14 := by omega
          by_cases hl : Cal.leap (f + k) = true
          · have h4 := leap_four _ hl
            obtain ⟨h4a, h4b⟩ := h4
            have hs := hsum.out
            rw [if_pos hl] at hs
            rw [hs]
            have Hl := Lib.hid hl
            have hc' := hcs.out
            rw [if_pos hl] at hc'
            have Hc' := Lib.hid hc'
            have H4 := Lib.hid (h400.out.trans hl)
            clear hs hl hc' hdb hlen hlt2 hj
            go_wp2_with (go_at_call 17; refine (leap_any _ _).mono ?_; rintro e w' ⟨rfl, rfl⟩; (first | rw [Hl.out] | rw [H4.out]))
            all_goals
              go_round
              case rel => exact ⟨k + 1, by omega, by go_num, by rw [Hc'.out]⟩
              case measure => simp [intOf]; omega
          · have hl' : Cal.leap (f + k) = false := by simpa using hl
            have hs := hsum.out
            rw [if_neg hl] at hs
            rw [hs]
            have Hl := Lib.hid hl'
            have hc' := hcs.out
            rw [if_neg hl] at hc'
            have Hc' := Lib.hid hc'
            have H4 := Lib.hid (h400.out.trans hl')
            clear hs hl hl' hc' hdb hlen hlt2 hj
            go_wp2_with (go_at_call 17; refine (leap_any _ _).mono ?_; rintro e w' ⟨rfl, rfl⟩; (first | rw [Hl.out] | rw [H4.out]))
            all_goals
              go_round
              case rel => exact ⟨k + 1, by omega, by go_num, by rw [Hc'.out, Int.add_zero]⟩
              case measure => simp [intOf]; omega
    · obtain rfl : k = 400 := by omega
      rw [Hc.out]
      clear hcb hlt hk
      go_wp2
      go_ret
      exact ⟨rfl, hb1⟩

end Go.Proofs.YtncnmokaamjlbaaDoor
