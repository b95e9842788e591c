/- The walks of the calendar's innermost functions: Leap, Len, leaps, start. -/
import Derived.Test.YthleaigkndfdaaaDoorProg
import Derived.Test.YthleaigkndfdaaaDoorCalPlain
import Derived.WalkKit
import Derived.WalkSpells
import Derived.WalkLawsBesides
import Derived.Handy
import Derived.Deep.QuietTactic
import Derived.BigQuiet
import Derived.Lib.Hide
namespace Go.Proofs.YthleaigkndfdaaaDoor
open Go.RowKit

/-- The table of the lengths of months lies as its initialiser lays it. -/
def Lens (w : World) : Prop := 1 < w.heap.size ∧ ∀ i : Nat, i < 12 → w.cell? ⟨1, i, none⟩ = some (.int .i64 (Cal.tab (i + 1)))

theorem ret_int {k : IntKind} {a b : Int} (h : a = b) : Ending.returned (.int k a) = .returned (.int k b) := by rw [h]
theorem ret_bool {a b : Bool} (h : a = b) : Ending.returned (.bool a) = .returned (.bool b) := by rw [h]

theorem Lens.below {w w' : World} (h : Lens w) (hb : Below w.heap.size w w') : Lens w' := by
  refine ⟨Nat.lt_of_lt_of_le h.1 hb.size, fun i hi => ?_⟩
  rw [hb.cell (p := ⟨1, i, none⟩) h.1]
  exact h.2 i hi

set_option maxHeartbeats 400000 in
theorem leap_any (y : Int) (w : World) :
    Calls Tryd.prog 77 #[.int .i64 y] w fun e w' => e = .returned (.bool (Cal.leap y)) ∧ w = w' := by
  by_cases h4 : (y.tmod 4 == 0) = true
  · by_cases h100 : (y.tmod 100 != 0) = true
    · have hfin := Lib.hid (show Cal.leap y = true by unfold Cal.leap; rw [h4, h100]; rfl)
      go_enter Tryd.func77, Tryd.ntmps77
      go_wp2
      go_ret
      exact ⟨by rw [hfin.out]; rfl, rfl⟩
    · have h100' : (y.tmod 100 != 0) = false := by simpa using h100
      clear h100
      have hfin := Lib.hid (show Cal.leap y = (y.tmod 400 == 0) by unfold Cal.leap; rw [h4, h100']; simp)
      go_enter Tryd.func77, Tryd.ntmps77
      go_wp2
      go_ret
      exact ⟨by rw [hfin.out]; rfl, rfl⟩
  · have h4' : (y.tmod 4 == 0) = false := by simpa using h4
    clear h4
    have hfin := Lib.hid (show Cal.leap y = false by unfold Cal.leap; rw [h4']; rfl)
    go_enter Tryd.func77, Tryd.ntmps77
    go_wp2
    go_ret
    exact ⟨by rw [hfin.out]; rfl, rfl⟩

set_option maxHeartbeats 400000 in
theorem leaps_any (y : Int) (w : World) (h0 : 0 ≤ y) (h1 : y ≤ 1000000) :
    Calls Tryd.prog 78 #[.int .i64 y] w fun e w' => e = .returned (.int .i64 (Cal.lps y)) ∧ w = w' := by
  go_enter Tryd.func78, Tryd.ntmps78
  go_wp2
  go_ret
  exact ⟨rfl, rfl⟩

set_option maxHeartbeats 400000 in
theorem len_any (y m : Int) (w : World) (hL : Lens w) :
    Calls Tryd.prog 74 #[.int .i64 y, .int .i64 m] w fun e w' => e = .returned (.int .i64 (Cal.lenI y m)) ∧ w = w' := by
  obtain ⟨hL0, hL1⟩ := hL
  by_cases h1 : m < 1
  · have hfin := Lib.hid (Cal.len_out y m (.inl h1))
    clear hL1
    go_enter Tryd.func74, Tryd.ntmps74
    go_wp2
    go_ret
    exact ⟨by rw [hfin.out]; rfl, rfl⟩
  by_cases h2 : 12 < m
  · have hfin := Lib.hid (Cal.len_out y m (.inr h2))
    clear hL1
    go_enter Tryd.func74, Tryd.ntmps74
    go_wp2
    go_ret
    exact ⟨by rw [hfin.out]; rfl, rfl⟩
  have hc := hL1 (m.toNat - 1) (by omega)
  have e1 : ((m.toNat - 1 : Nat) : Int) + 1 = m := by omega
  rw [e1] at hc
  clear hL1 e1
  by_cases hm : (m == 2) = true
  · by_cases hl : Cal.leap y = true
    · have hfin := Lib.hid (show Cal.lenI y m = 29 by unfold Cal.lenI; rw [if_neg (by omega), if_pos ⟨by simpa using hm, hl⟩])
      have Hl := Lib.hid hl; clear hl
      go_enter Tryd.func74, Tryd.ntmps74
      go_wp2_with (go_at_call 77; refine (leap_any _ _).mono ?_; rintro e w' ⟨rfl, rfl⟩; rw [Hl.out])
      go_ret
      exact ⟨by rw [hfin.out]; rfl, rfl⟩
    · have hl' : Cal.leap y = false := by simpa using hl
      clear hl
      have hfin := Lib.hid (show Cal.lenI y m = Cal.tab m by unfold Cal.lenI; rw [if_neg (by omega), if_neg (by rw [hl']; simp)])
      have Hl := Lib.hid hl'; clear hl'
      go_enter Tryd.func74, Tryd.ntmps74
      go_wp2_with (go_at_call 77; refine (leap_any _ _).mono ?_; rintro e w' ⟨rfl, rfl⟩; rw [Hl.out])
      go_ret
      exact ⟨by rw [hfin.out]; rfl, rfl⟩
  · have hm' : (m == 2) = false := by simpa using hm
    clear hm
    have hfin := Lib.hid (show Cal.lenI y m = Cal.tab m by unfold Cal.lenI; rw [if_neg (by omega), if_neg (by simp at hm'; omega)])
    go_enter Tryd.func74, Tryd.ntmps74
    go_wp2
    go_ret
    exact ⟨by rw [hfin.out]; rfl, rfl⟩

theorem lps_bd (y : Int) (h0 : 0 ≤ y) (h1 : y ≤ 1000000) : 0 ≤ Cal.lps y ∧ Cal.lps y ≤ 500000 := by unfold Cal.lps; omega

theorem cum_bd (y : Int) (k : Nat) (h : k ≤ 12) : 0 ≤ Cal.cum y k ∧ Cal.cum y k ≤ 372 := by have := Cal.cum_le y k; omega

theorem st_is (n : Nat) : 365 * (1900 + (n : Int) / 12 - 1900) + Cal.lps (1900 + (n : Int) / 12 - 1) - Cal.lps 1899 + Cal.cum (1900 + (n : Int) / 12) (n % 12) = Cal.st n := by
  unfold Cal.st Cal.yr
  have : ((n / 12 : Nat) : Int) = (n : Int) / 12 := by omega
  rw [this]; omega

set_option maxHeartbeats 400000 in
theorem start_any (n : Int) (w : World) (hL : Lens w) (h0 : 0 ≤ n) (h1 : n ≤ 2200) :
    Calls Tryd.prog 75 #[.int .i64 n] w fun e w' => e = .returned (.int .i64 (Cal.st n.toNat)) ∧ w = w' := by
  obtain ⟨n, rfl⟩ := Int.eq_ofNat_of_zero_le h0
  have HL := Lib.hid hL; clear hL
  have b1 := lps_bd (1900 + (n : Int) / 12 - 1) (by omega) (by omega)
  have b2 := lps_bd 1899 (by omega) (by omega)
  go_enter Tryd.func75, Tryd.ntmps75
  go_wp2_with (go_at_call 78; refine (leaps_any _ _ (by omega) (by omega)).mono ?_; rintro e w' ⟨rfl, rfl⟩)
  go_loop [4, 5] (fun d i => ∃ k : Nat, k ≤ n % 12 ∧ i = .int .i64 (↑k + 1) ∧ d = .int .i64 (365 * (1900 + (n : Int) / 12 - 1900) + Cal.lps (1900 + (n : Int) / 12 - 1) - Cal.lps 1899 + Cal.cum (1900 + (n : Int) / 12) k)) (fun _ i => 13 - (intOf i).toNat)
  case atStart => exact ⟨0, Nat.zero_le _, rfl, by simp [Cal.cum]⟩
  case round =>
    obtain ⟨k, hk, rfl, rfl⟩ := hrel
    have b3 := cum_bd (1900 + (n : Int) / 12) k (by omega)
    have b4 := Cal.len_le (1900 + (n : Int) / 12) (k + 1)
    by_cases hlt : k < n % 12
    · go_wp2_with (go_at_call 74; refine (len_any _ _ _ HL.out).mono ?_; rintro e w' ⟨rfl, rfl⟩)
      go_round
      case rel => exact ⟨k + 1, by omega, by go_num, by simp only [Cal.cum]; go_num⟩
      case measure => simp [intOf]; omega
    · go_wp2
      go_ret
      obtain rfl : k = n % 12 := by omega
      exact ⟨ret_int (st_is n), rfl⟩

end Go.Proofs.YthleaigkndfdaaaDoor
