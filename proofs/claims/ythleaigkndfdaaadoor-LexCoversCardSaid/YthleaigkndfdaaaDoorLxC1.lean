/- The walk of empty. -/
import Derived.Test.YthleaigkndfdaaaDoorLxL3
import Derived.Test.YthleaigkndfdaaaDoorLxPlain5
namespace Go.Proofs.YthleaigkndfdaaaDoor
open Go.RowKit Go.Shelf

theorem ls_drop (s : ByteArray) (k : Nat) (h : k < s.size) : (ls s).drop k = s[k] :: (ls s).drop (k + 1) := by
  rw [List.drop_eq_getElem_cons (by rw [ls_len]; exact h)]; rfl
theorem ls_drop_all (s : ByteArray) : (ls s).drop s.size = [] := List.drop_of_length_le (by rw [ls_len]; exact Nat.le_refl _)

set_option maxHeartbeats 2000000 in
set_option maxRecDepth 100000 in
theorem empty_any (s : ByteArray) (w : World) (hs : s.size ≤ 100000) (h : Lx.emp (ls s) = true) :
    Calls Tryd.prog 20 #[.string s] w fun e w' => e = .returned (.bool true) ∧ w' = w := by
  go_enter Tryd.func20, Tryd.ntmps20
  go_wp2
  go_loop [3] (fun i => ∃ k : Nat, k ≤ s.size + 1 ∧ i = .int .i64 k ∧ Hid (∃ b, Lx.run false ((ls s).drop k) = some b)) (fun i => s.size + 1 - (intOf i).toNat)
  case atStart =>
    refine ⟨0, by omega, rfl, Lib.hid ?_⟩
    unfold Lx.emp at h
    exact Option.isSome_iff_exists.1 h
  case round =>
    obtain ⟨k, hk, rfl, hI⟩ := hrel
    by_cases hlt : k < s.size
    · have hd := ls_drop s k hlt
      by_cases h35 : s[k] = 35
      · have e35 : ((s[k].toNat : Int) == 35) = true := by rw [h35]; rfl
        have hI2 : Hid (∃ b, Lx.run true ((ls s).drop k) = some b) := by
          refine Lib.hid ?_
          obtain ⟨b, hb⟩ := hI.out
          rw [hd, h35, Lx.run_f, if_pos rfl] at hb
          exact ⟨b, by rw [hd, h35, Lx.run_t, if_neg (by decide)]; exact hb⟩
        clear hd h35 hI
        go_wp2
        go_loop [3] (fun i => ∃ j : Nat, k ≤ j ∧ j ≤ s.size ∧ i = .int .i64 j ∧ Hid (∃ b, Lx.run true ((ls s).drop j) = some b)) (fun i => s.size - (intOf i).toNat)
        case atStart => exact ⟨k, by omega, by omega, rfl, hI2⟩
        case round =>
          obtain ⟨j, hkj, hj, rfl, hJ⟩ := hrel
          by_cases hlt2 : j < s.size
          · have hd := ls_drop s j hlt2
            by_cases h10 : s[j] = 10
            · have e10 : ((s[j].toNat : Int) != 10) = false := by rw [h10]; rfl
              have hN : Hid (∃ b, Lx.run false ((ls s).drop (j + 1)) = some b) := by
                refine Lib.hid ?_
                obtain ⟨b, hb⟩ := hJ.out
                rw [hd, h10, Lx.run_t, if_pos rfl] at hb
                exact ⟨b, hb⟩
              clear hd h10
              go_wp2
              go_round
              case rel => exact ⟨j + 1, by omega, by go_num, hN⟩
              case measure => simp [intOf]; omega
            · have e10 : ((s[j].toNat : Int) != 10) = true := bne_iff_ne.2 (fun h => h10 (UInt8.toNat_inj.1 (Int.ofNat_inj.1 h)))
              have hN : Hid (∃ b, Lx.run true ((ls s).drop (j + 1)) = some b) := by
                refine Lib.hid ?_
                obtain ⟨b, hb⟩ := hJ.out
                rw [hd, Lx.run_t, if_neg h10] at hb
                exact ⟨b, hb⟩
              clear hd h10
              go_wp2
              go_round
              case rel => exact ⟨j + 1, by omega, by omega, by go_num, hN⟩
              case measure => simp [intOf]; omega
          · obtain rfl : j = s.size := by omega
            go_wp2
            go_round
            case rel => exact ⟨s.size + 1, by omega, by go_num, Lib.hid ⟨false, by rw [List.drop_of_length_le (by rw [ls_len]; omega)]; rfl⟩⟩
            case measure => simp [intOf]; omega
      · have e35 : ((s[k].toNat : Int) == 35) = false := beq_eq_false_iff_ne.2 (fun h => h35 (UInt8.toNat_inj.1 (Int.ofNat_inj.1 h)))
        have hb3 : (s[k] = 32 ∨ s[k] = 9 ∨ s[k] = 10) ∧ Hid (∃ b, Lx.run false ((ls s).drop (k + 1)) = some b) := by
          obtain ⟨b, hb⟩ := hI.out
          rw [hd, Lx.run_f, if_neg h35] at hb
          by_cases h3 : s[k] = 32 ∨ s[k] = 9 ∨ s[k] = 10
          · rw [if_pos h3] at hb; exact ⟨h3, Lib.hid ⟨b, hb⟩⟩
          · rw [if_neg h3] at hb; cases hb
        obtain ⟨h3, hN⟩ := hb3
        clear hd h35 hI
        have hmark : (((s[k].toNat : Int) != 32) = false) ∨ (((s[k].toNat : Int) != 32) = true ∧ ((s[k].toNat : Int) != 9) = false) ∨ (((s[k].toNat : Int) != 32) = true ∧ ((s[k].toNat : Int) != 9) = true ∧ ((s[k].toNat : Int) != 10) = false) := by
          rcases h3 with h3 | h3 | h3
          · exact .inl (by rw [h3]; rfl)
          · exact .inr (.inl ⟨by rw [h3]; rfl, by rw [h3]; rfl⟩)
          · exact .inr (.inr ⟨by rw [h3]; rfl, by rw [h3]; rfl, by rw [h3]; rfl⟩)
        clear h3
        rcases hmark with h1 | ⟨h1, h2⟩ | ⟨h1, h2, h3⟩
        all_goals
          go_wp2
          go_round
          case rel => exact ⟨k + 1, by omega, by go_num, hN⟩
          case measure => simp [intOf]; omega
    · go_wp2
      go_ret
      exact ⟨rfl, rfl⟩

end Go.Proofs.YthleaigkndfdaaaDoor
