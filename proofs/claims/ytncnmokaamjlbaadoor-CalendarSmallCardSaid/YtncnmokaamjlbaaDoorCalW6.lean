/- The walk of numbers, as Parse calls it. -/
import Derived.Test.YtncnmokaamjlbaaDoorCalW5
import Derived.RegionTactic
import Derived.ChangeAlike
import Derived.BigRegion
namespace Go.Proofs.YtncnmokaamjlbaaDoor
open Go.RowKit

/-- The number that digits spell. -/
def numL (l : List UInt8) : Int := l.foldl (fun n c => 10 * n + ((c.toNat : Int) - 48)) 0
def isDg (c : UInt8) : Bool := decide (48 ≤ (c.toNat : Int)) && decide ((c.toNat : Int) ≤ 57)
def allD (l : List UInt8) : Bool := l.all isDg

theorem numL_snoc (l : List UInt8) (c : UInt8) : numL (l ++ [c]) = 10 * numL l + ((c.toNat : Int) - 48) := by
  unfold numL; rw [List.foldl_append]; rfl
theorem allD_snoc (l : List UInt8) (c : UInt8) : allD (l ++ [c]) = (allD l && isDg c) := by
  unfold allD; simp
theorem take_snoc (s : ByteArray) (k : Nat) (h : k < s.size) : s.data.toList.take (k + 1) = s.data.toList.take k ++ [s[k]] := by
  rw [List.take_succ_eq_append_getElem (by simpa using h)]; rfl
theorem isDg_iff (c : UInt8) : isDg c = true ↔ 48 ≤ (c.toNat : Int) ∧ (c.toNat : Int) ≤ 57 := by unfold isDg; simp

theorem numL_take_bd (s : ByteArray) (k : Nat) (hk : k ≤ s.size) (h : allD (s.data.toList.take k) = true) : 0 ≤ numL (s.data.toList.take k) ∧ numL (s.data.toList.take k) < 10 ^ k := by
  induction k with
  | zero => simp [numL]
  | succ k ih =>
    rw [take_snoc s k hk] at h ⊢
    rw [allD_snoc, Bool.and_eq_true, isDg_iff] at h
    have := ih (by omega) h.1
    rw [numL_snoc, Int.pow_succ]
    omega

theorem numL_small (s : ByteArray) (k : Nat) (hk : k ≤ s.size) (h4 : k ≤ 4) (h : allD (s.data.toList.take k) = true) : 0 ≤ numL (s.data.toList.take k) ∧ numL (s.data.toList.take k) ≤ 9999 := by
  have h1 := numL_take_bd s k hk h
  have h2 : (10 : Int) ^ k ≤ 10000 := by
    have : k = 0 ∨ k = 1 ∨ k = 2 ∨ k = 3 ∨ k = 4 := by omega
    rcases this with rfl | rfl | rfl | rfl | rfl <;> decide
  omega

/-- A byte that is no digit stands at place k. -/
theorem allD_false (s : ByteArray) (k : Nat) (hk : k < s.size) (h : isDg s[k] = false) : allD s.data.toList = false := by
  unfold allD
  rw [List.all_eq_false]
  exact ⟨s[k], Array.mem_toList_iff.2 (Array.getElem_mem hk), by rw [h]; decide⟩

theorem take_all (s : ByteArray) : s.data.toList.take s.size = s.data.toList :=
  List.take_of_length_le (Nat.le_of_eq (Array.length_toList (xs := s.data)))

theorem set0 (w : World) (a b c v : Value) (T : TypeId) (k : Nat) : ((w.alloc (.cells #[a, b, c] T)).drewN k).setCell ⟨w.heap.size, 0, none⟩ v = (w.alloc (.cells #[v, b, c] T)).drewN k := by
  show ((w.alloc (.cells #[a, b, c] T)).setCell ⟨w.heap.size, 0, none⟩ v).drewN k = _
  rw [World.setCell_alloc_at _ _ _ _ _ rfl]; rfl
theorem set1 (w : World) (a b c v : Value) (T : TypeId) (k : Nat) : ((w.alloc (.cells #[a, b, c] T)).drewN k).setCell ⟨w.heap.size, 1, none⟩ v = (w.alloc (.cells #[a, v, c] T)).drewN k := by
  show ((w.alloc (.cells #[a, b, c] T)).setCell ⟨w.heap.size, 1, none⟩ v).drewN k = _
  rw [World.setCell_alloc_at _ _ _ _ _ rfl]; rfl
theorem set2 (w : World) (a b c v : Value) (T : TypeId) (k : Nat) : ((w.alloc (.cells #[a, b, c] T)).drewN k).setCell ⟨w.heap.size, 2, none⟩ v = (w.alloc (.cells #[a, b, v] T)).drewN k := by
  show ((w.alloc (.cells #[a, b, c] T)).setCell ⟨w.heap.size, 2, none⟩ v).drewN k = _
  rw [World.setCell_alloc_at _ _ _ _ _ rfl]; rfl

set_option maxHeartbeats 4000000 in
set_option maxRecDepth 100000 in
theorem numbers_any (s0 s1 s2 : ByteArray) (B : Nat) (w : World) (hB : B < w.heap.size)
    (h0 : s0.size ≤ 4) (h1 : s1.size ≤ 4) (h2 : s2.size ≤ 4)
    (hc0 : w.cell? ⟨B, 0, none⟩ = some (.string s0)) (hc1 : w.cell? ⟨B, 1, none⟩ = some (.string s1)) (hc2 : w.cell? ⟨B, 2, none⟩ = some (.string s2)) :
    Calls Tryd.prog 47 #[.slice (some ⟨B, 0, none⟩) 3 3] w fun e w' =>
      ((allD s0.data.toList && allD s1.data.toList && allD s2.data.toList) = true ∧ e = .returned (.tuple #[.slice (some ⟨w.heap.size, 0, none⟩) 3 3, .bool true]) ∧ ∃ k, w' = (w.alloc (.cells #[.int .i64 (numL s0.data.toList), .int .i64 (numL s1.data.toList), .int .i64 (numL s2.data.toList)] 3)).drewN k) ∨
      ((allD s0.data.toList && allD s1.data.toList && allD s2.data.toList) = false ∧ e = .returned (.tuple #[.slice none 0 0, .bool false]) ∧ Below w.heap.size w w') := by
  have hmk : ∀ w : World, (Instr.makeSlice 38 (.int .i64 3) (.int .i64 3)).run Tryd.prog w = .ok (.slice (some ⟨w.heap.size, 0, none⟩) 3 3) (w.alloc (.cells #[.int .i64 0, .int .i64 0, .int .i64 0] 3)) := fun _ => by kernel_rfl
  go_enter Tryd.func47, Tryd.ntmps47
  go_wp2
  clear hmk
  refine wp_loop_rounds 4 ?_
  rw [rounds_succ]
  go_wp2
  go_loopw [20] (fun u wr => ∃ (j k : Nat), j ≤ s0.size ∧ u = .int .i64 j ∧ Hid (allD (s0.data.toList.take j) = true) ∧ wr = (w.alloc (.cells #[.int .i64 (numL (s0.data.toList.take j)), .int .i64 0, .int .i64 0] 3)).drewN k) (fun u _ => 10 - (intOf u).toNat)
  case atStart => exact ⟨0, 0, by omega, rfl, rfl, rfl⟩
  case round =>
    obtain ⟨j, k0, hj, rfl, ha0, rfl⟩ := hrel
    have hb := numL_small s0 j hj (by omega) ha0.out
    by_cases hlt : j < s0.size
    · have hts := Lib.hid (take_snoc s0 j hlt)
      by_cases hd : 48 ≤ (s0[j].toNat : Int) ∧ (s0[j].toNat : Int) ≤ 57
      · obtain ⟨hd1, hd2⟩ := hd
        have hn := Lib.hid (show numL (s0.data.toList.take (j + 1)) = 10 * numL (s0.data.toList.take j) + ((s0[j].toNat : Int) - 48) by rw [hts.out, numL_snoc])
        have ha' := Lib.hid (show allD (s0.data.toList.take (j + 1)) = true by rw [hts.out, allD_snoc, ha0.out, (isDg_iff _).2 ⟨hd1, hd2⟩]; rfl)
        go_wp2
        go_region
        rw [set0]
        go_wp2
        go_roundw
        case rel => exact ⟨j + 1, k0 + 1, by omega, by go_num, ha', by rw [hn.out]⟩
        case measure => simp [intOf]; omega
      · have hf := Lib.hid (allD_false s0 j hlt (by rw [← Bool.not_eq_true, isDg_iff]; exact hd))
        have hd' : (s0[j].toNat : Int) < 48 ∨ (48 ≤ (s0[j].toNat : Int) ∧ 57 < (s0[j].toNat : Int)) := by omega
        clear hd
        rcases hd' with hd' | ⟨hd1, hd2⟩
        all_goals
          go_wp2
          go_ret2
          exact .inr ⟨by rw [hf.out]; rfl, rfl, below_drewN ((Below.refl _ _).alloc (Nat.le_refl _) _) _⟩
    · obtain rfl : j = s0.size := by omega
      rw [take_all]
      rw [take_all] at ha0
      clear hb hlt hj
      go_wp2
      rw [rounds_succ]
      go_wp2
      go_loopw [20] (fun u wr => ∃ (j k : Nat), j ≤ s1.size ∧ u = .int .i64 j ∧ Hid (allD (s1.data.toList.take j) = true) ∧ wr = (w.alloc (.cells #[.int .i64 (numL s0.data.toList), .int .i64 (numL (s1.data.toList.take j)), .int .i64 0] 3)).drewN k) (fun u _ => 10 - (intOf u).toNat)
      case atStart => exact ⟨0, k0, by omega, rfl, rfl, rfl⟩
      case round =>
        obtain ⟨j, k1, hj, rfl, ha1, rfl⟩ := hrel
        have hb := numL_small s1 j hj (by omega) ha1.out
        by_cases hlt : j < s1.size
        · have hts := Lib.hid (take_snoc s1 j hlt)
          by_cases hd : 48 ≤ (s1[j].toNat : Int) ∧ (s1[j].toNat : Int) ≤ 57
          · obtain ⟨hd1, hd2⟩ := hd
            have hn := Lib.hid (show numL (s1.data.toList.take (j + 1)) = 10 * numL (s1.data.toList.take j) + ((s1[j].toNat : Int) - 48) by rw [hts.out, numL_snoc])
            have ha' := Lib.hid (show allD (s1.data.toList.take (j + 1)) = true by rw [hts.out, allD_snoc, ha1.out, (isDg_iff _).2 ⟨hd1, hd2⟩]; rfl)
            go_wp2
            go_region
            rw [set1]
            go_wp2
            go_roundw
            case rel => exact ⟨j + 1, k1 + 1, by omega, by go_num, ha', by rw [hn.out]⟩
            case measure => simp [intOf]; omega
          · have hf := Lib.hid (allD_false s1 j hlt (by rw [← Bool.not_eq_true, isDg_iff]; exact hd))
            have hd' : (s1[j].toNat : Int) < 48 ∨ (48 ≤ (s1[j].toNat : Int) ∧ 57 < (s1[j].toNat : Int)) := by omega
            clear hd
            rcases hd' with hd' | ⟨hd1, hd2⟩
            all_goals
              go_wp2
              go_ret2
              exact .inr ⟨by rw [hf.out, Bool.and_false]; rfl, rfl, below_drewN ((Below.refl _ _).alloc (Nat.le_refl _) _) _⟩
        · obtain rfl : j = s1.size := by omega
          rw [take_all]
          rw [take_all] at ha1
          clear hb hlt hj
          go_wp2
          rw [rounds_succ]
          go_wp2
          go_loopw [20] (fun u wr => ∃ (j k : Nat), j ≤ s2.size ∧ u = .int .i64 j ∧ Hid (allD (s2.data.toList.take j) = true) ∧ wr = (w.alloc (.cells #[.int .i64 (numL s0.data.toList), .int .i64 (numL s1.data.toList), .int .i64 (numL (s2.data.toList.take j))] 3)).drewN k) (fun u _ => 10 - (intOf u).toNat)
          case atStart => exact ⟨0, k1, by omega, rfl, rfl, rfl⟩
          case round =>
            obtain ⟨j, k2, hj, rfl, ha2, rfl⟩ := hrel
            have hb := numL_small s2 j hj (by omega) ha2.out
            by_cases hlt : j < s2.size
            · have hts := Lib.hid (take_snoc s2 j hlt)
              by_cases hd : 48 ≤ (s2[j].toNat : Int) ∧ (s2[j].toNat : Int) ≤ 57
              · obtain ⟨hd1, hd2⟩ := hd
                have hn := Lib.hid (show numL (s2.data.toList.take (j + 1)) = 10 * numL (s2.data.toList.take j) + ((s2[j].toNat : Int) - 48) by rw [hts.out, numL_snoc])
                have ha' := Lib.hid (show allD (s2.data.toList.take (j + 1)) = true by rw [hts.out, allD_snoc, ha2.out, (isDg_iff _).2 ⟨hd1, hd2⟩]; rfl)
                go_wp2
                go_region
                rw [set2]
                go_wp2
                go_roundw
                case rel => exact ⟨j + 1, k2 + 1, by omega, by go_num, ha', by rw [hn.out]⟩
                case measure => simp [intOf]; omega
              · have hf := Lib.hid (allD_false s2 j hlt (by rw [← Bool.not_eq_true, isDg_iff]; exact hd))
                have hd' : (s2[j].toNat : Int) < 48 ∨ (48 ≤ (s2[j].toNat : Int) ∧ 57 < (s2[j].toNat : Int)) := by omega
                clear hd
                rcases hd' with hd' | ⟨hd1, hd2⟩
                all_goals
                  go_wp2
                  go_ret2
                  exact .inr ⟨by rw [hf.out, Bool.and_false], rfl, below_drewN ((Below.refl _ _).alloc (Nat.le_refl _) _) _⟩
            · obtain rfl : j = s2.size := by omega
              rw [take_all]
              rw [take_all] at ha2
              clear hb hlt hj
              go_wp2
              rw [rounds_succ]
              go_wp2
              go_ret2
              exact .inl ⟨by rw [ha0.out, ha1.out, ha2.out]; rfl, rfl, k2, rfl⟩

end Go.Proofs.YtncnmokaamjlbaaDoor
