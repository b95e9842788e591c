/- to, Built. -/
import Derived.Test.YtgpbdocgnfjckaaSpW8
import Derived.Laws.Rows
namespace Go.Proofs.Ytgpbdocgnfjckaa
open Go.RowKit Go.Shelf Sp

set_option maxHeartbeats 1000000 in
theorem to_any (a b : Int) (w : World) :
    Calls Try.prog 13 #[.int .i64 a, .int .i64 b] w fun e w' => e = .returned (.agg #[.int .i64 a, .int .i64 b]) ∧ w' = w.alloc (.cells #[.int .i64 a, .int .i64 b] 27) := by
  go_enter Try.func13, Try.ntmps13
  go_wp2
  refine bodyPost_ret (results_cell_row rfl _ _ w.heap.size 27 #[.int .i64 a, .int .i64 b] (0, 0) _ rfl (Boxed2.new w _ _ _) Try.underlying27 rfl (by kernel_rfl)) rfl ?_
  exact ⟨rfl, rfl⟩

/-- A slice of uint16. -/
def Words (w : World) (p : Option Addr) (n : Nat) : Prop := ∀ i, i < n → ∃ b off v, p = some ⟨b, off, none⟩ ∧ b < w.heap.size ∧ w.cell? ⟨b, off + i, none⟩ = some (.int .u16 v) ∧ 0 ≤ v ∧ v < 65536

theorem Words.below {w w' : World} {p : Option Addr} {n : Nat} (h : Words w p n) (hb : Below w.heap.size w w') : Words w' p n := fun i hi => by
  obtain ⟨b, off, v, hp, hl, hc, h0, h1⟩ := h i hi
  exact ⟨b, off, v, hp, Nat.lt_of_lt_of_le hl hb.size, (hb.cell (p := ⟨b, off + i, none⟩) hl).trans hc, h0, h1⟩

set_option maxRecDepth 100000 in
set_option maxHeartbeats 4000000 in
theorem built_any (p : Option Addr) (n cap : Nat) (w : World) (hm : Words w p n) :
    Calls Try.prog 12 #[.slice p n cap] w fun e w' => ∃ v l, e = .returned v ∧ validB l = true ∧ l.length ≤ 60 ∧ Owns w' w.heap.size v l ∧ Below w.heap.size w w' := by
  have HM := Lib.hid hm; clear hm
  obtain ⟨i0, hi0, hz0, hz1, hz2⟩ := info_parts info_span
  go_enter Try.func12, Try.ntmps12
  go_wp2
  go_loopw [3, 4, 5] (fun c t i wr => ∃ (j : Nat) (at' : Int) (set : Sps), j ≤ 60 ∧ i = .int .i64 (2 * j : Nat) ∧ t = .int .i64 at' ∧ set.length ≤ j ∧ (-1 ≤ at' ∧ at' ≤ 65536) ∧ Hid (validFrom (-1) set = true ∧ lastTo (-1) set = at') ∧ Hid (Owns wr w.heap.size c set) ∧ Below w.heap.size w wr) (fun _ _ i _ => 1000 - (intOf i).toNat)
  case atStart => exact ⟨0, -1, [], by omega, rfl, rfl, by simp, by omega, Lib.hid ⟨rfl, rfl⟩, Lib.hid (Owns.nil _ _), Below.refl _ _⟩
  case round =>
    obtain ⟨j, at', set, hj, rfl, rfl, hs, ha, hval, ho, hb⟩ := hrel
    by_cases h1 : 2 * j + 1 < n
    · by_cases h2 : 2 * j < 120
      · obtain ⟨b, off, x, rfl, hbl, c1, x0, x1⟩ := HM.out (2 * j) (by omega)
        obtain ⟨b', off', y, hpe, _, c2, y0, y1⟩ := HM.out (2 * j + 1) h1
        cases hpe
        have d1 := (hb.cell (p := ⟨b, off + 2 * j, none⟩) hbl).trans c1
        have d2 := (hb.cell (p := ⟨b, off + (2 * j + 1), none⟩) hbl).trans c2
        clear c1 c2
        have h2i : (2 : Int) * (j : Int) < 120 := by omega
        have rx : 0 ≤ x % 3000 ∧ x % 3000 < 3000 := by omega
        have ry : 0 ≤ y % 3000 ∧ y % 3000 < 3000 := by omega
        by_cases he : 65536 < at' + 1 + x % 3000 + 1 + y % 3000
        · go_wp2
          go_ret
          exact ⟨_, set, rfl, hval.out.1, by omega, ho.out, hb⟩
        · have O2 := ho
          have hws := hb.size
          have hv2 := Lib.hid (show validFrom (-1) (set ++ [(at' + 1 + x % 3000, at' + 1 + x % 3000 + 1 + y % 3000)]) = true from validFrom_snoc.2 ⟨hval.out.1, by rw [hval.out.2]; dsimp only; omega, by dsimp only; omega, by dsimp only; omega⟩)
          go_wp2_with (first | (at_builtin; refine wpList_append_own _ rfl _ _ 24 rfl w.heap.size 27 i0 (.agg #[.int .i64 0, .int .i64 0]) 2 16 Try.underlying24 hi0 hz0 hz1 hz2 rfl (by decide) _ _ _ rfl ((O2.out.alloc _).alloc _) ⟨wr.heap.size + 1, 0, none⟩ 1 1 [.int .i64 (at' + 1 + x % 3000), .int .i64 (at' + 1 + x % 3000 + 1 + y % 3000)] rfl rfl (cell_two_new _ _ _ _ _ (by simp)) (by simp [Value.oneCell']) (by unfold maxLen; omega) (by omega) (by simp; omega) ?_; intro v' w1 hown' hgrow _; obtain ⟨g', cap', rfl⟩ := ownsRow_succ hown') | (go_at_call 13; refine (to_any _ _ _).mono ?_; rintro e w' ⟨rfl, rfl⟩))
          go_roundw
          case rel => exact ⟨j + 1, _, _, by omega, by go_num, rfl, by simp; omega, by omega, Lib.hid ⟨hv2.out, lastTo_snoc _ _ _⟩, Lib.hid (by show World.ownsRow _ _ _ _ _ _ _; rw [flat_snoc, List.length_append]; exact hown'), Owns.grown (O2.out.alloc _) (Nat.le_refl _) (hb.alloc hws _) (by simp; omega) _ hgrow⟩
          case measure => simp [intOf]; omega
      · go_wp2
        go_ret
        exact ⟨_, set, rfl, hval.out.1, by omega, ho.out, hb⟩
    · go_wp2
      go_ret
      exact ⟨_, rfl, set, hval.out.1, by omega, ho.out, hb⟩

end Go.Proofs.Ytgpbdocgnfjckaa
