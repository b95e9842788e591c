/- days: some set of at most six spans. -/
import Derived.Test.YtgpbdocgnfjckaaGreatSpRf3
import Derived.Test.YtgpbdocgnfjckaaGreatSpLent2
namespace Go.Proofs.YtgpbdocgnfjckaaGreat
open Go.RowKit Go.Shelf Sp

set_option maxHeartbeats 2000000 in
set_option maxRecDepth 100000 in
theorem dayset_any (bits frm : Int) (w : World) (hf : 0 ≤ frm ∧ frm ≤ 65530) :
    Calls Tryz.prog 5 #[.int .i64 bits, .int .i64 frm] w fun e w' => ∃ v l, e = .returned v ∧ l.length ≤ 6 ∧ Owns w' w.heap.size v l ∧ Below w.heap.size w w' := by
  have HF := Lib.hid hf
  clear hf
  go_enter Tryz.func5, Tryz.ntmps5
  go_wp2
  go_loopw [6, 5] (fun i u wr => ∃ (k : Nat) (l : Sps) (v : Value), k ≤ 6 ∧ i = .int .i64 k ∧ v = u ∧ l.length ≤ k ∧ Hid (Owns wr w.heap.size v l) ∧ Below w.heap.size w wr) (fun i _ _ => 6 - (intOf i).toNat)
  case atStart => exact ⟨0, [], _, by omega, rfl, rfl, by simp, Lib.hid (Owns.nil _ _), Below.refl _ _⟩
  case round =>
    obtain ⟨k, l, v, hk, rfl, rfl, hl, hO, hB⟩ := hrel
    by_cases hlt : k < 6
    · have ew : IntKind.i64.wrap (frm + (k : Int)) = frm + (k : Int) := IntWalk.i64_in _ (by have := HF.out; omega)
      have ew1 : IntKind.i64.wrap (frm + (k : Int) + 1) = frm + (k : Int) + 1 := IntWalk.i64_in _ (by have := HF.out; omega)
      have k0 : (0 : Int) ≤ (k : Int) := by omega
      have CT := Lib.hid (fun W => to_b (frm + (k : Int)) (frm + (k : Int) + 1) W)
      rcases List.eq_nil_or_concat l with rfl | ⟨s0, t, rfl⟩
      · obtain ⟨p, c, rfl, _⟩ := hO.out.form
        go_wp2_with fail
        · go_roundw
          case rel => exact ⟨k + 1, [], _, by omega, by go_num, rfl, by simp, hO, hB⟩
          case measure => simp [intOf]; omega
        · refine (CT.out _).mono ?_
          rintro e W1 ⟨rfl, hb1⟩
          have B1 := hB.trans (hb1.mono hB.size)
          have O3 := Lib.hid (hO.out.below hb1)
          clear hb1 hO
          go_wp2_with (first | (at_builtin; refine wpList_plain rfl fun KK hKK => ?_; refine wp_append_arg _ _ _ rfl rfl w.heap.size _ ([]) rfl (O3.out.alloc _) (some ⟨W1.heap.size, 0, none⟩) 1 1 [(frm + (k : Int), frm + (k : Int) + 1)] rfl rfl (ssrc_of (cells_new1 W1 _ _)) (by simp) (by simp; exact Nat.le_succ_of_le B1.size) ?_; intro v2 w2 hown2 hgrow2 _; refine hKK _ _ ?_; clear hKK) | fail)
          go_roundw
          case rel => exact ⟨k + 1, _, _, by omega, by go_num, rfl, by simp, Lib.hid hown2, (show Owns (W1.alloc _) w.heap.size _ _ from O3.out.alloc _).below_row (B1.alloc B1.size _) (Nat.le_refl _) hgrow2⟩
          case measure => simp [intOf]; omega
      · rw [List.concat_eq_append] at hO hl
        obtain ⟨g, cap, rfl, hgb, hgl, q1, q2, q3, _⟩ := hO.out.last
        obtain ⟨t1, t2⟩ := t
        dsimp only at q1 q2
        have hs : s0.length + 1 ≤ k := by simpa using hl
        have j3 : ((s0.length : Int)).toNat = s0.length := by omega
        have j4 : (0 : Int) ≤ (s0.length : Int) := by omega
        have hpos : (0 : Int) < (s0.length : Int) + 1 := by omega
        by_cases hE : t2 = frm + (k : Int)
        · subst hE
          go_wp2_with fail
          · go_roundw
            case rel => exact ⟨k + 1, _, _, by omega, by go_num, rfl, by omega, hO, hB⟩
            case measure => simp [intOf]; omega
          · obtain ⟨g', cap', he, r1, r2, r3, r4, r5, r6⟩ := hO.out.last
            cases he
            go_roundw
            case rel => exact ⟨k + 1, _, _, by omega, by go_num, rfl, by have h9 := hl; simp at h9 ⊢; omega, Lib.hid (r6 _), hB.setCell (p := ⟨g, s0.length * 2 + 1, none⟩) hgb _⟩
            case measure => simp [intOf]; omega
        · have hE' : (t2 == frm + (k : Int)) = false := by simpa using hE
          go_wp2_with fail
          · go_roundw
            case rel => exact ⟨k + 1, _, _, by omega, by go_num, rfl, by omega, hO, hB⟩
            case measure => simp [intOf]; omega
          · refine (CT.out _).mono ?_
            rintro e W1 ⟨rfl, hb1⟩
            have B1 := hB.trans (hb1.mono hB.size)
            have O3 := Lib.hid (hO.out.below hb1)
            clear hb1 hO
            go_wp2_with (first | (at_builtin; refine wpList_plain rfl fun KK hKK => ?_; refine wp_append_arg _ _ _ rfl rfl w.heap.size _ (s0 ++ [(t1, t2)]) rfl (O3.out.alloc _) (some ⟨W1.heap.size, 0, none⟩) 1 1 [(frm + (k : Int), frm + (k : Int) + 1)] rfl rfl (ssrc_of (cells_new1 W1 _ _)) (by have h9 := hl; simp at h9 ⊢; omega) (by simp; exact Nat.le_succ_of_le B1.size) ?_; intro v2 w2 hown2 hgrow2 _; refine hKK _ _ ?_; clear hKK) | fail)
            go_roundw
            case rel => exact ⟨k + 1, _, _, by omega, by go_num, rfl, by have h9 := hl; simp at h9 ⊢; omega, Lib.hid hown2, (show Owns (W1.alloc _) w.heap.size _ _ from O3.out.alloc _).below_row (B1.alloc B1.size _) (Nat.le_refl _) hgrow2⟩
            case measure => simp [intOf]; omega
    · obtain rfl : k = 6 := by omega
      go_wp2
      go_ret
      exact ⟨_, l, rfl, hl, hO.out, hB⟩

end Go.Proofs.YtgpbdocgnfjckaaGreat
