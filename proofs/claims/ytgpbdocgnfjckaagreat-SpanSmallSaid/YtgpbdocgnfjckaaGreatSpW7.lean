/- Bridge. -/
import Derived.Test.YtgpbdocgnfjckaaGreatSpW6
import Derived.Test.YtgpbdocgnfjckaaGreatSpPlain5
namespace Go.Proofs.YtgpbdocgnfjckaaGreat
open Go.RowKit Go.Shelf Sp

theorem flat_append (a b : Sps) : flat (a ++ b) = flat a ++ flat b := by unfold flat; rw [List.flatMap_append]

/-- The last span of an owned row: its cells, and the row behind a store into its end. -/
theorem Owns.last {W : World} {base : Nat} {v : Value} {l : Sps} {t : Int × Int} (h : Owns W base v (l ++ [t])) :
    ∃ g cap, v = .slice (some ⟨g, 0, none⟩) (l.length + 1) cap ∧ base ≤ g ∧ g < W.heap.size ∧ W.cell? ⟨g, l.length * 2, none⟩ = some (.int .i64 t.1) ∧ W.cell? ⟨g, l.length * 2 + 1, none⟩ = some (.int .i64 t.2) ∧
      W.frozen? ⟨g, l.length * 2 + 1, none⟩ = false ∧ ∀ y, Owns (W.setCell ⟨g, l.length * 2 + 1, none⟩ (.int .i64 y)) base v (l ++ [(t.1, y)]) := by
  obtain ⟨hl, hv⟩ := h
  rw [List.length_append, List.length_singleton] at hl hv
  rcases hv with ⟨rfl, h0⟩ | ⟨g, cap, cur, rfl, hb, hg, hc, hm, hs, ht⟩
  · omega
  · have hf0 := flat_get (l ++ [t]) l.length (by simp)
    rw [← ht] at hf0
    have e1 : (cur.toList.take ((l.length + 1) * 2))[l.length * 2]? = cur[l.length * 2]? := by
      rw [List.getElem?_take, if_pos (by omega), Array.getElem?_toList]
    have e2 : (cur.toList.take ((l.length + 1) * 2))[l.length * 2 + 1]? = cur[l.length * 2 + 1]? := by
      rw [List.getElem?_take, if_pos (by omega), Array.getElem?_toList]
    rw [e1, e2] at hf0
    simp only [List.getElem_concat_length] at hf0
    refine ⟨g, cap, rfl, hb, (Array.getElem?_eq_some_iff.1 hg).1, ?_, ?_, ?_, fun y => ?_⟩
    · simp [World.cell?, hg, hf0.1]
    · simp [World.cell?, hg, hf0.2]
    · simp [World.frozen?, hg]
    · have hg' := heap_setCell_same W g (l.length * 2 + 1) cur 30 (.int .i64 y) hg
      refine ⟨by rw [flat_length], ?_⟩
      rw [List.length_append, List.length_singleton]
      refine .inr ⟨g, cap, cur.setIfInBounds (l.length * 2 + 1) (.int .i64 y), rfl, hb, hg', hc, hm, by simpa using hs, ?_⟩
      have hlen : l.length * 2 + 1 < cur.size := by omega
      rw [flat_append] at ht ⊢
      have hsp : cur.toList.take ((l.length + 1) * 2) = flat l ++ [.int .i64 t.1, .int .i64 t.2] := ht
      have : (cur.setIfInBounds (l.length * 2 + 1) (.int .i64 y)).toList.take ((l.length + 1) * 2) = (cur.toList.take ((l.length + 1) * 2)).set (l.length * 2 + 1) (.int .i64 y) := by
        rw [Array.toList_setIfInBounds, List.take_set]
      rw [this, hsp]
      have hfl := flat_length l
      rw [List.set_append_right _ _ (by omega), hfl, show l.length * 2 + 1 - l.length * 2 = 1 by omega]
      rfl

theorem Owns.alloc {W : World} {base : Nat} {v : Value} {l : Sps} (h : Owns W base v l) (o : Obj) : Owns (W.alloc o) base v l := World.ownsRow.alloc h o
theorem Owns.drewN {W : World} {base : Nat} {v : Value} {l : Sps} (h : Owns W base v l) (n : Nat) : Owns (W.drewN n) base v l := h
theorem Owns.grown {W w1 : World} {base B : Nat} {w : World} {v : Value} {l : Sps} (h : Owns W base v l) (hB : B ≤ base) (hw : Below B w W) (hs : B ≤ W.heap.size) (o : Obj) (hg : (W.alloc o).grownBy w1 v.ownBlock) : Below B w w1 := by
  refine (hw.alloc hs o).grown hg (by simp; omega) fun j ej => ?_
  rcases h.2 with ⟨rfl, _⟩ | ⟨g, cap, cur, rfl, hb, _, _⟩
  · simp [Value.ownBlock] at ej
  · obtain rfl : g = j := by simpa [Value.ownBlock] using ej
    omega

set_option maxRecDepth 100000 in
set_option maxHeartbeats 4000000 in
theorem bridge_ok (l : Sps) (n : Int) (p : Option Addr) (cap : Nat) (w : World) (hl : l.length ≤ 10000) (hv : validB l = true) (hn : 0 ≤ n) (hc : Cells w p l) :
    Calls Tryz.prog 30 #[.slice p l.length cap, .int .i64 n] w fun e w' => ∃ v, e = .returned (.tuple #[v, .int .i64 0]) ∧ Owns w' w.heap.size v (brg n l) ∧ Below w.heap.size w w' := by
  have CV := Lib.hid (valid_is l true p cap w hv (by omega) hc)
  have HV := Lib.hid hv; clear hv
  have HC := Lib.hid hc; clear hc
  obtain ⟨i0, hi0, hz0, hz1, hz2⟩ := info_parts info_span
  go_enter Tryz.func30, Tryz.ntmps30
  go_wp2_with (first | (go_at_call 26; refine CV.out.mono ?_; rintro e w1 ⟨rfl, hb1⟩))
  go_loopw [6, 19] (fun c i wr => ∃ k : Nat, k ≤ l.length ∧ i = .int .i64 k ∧ Hid (Owns wr w.heap.size c (brg n (l.take k))) ∧ Below w.heap.size w wr) (fun _ i _ => l.length - (intOf i).toNat)
  case atStart => exact ⟨0, by omega, rfl, Lib.hid (by simpa [brg] using Owns.nil _ _), hb1⟩
  case round =>
    obtain ⟨k, hk, rfl, ho, hb⟩ := hrel
    by_cases hlt : k < l.length
    · obtain ⟨b, off, rfl, hlt', x, y, hxy, h1, h2⟩ := HC.out.at k hlt
      have c1 := (hb.cell (p := ⟨b, off + k * 2, none⟩) hlt').trans h1
      have c2 := (hb.cell (p := ⟨b, off + k * 2 + 1, none⟩) hlt').trans h2
      have hne : b ≠ wr.heap.size := Nat.ne_of_lt (Nat.lt_of_lt_of_le hlt' hb.size)
      have hg := valid_get HV.out hlt
      have hst := take_succ_snoc hlt
      rw [hxy] at hg hst
      dsimp only at hg
      have hbr := Lib.hid (show brg n (l.take (k + 1)) = bst n (brg n (l.take k)) (x, y) by rw [hst, brg_snoc])
      have hlen := brg_length n l k hk
      have hval := Lib.hid (brg_valid (n := n) HV.out k hk).1
      clear h1 h2 hxy hst
      obtain ⟨set, hset⟩ : ∃ set, set = brg n (l.take k) := ⟨_, rfl⟩
      rw [← hset] at ho hbr hlen hval
      clear hset
      rcases List.eq_nil_or_concat set with rfl | ⟨s0, t, rfl⟩
      · obtain ⟨p', cap', rfl, _⟩ := ho.out.form
        have e1 := Lib.hid (hbr.out.trans (bst_nil n (x, y)))
        have hn' : ¬ n < 0 := by omega
        go_wp2_with fail
        go_quiet (fail)
        obtain ⟨W2, hW2⟩ : ∃ W2, (wr.alloc (.cells #[.int .i64 x, .int .i64 y] 30)).drewN nq = W2 := ⟨_, rfl⟩
        have B2 : Below w.heap.size w W2 := by subst hW2; exact below_drewN (hb.alloc hb.size _) _
        have O2 := Lib.hid (show Owns W2 w.heap.size _ [] by subst hW2; exact (ho.out.alloc _).drewN _)
        have d1 : W2.cell? ⟨wr.heap.size, 0, none⟩ = some (.int .i64 x) := by subst hW2; exact (Boxed2.new wr _ _ _).cell0
        have d2 : W2.cell? ⟨wr.heap.size, 1, none⟩ = some (.int .i64 y) := by subst hW2; exact (Boxed2.new wr _ _ _).cell1
        have z2 : w.heap.size ≤ W2.heap.size := B2.size
        rw [hW2]
        clear hW2 ho
        go_wp2_with (first | (at_builtin; refine wpList_append_own _ rfl _ _ 22 rfl w.heap.size 30 i0 (.agg #[.int .i64 0, .int .i64 0]) 2 16 Tryz.underlying22 hi0 hz0 hz1 hz2 rfl (by decide) _ _ _ rfl (O2.out.alloc _) ⟨W2.heap.size, 0, none⟩ 1 1 [.int .i64 x, .int .i64 y] rfl rfl (cell_two_new _ _ _ _ _ rfl) (by simp [Value.oneCell']) (by unfold maxLen; omega) (by omega) (by simp; omega) ?_; intro v' w1 hown' hgrow _; obtain ⟨g', cap', rfl⟩ := ownsRow_succ hown'))
        go_roundw
        case rel => exact ⟨k + 1, by omega, by go_num, Lib.hid (by rw [e1.out]; exact hown'), O2.out.grown (Nat.le_refl _) B2 (by omega) _ hgrow⟩
        case measure => simp [intOf]; omega
      · rw [List.concat_eq_append] at ho hbr hlen hval
        obtain ⟨g, cap', rfl, hgb, hglt, q1, q2, _⟩ := ho.out.last
        obtain ⟨t1, t2⟩ := t
        dsimp only at q1 q2
        have ht := validFrom_snoc.1 hval.out
        have ht1 : 0 ≤ t2 ∧ t2 ≤ 65536 := by
          have := lastTo_ge ht.1
          dsimp only at ht
          omega
        have hgne : g ≠ wr.heap.size := Nat.ne_of_lt hglt
        have hsl : s0.length ≤ 10000 := by simp at hlen; omega
        have hn' : ¬ n < 0 := by omega
        have j3 : ((s0.length : Int)).toNat = s0.length := by omega
        have hpos : (0 : Int) < (s0.length : Int) + 1 := by omega
        clear ht hval hlen
        by_cases hnear : x - t2 ≤ n
        · have e1 := Lib.hid (hbr.out.trans (bst_near s0 (t1, t2) (x, y) hnear))
          go_wp2_with fail
          go_quiet (fail)
          obtain ⟨W2, hW2⟩ : ∃ W2, (wr.alloc (.cells #[.int .i64 x, .int .i64 y] 30)).drewN nq = W2 := ⟨_, rfl⟩
          have B2 : Below w.heap.size w W2 := by subst hW2; exact below_drewN (hb.alloc hb.size _) _
          have O2 := Lib.hid (show Owns W2 w.heap.size _ (s0 ++ [(t1, t2)]) by subst hW2; exact (ho.out.alloc _).drewN _)
          have d1 : W2.cell? ⟨wr.heap.size, 0, none⟩ = some (.int .i64 x) := by subst hW2; exact (Boxed2.new wr _ _ _).cell0
          have d2 : W2.cell? ⟨wr.heap.size, 1, none⟩ = some (.int .i64 y) := by subst hW2; exact (Boxed2.new wr _ _ _).cell1
          have z2 : w.heap.size ≤ W2.heap.size := B2.size
          rw [hW2]
          clear hW2 ho
          obtain ⟨g2, cap2, heq, r1, r2, r3, r4, r5, r6⟩ := O2.out.last
          cases heq
          have hgne2 : g ≠ wr.heap.size := hgne
          go_wp2
          go_roundw
          case rel => exact ⟨k + 1, by omega, by go_num, Lib.hid (by rw [e1.out]; exact r6 y), B2.setCell (p := ⟨g, s0.length * 2 + 1, none⟩) r1 _⟩
          case measure => simp [intOf]; omega
        · have e1 := Lib.hid (hbr.out.trans (bst_far s0 (t1, t2) (x, y) hnear))
          go_wp2_with fail
          go_quiet (fail)
          obtain ⟨W2, hW2⟩ : ∃ W2, (wr.alloc (.cells #[.int .i64 x, .int .i64 y] 30)).drewN nq = W2 := ⟨_, rfl⟩
          have B2 : Below w.heap.size w W2 := by subst hW2; exact below_drewN (hb.alloc hb.size _) _
          have O2 := Lib.hid (show Owns W2 w.heap.size _ (s0 ++ [(t1, t2)]) by subst hW2; exact (ho.out.alloc _).drewN _)
          have d1 : W2.cell? ⟨wr.heap.size, 0, none⟩ = some (.int .i64 x) := by subst hW2; exact (Boxed2.new wr _ _ _).cell0
          have d2 : W2.cell? ⟨wr.heap.size, 1, none⟩ = some (.int .i64 y) := by subst hW2; exact (Boxed2.new wr _ _ _).cell1
          have z2 : w.heap.size ≤ W2.heap.size := B2.size
          rw [hW2]
          clear hW2 ho
          have hsl2 : (s0 ++ [(t1, t2)]).length ≤ 10001 := by simp; omega
          go_wp2_with (first | (at_builtin; refine wpList_append_own _ rfl _ _ 22 rfl w.heap.size 30 i0 (.agg #[.int .i64 0, .int .i64 0]) 2 16 Tryz.underlying22 hi0 hz0 hz1 hz2 rfl (by decide) _ _ _ rfl (O2.out.alloc _) ⟨W2.heap.size, 0, none⟩ 1 1 [.int .i64 x, .int .i64 y] rfl rfl (cell_two_new _ _ _ _ _ rfl) (by simp [Value.oneCell']) (by unfold maxLen; omega) (by omega) (by simp; omega) ?_; intro v' w1 hown' hgrow _; obtain ⟨g', cap', rfl⟩ := ownsRow_succ hown'))
          go_roundw
          case rel => exact ⟨k + 1, by omega, by go_num, Lib.hid (by rw [e1.out]; show World.ownsRow _ _ _ _ _ _ _; rw [flat_snoc, List.length_append]; have h9 := hown'; rw [show (s0 ++ [(t1, t2)]).length = s0.length + 1 by simp] at h9; rw [show List.length (s0 ++ [(t1, t2)]) = s0.length + 1 by simp]; exact h9), O2.out.grown (Nat.le_refl _) B2 (by omega) _ hgrow⟩
          case measure => simp [intOf]; omega
    · obtain rfl : k = l.length := by omega
      have hf := Lib.hid (show Owns wr w.heap.size u6 (brg n l) by have := ho.out; rw [List.take_length] at this; exact this)
      go_wp2
      go_ret2
      exact ⟨_, rfl, hf.out, hb⟩

set_option maxHeartbeats 1000000 in
theorem bridge_bad (l : Sps) (n : Int) (p : Option Addr) (cap : Nat) (w : World) (hl : l.length ≤ 10000) (hv : validB l = false ∨ n < 0) (hc : Cells w p l) :
    Calls Tryz.prog 30 #[.slice p l.length cap, .int .i64 n] w fun e w' => e = .returned (.tuple #[.slice none 0 0, .int .i64 2]) ∧ Below w.heap.size w w' := by
  have CV := Lib.hid (valid_any l p cap w (by omega) hc)
  clear hc
  cases hval : validB l with
  | false =>
    rw [hval] at CV
    clear hv hval
    go_enter Tryz.func30, Tryz.ntmps30
    go_wp2_with (first | (go_at_call 26; refine CV.out.mono ?_; rintro e w1 ⟨rfl, hb1⟩))
    go_ret2
    exact ⟨rfl, hb1⟩
  | true =>
    have hn : n < 0 := hv.resolve_left (by rw [hval]; simp)
    rw [hval] at CV
    clear hv hval
    go_enter Tryz.func30, Tryz.ntmps30
    go_wp2_with (first | (go_at_call 26; refine CV.out.mono ?_; rintro e w1 ⟨rfl, hb1⟩))
    go_ret2
    exact ⟨rfl, hb1⟩

end Go.Proofs.YtgpbdocgnfjckaaGreat
