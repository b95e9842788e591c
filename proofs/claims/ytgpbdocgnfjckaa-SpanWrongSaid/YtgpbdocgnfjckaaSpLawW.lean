/- SpanWrong: the walk of the law. -/
import Derived.Test.YtgpbdocgnfjckaaSpLawA
import Derived.Deep.AppendLies
namespace Go.Proofs.Ytgpbdocgnfjckaa
open Go.RowKit Go.Shelf Sp

theorem Cells.news {W : World} {b off : Nat} {l : Sps} (h : Cells W (some ⟨b, off, none⟩) l) : ∀ j u, (flat l)[j]? = some u → W.cell? ((⟨b, off, none⟩ : Addr).add j) = some u := by
  intro j u hj
  rw [WideShapes.add_plain]
  rcases h with rfl | ⟨b', off', he, hc⟩
  · simp [flat] at hj
  · cases he
    have hjl : j < l.length * 2 := by rw [← flat_length]; exact (List.getElem?_eq_some_iff.1 hj).1
    have h1 := hc (j / 2) (by omega)
    have h2 := flat_get l (j / 2) (by omega)
    rcases Nat.mod_two_eq_zero_or_one j with e | e
    · have ej : j / 2 * 2 = j := by omega
      rw [ej] at h1 h2
      rw [hj] at h2
      rw [h1.1]; exact h2.1.symm
    · have ej : j / 2 * 2 + 1 = j := by omega
      rw [ej] at h2
      rw [hj] at h2
      rw [show off + j = off + j / 2 * 2 + 1 by omega, h1.2]; exact h2.2.symm

theorem flat_one (l : Sps) : ∀ u ∈ flat l, u.oneCell' = true := by
  intro u hu
  unfold flat at hu
  rw [List.mem_flatMap] at hu
  obtain ⟨s, _, hs⟩ := hu
  simp at hs
  rcases hs with rfl | rfl <;> rfl

theorem owns_empty (V : World) : Owns (V.alloc (.cells #[] 27)) V.heap.size (.slice (some ⟨V.heap.size, 0, none⟩) 0 0) [] :=
  ⟨rfl, .inr ⟨V.heap.size, 0, #[], rfl, Nat.le_refl _, World.alloc_heap_new V _, Nat.le_refl _, by unfold maxLen; omega, rfl, rfl⟩⟩

theorem Owns.pos {W : World} {base : Nat} {v : Value} {l : Sps} (h : Owns W base v l) (h0 : 0 < l.length) : ∃ g cap, v = .slice (some ⟨g, 0, none⟩) l.length cap ∧ base ≤ g := by
  rcases h.2 with ⟨rfl, h1⟩ | ⟨g, cap, cur, rfl, hb, _⟩
  · omega
  · exact ⟨g, cap, rfl, hb⟩

theorem keep_alloc {w : World} {a : Addr} {v : Value} {o : Obj} (h : w.cell? a = some v) : (w.alloc o).cell? a = some v := by
  rw [((Below.refl w.heap.size w).alloc (Nat.le_refl _) o).cell (World.block_lt_of_cell? w _ h)]; exact h
theorem keep_drew {w : World} {a : Addr} {v : Value} (h : w.cell? a = some v) : w.drew.cell? a = some v := h

theorem at80 {P : Program} {op : Op} {t : TypeId} {pos : String} {after : Array Edge} {guard : Option (Nat × Bool)} {ops : Array Oper} {a : Act} {w : World} {K : Act → World → Prop} {Q : Exit → Act → World → Prop} {E : Prop}
    (h : if Region.wanted ⟨some 80, op, t, pos, after, guard⟩ (yielded ops a.tmps) = true then Oper.wp P ⟨some 80, op, t, pos, after, guard⟩ a w K Q else E) : if Region.wanted ⟨some 80, op, t, pos, after, guard⟩ (yielded ops a.tmps) = true then Oper.wp P ⟨some 80, op, t, pos, after, guard⟩ a w K Q else E := h

theorem pair_later {W W' : World} {a b : Addr} {x y : Value} (h : W.cell? a = some x ∧ W.cell? b = some y) (hb : Below W.heap.size W W') : W'.cell? a = some x ∧ W'.cell? b = some y :=
  ⟨(hb.cell (World.block_lt_of_cell? W _ h.1)).trans h.1, (hb.cell (World.block_lt_of_cell? W _ h.2)).trans h.2⟩

theorem bad_snoc {l : Sps} {s : Int × Int} (h : ¬ (lastTo (-1) l < s.1 ∧ s.1 < s.2 ∧ s.2 ≤ 65536)) : validB (l ++ [s]) = false := by
  unfold validB
  rw [← Bool.not_eq_true, validFrom_snoc]
  intro h'; exact h h'.2

set_option maxHeartbeats 16000000 in
set_option maxRecDepth 100000 in
theorem wrong_law0 (pm : Option Addr) (nm cm : Nat) (way : Int) (w : World) (hm : Words w pm nm) (hw0 : 0 ≤ way) (_hw1 : way ≤ 255) (hway : way % 6 = 0) :
    Calls Try.prog 3 #[.slice pm nm cm, .int .u8 way] w fun e w' => e = .returned (.bool true) ∧ Below w.heap.size w w' := by
  have B0 := Lib.hid (Below.refl w.heap.size w)
  have Cm0 := Lib.hid hm
  have HWAY := Lib.hid hway
  clear hm hway
  obtain ⟨i0, hi0, hz0, hz1, hz2⟩ := info_parts info_span
  go_enter Try.func3, Try.ntmps3
  go_wp2_with fail
  refine (awake_any _).mono ?_
  rintro e W1 ⟨rfl, hb⟩
  have B1 := Lib.hid (below_next B0.out hb)
  have Cm1 := Lib.hid (Words.below Cm0.out hb)
  clear hb B0 Cm0
  go_wp2_with fail
  refine (built_any pm nm cm _ Cm1.out).mono ?_
  rintro e W2 ⟨v, l, rfl, hv, hll, ho, hb⟩
  obtain ⟨pl, cl, rfl, hcl⟩ := ho.form
  have VL := Lib.hid hv
  clear hv
  have B2 := Lib.hid (below_next B1.out hb)
  have Cm2 := Lib.hid (Words.below Cm1.out hb)
  have Cl2 := Lib.hid (hcl)
  clear hb B1 Cm1 hcl ho
  clear Cm2
  rcases Nat.eq_zero_or_pos l.length with hz | hz
  · obtain rfl : l = [] := List.eq_nil_of_length_eq_zero hz
    clear hz
    go_wp2
    go_ret
    exact ⟨rfl, B2.out⟩
  · obtain ⟨b, off, rfl, hbl, x, y, hxy, c1, c2⟩ := Cl2.out.at (l.length - 1) (by omega)
    have hg := valid_get VL.out (k := l.length - 1) (by omega)
    have hlast : lastTo (-1) l = y := by have h9 := lastTo_take' (-1) l l.length (Nat.le_refl _) hz; rw [List.take_length, hxy] at h9; exact h9
    simp only [hxy] at hg
    have HXY := Lib.hid hxy
    have HLAST := Lib.hid hlast
    clear hxy hlast
    have t1 : ((l.length : Int) == 0) = false := beq_eq_false_iff_ne.2 (by omega)
    have j0 : (0 : Int) ≤ (l.length : Int) - 1 := by omega
    have j2 : (l.length : Int) - 1 < (l.length : Int) := by omega
    have j3 : ((l.length : Int) - 1).toNat = l.length - 1 := by omega
    have j6 : (1 : Int) ≤ (l.length : Int) := by omega
    by_cases hy : 65533 < y
    · go_wp2
      go_ret
      exact ⟨rfl, B2.out⟩
    · have hne : b ≠ W2.heap.size := Nat.ne_of_lt hbl
      have hyd : decide (65533 < y) = false := by simpa using hy
      have Cn := Lib.hid (((Cl2.out.below ((Below.refl _ _).alloc (Nat.le_refl _) (.cells #[.int .i64 x, .int .i64 y] 27))).below ((Below.refl _ _).alloc (Nat.le_refl _) (.cells #[] 27))).news)
      have OE := Lib.hid (owns_empty (W2.alloc (.cells #[.int .i64 x, .int .i64 y] 27)))
      go_wp2_with (first | (at_builtin; refine wpList_append_own _ rfl _ _ 24 rfl (W2.heap.size + 1) 27 i0 (.agg #[.int .i64 0, .int .i64 0]) 2 16 Try.underlying24 hi0 hz0 hz1 hz2 rfl (by decide) _ 0 [] rfl (by have h9 := OE.out; simp at h9; exact h9) ⟨b, off, none⟩ l.length cl (flat l) rfl (flat_length l) Cn.out (flat_one l) (by unfold maxLen; omega) (by omega) (by simp) ?_; intro v' V1 hown' hgrow _))
      have O1 := Lib.hid (show Owns V1 (W2.heap.size + 1) v' l by have h9 := hown'; simp at h9; exact h9)
      have BB := Lib.hid (show Below (W2.heap.size + 1) (W2.alloc (.cells #[.int .i64 x, .int .i64 y] 27)) V1 from ((Below.refl _ _).alloc (by simp) _).grown hgrow (by simp) (fun k hk => by have h9 : some (W2.heap.size + 1) = some k := hk; cases h9; exact Nat.le_refl _))
      clear hown' hgrow Cn OE c1 c2
      obtain ⟨g, cb, rfl, hgb⟩ := O1.out.pos hz
      have d1 : V1.cell? ⟨W2.heap.size, 0, none⟩ = some (.int .i64 x) := (BB.out.cell (p := ⟨W2.heap.size, 0, none⟩) (by simp)).trans (by simp)
      have d2 : V1.cell? ⟨W2.heap.size, 1, none⟩ = some (.int .i64 y) := (BB.out.cell (p := ⟨W2.heap.size, 1, none⟩) (by simp)).trans (by simp)
      have hV1 : W2.heap.size + 1 ≤ V1.heap.size := by have := BB.out.size; simpa using this
      have ag : (Value.slice (some ⟨g, 0, none⟩) l.length cb).ownBlock ≠ some W2.heap.size := by simp [Value.ownBlock]; omega
      have wy : way.tmod 6 = 0 := by rw [Int.tmod_eq_emod_of_nonneg hw0]; exact HWAY.out
      have ix : ∀ w : World, (Instr.index 29 (.agg #[.int .i64 (y + 1), .int .i64 (y + 1), .int .i64 y, .int .i64 (y + 1), .int .i64 (y - 1), .int .i64 (y + 1), .int .i64 (-1), .int .i64 2, .int .i64 (y + 1), .int .i64 65537, .int .i64 x, .int .i64 y]) (.int .u8 0)).run Try.prog w = .ok (.agg #[.int .i64 (y + 1), .int .i64 (y + 1)]) w := fun _ => by kernel_rfl
      go_wp2_with fail
      have kp : IntKind.i64.wrap (y + 1) = y + 1 := IntWalk.i64_in _ (by omega)
      have km : IntKind.i64.wrap (y - 1) = y - 1 := IntWalk.i64_in _ (by omega)
      go_region_held3 (fun w9 => w9.cell? ⟨W2.heap.size, 0, none⟩ = some (.int .i64 x) ∧ w9.cell? ⟨W2.heap.size, 1, none⟩ = some (.int .i64 y))
        (first | (refine ⟨?_, ?_⟩ <;> (repeat (first | with_reducible assumption | with_reducible exact d1 | with_reducible exact d2 | with_reducible refine keep_drew ?_ | with_reducible refine keep_alloc ?_)); done) | (go_split_ands; refine ⟨?_, ?_⟩ <;> (rw [hgrow.cell_far _ (by simp; omega) (Ne.symm ag)]; assumption)))
        (first | (go_at_call 13; refine (to_any _ _ _).mono ?_; rintro e w9 ⟨rfl, rfl⟩) | ((with_reducible refine at80 ?_); refine step_append_lies _ (by rfl) _ _ _ (by rfl) (W2.heap.size + 1) 27 i0 _ 2 16 Try.underlying24 hi0 hz0 hz1 hz2 rfl (by omega) _ l.length (flat l) (by rfl) ((World.ownsRow.alloc (World.ownsRow.alloc (World.ownsRow.alloc (World.ownsRow.alloc (World.ownsRow.alloc (World.ownsRow.alloc (World.ownsRow.alloc O1.out _) _) _) _) _) _) _).drew) ⟨V1.heap.size + 6, 0, none⟩ 1 1 [.int .i64 (y + 1), .int .i64 (y + 1)] (by rfl) (by rfl) (by intro j9 u9 h9; exact cell_two_new _ _ _ 27 (V1.heap.size + 6) (by simp) j9 u9 h9) (by simp [Value.oneCell']) (by omega) (by unfold maxLen; omega) (by omega) (by simp; omega) (V1.heap.size + 7) (by simp) ?_; intro gg cap w1 hown1 hgrow hat hlt))
      have Cd3 := Lib.hid (show w1.cell? ⟨W2.heap.size, 0, none⟩ = some (.int .i64 x) ∧ w1.cell? ⟨W2.heap.size, 1, none⟩ = some (.int .i64 y) by assumption)
      have BW := Lib.hid (show Below W2.heap.size W2 w1 from (((((((((((Below.refl W2.heap.size W2).alloc (Nat.le_refl _) _).trans (BB.out.mono (Nat.le_succ _))).alloc (by omega) _).alloc (by simp; omega) _).alloc (by simp; omega) _).alloc (by simp; omega) _).alloc (by simp; omega) _).alloc (by simp; omega) _).alloc (by simp; omega) _).drew.grown hgrow (by simp; omega) (fun k hk => by have h9 : some g = some k := hk; cases h9; omega)))
      have B3 := Lib.hid (B2.out.trans (BW.out.mono B2.out.size))
      have Cl3 := Lib.hid (Cl2.out.below BW.out)
      obtain ⟨m, hm⟩ : ∃ m, m = l ++ [(y + 1, y + 1)] := ⟨_, rfl⟩
      have hml : l.length + 1 = m.length := by rw [hm]; simp
      have VM := Lib.hid (show validB m = false by rw [hm]; exact bad_snoc (by rw [HLAST.out]; dsimp only; omega))
      have Cb3 : Hid (Cells w1 (some ⟨gg, 0, none⟩) m) := by
        obtain ⟨q9, c9, e9, h9⟩ := (show Owns w1 (W2.heap.size + 1) (.slice (some ⟨gg, 0, none⟩) (l.length + 1) cap) m by unfold Owns; rw [← hml, hm, flat_snoc]; exact hown1).form
        injection e9 with e1 _ _
        subst e1
        exact Lib.hid h9
      rw [hml]
      have hmm : m.length ≤ 100 := by omega
      clear hown1 hgrow hat hlt hm BB O1 BW Cl2 B2 d1 d2 ag wy ix kp km
      obtain ⟨W3, hW3⟩ : ∃ W3, W3 = w1 := ⟨_, rfl⟩
      rw [← hW3] at Cd3 B3 Cl3 Cb3 ⊢
      clear hW3
      go_wp2_with fail
      refine (union_bad m l _ _ _ _ (by omega) (by omega) (by rw [VM.out]; rfl) _ Cb3.out Cl3.out).mono ?_
      rintro e W4 ⟨rfl, hb⟩
      have B4 := Lib.hid (below_next B3.out hb)
      have Cl4 := Lib.hid (Cells.below Cl3.out hb)
      have Cb4 := Lib.hid (Cells.below Cb3.out hb)
      have Cd4 := Lib.hid (pair_later Cd3.out hb)
      clear hb B3 Cl3 Cb3 Cd3
      go_wp2_with fail
      refine (meet_bad l m _ _ _ _ (by omega) (by omega) (by rw [VL.out, VM.out]; rfl) _ Cl4.out Cb4.out).mono ?_
      rintro e W5 ⟨rfl, hb⟩
      have B5 := Lib.hid (below_next B4.out hb)
      have Cl5 := Lib.hid (Cells.below Cl4.out hb)
      have Cb5 := Lib.hid (Cells.below Cb4.out hb)
      have Cd5 := Lib.hid (pair_later Cd4.out hb)
      clear hb B4 Cl4 Cb4 Cd4
      go_wp2_with fail
      refine (minus_bad m m _ _ _ _ (by omega) (by omega) (by rw [VM.out]; rfl) _ Cb5.out Cb5.out).mono ?_
      rintro e W6 ⟨rfl, hb⟩
      have B6 := Lib.hid (below_next B5.out hb)
      have Cl6 := Lib.hid (Cells.below Cl5.out hb)
      have Cb6 := Lib.hid (Cells.below Cb5.out hb)
      have Cd6 := Lib.hid (pair_later Cd5.out hb)
      clear hb B5 Cl5 Cb5 Cd5
      go_wp2_with fail
      refine (bridge_bad m 3 _ _ _ (by omega) (.inl VM.out) Cb6.out).mono ?_
      rintro e W7 ⟨rfl, hb⟩
      have B7 := Lib.hid (below_next B6.out hb)
      have Cl7 := Lib.hid (Cells.below Cl6.out hb)
      have Cb7 := Lib.hid (Cells.below Cb6.out hb)
      have Cd7 := Lib.hid (pair_later Cd6.out hb)
      clear hb B6 Cl6 Cb6 Cd6
      go_wp2_with fail
      refine (nth_bad m 0 _ _ _ (by omega) (.inl VM.out) Cb7.out).mono ?_
      rintro e W8 ⟨rfl, hb⟩
      have B8 := Lib.hid (below_next B7.out hb)
      have Cl8 := Lib.hid (Cells.below Cl7.out hb)
      have Cb8 := Lib.hid (Cells.below Cb7.out hb)
      have Cd8 := Lib.hid (pair_later Cd7.out hb)
      clear hb B7 Cl7 Cb7 Cd7
      go_wp2_with fail
      refine (valid_is m false _ _ _ VM.out (by omega) Cb8.out).mono ?_
      rintro e W9 ⟨rfl, hb⟩
      have B9 := Lib.hid (below_next B8.out hb)
      have Cl9 := Lib.hid (Cells.below Cl8.out hb)
      have Cb9 := Lib.hid (Cells.below Cb8.out hb)
      have Cd9 := Lib.hid (pair_later Cd8.out hb)
      clear hb B8 Cl8 Cb8 Cd8
      go_wp2_with fail
      refine (valid_is l true _ _ _ VL.out (by omega) Cl9.out).mono ?_
      rintro e W10 ⟨rfl, hb⟩
      have B10 := Lib.hid (below_next B9.out hb)
      have Cl10 := Lib.hid (Cells.below Cl9.out hb)
      have Cb10 := Lib.hid (Cells.below Cb9.out hb)
      have Cd10 := Lib.hid (pair_later Cd9.out hb)
      clear hb B9 Cl9 Cb9 Cd9
      obtain ⟨e1, e2⟩ := Cd10.out
      go_wp2_with fail
      refine (has_bad m x _ _ _ (by omega) VM.out Cb10.out).mono ?_
      rintro e W11 ⟨rfl, hb⟩
      have B11 := Lib.hid (below_next B10.out hb)
      have Cl11 := Lib.hid (Cells.below Cl10.out hb)
      have Cb11 := Lib.hid (Cells.below Cb10.out hb)
      have Cd11 := Lib.hid (pair_later Cd10.out hb)
      clear hb B10 Cl10 Cb10 Cd10
      clear e1 e2
      go_wp2_with fail
      refine (within_bad m l _ _ _ _ (by omega) (by omega) (by rw [VM.out]; rfl) _ Cb11.out Cl11.out).mono ?_
      rintro e W12 ⟨rfl, hb⟩
      have B12 := Lib.hid (below_next B11.out hb)
      have Cl12 := Lib.hid (Cells.below Cl11.out hb)
      have Cb12 := Lib.hid (Cells.below Cb11.out hb)
      have Cd12 := Lib.hid (pair_later Cd11.out hb)
      clear hb B11 Cl11 Cb11 Cd11
      go_wp2_with fail
      refine (within_bad l m _ _ _ _ (by omega) (by omega) (by rw [VL.out, VM.out]; rfl) _ Cl12.out Cb12.out).mono ?_
      rintro e W13 ⟨rfl, hb⟩
      have B13 := Lib.hid (below_next B12.out hb)
      have Cl13 := Lib.hid (Cells.below Cl12.out hb)
      have Cb13 := Lib.hid (Cells.below Cb12.out hb)
      have Cd13 := Lib.hid (pair_later Cd12.out hb)
      clear hb B12 Cl12 Cb12 Cd12
      go_wp2_with fail
      refine (days_is m _ _ _ 0 (by unfold befv; rw [VM.out]; rfl) (by omega) Cb13.out).mono ?_
      rintro e W14 ⟨rfl, hb⟩
      have B14 := Lib.hid (below_next B13.out hb)
      have Cl14 := Lib.hid (Cells.below Cl13.out hb)
      have Cb14 := Lib.hid (Cells.below Cb13.out hb)
      have Cd14 := Lib.hid (pair_later Cd13.out hb)
      clear hb B13 Cl13 Cb13 Cd13
      obtain ⟨e1, e2⟩ := Cd14.out
      go_wp2_with fail
      refine (before_is m y _ _ _ 0 (by unfold befv; rw [VM.out]; rfl) (by omega) Cb14.out).mono ?_
      rintro e W15 ⟨rfl, hb⟩
      have B15 := Lib.hid (below_next B14.out hb)
      have Cl15 := Lib.hid (Cells.below Cl14.out hb)
      have Cb15 := Lib.hid (Cells.below Cb14.out hb)
      have Cd15 := Lib.hid (pair_later Cd14.out hb)
      clear hb B14 Cl14 Cb14 Cd14
      go_wp2_with fail
      go_ret
      exact ⟨rfl, B15.out⟩

set_option maxHeartbeats 16000000 in
set_option maxRecDepth 100000 in
theorem wrong_law1 (pm : Option Addr) (nm cm : Nat) (way : Int) (w : World) (hm : Words w pm nm) (hw0 : 0 ≤ way) (_hw1 : way ≤ 255) (hway : way % 6 = 1) :
    Calls Try.prog 3 #[.slice pm nm cm, .int .u8 way] w fun e w' => e = .returned (.bool true) ∧ Below w.heap.size w w' := by
  have B0 := Lib.hid (Below.refl w.heap.size w)
  have Cm0 := Lib.hid hm
  have HWAY := Lib.hid hway
  clear hm hway
  obtain ⟨i0, hi0, hz0, hz1, hz2⟩ := info_parts info_span
  go_enter Try.func3, Try.ntmps3
  go_wp2_with fail
  refine (awake_any _).mono ?_
  rintro e W1 ⟨rfl, hb⟩
  have B1 := Lib.hid (below_next B0.out hb)
  have Cm1 := Lib.hid (Words.below Cm0.out hb)
  clear hb B0 Cm0
  go_wp2_with fail
  refine (built_any pm nm cm _ Cm1.out).mono ?_
  rintro e W2 ⟨v, l, rfl, hv, hll, ho, hb⟩
  obtain ⟨pl, cl, rfl, hcl⟩ := ho.form
  have VL := Lib.hid hv
  clear hv
  have B2 := Lib.hid (below_next B1.out hb)
  have Cm2 := Lib.hid (Words.below Cm1.out hb)
  have Cl2 := Lib.hid (hcl)
  clear hb B1 Cm1 hcl ho
  clear Cm2
  rcases Nat.eq_zero_or_pos l.length with hz | hz
  · obtain rfl : l = [] := List.eq_nil_of_length_eq_zero hz
    clear hz
    go_wp2
    go_ret
    exact ⟨rfl, B2.out⟩
  · obtain ⟨b, off, rfl, hbl, x, y, hxy, c1, c2⟩ := Cl2.out.at (l.length - 1) (by omega)
    have hg := valid_get VL.out (k := l.length - 1) (by omega)
    have hlast : lastTo (-1) l = y := by have h9 := lastTo_take' (-1) l l.length (Nat.le_refl _) hz; rw [List.take_length, hxy] at h9; exact h9
    simp only [hxy] at hg
    have HXY := Lib.hid hxy
    have HLAST := Lib.hid hlast
    clear hxy hlast
    have t1 : ((l.length : Int) == 0) = false := beq_eq_false_iff_ne.2 (by omega)
    have j0 : (0 : Int) ≤ (l.length : Int) - 1 := by omega
    have j2 : (l.length : Int) - 1 < (l.length : Int) := by omega
    have j3 : ((l.length : Int) - 1).toNat = l.length - 1 := by omega
    have j6 : (1 : Int) ≤ (l.length : Int) := by omega
    by_cases hy : 65533 < y
    · go_wp2
      go_ret
      exact ⟨rfl, B2.out⟩
    · have hne : b ≠ W2.heap.size := Nat.ne_of_lt hbl
      have hyd : decide (65533 < y) = false := by simpa using hy
      have Cn := Lib.hid (((Cl2.out.below ((Below.refl _ _).alloc (Nat.le_refl _) (.cells #[.int .i64 x, .int .i64 y] 27))).below ((Below.refl _ _).alloc (Nat.le_refl _) (.cells #[] 27))).news)
      have OE := Lib.hid (owns_empty (W2.alloc (.cells #[.int .i64 x, .int .i64 y] 27)))
      go_wp2_with (first | (at_builtin; refine wpList_append_own _ rfl _ _ 24 rfl (W2.heap.size + 1) 27 i0 (.agg #[.int .i64 0, .int .i64 0]) 2 16 Try.underlying24 hi0 hz0 hz1 hz2 rfl (by decide) _ 0 [] rfl (by have h9 := OE.out; simp at h9; exact h9) ⟨b, off, none⟩ l.length cl (flat l) rfl (flat_length l) Cn.out (flat_one l) (by unfold maxLen; omega) (by omega) (by simp) ?_; intro v' V1 hown' hgrow _))
      have O1 := Lib.hid (show Owns V1 (W2.heap.size + 1) v' l by have h9 := hown'; simp at h9; exact h9)
      have BB := Lib.hid (show Below (W2.heap.size + 1) (W2.alloc (.cells #[.int .i64 x, .int .i64 y] 27)) V1 from ((Below.refl _ _).alloc (by simp) _).grown hgrow (by simp) (fun k hk => by have h9 : some (W2.heap.size + 1) = some k := hk; cases h9; exact Nat.le_refl _))
      clear hown' hgrow Cn OE c1 c2
      obtain ⟨g, cb, rfl, hgb⟩ := O1.out.pos hz
      have d1 : V1.cell? ⟨W2.heap.size, 0, none⟩ = some (.int .i64 x) := (BB.out.cell (p := ⟨W2.heap.size, 0, none⟩) (by simp)).trans (by simp)
      have d2 : V1.cell? ⟨W2.heap.size, 1, none⟩ = some (.int .i64 y) := (BB.out.cell (p := ⟨W2.heap.size, 1, none⟩) (by simp)).trans (by simp)
      have hV1 : W2.heap.size + 1 ≤ V1.heap.size := by have := BB.out.size; simpa using this
      have ag : (Value.slice (some ⟨g, 0, none⟩) l.length cb).ownBlock ≠ some W2.heap.size := by simp [Value.ownBlock]; omega
      have wy : way.tmod 6 = 1 := by rw [Int.tmod_eq_emod_of_nonneg hw0]; exact HWAY.out
      have ix : ∀ w : World, (Instr.index 29 (.agg #[.int .i64 (y + 1), .int .i64 (y + 1), .int .i64 y, .int .i64 (y + 1), .int .i64 (y - 1), .int .i64 (y + 1), .int .i64 (-1), .int .i64 2, .int .i64 (y + 1), .int .i64 65537, .int .i64 x, .int .i64 y]) (.int .u8 1)).run Try.prog w = .ok (.agg #[.int .i64 (y), .int .i64 (y + 1)]) w := fun _ => by kernel_rfl
      go_wp2_with fail
      have kp : IntKind.i64.wrap (y + 1) = y + 1 := IntWalk.i64_in _ (by omega)
      have km : IntKind.i64.wrap (y - 1) = y - 1 := IntWalk.i64_in _ (by omega)
      go_region_held3 (fun w9 => w9.cell? ⟨W2.heap.size, 0, none⟩ = some (.int .i64 x) ∧ w9.cell? ⟨W2.heap.size, 1, none⟩ = some (.int .i64 y))
        (first | (refine ⟨?_, ?_⟩ <;> (repeat (first | with_reducible assumption | with_reducible exact d1 | with_reducible exact d2 | with_reducible refine keep_drew ?_ | with_reducible refine keep_alloc ?_)); done) | (go_split_ands; refine ⟨?_, ?_⟩ <;> (rw [hgrow.cell_far _ (by simp; omega) (Ne.symm ag)]; assumption)))
        (first | (go_at_call 13; refine (to_any _ _ _).mono ?_; rintro e w9 ⟨rfl, rfl⟩) | ((with_reducible refine at80 ?_); refine step_append_lies _ (by rfl) _ _ _ (by rfl) (W2.heap.size + 1) 27 i0 _ 2 16 Try.underlying24 hi0 hz0 hz1 hz2 rfl (by omega) _ l.length (flat l) (by rfl) ((World.ownsRow.alloc (World.ownsRow.alloc (World.ownsRow.alloc (World.ownsRow.alloc (World.ownsRow.alloc (World.ownsRow.alloc (World.ownsRow.alloc O1.out _) _) _) _) _) _) _).drew) ⟨V1.heap.size + 6, 0, none⟩ 1 1 [.int .i64 (y), .int .i64 (y + 1)] (by rfl) (by rfl) (by intro j9 u9 h9; exact cell_two_new _ _ _ 27 (V1.heap.size + 6) (by simp) j9 u9 h9) (by simp [Value.oneCell']) (by omega) (by unfold maxLen; omega) (by omega) (by simp; omega) (V1.heap.size + 7) (by simp) ?_; intro gg cap w1 hown1 hgrow hat hlt))
      have Cd3 := Lib.hid (show w1.cell? ⟨W2.heap.size, 0, none⟩ = some (.int .i64 x) ∧ w1.cell? ⟨W2.heap.size, 1, none⟩ = some (.int .i64 y) by assumption)
      have BW := Lib.hid (show Below W2.heap.size W2 w1 from (((((((((((Below.refl W2.heap.size W2).alloc (Nat.le_refl _) _).trans (BB.out.mono (Nat.le_succ _))).alloc (by omega) _).alloc (by simp; omega) _).alloc (by simp; omega) _).alloc (by simp; omega) _).alloc (by simp; omega) _).alloc (by simp; omega) _).alloc (by simp; omega) _).drew.grown hgrow (by simp; omega) (fun k hk => by have h9 : some g = some k := hk; cases h9; omega)))
      have B3 := Lib.hid (B2.out.trans (BW.out.mono B2.out.size))
      have Cl3 := Lib.hid (Cl2.out.below BW.out)
      obtain ⟨m, hm⟩ : ∃ m, m = l ++ [(y, y + 1)] := ⟨_, rfl⟩
      have hml : l.length + 1 = m.length := by rw [hm]; simp
      have VM := Lib.hid (show validB m = false by rw [hm]; exact bad_snoc (by rw [HLAST.out]; dsimp only; omega))
      have Cb3 : Hid (Cells w1 (some ⟨gg, 0, none⟩) m) := by
        obtain ⟨q9, c9, e9, h9⟩ := (show Owns w1 (W2.heap.size + 1) (.slice (some ⟨gg, 0, none⟩) (l.length + 1) cap) m by unfold Owns; rw [← hml, hm, flat_snoc]; exact hown1).form
        injection e9 with e1 _ _
        subst e1
        exact Lib.hid h9
      rw [hml]
      have hmm : m.length ≤ 100 := by omega
      clear hown1 hgrow hat hlt hm BB O1 BW Cl2 B2 d1 d2 ag wy ix kp km
      obtain ⟨W3, hW3⟩ : ∃ W3, W3 = w1 := ⟨_, rfl⟩
      rw [← hW3] at Cd3 B3 Cl3 Cb3 ⊢
      clear hW3
      go_wp2_with fail
      refine (union_bad m l _ _ _ _ (by omega) (by omega) (by rw [VM.out]; rfl) _ Cb3.out Cl3.out).mono ?_
      rintro e W4 ⟨rfl, hb⟩
      have B4 := Lib.hid (below_next B3.out hb)
      have Cl4 := Lib.hid (Cells.below Cl3.out hb)
      have Cb4 := Lib.hid (Cells.below Cb3.out hb)
      have Cd4 := Lib.hid (pair_later Cd3.out hb)
      clear hb B3 Cl3 Cb3 Cd3
      go_wp2_with fail
      refine (meet_bad l m _ _ _ _ (by omega) (by omega) (by rw [VL.out, VM.out]; rfl) _ Cl4.out Cb4.out).mono ?_
      rintro e W5 ⟨rfl, hb⟩
      have B5 := Lib.hid (below_next B4.out hb)
      have Cl5 := Lib.hid (Cells.below Cl4.out hb)
      have Cb5 := Lib.hid (Cells.below Cb4.out hb)
      have Cd5 := Lib.hid (pair_later Cd4.out hb)
      clear hb B4 Cl4 Cb4 Cd4
      go_wp2_with fail
      refine (minus_bad m m _ _ _ _ (by omega) (by omega) (by rw [VM.out]; rfl) _ Cb5.out Cb5.out).mono ?_
      rintro e W6 ⟨rfl, hb⟩
      have B6 := Lib.hid (below_next B5.out hb)
      have Cl6 := Lib.hid (Cells.below Cl5.out hb)
      have Cb6 := Lib.hid (Cells.below Cb5.out hb)
      have Cd6 := Lib.hid (pair_later Cd5.out hb)
      clear hb B5 Cl5 Cb5 Cd5
      go_wp2_with fail
      refine (bridge_bad m 3 _ _ _ (by omega) (.inl VM.out) Cb6.out).mono ?_
      rintro e W7 ⟨rfl, hb⟩
      have B7 := Lib.hid (below_next B6.out hb)
      have Cl7 := Lib.hid (Cells.below Cl6.out hb)
      have Cb7 := Lib.hid (Cells.below Cb6.out hb)
      have Cd7 := Lib.hid (pair_later Cd6.out hb)
      clear hb B6 Cl6 Cb6 Cd6
      go_wp2_with fail
      refine (nth_bad m 0 _ _ _ (by omega) (.inl VM.out) Cb7.out).mono ?_
      rintro e W8 ⟨rfl, hb⟩
      have B8 := Lib.hid (below_next B7.out hb)
      have Cl8 := Lib.hid (Cells.below Cl7.out hb)
      have Cb8 := Lib.hid (Cells.below Cb7.out hb)
      have Cd8 := Lib.hid (pair_later Cd7.out hb)
      clear hb B7 Cl7 Cb7 Cd7
      go_wp2_with fail
      refine (valid_is m false _ _ _ VM.out (by omega) Cb8.out).mono ?_
      rintro e W9 ⟨rfl, hb⟩
      have B9 := Lib.hid (below_next B8.out hb)
      have Cl9 := Lib.hid (Cells.below Cl8.out hb)
      have Cb9 := Lib.hid (Cells.below Cb8.out hb)
      have Cd9 := Lib.hid (pair_later Cd8.out hb)
      clear hb B8 Cl8 Cb8 Cd8
      go_wp2_with fail
      refine (valid_is l true _ _ _ VL.out (by omega) Cl9.out).mono ?_
      rintro e W10 ⟨rfl, hb⟩
      have B10 := Lib.hid (below_next B9.out hb)
      have Cl10 := Lib.hid (Cells.below Cl9.out hb)
      have Cb10 := Lib.hid (Cells.below Cb9.out hb)
      have Cd10 := Lib.hid (pair_later Cd9.out hb)
      clear hb B9 Cl9 Cb9 Cd9
      obtain ⟨e1, e2⟩ := Cd10.out
      go_wp2_with fail
      refine (has_bad m x _ _ _ (by omega) VM.out Cb10.out).mono ?_
      rintro e W11 ⟨rfl, hb⟩
      have B11 := Lib.hid (below_next B10.out hb)
      have Cl11 := Lib.hid (Cells.below Cl10.out hb)
      have Cb11 := Lib.hid (Cells.below Cb10.out hb)
      have Cd11 := Lib.hid (pair_later Cd10.out hb)
      clear hb B10 Cl10 Cb10 Cd10
      clear e1 e2
      go_wp2_with fail
      refine (within_bad m l _ _ _ _ (by omega) (by omega) (by rw [VM.out]; rfl) _ Cb11.out Cl11.out).mono ?_
      rintro e W12 ⟨rfl, hb⟩
      have B12 := Lib.hid (below_next B11.out hb)
      have Cl12 := Lib.hid (Cells.below Cl11.out hb)
      have Cb12 := Lib.hid (Cells.below Cb11.out hb)
      have Cd12 := Lib.hid (pair_later Cd11.out hb)
      clear hb B11 Cl11 Cb11 Cd11
      go_wp2_with fail
      refine (within_bad l m _ _ _ _ (by omega) (by omega) (by rw [VL.out, VM.out]; rfl) _ Cl12.out Cb12.out).mono ?_
      rintro e W13 ⟨rfl, hb⟩
      have B13 := Lib.hid (below_next B12.out hb)
      have Cl13 := Lib.hid (Cells.below Cl12.out hb)
      have Cb13 := Lib.hid (Cells.below Cb12.out hb)
      have Cd13 := Lib.hid (pair_later Cd12.out hb)
      clear hb B12 Cl12 Cb12 Cd12
      go_wp2_with fail
      refine (days_is m _ _ _ 0 (by unfold befv; rw [VM.out]; rfl) (by omega) Cb13.out).mono ?_
      rintro e W14 ⟨rfl, hb⟩
      have B14 := Lib.hid (below_next B13.out hb)
      have Cl14 := Lib.hid (Cells.below Cl13.out hb)
      have Cb14 := Lib.hid (Cells.below Cb13.out hb)
      have Cd14 := Lib.hid (pair_later Cd13.out hb)
      clear hb B13 Cl13 Cb13 Cd13
      obtain ⟨e1, e2⟩ := Cd14.out
      go_wp2_with fail
      refine (before_is m y _ _ _ 0 (by unfold befv; rw [VM.out]; rfl) (by omega) Cb14.out).mono ?_
      rintro e W15 ⟨rfl, hb⟩
      have B15 := Lib.hid (below_next B14.out hb)
      have Cl15 := Lib.hid (Cells.below Cl14.out hb)
      have Cb15 := Lib.hid (Cells.below Cb14.out hb)
      have Cd15 := Lib.hid (pair_later Cd14.out hb)
      clear hb B14 Cl14 Cb14 Cd14
      go_wp2_with fail
      go_ret
      exact ⟨rfl, B15.out⟩

set_option maxHeartbeats 16000000 in
set_option maxRecDepth 100000 in
theorem wrong_law2 (pm : Option Addr) (nm cm : Nat) (way : Int) (w : World) (hm : Words w pm nm) (hw0 : 0 ≤ way) (_hw1 : way ≤ 255) (hway : way % 6 = 2) :
    Calls Try.prog 3 #[.slice pm nm cm, .int .u8 way] w fun e w' => e = .returned (.bool true) ∧ Below w.heap.size w w' := by
  have B0 := Lib.hid (Below.refl w.heap.size w)
  have Cm0 := Lib.hid hm
  have HWAY := Lib.hid hway
  clear hm hway
  obtain ⟨i0, hi0, hz0, hz1, hz2⟩ := info_parts info_span
  go_enter Try.func3, Try.ntmps3
  go_wp2_with fail
  refine (awake_any _).mono ?_
  rintro e W1 ⟨rfl, hb⟩
  have B1 := Lib.hid (below_next B0.out hb)
  have Cm1 := Lib.hid (Words.below Cm0.out hb)
  clear hb B0 Cm0
  go_wp2_with fail
  refine (built_any pm nm cm _ Cm1.out).mono ?_
  rintro e W2 ⟨v, l, rfl, hv, hll, ho, hb⟩
  obtain ⟨pl, cl, rfl, hcl⟩ := ho.form
  have VL := Lib.hid hv
  clear hv
  have B2 := Lib.hid (below_next B1.out hb)
  have Cm2 := Lib.hid (Words.below Cm1.out hb)
  have Cl2 := Lib.hid (hcl)
  clear hb B1 Cm1 hcl ho
  clear Cm2
  rcases Nat.eq_zero_or_pos l.length with hz | hz
  · obtain rfl : l = [] := List.eq_nil_of_length_eq_zero hz
    clear hz
    go_wp2
    go_ret
    exact ⟨rfl, B2.out⟩
  · obtain ⟨b, off, rfl, hbl, x, y, hxy, c1, c2⟩ := Cl2.out.at (l.length - 1) (by omega)
    have hg := valid_get VL.out (k := l.length - 1) (by omega)
    have hlast : lastTo (-1) l = y := by have h9 := lastTo_take' (-1) l l.length (Nat.le_refl _) hz; rw [List.take_length, hxy] at h9; exact h9
    simp only [hxy] at hg
    have HXY := Lib.hid hxy
    have HLAST := Lib.hid hlast
    clear hxy hlast
    have t1 : ((l.length : Int) == 0) = false := beq_eq_false_iff_ne.2 (by omega)
    have j0 : (0 : Int) ≤ (l.length : Int) - 1 := by omega
    have j2 : (l.length : Int) - 1 < (l.length : Int) := by omega
    have j3 : ((l.length : Int) - 1).toNat = l.length - 1 := by omega
    have j6 : (1 : Int) ≤ (l.length : Int) := by omega
    by_cases hy : 65533 < y
    · go_wp2
      go_ret
      exact ⟨rfl, B2.out⟩
    · have hne : b ≠ W2.heap.size := Nat.ne_of_lt hbl
      have hyd : decide (65533 < y) = false := by simpa using hy
      have Cn := Lib.hid (((Cl2.out.below ((Below.refl _ _).alloc (Nat.le_refl _) (.cells #[.int .i64 x, .int .i64 y] 27))).below ((Below.refl _ _).alloc (Nat.le_refl _) (.cells #[] 27))).news)
      have OE := Lib.hid (owns_empty (W2.alloc (.cells #[.int .i64 x, .int .i64 y] 27)))
      go_wp2_with (first | (at_builtin; refine wpList_append_own _ rfl _ _ 24 rfl (W2.heap.size + 1) 27 i0 (.agg #[.int .i64 0, .int .i64 0]) 2 16 Try.underlying24 hi0 hz0 hz1 hz2 rfl (by decide) _ 0 [] rfl (by have h9 := OE.out; simp at h9; exact h9) ⟨b, off, none⟩ l.length cl (flat l) rfl (flat_length l) Cn.out (flat_one l) (by unfold maxLen; omega) (by omega) (by simp) ?_; intro v' V1 hown' hgrow _))
      have O1 := Lib.hid (show Owns V1 (W2.heap.size + 1) v' l by have h9 := hown'; simp at h9; exact h9)
      have BB := Lib.hid (show Below (W2.heap.size + 1) (W2.alloc (.cells #[.int .i64 x, .int .i64 y] 27)) V1 from ((Below.refl _ _).alloc (by simp) _).grown hgrow (by simp) (fun k hk => by have h9 : some (W2.heap.size + 1) = some k := hk; cases h9; exact Nat.le_refl _))
      clear hown' hgrow Cn OE c1 c2
      obtain ⟨g, cb, rfl, hgb⟩ := O1.out.pos hz
      have d1 : V1.cell? ⟨W2.heap.size, 0, none⟩ = some (.int .i64 x) := (BB.out.cell (p := ⟨W2.heap.size, 0, none⟩) (by simp)).trans (by simp)
      have d2 : V1.cell? ⟨W2.heap.size, 1, none⟩ = some (.int .i64 y) := (BB.out.cell (p := ⟨W2.heap.size, 1, none⟩) (by simp)).trans (by simp)
      have hV1 : W2.heap.size + 1 ≤ V1.heap.size := by have := BB.out.size; simpa using this
      have ag : (Value.slice (some ⟨g, 0, none⟩) l.length cb).ownBlock ≠ some W2.heap.size := by simp [Value.ownBlock]; omega
      have wy : way.tmod 6 = 2 := by rw [Int.tmod_eq_emod_of_nonneg hw0]; exact HWAY.out
      have ix : ∀ w : World, (Instr.index 29 (.agg #[.int .i64 (y + 1), .int .i64 (y + 1), .int .i64 y, .int .i64 (y + 1), .int .i64 (y - 1), .int .i64 (y + 1), .int .i64 (-1), .int .i64 2, .int .i64 (y + 1), .int .i64 65537, .int .i64 x, .int .i64 y]) (.int .u8 2)).run Try.prog w = .ok (.agg #[.int .i64 (y - 1), .int .i64 (y + 1)]) w := fun _ => by kernel_rfl
      go_wp2_with fail
      have kp : IntKind.i64.wrap (y + 1) = y + 1 := IntWalk.i64_in _ (by omega)
      have km : IntKind.i64.wrap (y - 1) = y - 1 := IntWalk.i64_in _ (by omega)
      go_region_held3 (fun w9 => w9.cell? ⟨W2.heap.size, 0, none⟩ = some (.int .i64 x) ∧ w9.cell? ⟨W2.heap.size, 1, none⟩ = some (.int .i64 y))
        (first | (refine ⟨?_, ?_⟩ <;> (repeat (first | with_reducible assumption | with_reducible exact d1 | with_reducible exact d2 | with_reducible refine keep_drew ?_ | with_reducible refine keep_alloc ?_)); done) | (go_split_ands; refine ⟨?_, ?_⟩ <;> (rw [hgrow.cell_far _ (by simp; omega) (Ne.symm ag)]; assumption)))
        (first | (go_at_call 13; refine (to_any _ _ _).mono ?_; rintro e w9 ⟨rfl, rfl⟩) | ((with_reducible refine at80 ?_); refine step_append_lies _ (by rfl) _ _ _ (by rfl) (W2.heap.size + 1) 27 i0 _ 2 16 Try.underlying24 hi0 hz0 hz1 hz2 rfl (by omega) _ l.length (flat l) (by rfl) ((World.ownsRow.alloc (World.ownsRow.alloc (World.ownsRow.alloc (World.ownsRow.alloc (World.ownsRow.alloc (World.ownsRow.alloc (World.ownsRow.alloc O1.out _) _) _) _) _) _) _).drew) ⟨V1.heap.size + 6, 0, none⟩ 1 1 [.int .i64 (y - 1), .int .i64 (y + 1)] (by rfl) (by rfl) (by intro j9 u9 h9; exact cell_two_new _ _ _ 27 (V1.heap.size + 6) (by simp) j9 u9 h9) (by simp [Value.oneCell']) (by omega) (by unfold maxLen; omega) (by omega) (by simp; omega) (V1.heap.size + 7) (by simp) ?_; intro gg cap w1 hown1 hgrow hat hlt))
      have Cd3 := Lib.hid (show w1.cell? ⟨W2.heap.size, 0, none⟩ = some (.int .i64 x) ∧ w1.cell? ⟨W2.heap.size, 1, none⟩ = some (.int .i64 y) by assumption)
      have BW := Lib.hid (show Below W2.heap.size W2 w1 from (((((((((((Below.refl W2.heap.size W2).alloc (Nat.le_refl _) _).trans (BB.out.mono (Nat.le_succ _))).alloc (by omega) _).alloc (by simp; omega) _).alloc (by simp; omega) _).alloc (by simp; omega) _).alloc (by simp; omega) _).alloc (by simp; omega) _).alloc (by simp; omega) _).drew.grown hgrow (by simp; omega) (fun k hk => by have h9 : some g = some k := hk; cases h9; omega)))
      have B3 := Lib.hid (B2.out.trans (BW.out.mono B2.out.size))
      have Cl3 := Lib.hid (Cl2.out.below BW.out)
      obtain ⟨m, hm⟩ : ∃ m, m = l ++ [(y - 1, y + 1)] := ⟨_, rfl⟩
      have hml : l.length + 1 = m.length := by rw [hm]; simp
      have VM := Lib.hid (show validB m = false by rw [hm]; exact bad_snoc (by rw [HLAST.out]; dsimp only; omega))
      have Cb3 : Hid (Cells w1 (some ⟨gg, 0, none⟩) m) := by
        obtain ⟨q9, c9, e9, h9⟩ := (show Owns w1 (W2.heap.size + 1) (.slice (some ⟨gg, 0, none⟩) (l.length + 1) cap) m by unfold Owns; rw [← hml, hm, flat_snoc]; exact hown1).form
        injection e9 with e1 _ _
        subst e1
        exact Lib.hid h9
      rw [hml]
      have hmm : m.length ≤ 100 := by omega
      clear hown1 hgrow hat hlt hm BB O1 BW Cl2 B2 d1 d2 ag wy ix kp km
      obtain ⟨W3, hW3⟩ : ∃ W3, W3 = w1 := ⟨_, rfl⟩
      rw [← hW3] at Cd3 B3 Cl3 Cb3 ⊢
      clear hW3
      go_wp2_with fail
      refine (union_bad m l _ _ _ _ (by omega) (by omega) (by rw [VM.out]; rfl) _ Cb3.out Cl3.out).mono ?_
      rintro e W4 ⟨rfl, hb⟩
      have B4 := Lib.hid (below_next B3.out hb)
      have Cl4 := Lib.hid (Cells.below Cl3.out hb)
      have Cb4 := Lib.hid (Cells.below Cb3.out hb)
      have Cd4 := Lib.hid (pair_later Cd3.out hb)
      clear hb B3 Cl3 Cb3 Cd3
      go_wp2_with fail
      refine (meet_bad l m _ _ _ _ (by omega) (by omega) (by rw [VL.out, VM.out]; rfl) _ Cl4.out Cb4.out).mono ?_
      rintro e W5 ⟨rfl, hb⟩
      have B5 := Lib.hid (below_next B4.out hb)
      have Cl5 := Lib.hid (Cells.below Cl4.out hb)
      have Cb5 := Lib.hid (Cells.below Cb4.out hb)
      have Cd5 := Lib.hid (pair_later Cd4.out hb)
      clear hb B4 Cl4 Cb4 Cd4
      go_wp2_with fail
      refine (minus_bad m m _ _ _ _ (by omega) (by omega) (by rw [VM.out]; rfl) _ Cb5.out Cb5.out).mono ?_
      rintro e W6 ⟨rfl, hb⟩
      have B6 := Lib.hid (below_next B5.out hb)
      have Cl6 := Lib.hid (Cells.below Cl5.out hb)
      have Cb6 := Lib.hid (Cells.below Cb5.out hb)
      have Cd6 := Lib.hid (pair_later Cd5.out hb)
      clear hb B5 Cl5 Cb5 Cd5
      go_wp2_with fail
      refine (bridge_bad m 3 _ _ _ (by omega) (.inl VM.out) Cb6.out).mono ?_
      rintro e W7 ⟨rfl, hb⟩
      have B7 := Lib.hid (below_next B6.out hb)
      have Cl7 := Lib.hid (Cells.below Cl6.out hb)
      have Cb7 := Lib.hid (Cells.below Cb6.out hb)
      have Cd7 := Lib.hid (pair_later Cd6.out hb)
      clear hb B6 Cl6 Cb6 Cd6
      go_wp2_with fail
      refine (nth_bad m 0 _ _ _ (by omega) (.inl VM.out) Cb7.out).mono ?_
      rintro e W8 ⟨rfl, hb⟩
      have B8 := Lib.hid (below_next B7.out hb)
      have Cl8 := Lib.hid (Cells.below Cl7.out hb)
      have Cb8 := Lib.hid (Cells.below Cb7.out hb)
      have Cd8 := Lib.hid (pair_later Cd7.out hb)
      clear hb B7 Cl7 Cb7 Cd7
      go_wp2_with fail
      refine (valid_is m false _ _ _ VM.out (by omega) Cb8.out).mono ?_
      rintro e W9 ⟨rfl, hb⟩
      have B9 := Lib.hid (below_next B8.out hb)
      have Cl9 := Lib.hid (Cells.below Cl8.out hb)
      have Cb9 := Lib.hid (Cells.below Cb8.out hb)
      have Cd9 := Lib.hid (pair_later Cd8.out hb)
      clear hb B8 Cl8 Cb8 Cd8
      go_wp2_with fail
      refine (valid_is l true _ _ _ VL.out (by omega) Cl9.out).mono ?_
      rintro e W10 ⟨rfl, hb⟩
      have B10 := Lib.hid (below_next B9.out hb)
      have Cl10 := Lib.hid (Cells.below Cl9.out hb)
      have Cb10 := Lib.hid (Cells.below Cb9.out hb)
      have Cd10 := Lib.hid (pair_later Cd9.out hb)
      clear hb B9 Cl9 Cb9 Cd9
      obtain ⟨e1, e2⟩ := Cd10.out
      go_wp2_with fail
      refine (has_bad m x _ _ _ (by omega) VM.out Cb10.out).mono ?_
      rintro e W11 ⟨rfl, hb⟩
      have B11 := Lib.hid (below_next B10.out hb)
      have Cl11 := Lib.hid (Cells.below Cl10.out hb)
      have Cb11 := Lib.hid (Cells.below Cb10.out hb)
      have Cd11 := Lib.hid (pair_later Cd10.out hb)
      clear hb B10 Cl10 Cb10 Cd10
      clear e1 e2
      go_wp2_with fail
      refine (within_bad m l _ _ _ _ (by omega) (by omega) (by rw [VM.out]; rfl) _ Cb11.out Cl11.out).mono ?_
      rintro e W12 ⟨rfl, hb⟩
      have B12 := Lib.hid (below_next B11.out hb)
      have Cl12 := Lib.hid (Cells.below Cl11.out hb)
      have Cb12 := Lib.hid (Cells.below Cb11.out hb)
      have Cd12 := Lib.hid (pair_later Cd11.out hb)
      clear hb B11 Cl11 Cb11 Cd11
      go_wp2_with fail
      refine (within_bad l m _ _ _ _ (by omega) (by omega) (by rw [VL.out, VM.out]; rfl) _ Cl12.out Cb12.out).mono ?_
      rintro e W13 ⟨rfl, hb⟩
      have B13 := Lib.hid (below_next B12.out hb)
      have Cl13 := Lib.hid (Cells.below Cl12.out hb)
      have Cb13 := Lib.hid (Cells.below Cb12.out hb)
      have Cd13 := Lib.hid (pair_later Cd12.out hb)
      clear hb B12 Cl12 Cb12 Cd12
      go_wp2_with fail
      refine (days_is m _ _ _ 0 (by unfold befv; rw [VM.out]; rfl) (by omega) Cb13.out).mono ?_
      rintro e W14 ⟨rfl, hb⟩
      have B14 := Lib.hid (below_next B13.out hb)
      have Cl14 := Lib.hid (Cells.below Cl13.out hb)
      have Cb14 := Lib.hid (Cells.below Cb13.out hb)
      have Cd14 := Lib.hid (pair_later Cd13.out hb)
      clear hb B13 Cl13 Cb13 Cd13
      obtain ⟨e1, e2⟩ := Cd14.out
      go_wp2_with fail
      refine (before_is m y _ _ _ 0 (by unfold befv; rw [VM.out]; rfl) (by omega) Cb14.out).mono ?_
      rintro e W15 ⟨rfl, hb⟩
      have B15 := Lib.hid (below_next B14.out hb)
      have Cl15 := Lib.hid (Cells.below Cl14.out hb)
      have Cb15 := Lib.hid (Cells.below Cb14.out hb)
      have Cd15 := Lib.hid (pair_later Cd14.out hb)
      clear hb B14 Cl14 Cb14 Cd14
      go_wp2_with fail
      go_ret
      exact ⟨rfl, B15.out⟩

set_option maxHeartbeats 16000000 in
set_option maxRecDepth 100000 in
theorem wrong_law3 (pm : Option Addr) (nm cm : Nat) (way : Int) (w : World) (hm : Words w pm nm) (hw0 : 0 ≤ way) (_hw1 : way ≤ 255) (hway : way % 6 = 3) :
    Calls Try.prog 3 #[.slice pm nm cm, .int .u8 way] w fun e w' => e = .returned (.bool true) ∧ Below w.heap.size w w' := by
  have B0 := Lib.hid (Below.refl w.heap.size w)
  have Cm0 := Lib.hid hm
  have HWAY := Lib.hid hway
  clear hm hway
  obtain ⟨i0, hi0, hz0, hz1, hz2⟩ := info_parts info_span
  go_enter Try.func3, Try.ntmps3
  go_wp2_with fail
  refine (awake_any _).mono ?_
  rintro e W1 ⟨rfl, hb⟩
  have B1 := Lib.hid (below_next B0.out hb)
  have Cm1 := Lib.hid (Words.below Cm0.out hb)
  clear hb B0 Cm0
  go_wp2_with fail
  refine (built_any pm nm cm _ Cm1.out).mono ?_
  rintro e W2 ⟨v, l, rfl, hv, hll, ho, hb⟩
  obtain ⟨pl, cl, rfl, hcl⟩ := ho.form
  have VL := Lib.hid hv
  clear hv
  have B2 := Lib.hid (below_next B1.out hb)
  have Cm2 := Lib.hid (Words.below Cm1.out hb)
  have Cl2 := Lib.hid (hcl)
  clear hb B1 Cm1 hcl ho
  clear Cm2
  rcases Nat.eq_zero_or_pos l.length with hz | hz
  · obtain rfl : l = [] := List.eq_nil_of_length_eq_zero hz
    clear hz
    go_wp2
    go_ret
    exact ⟨rfl, B2.out⟩
  · obtain ⟨b, off, rfl, hbl, x, y, hxy, c1, c2⟩ := Cl2.out.at (l.length - 1) (by omega)
    have hg := valid_get VL.out (k := l.length - 1) (by omega)
    have hlast : lastTo (-1) l = y := by have h9 := lastTo_take' (-1) l l.length (Nat.le_refl _) hz; rw [List.take_length, hxy] at h9; exact h9
    simp only [hxy] at hg
    have HXY := Lib.hid hxy
    have HLAST := Lib.hid hlast
    clear hxy hlast
    have t1 : ((l.length : Int) == 0) = false := beq_eq_false_iff_ne.2 (by omega)
    have j0 : (0 : Int) ≤ (l.length : Int) - 1 := by omega
    have j2 : (l.length : Int) - 1 < (l.length : Int) := by omega
    have j3 : ((l.length : Int) - 1).toNat = l.length - 1 := by omega
    have j6 : (1 : Int) ≤ (l.length : Int) := by omega
    by_cases hy : 65533 < y
    · go_wp2
      go_ret
      exact ⟨rfl, B2.out⟩
    · have hne : b ≠ W2.heap.size := Nat.ne_of_lt hbl
      have hyd : decide (65533 < y) = false := by simpa using hy
      have Cn := Lib.hid (((Cl2.out.below ((Below.refl _ _).alloc (Nat.le_refl _) (.cells #[.int .i64 x, .int .i64 y] 27))).below ((Below.refl _ _).alloc (Nat.le_refl _) (.cells #[] 27))).news)
      have OE := Lib.hid (owns_empty (W2.alloc (.cells #[.int .i64 x, .int .i64 y] 27)))
      go_wp2_with (first | (at_builtin; refine wpList_append_own _ rfl _ _ 24 rfl (W2.heap.size + 1) 27 i0 (.agg #[.int .i64 0, .int .i64 0]) 2 16 Try.underlying24 hi0 hz0 hz1 hz2 rfl (by decide) _ 0 [] rfl (by have h9 := OE.out; simp at h9; exact h9) ⟨b, off, none⟩ l.length cl (flat l) rfl (flat_length l) Cn.out (flat_one l) (by unfold maxLen; omega) (by omega) (by simp) ?_; intro v' V1 hown' hgrow _))
      have O1 := Lib.hid (show Owns V1 (W2.heap.size + 1) v' l by have h9 := hown'; simp at h9; exact h9)
      have BB := Lib.hid (show Below (W2.heap.size + 1) (W2.alloc (.cells #[.int .i64 x, .int .i64 y] 27)) V1 from ((Below.refl _ _).alloc (by simp) _).grown hgrow (by simp) (fun k hk => by have h9 : some (W2.heap.size + 1) = some k := hk; cases h9; exact Nat.le_refl _))
      clear hown' hgrow Cn OE c1 c2
      obtain ⟨g, cb, rfl, hgb⟩ := O1.out.pos hz
      have d1 : V1.cell? ⟨W2.heap.size, 0, none⟩ = some (.int .i64 x) := (BB.out.cell (p := ⟨W2.heap.size, 0, none⟩) (by simp)).trans (by simp)
      have d2 : V1.cell? ⟨W2.heap.size, 1, none⟩ = some (.int .i64 y) := (BB.out.cell (p := ⟨W2.heap.size, 1, none⟩) (by simp)).trans (by simp)
      have hV1 : W2.heap.size + 1 ≤ V1.heap.size := by have := BB.out.size; simpa using this
      have ag : (Value.slice (some ⟨g, 0, none⟩) l.length cb).ownBlock ≠ some W2.heap.size := by simp [Value.ownBlock]; omega
      have wy : way.tmod 6 = 3 := by rw [Int.tmod_eq_emod_of_nonneg hw0]; exact HWAY.out
      have ix : ∀ w : World, (Instr.index 29 (.agg #[.int .i64 (y + 1), .int .i64 (y + 1), .int .i64 y, .int .i64 (y + 1), .int .i64 (y - 1), .int .i64 (y + 1), .int .i64 (-1), .int .i64 2, .int .i64 (y + 1), .int .i64 65537, .int .i64 x, .int .i64 y]) (.int .u8 3)).run Try.prog w = .ok (.agg #[.int .i64 (-1), .int .i64 (2)]) w := fun _ => by kernel_rfl
      go_wp2_with fail
      have kp : IntKind.i64.wrap (y + 1) = y + 1 := IntWalk.i64_in _ (by omega)
      have km : IntKind.i64.wrap (y - 1) = y - 1 := IntWalk.i64_in _ (by omega)
      go_region_held3 (fun w9 => w9.cell? ⟨W2.heap.size, 0, none⟩ = some (.int .i64 x) ∧ w9.cell? ⟨W2.heap.size, 1, none⟩ = some (.int .i64 y))
        (first | (refine ⟨?_, ?_⟩ <;> (repeat (first | with_reducible assumption | with_reducible exact d1 | with_reducible exact d2 | with_reducible refine keep_drew ?_ | with_reducible refine keep_alloc ?_)); done) | (go_split_ands; refine ⟨?_, ?_⟩ <;> (rw [hgrow.cell_far _ (by simp; omega) (Ne.symm ag)]; assumption)))
        (first | (go_at_call 13; refine (to_any _ _ _).mono ?_; rintro e w9 ⟨rfl, rfl⟩) | ((with_reducible refine at80 ?_); refine step_append_lies _ (by rfl) _ _ _ (by rfl) (W2.heap.size + 1) 27 i0 _ 2 16 Try.underlying24 hi0 hz0 hz1 hz2 rfl (by omega) _ l.length (flat l) (by rfl) ((World.ownsRow.alloc (World.ownsRow.alloc (World.ownsRow.alloc (World.ownsRow.alloc (World.ownsRow.alloc (World.ownsRow.alloc (World.ownsRow.alloc O1.out _) _) _) _) _) _) _).drew) ⟨V1.heap.size + 6, 0, none⟩ 1 1 [.int .i64 (-1), .int .i64 (2)] (by rfl) (by rfl) (by intro j9 u9 h9; exact cell_two_new _ _ _ 27 (V1.heap.size + 6) (by simp) j9 u9 h9) (by simp [Value.oneCell']) (by omega) (by unfold maxLen; omega) (by omega) (by simp; omega) (V1.heap.size + 7) (by simp) ?_; intro gg cap w1 hown1 hgrow hat hlt))
      have Cd3 := Lib.hid (show w1.cell? ⟨W2.heap.size, 0, none⟩ = some (.int .i64 x) ∧ w1.cell? ⟨W2.heap.size, 1, none⟩ = some (.int .i64 y) by assumption)
      have BW := Lib.hid (show Below W2.heap.size W2 w1 from (((((((((((Below.refl W2.heap.size W2).alloc (Nat.le_refl _) _).trans (BB.out.mono (Nat.le_succ _))).alloc (by omega) _).alloc (by simp; omega) _).alloc (by simp; omega) _).alloc (by simp; omega) _).alloc (by simp; omega) _).alloc (by simp; omega) _).alloc (by simp; omega) _).drew.grown hgrow (by simp; omega) (fun k hk => by have h9 : some g = some k := hk; cases h9; omega)))
      have B3 := Lib.hid (B2.out.trans (BW.out.mono B2.out.size))
      have Cl3 := Lib.hid (Cl2.out.below BW.out)
      obtain ⟨m, hm⟩ : ∃ m, m = l ++ [(-1, 2)] := ⟨_, rfl⟩
      have hml : l.length + 1 = m.length := by rw [hm]; simp
      have VM := Lib.hid (show validB m = false by rw [hm]; exact bad_snoc (by rw [HLAST.out]; dsimp only; omega))
      have Cb3 : Hid (Cells w1 (some ⟨gg, 0, none⟩) m) := by
        obtain ⟨q9, c9, e9, h9⟩ := (show Owns w1 (W2.heap.size + 1) (.slice (some ⟨gg, 0, none⟩) (l.length + 1) cap) m by unfold Owns; rw [← hml, hm, flat_snoc]; exact hown1).form
        injection e9 with e1 _ _
        subst e1
        exact Lib.hid h9
      rw [hml]
      have hmm : m.length ≤ 100 := by omega
      clear hown1 hgrow hat hlt hm BB O1 BW Cl2 B2 d1 d2 ag wy ix kp km
      obtain ⟨W3, hW3⟩ : ∃ W3, W3 = w1 := ⟨_, rfl⟩
      rw [← hW3] at Cd3 B3 Cl3 Cb3 ⊢
      clear hW3
      go_wp2_with fail
      refine (union_bad m l _ _ _ _ (by omega) (by omega) (by rw [VM.out]; rfl) _ Cb3.out Cl3.out).mono ?_
      rintro e W4 ⟨rfl, hb⟩
      have B4 := Lib.hid (below_next B3.out hb)
      have Cl4 := Lib.hid (Cells.below Cl3.out hb)
      have Cb4 := Lib.hid (Cells.below Cb3.out hb)
      have Cd4 := Lib.hid (pair_later Cd3.out hb)
      clear hb B3 Cl3 Cb3 Cd3
      go_wp2_with fail
      refine (meet_bad l m _ _ _ _ (by omega) (by omega) (by rw [VL.out, VM.out]; rfl) _ Cl4.out Cb4.out).mono ?_
      rintro e W5 ⟨rfl, hb⟩
      have B5 := Lib.hid (below_next B4.out hb)
      have Cl5 := Lib.hid (Cells.below Cl4.out hb)
      have Cb5 := Lib.hid (Cells.below Cb4.out hb)
      have Cd5 := Lib.hid (pair_later Cd4.out hb)
      clear hb B4 Cl4 Cb4 Cd4
      go_wp2_with fail
      refine (minus_bad m m _ _ _ _ (by omega) (by omega) (by rw [VM.out]; rfl) _ Cb5.out Cb5.out).mono ?_
      rintro e W6 ⟨rfl, hb⟩
      have B6 := Lib.hid (below_next B5.out hb)
      have Cl6 := Lib.hid (Cells.below Cl5.out hb)
      have Cb6 := Lib.hid (Cells.below Cb5.out hb)
      have Cd6 := Lib.hid (pair_later Cd5.out hb)
      clear hb B5 Cl5 Cb5 Cd5
      go_wp2_with fail
      refine (bridge_bad m 3 _ _ _ (by omega) (.inl VM.out) Cb6.out).mono ?_
      rintro e W7 ⟨rfl, hb⟩
      have B7 := Lib.hid (below_next B6.out hb)
      have Cl7 := Lib.hid (Cells.below Cl6.out hb)
      have Cb7 := Lib.hid (Cells.below Cb6.out hb)
      have Cd7 := Lib.hid (pair_later Cd6.out hb)
      clear hb B6 Cl6 Cb6 Cd6
      go_wp2_with fail
      refine (nth_bad m 0 _ _ _ (by omega) (.inl VM.out) Cb7.out).mono ?_
      rintro e W8 ⟨rfl, hb⟩
      have B8 := Lib.hid (below_next B7.out hb)
      have Cl8 := Lib.hid (Cells.below Cl7.out hb)
      have Cb8 := Lib.hid (Cells.below Cb7.out hb)
      have Cd8 := Lib.hid (pair_later Cd7.out hb)
      clear hb B7 Cl7 Cb7 Cd7
      go_wp2_with fail
      refine (valid_is m false _ _ _ VM.out (by omega) Cb8.out).mono ?_
      rintro e W9 ⟨rfl, hb⟩
      have B9 := Lib.hid (below_next B8.out hb)
      have Cl9 := Lib.hid (Cells.below Cl8.out hb)
      have Cb9 := Lib.hid (Cells.below Cb8.out hb)
      have Cd9 := Lib.hid (pair_later Cd8.out hb)
      clear hb B8 Cl8 Cb8 Cd8
      go_wp2_with fail
      refine (valid_is l true _ _ _ VL.out (by omega) Cl9.out).mono ?_
      rintro e W10 ⟨rfl, hb⟩
      have B10 := Lib.hid (below_next B9.out hb)
      have Cl10 := Lib.hid (Cells.below Cl9.out hb)
      have Cb10 := Lib.hid (Cells.below Cb9.out hb)
      have Cd10 := Lib.hid (pair_later Cd9.out hb)
      clear hb B9 Cl9 Cb9 Cd9
      obtain ⟨e1, e2⟩ := Cd10.out
      go_wp2_with fail
      refine (has_bad m x _ _ _ (by omega) VM.out Cb10.out).mono ?_
      rintro e W11 ⟨rfl, hb⟩
      have B11 := Lib.hid (below_next B10.out hb)
      have Cl11 := Lib.hid (Cells.below Cl10.out hb)
      have Cb11 := Lib.hid (Cells.below Cb10.out hb)
      have Cd11 := Lib.hid (pair_later Cd10.out hb)
      clear hb B10 Cl10 Cb10 Cd10
      clear e1 e2
      go_wp2_with fail
      refine (within_bad m l _ _ _ _ (by omega) (by omega) (by rw [VM.out]; rfl) _ Cb11.out Cl11.out).mono ?_
      rintro e W12 ⟨rfl, hb⟩
      have B12 := Lib.hid (below_next B11.out hb)
      have Cl12 := Lib.hid (Cells.below Cl11.out hb)
      have Cb12 := Lib.hid (Cells.below Cb11.out hb)
      have Cd12 := Lib.hid (pair_later Cd11.out hb)
      clear hb B11 Cl11 Cb11 Cd11
      go_wp2_with fail
      refine (within_bad l m _ _ _ _ (by omega) (by omega) (by rw [VL.out, VM.out]; rfl) _ Cl12.out Cb12.out).mono ?_
      rintro e W13 ⟨rfl, hb⟩
      have B13 := Lib.hid (below_next B12.out hb)
      have Cl13 := Lib.hid (Cells.below Cl12.out hb)
      have Cb13 := Lib.hid (Cells.below Cb12.out hb)
      have Cd13 := Lib.hid (pair_later Cd12.out hb)
      clear hb B12 Cl12 Cb12 Cd12
      go_wp2_with fail
      refine (days_is m _ _ _ 0 (by unfold befv; rw [VM.out]; rfl) (by omega) Cb13.out).mono ?_
      rintro e W14 ⟨rfl, hb⟩
      have B14 := Lib.hid (below_next B13.out hb)
      have Cl14 := Lib.hid (Cells.below Cl13.out hb)
      have Cb14 := Lib.hid (Cells.below Cb13.out hb)
      have Cd14 := Lib.hid (pair_later Cd13.out hb)
      clear hb B13 Cl13 Cb13 Cd13
      obtain ⟨e1, e2⟩ := Cd14.out
      go_wp2_with fail
      refine (before_is m y _ _ _ 0 (by unfold befv; rw [VM.out]; rfl) (by omega) Cb14.out).mono ?_
      rintro e W15 ⟨rfl, hb⟩
      have B15 := Lib.hid (below_next B14.out hb)
      have Cl15 := Lib.hid (Cells.below Cl14.out hb)
      have Cb15 := Lib.hid (Cells.below Cb14.out hb)
      have Cd15 := Lib.hid (pair_later Cd14.out hb)
      clear hb B14 Cl14 Cb14 Cd14
      go_wp2_with fail
      go_ret
      exact ⟨rfl, B15.out⟩

set_option maxHeartbeats 16000000 in
set_option maxRecDepth 100000 in
theorem wrong_law4 (pm : Option Addr) (nm cm : Nat) (way : Int) (w : World) (hm : Words w pm nm) (hw0 : 0 ≤ way) (_hw1 : way ≤ 255) (hway : way % 6 = 4) :
    Calls Try.prog 3 #[.slice pm nm cm, .int .u8 way] w fun e w' => e = .returned (.bool true) ∧ Below w.heap.size w w' := by
  have B0 := Lib.hid (Below.refl w.heap.size w)
  have Cm0 := Lib.hid hm
  have HWAY := Lib.hid hway
  clear hm hway
  obtain ⟨i0, hi0, hz0, hz1, hz2⟩ := info_parts info_span
  go_enter Try.func3, Try.ntmps3
  go_wp2_with fail
  refine (awake_any _).mono ?_
  rintro e W1 ⟨rfl, hb⟩
  have B1 := Lib.hid (below_next B0.out hb)
  have Cm1 := Lib.hid (Words.below Cm0.out hb)
  clear hb B0 Cm0
  go_wp2_with fail
  refine (built_any pm nm cm _ Cm1.out).mono ?_
  rintro e W2 ⟨v, l, rfl, hv, hll, ho, hb⟩
  obtain ⟨pl, cl, rfl, hcl⟩ := ho.form
  have VL := Lib.hid hv
  clear hv
  have B2 := Lib.hid (below_next B1.out hb)
  have Cm2 := Lib.hid (Words.below Cm1.out hb)
  have Cl2 := Lib.hid (hcl)
  clear hb B1 Cm1 hcl ho
  clear Cm2
  rcases Nat.eq_zero_or_pos l.length with hz | hz
  · obtain rfl : l = [] := List.eq_nil_of_length_eq_zero hz
    clear hz
    go_wp2
    go_ret
    exact ⟨rfl, B2.out⟩
  · obtain ⟨b, off, rfl, hbl, x, y, hxy, c1, c2⟩ := Cl2.out.at (l.length - 1) (by omega)
    have hg := valid_get VL.out (k := l.length - 1) (by omega)
    have hlast : lastTo (-1) l = y := by have h9 := lastTo_take' (-1) l l.length (Nat.le_refl _) hz; rw [List.take_length, hxy] at h9; exact h9
    simp only [hxy] at hg
    have HXY := Lib.hid hxy
    have HLAST := Lib.hid hlast
    clear hxy hlast
    have t1 : ((l.length : Int) == 0) = false := beq_eq_false_iff_ne.2 (by omega)
    have j0 : (0 : Int) ≤ (l.length : Int) - 1 := by omega
    have j2 : (l.length : Int) - 1 < (l.length : Int) := by omega
    have j3 : ((l.length : Int) - 1).toNat = l.length - 1 := by omega
    have j6 : (1 : Int) ≤ (l.length : Int) := by omega
    by_cases hy : 65533 < y
    · go_wp2
      go_ret
      exact ⟨rfl, B2.out⟩
    · have hne : b ≠ W2.heap.size := Nat.ne_of_lt hbl
      have hyd : decide (65533 < y) = false := by simpa using hy
      have Cn := Lib.hid (((Cl2.out.below ((Below.refl _ _).alloc (Nat.le_refl _) (.cells #[.int .i64 x, .int .i64 y] 27))).below ((Below.refl _ _).alloc (Nat.le_refl _) (.cells #[] 27))).news)
      have OE := Lib.hid (owns_empty (W2.alloc (.cells #[.int .i64 x, .int .i64 y] 27)))
      go_wp2_with (first | (at_builtin; refine wpList_append_own _ rfl _ _ 24 rfl (W2.heap.size + 1) 27 i0 (.agg #[.int .i64 0, .int .i64 0]) 2 16 Try.underlying24 hi0 hz0 hz1 hz2 rfl (by decide) _ 0 [] rfl (by have h9 := OE.out; simp at h9; exact h9) ⟨b, off, none⟩ l.length cl (flat l) rfl (flat_length l) Cn.out (flat_one l) (by unfold maxLen; omega) (by omega) (by simp) ?_; intro v' V1 hown' hgrow _))
      have O1 := Lib.hid (show Owns V1 (W2.heap.size + 1) v' l by have h9 := hown'; simp at h9; exact h9)
      have BB := Lib.hid (show Below (W2.heap.size + 1) (W2.alloc (.cells #[.int .i64 x, .int .i64 y] 27)) V1 from ((Below.refl _ _).alloc (by simp) _).grown hgrow (by simp) (fun k hk => by have h9 : some (W2.heap.size + 1) = some k := hk; cases h9; exact Nat.le_refl _))
      clear hown' hgrow Cn OE c1 c2
      obtain ⟨g, cb, rfl, hgb⟩ := O1.out.pos hz
      have d1 : V1.cell? ⟨W2.heap.size, 0, none⟩ = some (.int .i64 x) := (BB.out.cell (p := ⟨W2.heap.size, 0, none⟩) (by simp)).trans (by simp)
      have d2 : V1.cell? ⟨W2.heap.size, 1, none⟩ = some (.int .i64 y) := (BB.out.cell (p := ⟨W2.heap.size, 1, none⟩) (by simp)).trans (by simp)
      have hV1 : W2.heap.size + 1 ≤ V1.heap.size := by have := BB.out.size; simpa using this
      have ag : (Value.slice (some ⟨g, 0, none⟩) l.length cb).ownBlock ≠ some W2.heap.size := by simp [Value.ownBlock]; omega
      have wy : way.tmod 6 = 4 := by rw [Int.tmod_eq_emod_of_nonneg hw0]; exact HWAY.out
      have ix : ∀ w : World, (Instr.index 29 (.agg #[.int .i64 (y + 1), .int .i64 (y + 1), .int .i64 y, .int .i64 (y + 1), .int .i64 (y - 1), .int .i64 (y + 1), .int .i64 (-1), .int .i64 2, .int .i64 (y + 1), .int .i64 65537, .int .i64 x, .int .i64 y]) (.int .u8 4)).run Try.prog w = .ok (.agg #[.int .i64 (y + 1), .int .i64 (65537)]) w := fun _ => by kernel_rfl
      go_wp2_with fail
      have kp : IntKind.i64.wrap (y + 1) = y + 1 := IntWalk.i64_in _ (by omega)
      have km : IntKind.i64.wrap (y - 1) = y - 1 := IntWalk.i64_in _ (by omega)
      go_region_held3 (fun w9 => w9.cell? ⟨W2.heap.size, 0, none⟩ = some (.int .i64 x) ∧ w9.cell? ⟨W2.heap.size, 1, none⟩ = some (.int .i64 y))
        (first | (refine ⟨?_, ?_⟩ <;> (repeat (first | with_reducible assumption | with_reducible exact d1 | with_reducible exact d2 | with_reducible refine keep_drew ?_ | with_reducible refine keep_alloc ?_)); done) | (go_split_ands; refine ⟨?_, ?_⟩ <;> (rw [hgrow.cell_far _ (by simp; omega) (Ne.symm ag)]; assumption)))
        (first | (go_at_call 13; refine (to_any _ _ _).mono ?_; rintro e w9 ⟨rfl, rfl⟩) | ((with_reducible refine at80 ?_); refine step_append_lies _ (by rfl) _ _ _ (by rfl) (W2.heap.size + 1) 27 i0 _ 2 16 Try.underlying24 hi0 hz0 hz1 hz2 rfl (by omega) _ l.length (flat l) (by rfl) ((World.ownsRow.alloc (World.ownsRow.alloc (World.ownsRow.alloc (World.ownsRow.alloc (World.ownsRow.alloc (World.ownsRow.alloc (World.ownsRow.alloc O1.out _) _) _) _) _) _) _).drew) ⟨V1.heap.size + 6, 0, none⟩ 1 1 [.int .i64 (y + 1), .int .i64 (65537)] (by rfl) (by rfl) (by intro j9 u9 h9; exact cell_two_new _ _ _ 27 (V1.heap.size + 6) (by simp) j9 u9 h9) (by simp [Value.oneCell']) (by omega) (by unfold maxLen; omega) (by omega) (by simp; omega) (V1.heap.size + 7) (by simp) ?_; intro gg cap w1 hown1 hgrow hat hlt))
      have Cd3 := Lib.hid (show w1.cell? ⟨W2.heap.size, 0, none⟩ = some (.int .i64 x) ∧ w1.cell? ⟨W2.heap.size, 1, none⟩ = some (.int .i64 y) by assumption)
      have BW := Lib.hid (show Below W2.heap.size W2 w1 from (((((((((((Below.refl W2.heap.size W2).alloc (Nat.le_refl _) _).trans (BB.out.mono (Nat.le_succ _))).alloc (by omega) _).alloc (by simp; omega) _).alloc (by simp; omega) _).alloc (by simp; omega) _).alloc (by simp; omega) _).alloc (by simp; omega) _).alloc (by simp; omega) _).drew.grown hgrow (by simp; omega) (fun k hk => by have h9 : some g = some k := hk; cases h9; omega)))
      have B3 := Lib.hid (B2.out.trans (BW.out.mono B2.out.size))
      have Cl3 := Lib.hid (Cl2.out.below BW.out)
      obtain ⟨m, hm⟩ : ∃ m, m = l ++ [(y + 1, 65537)] := ⟨_, rfl⟩
      have hml : l.length + 1 = m.length := by rw [hm]; simp
      have VM := Lib.hid (show validB m = false by rw [hm]; exact bad_snoc (by rw [HLAST.out]; dsimp only; omega))
      have Cb3 : Hid (Cells w1 (some ⟨gg, 0, none⟩) m) := by
        obtain ⟨q9, c9, e9, h9⟩ := (show Owns w1 (W2.heap.size + 1) (.slice (some ⟨gg, 0, none⟩) (l.length + 1) cap) m by unfold Owns; rw [← hml, hm, flat_snoc]; exact hown1).form
        injection e9 with e1 _ _
        subst e1
        exact Lib.hid h9
      rw [hml]
      have hmm : m.length ≤ 100 := by omega
      clear hown1 hgrow hat hlt hm BB O1 BW Cl2 B2 d1 d2 ag wy ix kp km
      obtain ⟨W3, hW3⟩ : ∃ W3, W3 = w1 := ⟨_, rfl⟩
      rw [← hW3] at Cd3 B3 Cl3 Cb3 ⊢
      clear hW3
      go_wp2_with fail
      refine (union_bad m l _ _ _ _ (by omega) (by omega) (by rw [VM.out]; rfl) _ Cb3.out Cl3.out).mono ?_
      rintro e W4 ⟨rfl, hb⟩
      have B4 := Lib.hid (below_next B3.out hb)
      have Cl4 := Lib.hid (Cells.below Cl3.out hb)
      have Cb4 := Lib.hid (Cells.below Cb3.out hb)
      have Cd4 := Lib.hid (pair_later Cd3.out hb)
      clear hb B3 Cl3 Cb3 Cd3
      go_wp2_with fail
      refine (meet_bad l m _ _ _ _ (by omega) (by omega) (by rw [VL.out, VM.out]; rfl) _ Cl4.out Cb4.out).mono ?_
      rintro e W5 ⟨rfl, hb⟩
      have B5 := Lib.hid (below_next B4.out hb)
      have Cl5 := Lib.hid (Cells.below Cl4.out hb)
      have Cb5 := Lib.hid (Cells.below Cb4.out hb)
      have Cd5 := Lib.hid (pair_later Cd4.out hb)
      clear hb B4 Cl4 Cb4 Cd4
      go_wp2_with fail
      refine (minus_bad m m _ _ _ _ (by omega) (by omega) (by rw [VM.out]; rfl) _ Cb5.out Cb5.out).mono ?_
      rintro e W6 ⟨rfl, hb⟩
      have B6 := Lib.hid (below_next B5.out hb)
      have Cl6 := Lib.hid (Cells.below Cl5.out hb)
      have Cb6 := Lib.hid (Cells.below Cb5.out hb)
      have Cd6 := Lib.hid (pair_later Cd5.out hb)
      clear hb B5 Cl5 Cb5 Cd5
      go_wp2_with fail
      refine (bridge_bad m 3 _ _ _ (by omega) (.inl VM.out) Cb6.out).mono ?_
      rintro e W7 ⟨rfl, hb⟩
      have B7 := Lib.hid (below_next B6.out hb)
      have Cl7 := Lib.hid (Cells.below Cl6.out hb)
      have Cb7 := Lib.hid (Cells.below Cb6.out hb)
      have Cd7 := Lib.hid (pair_later Cd6.out hb)
      clear hb B6 Cl6 Cb6 Cd6
      go_wp2_with fail
      refine (nth_bad m 0 _ _ _ (by omega) (.inl VM.out) Cb7.out).mono ?_
      rintro e W8 ⟨rfl, hb⟩
      have B8 := Lib.hid (below_next B7.out hb)
      have Cl8 := Lib.hid (Cells.below Cl7.out hb)
      have Cb8 := Lib.hid (Cells.below Cb7.out hb)
      have Cd8 := Lib.hid (pair_later Cd7.out hb)
      clear hb B7 Cl7 Cb7 Cd7
      go_wp2_with fail
      refine (valid_is m false _ _ _ VM.out (by omega) Cb8.out).mono ?_
      rintro e W9 ⟨rfl, hb⟩
      have B9 := Lib.hid (below_next B8.out hb)
      have Cl9 := Lib.hid (Cells.below Cl8.out hb)
      have Cb9 := Lib.hid (Cells.below Cb8.out hb)
      have Cd9 := Lib.hid (pair_later Cd8.out hb)
      clear hb B8 Cl8 Cb8 Cd8
      go_wp2_with fail
      refine (valid_is l true _ _ _ VL.out (by omega) Cl9.out).mono ?_
      rintro e W10 ⟨rfl, hb⟩
      have B10 := Lib.hid (below_next B9.out hb)
      have Cl10 := Lib.hid (Cells.below Cl9.out hb)
      have Cb10 := Lib.hid (Cells.below Cb9.out hb)
      have Cd10 := Lib.hid (pair_later Cd9.out hb)
      clear hb B9 Cl9 Cb9 Cd9
      obtain ⟨e1, e2⟩ := Cd10.out
      go_wp2_with fail
      refine (has_bad m x _ _ _ (by omega) VM.out Cb10.out).mono ?_
      rintro e W11 ⟨rfl, hb⟩
      have B11 := Lib.hid (below_next B10.out hb)
      have Cl11 := Lib.hid (Cells.below Cl10.out hb)
      have Cb11 := Lib.hid (Cells.below Cb10.out hb)
      have Cd11 := Lib.hid (pair_later Cd10.out hb)
      clear hb B10 Cl10 Cb10 Cd10
      clear e1 e2
      go_wp2_with fail
      refine (within_bad m l _ _ _ _ (by omega) (by omega) (by rw [VM.out]; rfl) _ Cb11.out Cl11.out).mono ?_
      rintro e W12 ⟨rfl, hb⟩
      have B12 := Lib.hid (below_next B11.out hb)
      have Cl12 := Lib.hid (Cells.below Cl11.out hb)
      have Cb12 := Lib.hid (Cells.below Cb11.out hb)
      have Cd12 := Lib.hid (pair_later Cd11.out hb)
      clear hb B11 Cl11 Cb11 Cd11
      go_wp2_with fail
      refine (within_bad l m _ _ _ _ (by omega) (by omega) (by rw [VL.out, VM.out]; rfl) _ Cl12.out Cb12.out).mono ?_
      rintro e W13 ⟨rfl, hb⟩
      have B13 := Lib.hid (below_next B12.out hb)
      have Cl13 := Lib.hid (Cells.below Cl12.out hb)
      have Cb13 := Lib.hid (Cells.below Cb12.out hb)
      have Cd13 := Lib.hid (pair_later Cd12.out hb)
      clear hb B12 Cl12 Cb12 Cd12
      go_wp2_with fail
      refine (days_is m _ _ _ 0 (by unfold befv; rw [VM.out]; rfl) (by omega) Cb13.out).mono ?_
      rintro e W14 ⟨rfl, hb⟩
      have B14 := Lib.hid (below_next B13.out hb)
      have Cl14 := Lib.hid (Cells.below Cl13.out hb)
      have Cb14 := Lib.hid (Cells.below Cb13.out hb)
      have Cd14 := Lib.hid (pair_later Cd13.out hb)
      clear hb B13 Cl13 Cb13 Cd13
      obtain ⟨e1, e2⟩ := Cd14.out
      go_wp2_with fail
      refine (before_is m y _ _ _ 0 (by unfold befv; rw [VM.out]; rfl) (by omega) Cb14.out).mono ?_
      rintro e W15 ⟨rfl, hb⟩
      have B15 := Lib.hid (below_next B14.out hb)
      have Cl15 := Lib.hid (Cells.below Cl14.out hb)
      have Cb15 := Lib.hid (Cells.below Cb14.out hb)
      have Cd15 := Lib.hid (pair_later Cd14.out hb)
      clear hb B14 Cl14 Cb14 Cd14
      go_wp2_with fail
      go_ret
      exact ⟨rfl, B15.out⟩

set_option maxHeartbeats 16000000 in
set_option maxRecDepth 100000 in
theorem wrong_law5 (pm : Option Addr) (nm cm : Nat) (way : Int) (w : World) (hm : Words w pm nm) (hw0 : 0 ≤ way) (_hw1 : way ≤ 255) (hway : way % 6 = 5) :
    Calls Try.prog 3 #[.slice pm nm cm, .int .u8 way] w fun e w' => e = .returned (.bool true) ∧ Below w.heap.size w w' := by
  have B0 := Lib.hid (Below.refl w.heap.size w)
  have Cm0 := Lib.hid hm
  have HWAY := Lib.hid hway
  clear hm hway
  obtain ⟨i0, hi0, hz0, hz1, hz2⟩ := info_parts info_span
  go_enter Try.func3, Try.ntmps3
  go_wp2_with fail
  refine (awake_any _).mono ?_
  rintro e W1 ⟨rfl, hb⟩
  have B1 := Lib.hid (below_next B0.out hb)
  have Cm1 := Lib.hid (Words.below Cm0.out hb)
  clear hb B0 Cm0
  go_wp2_with fail
  refine (built_any pm nm cm _ Cm1.out).mono ?_
  rintro e W2 ⟨v, l, rfl, hv, hll, ho, hb⟩
  obtain ⟨pl, cl, rfl, hcl⟩ := ho.form
  have VL := Lib.hid hv
  clear hv
  have B2 := Lib.hid (below_next B1.out hb)
  have Cm2 := Lib.hid (Words.below Cm1.out hb)
  have Cl2 := Lib.hid (hcl)
  clear hb B1 Cm1 hcl ho
  clear Cm2
  rcases Nat.eq_zero_or_pos l.length with hz | hz
  · obtain rfl : l = [] := List.eq_nil_of_length_eq_zero hz
    clear hz
    go_wp2
    go_ret
    exact ⟨rfl, B2.out⟩
  · obtain ⟨b, off, rfl, hbl, x, y, hxy, c1, c2⟩ := Cl2.out.at (l.length - 1) (by omega)
    have hg := valid_get VL.out (k := l.length - 1) (by omega)
    have hlast : lastTo (-1) l = y := by have h9 := lastTo_take' (-1) l l.length (Nat.le_refl _) hz; rw [List.take_length, hxy] at h9; exact h9
    simp only [hxy] at hg
    have HXY := Lib.hid hxy
    have HLAST := Lib.hid hlast
    clear hxy hlast
    have t1 : ((l.length : Int) == 0) = false := beq_eq_false_iff_ne.2 (by omega)
    have j0 : (0 : Int) ≤ (l.length : Int) - 1 := by omega
    have j2 : (l.length : Int) - 1 < (l.length : Int) := by omega
    have j3 : ((l.length : Int) - 1).toNat = l.length - 1 := by omega
    have j6 : (1 : Int) ≤ (l.length : Int) := by omega
    by_cases hy : 65533 < y
    · go_wp2
      go_ret
      exact ⟨rfl, B2.out⟩
    · have hne : b ≠ W2.heap.size := Nat.ne_of_lt hbl
      have hyd : decide (65533 < y) = false := by simpa using hy
      have Cn := Lib.hid (((Cl2.out.below ((Below.refl _ _).alloc (Nat.le_refl _) (.cells #[.int .i64 x, .int .i64 y] 27))).below ((Below.refl _ _).alloc (Nat.le_refl _) (.cells #[] 27))).news)
      have OE := Lib.hid (owns_empty (W2.alloc (.cells #[.int .i64 x, .int .i64 y] 27)))
      go_wp2_with (first | (at_builtin; refine wpList_append_own _ rfl _ _ 24 rfl (W2.heap.size + 1) 27 i0 (.agg #[.int .i64 0, .int .i64 0]) 2 16 Try.underlying24 hi0 hz0 hz1 hz2 rfl (by decide) _ 0 [] rfl (by have h9 := OE.out; simp at h9; exact h9) ⟨b, off, none⟩ l.length cl (flat l) rfl (flat_length l) Cn.out (flat_one l) (by unfold maxLen; omega) (by omega) (by simp) ?_; intro v' V1 hown' hgrow _))
      have O1 := Lib.hid (show Owns V1 (W2.heap.size + 1) v' l by have h9 := hown'; simp at h9; exact h9)
      have BB := Lib.hid (show Below (W2.heap.size + 1) (W2.alloc (.cells #[.int .i64 x, .int .i64 y] 27)) V1 from ((Below.refl _ _).alloc (by simp) _).grown hgrow (by simp) (fun k hk => by have h9 : some (W2.heap.size + 1) = some k := hk; cases h9; exact Nat.le_refl _))
      clear hown' hgrow Cn OE c1 c2
      obtain ⟨g, cb, rfl, hgb⟩ := O1.out.pos hz
      have d1 : V1.cell? ⟨W2.heap.size, 0, none⟩ = some (.int .i64 x) := (BB.out.cell (p := ⟨W2.heap.size, 0, none⟩) (by simp)).trans (by simp)
      have d2 : V1.cell? ⟨W2.heap.size, 1, none⟩ = some (.int .i64 y) := (BB.out.cell (p := ⟨W2.heap.size, 1, none⟩) (by simp)).trans (by simp)
      have hV1 : W2.heap.size + 1 ≤ V1.heap.size := by have := BB.out.size; simpa using this
      have ag : (Value.slice (some ⟨g, 0, none⟩) l.length cb).ownBlock ≠ some W2.heap.size := by simp [Value.ownBlock]; omega
      have wy : way.tmod 6 = 5 := by rw [Int.tmod_eq_emod_of_nonneg hw0]; exact HWAY.out
      have ix : ∀ w : World, (Instr.index 29 (.agg #[.int .i64 (y + 1), .int .i64 (y + 1), .int .i64 y, .int .i64 (y + 1), .int .i64 (y - 1), .int .i64 (y + 1), .int .i64 (-1), .int .i64 2, .int .i64 (y + 1), .int .i64 65537, .int .i64 x, .int .i64 y]) (.int .u8 5)).run Try.prog w = .ok (.agg #[.int .i64 (x), .int .i64 (y)]) w := fun _ => by kernel_rfl
      go_wp2_with fail
      have kp : IntKind.i64.wrap (y + 1) = y + 1 := IntWalk.i64_in _ (by omega)
      have km : IntKind.i64.wrap (y - 1) = y - 1 := IntWalk.i64_in _ (by omega)
      go_region_held3 (fun w9 => w9.cell? ⟨W2.heap.size, 0, none⟩ = some (.int .i64 x) ∧ w9.cell? ⟨W2.heap.size, 1, none⟩ = some (.int .i64 y))
        (first | (refine ⟨?_, ?_⟩ <;> (repeat (first | with_reducible assumption | with_reducible exact d1 | with_reducible exact d2 | with_reducible refine keep_drew ?_ | with_reducible refine keep_alloc ?_)); done) | (go_split_ands; refine ⟨?_, ?_⟩ <;> (rw [hgrow.cell_far _ (by simp; omega) (Ne.symm ag)]; assumption)))
        (first | (go_at_call 13; refine (to_any _ _ _).mono ?_; rintro e w9 ⟨rfl, rfl⟩) | ((with_reducible refine at80 ?_); refine step_append_lies _ (by rfl) _ _ _ (by rfl) (W2.heap.size + 1) 27 i0 _ 2 16 Try.underlying24 hi0 hz0 hz1 hz2 rfl (by omega) _ l.length (flat l) (by rfl) ((World.ownsRow.alloc (World.ownsRow.alloc (World.ownsRow.alloc (World.ownsRow.alloc (World.ownsRow.alloc (World.ownsRow.alloc (World.ownsRow.alloc O1.out _) _) _) _) _) _) _).drew) ⟨V1.heap.size + 6, 0, none⟩ 1 1 [.int .i64 (x), .int .i64 (y)] (by rfl) (by rfl) (by intro j9 u9 h9; exact cell_two_new _ _ _ 27 (V1.heap.size + 6) (by simp) j9 u9 h9) (by simp [Value.oneCell']) (by omega) (by unfold maxLen; omega) (by omega) (by simp; omega) (V1.heap.size + 7) (by simp) ?_; intro gg cap w1 hown1 hgrow hat hlt))
      have Cd3 := Lib.hid (show w1.cell? ⟨W2.heap.size, 0, none⟩ = some (.int .i64 x) ∧ w1.cell? ⟨W2.heap.size, 1, none⟩ = some (.int .i64 y) by assumption)
      have BW := Lib.hid (show Below W2.heap.size W2 w1 from (((((((((((Below.refl W2.heap.size W2).alloc (Nat.le_refl _) _).trans (BB.out.mono (Nat.le_succ _))).alloc (by omega) _).alloc (by simp; omega) _).alloc (by simp; omega) _).alloc (by simp; omega) _).alloc (by simp; omega) _).alloc (by simp; omega) _).alloc (by simp; omega) _).drew.grown hgrow (by simp; omega) (fun k hk => by have h9 : some g = some k := hk; cases h9; omega)))
      have B3 := Lib.hid (B2.out.trans (BW.out.mono B2.out.size))
      have Cl3 := Lib.hid (Cl2.out.below BW.out)
      obtain ⟨m, hm⟩ : ∃ m, m = l ++ [(x, y)] := ⟨_, rfl⟩
      have hml : l.length + 1 = m.length := by rw [hm]; simp
      have VM := Lib.hid (show validB m = false by rw [hm]; exact bad_snoc (by rw [HLAST.out]; dsimp only; omega))
      have Cb3 : Hid (Cells w1 (some ⟨gg, 0, none⟩) m) := by
        obtain ⟨q9, c9, e9, h9⟩ := (show Owns w1 (W2.heap.size + 1) (.slice (some ⟨gg, 0, none⟩) (l.length + 1) cap) m by unfold Owns; rw [← hml, hm, flat_snoc]; exact hown1).form
        injection e9 with e1 _ _
        subst e1
        exact Lib.hid h9
      rw [hml]
      have hmm : m.length ≤ 100 := by omega
      clear hown1 hgrow hat hlt hm BB O1 BW Cl2 B2 d1 d2 ag wy ix kp km
      obtain ⟨W3, hW3⟩ : ∃ W3, W3 = w1 := ⟨_, rfl⟩
      rw [← hW3] at Cd3 B3 Cl3 Cb3 ⊢
      clear hW3
      go_wp2_with fail
      refine (union_bad m l _ _ _ _ (by omega) (by omega) (by rw [VM.out]; rfl) _ Cb3.out Cl3.out).mono ?_
      rintro e W4 ⟨rfl, hb⟩
      have B4 := Lib.hid (below_next B3.out hb)
      have Cl4 := Lib.hid (Cells.below Cl3.out hb)
      have Cb4 := Lib.hid (Cells.below Cb3.out hb)
      have Cd4 := Lib.hid (pair_later Cd3.out hb)
      clear hb B3 Cl3 Cb3 Cd3
      go_wp2_with fail
      refine (meet_bad l m _ _ _ _ (by omega) (by omega) (by rw [VL.out, VM.out]; rfl) _ Cl4.out Cb4.out).mono ?_
      rintro e W5 ⟨rfl, hb⟩
      have B5 := Lib.hid (below_next B4.out hb)
      have Cl5 := Lib.hid (Cells.below Cl4.out hb)
      have Cb5 := Lib.hid (Cells.below Cb4.out hb)
      have Cd5 := Lib.hid (pair_later Cd4.out hb)
      clear hb B4 Cl4 Cb4 Cd4
      go_wp2_with fail
      refine (minus_bad m m _ _ _ _ (by omega) (by omega) (by rw [VM.out]; rfl) _ Cb5.out Cb5.out).mono ?_
      rintro e W6 ⟨rfl, hb⟩
      have B6 := Lib.hid (below_next B5.out hb)
      have Cl6 := Lib.hid (Cells.below Cl5.out hb)
      have Cb6 := Lib.hid (Cells.below Cb5.out hb)
      have Cd6 := Lib.hid (pair_later Cd5.out hb)
      clear hb B5 Cl5 Cb5 Cd5
      go_wp2_with fail
      refine (bridge_bad m 3 _ _ _ (by omega) (.inl VM.out) Cb6.out).mono ?_
      rintro e W7 ⟨rfl, hb⟩
      have B7 := Lib.hid (below_next B6.out hb)
      have Cl7 := Lib.hid (Cells.below Cl6.out hb)
      have Cb7 := Lib.hid (Cells.below Cb6.out hb)
      have Cd7 := Lib.hid (pair_later Cd6.out hb)
      clear hb B6 Cl6 Cb6 Cd6
      go_wp2_with fail
      refine (nth_bad m 0 _ _ _ (by omega) (.inl VM.out) Cb7.out).mono ?_
      rintro e W8 ⟨rfl, hb⟩
      have B8 := Lib.hid (below_next B7.out hb)
      have Cl8 := Lib.hid (Cells.below Cl7.out hb)
      have Cb8 := Lib.hid (Cells.below Cb7.out hb)
      have Cd8 := Lib.hid (pair_later Cd7.out hb)
      clear hb B7 Cl7 Cb7 Cd7
      go_wp2_with fail
      refine (valid_is m false _ _ _ VM.out (by omega) Cb8.out).mono ?_
      rintro e W9 ⟨rfl, hb⟩
      have B9 := Lib.hid (below_next B8.out hb)
      have Cl9 := Lib.hid (Cells.below Cl8.out hb)
      have Cb9 := Lib.hid (Cells.below Cb8.out hb)
      have Cd9 := Lib.hid (pair_later Cd8.out hb)
      clear hb B8 Cl8 Cb8 Cd8
      go_wp2_with fail
      refine (valid_is l true _ _ _ VL.out (by omega) Cl9.out).mono ?_
      rintro e W10 ⟨rfl, hb⟩
      have B10 := Lib.hid (below_next B9.out hb)
      have Cl10 := Lib.hid (Cells.below Cl9.out hb)
      have Cb10 := Lib.hid (Cells.below Cb9.out hb)
      have Cd10 := Lib.hid (pair_later Cd9.out hb)
      clear hb B9 Cl9 Cb9 Cd9
      obtain ⟨e1, e2⟩ := Cd10.out
      go_wp2_with fail
      refine (has_bad m x _ _ _ (by omega) VM.out Cb10.out).mono ?_
      rintro e W11 ⟨rfl, hb⟩
      have B11 := Lib.hid (below_next B10.out hb)
      have Cl11 := Lib.hid (Cells.below Cl10.out hb)
      have Cb11 := Lib.hid (Cells.below Cb10.out hb)
      have Cd11 := Lib.hid (pair_later Cd10.out hb)
      clear hb B10 Cl10 Cb10 Cd10
      clear e1 e2
      go_wp2_with fail
      refine (within_bad m l _ _ _ _ (by omega) (by omega) (by rw [VM.out]; rfl) _ Cb11.out Cl11.out).mono ?_
      rintro e W12 ⟨rfl, hb⟩
      have B12 := Lib.hid (below_next B11.out hb)
      have Cl12 := Lib.hid (Cells.below Cl11.out hb)
      have Cb12 := Lib.hid (Cells.below Cb11.out hb)
      have Cd12 := Lib.hid (pair_later Cd11.out hb)
      clear hb B11 Cl11 Cb11 Cd11
      go_wp2_with fail
      refine (within_bad l m _ _ _ _ (by omega) (by omega) (by rw [VL.out, VM.out]; rfl) _ Cl12.out Cb12.out).mono ?_
      rintro e W13 ⟨rfl, hb⟩
      have B13 := Lib.hid (below_next B12.out hb)
      have Cl13 := Lib.hid (Cells.below Cl12.out hb)
      have Cb13 := Lib.hid (Cells.below Cb12.out hb)
      have Cd13 := Lib.hid (pair_later Cd12.out hb)
      clear hb B12 Cl12 Cb12 Cd12
      go_wp2_with fail
      refine (days_is m _ _ _ 0 (by unfold befv; rw [VM.out]; rfl) (by omega) Cb13.out).mono ?_
      rintro e W14 ⟨rfl, hb⟩
      have B14 := Lib.hid (below_next B13.out hb)
      have Cl14 := Lib.hid (Cells.below Cl13.out hb)
      have Cb14 := Lib.hid (Cells.below Cb13.out hb)
      have Cd14 := Lib.hid (pair_later Cd13.out hb)
      clear hb B13 Cl13 Cb13 Cd13
      obtain ⟨e1, e2⟩ := Cd14.out
      go_wp2_with fail
      refine (before_is m y _ _ _ 0 (by unfold befv; rw [VM.out]; rfl) (by omega) Cb14.out).mono ?_
      rintro e W15 ⟨rfl, hb⟩
      have B15 := Lib.hid (below_next B14.out hb)
      have Cl15 := Lib.hid (Cells.below Cl14.out hb)
      have Cb15 := Lib.hid (Cells.below Cb14.out hb)
      have Cd15 := Lib.hid (pair_later Cd14.out hb)
      clear hb B14 Cl14 Cb14 Cd14
      go_wp2_with fail
      go_ret
      exact ⟨rfl, B15.out⟩


end Go.Proofs.Ytgpbdocgnfjckaa
