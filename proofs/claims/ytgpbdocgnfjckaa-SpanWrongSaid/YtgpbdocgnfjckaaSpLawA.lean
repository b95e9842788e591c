/- SpanAlgebra: the walk of the law. -/
import Derived.Test.YtgpbdocgnfjckaaSpLawG
namespace Go.Proofs.Ytgpbdocgnfjckaa
open Go.RowKit Go.Shelf Sp

/-- A slice of k ints, in memory of its own. -/
def Looks (W : World) (base : Nat) (v : Value) (k : Nat) : Prop := ∃ xs : List Int, W.ownsRow base 3 1 v k (xs.map (.int .i64))

theorem Looks.alloc {W : World} {base : Nat} {v : Value} {k : Nat} (h : Looks W base v k) (o : Obj) : Looks (W.alloc o) base v k := by
  obtain ⟨xs, h⟩ := h; exact ⟨xs, World.ownsRow.alloc h o⟩

theorem Looks.form {W : World} {base : Nat} {v : Value} {k : Nat} (h : Looks W base v k) : ∃ p cap, v = .slice p k cap ∧ ∀ i, i < k → ∃ b d, p = some ⟨b, 0, none⟩ ∧ b < W.heap.size ∧ W.cell? ⟨b, 0 + i, none⟩ = some (.int .i64 d) := by
  obtain ⟨xs, hl, hv⟩ := h
  rcases hv with ⟨rfl, h0⟩ | ⟨g, cap, cur, rfl, _, hg, hc, _, hs, ht⟩
  · exact ⟨none, 0, by rw [h0], fun i hi => by omega⟩
  · refine ⟨_, cap, rfl, fun i hi => ?_⟩
    rw [List.length_map] at hl
    refine ⟨g, xs[i]'(by omega), rfl, (Array.getElem?_eq_some_iff.1 hg).1, ?_⟩
    have h1 : (cur.toList.take (k * 1))[i]? = some (.int .i64 (xs[i]'(by omega))) := by rw [ht, List.getElem?_map, List.getElem?_eq_getElem (by omega)]; rfl
    rw [List.getElem?_take, if_pos (by omega), Array.getElem?_toList] at h1
    simp [World.cell?, hg, h1]

theorem Looks.one (W : World) (d : Int) : Looks (W.alloc (.cells #[.int .i64 d] 3)) W.heap.size (.slice (some ⟨W.heap.size, 0, none⟩) 1 1) 1 :=
  ⟨[d], rfl, .inr ⟨W.heap.size, 1, #[.int .i64 d], rfl, Nat.le_refl _, World.alloc_heap_new W _, Nat.le_refl _, by unfold maxLen; omega, rfl, rfl⟩⟩

theorem Boxed2.not_row {W : World} {B : Nat} {t e : TypeId} {x y : Value} (h : Boxed2 W B t x y) (hte : t ≠ e) {base size k : Nat} {v : Value} {xs : List Value} (hr : W.ownsRow base e size v k xs) : some B ≠ v.ownBlock := by
  rcases hr.2 with ⟨rfl, _⟩ | ⟨g, cap, cur, rfl, _, hgb, _⟩
  · simp [Value.ownBlock]
  · intro e'
    obtain rfl : B = g := by simpa [Value.ownBlock] using e'
    have := (show W.heap[B]? = _ from h).symm.trans hgb
    simp at this
    exact hte this.2

theorem Boxed2.alloc {W : World} {B : Nat} {t : TypeId} {x y : Value} (h : Boxed2 W B t x y) (o : Obj) : Boxed2 (W.alloc o) B t x y := (Below.heap_alloc W o B h.lt).trans h

theorem Boxed2.keptRow {W w1 : World} {o1 o2 : Obj} {B : Nat} {t e : TypeId} {x y : Value} (h : Boxed2 W B t x y) (hte : t ≠ e) {base size k : Nat} {v : Value} {xs : List Value} (hr : W.ownsRow base e size v k xs) (hg : ((W.alloc o1).alloc o2).grownBy w1 v.ownBlock) : Boxed2 w1 B t x y :=
  ((h.alloc o1).alloc o2).kept hg (h.not_row hte hr)

theorem below_grownRow2 {W w1 w : World} {o1 o2 : Obj} {base : Nat} {e : TypeId} {size k : Nat} {v : Value} {xs : List Value} (hr : W.ownsRow base e size v k xs) (hw : Below base w W) (hs : base ≤ W.heap.size) (hg : ((W.alloc o1).alloc o2).grownBy w1 v.ownBlock) : Below base w w1 := by
  refine ((hw.alloc hs o1).alloc (by simp; omega) o2).grown hg (by simp; omega) fun j ej => ?_
  rcases hr.2 with ⟨rfl, _⟩ | ⟨g, cap, cur, rfl, hb, _, _⟩
  · simp [Value.ownBlock] at ej
  · obtain rfl : g = j := by simpa [Value.ownBlock] using ej
    exact hb

theorem below_grownRow {W w1 w : World} {base : Nat} {e : TypeId} {size k : Nat} {v : Value} {xs : List Value} (hr : W.ownsRow base e size v k xs) (hw : Below base w W) (hs : base ≤ W.heap.size) (hg : W.grownBy w1 v.ownBlock) : Below base w w1 := by
  refine hw.grown hg hs fun j ej => ?_
  rcases hr.2 with ⟨rfl, _⟩ | ⟨g, cap, cur, rfl, hb, _, _⟩
  · simp [Value.ownBlock] at ej
  · obtain rfl : g = j := by simpa [Value.ownBlock] using ej
    exact hb

theorem cell_four_new (w : World) (a b c d : Value) (t : TypeId) (k : Nat) (hk : w.heap.size = k) : ∀ j u, [a, b, c, d][j]? = some u → (w.alloc (.cells #[a, b, c, d] t)).cell? ((⟨k, 0, none⟩ : Addr).add j) = some u := by
  subst hk
  intro j u hj
  rw [WideShapes.add_plain]
  match j, hj with
  | 0, hj => simp at hj; subst hj; simp
  | 1, hj => simp at hj; subst hj; simp
  | 2, hj => simp at hj; subst hj; simp
  | 3, hj => simp at hj; subst hj; simp
  | j + 4, hj => simp at hj

theorem info_int : (Try.prog.info? 3).map (fun i => (i.zero, i.size, i.bytes)) = some (some (.int .i64 0), 1, 8) := by kernel_rfl

set_option maxHeartbeats 8000000 in
set_option maxRecDepth 100000 in
theorem algebra_law (pm pn : Option Addr) (nm cm nn cn : Nat) (day : Int) (w : World) (hm : Words w pm nm) (hn : Words w pn nn) :
    Calls Try.prog 7 #[.slice pm nm cm, .slice pn nn cn, .int .i64 day] w fun e w' => e = .returned (.bool true) ∧ Below w.heap.size w w' := by
  have B0 := Lib.hid (Below.refl w.heap.size w)
  have Cm0 := Lib.hid hm
  have Cn0 := Lib.hid hn
  clear hm hn
  obtain ⟨i0, hi0, hz0, hz1, hz2⟩ := info_parts info_int
  go_enter Try.func7, Try.ntmps7
  go_wp2_with fail
  refine (awake_any _).mono ?_
  rintro e W1 ⟨rfl, hb⟩
  have B1 := Lib.hid (below_next B0.out hb)
  have Cm1 := Lib.hid (Words.below Cm0.out hb)
  have Cn1 := Lib.hid (Words.below Cn0.out hb)
  clear hb B0 Cm0 Cn0
  go_wp2_with fail
  refine (built_any pm nm cm _ Cm1.out).mono ?_
  rintro e W2 ⟨v, a, rfl, hv, hla, ho, hb⟩
  obtain ⟨pa, ca, rfl, hca⟩ := ho.form
  have VA := Lib.hid hv
  clear hv
  have B2 := Lib.hid (below_next B1.out hb)
  have Cm2 := Lib.hid (Words.below Cm1.out hb)
  have Cn2 := Lib.hid (Words.below Cn1.out hb)
  have Ca2 := Lib.hid (hca)
  clear hb B1 Cm1 Cn1 hca ho
  go_wp2_with fail
  refine (built_any pn nn cn _ Cn2.out).mono ?_
  rintro e W3 ⟨v, b, rfl, hv, hlb, ho, hb⟩
  obtain ⟨pb, cb, rfl, hcb⟩ := ho.form
  have VB := Lib.hid hv
  clear hv
  have B3 := Lib.hid (below_next B2.out hb)
  have Cm3 := Lib.hid (Words.below Cm2.out hb)
  have Cn3 := Lib.hid (Words.below Cn2.out hb)
  have Ca3 := Lib.hid (Cells.below Ca2.out hb)
  have Cb3 := Lib.hid (hcb)
  clear hb B2 Cm2 Cn2 Ca2 hcb ho
  go_wp2_with fail
  refine (union_ok a b _ _ _ _ (by omega) (by omega) VA.out VB.out _ Ca3.out Cb3.out).mono ?_
  rintro e W4 ⟨v, su, rfl, hs, hlu, ho, hb⟩
  obtain ⟨pu, cu, rfl, hcu⟩ := ho.form
  have SU := Lib.hid hs
  clear hs
  have B4 := Lib.hid (below_next B3.out hb)
  have Cm4 := Lib.hid (Words.below Cm3.out hb)
  have Cn4 := Lib.hid (Words.below Cn3.out hb)
  have Ca4 := Lib.hid (Cells.below Ca3.out hb)
  have Cb4 := Lib.hid (Cells.below Cb3.out hb)
  have Cu4 := Lib.hid (hcu)
  clear hb B3 Cm3 Cn3 Ca3 Cb3 hcu ho
  go_wp2_with fail
  refine (meet_ok a b _ _ _ _ (by omega) (by omega) VA.out VB.out _ Ca4.out Cb4.out).mono ?_
  rintro e W5 ⟨v, sv, rfl, hs, hlv, ho, hb⟩
  obtain ⟨pv, cv, rfl, hcv⟩ := ho.form
  have SV := Lib.hid hs
  clear hs
  have B5 := Lib.hid (below_next B4.out hb)
  have Cm5 := Lib.hid (Words.below Cm4.out hb)
  have Cn5 := Lib.hid (Words.below Cn4.out hb)
  have Ca5 := Lib.hid (Cells.below Ca4.out hb)
  have Cb5 := Lib.hid (Cells.below Cb4.out hb)
  have Cu5 := Lib.hid (Cells.below Cu4.out hb)
  have Cv5 := Lib.hid (hcv)
  clear hb B4 Cm4 Cn4 Ca4 Cb4 Cu4 hcv ho
  go_wp2_with fail
  refine (minus_ok a b _ _ _ _ (by omega) (by omega) VA.out VB.out _ Ca5.out Cb5.out).mono ?_
  rintro e W6 ⟨v, sw, rfl, hs, hlw, ho, hb⟩
  obtain ⟨pw, cw, rfl, hcw⟩ := ho.form
  have SW := Lib.hid hs
  clear hs
  have B6 := Lib.hid (below_next B5.out hb)
  have Cm6 := Lib.hid (Words.below Cm5.out hb)
  have Cn6 := Lib.hid (Words.below Cn5.out hb)
  have Ca6 := Lib.hid (Cells.below Ca5.out hb)
  have Cb6 := Lib.hid (Cells.below Cb5.out hb)
  have Cu6 := Lib.hid (Cells.below Cu5.out hb)
  have Cv6 := Lib.hid (Cells.below Cv5.out hb)
  have Cw6 := Lib.hid (hcw)
  clear hb B5 Cm5 Cn5 Ca5 Cb5 Cu5 Cv5 hcw ho
  go_wp2_with fail
  refine (valid_is su true _ _ _ SU.out.valid (by omega) Cu6.out).mono ?_
  rintro e W7 ⟨rfl, hb⟩
  have B7 := Lib.hid (below_next B6.out hb)
  have Cm7 := Lib.hid (Words.below Cm6.out hb)
  have Cn7 := Lib.hid (Words.below Cn6.out hb)
  have Ca7 := Lib.hid (Cells.below Ca6.out hb)
  have Cb7 := Lib.hid (Cells.below Cb6.out hb)
  have Cu7 := Lib.hid (Cells.below Cu6.out hb)
  have Cv7 := Lib.hid (Cells.below Cv6.out hb)
  have Cw7 := Lib.hid (Cells.below Cw6.out hb)
  clear hb B6 Cm6 Cn6 Ca6 Cb6 Cu6 Cv6 Cw6
  go_wp2_with fail
  refine (valid_is sv true _ _ _ SV.out.valid (by omega) Cv7.out).mono ?_
  rintro e W8 ⟨rfl, hb⟩
  have B8 := Lib.hid (below_next B7.out hb)
  have Cm8 := Lib.hid (Words.below Cm7.out hb)
  have Cn8 := Lib.hid (Words.below Cn7.out hb)
  have Ca8 := Lib.hid (Cells.below Ca7.out hb)
  have Cb8 := Lib.hid (Cells.below Cb7.out hb)
  have Cu8 := Lib.hid (Cells.below Cu7.out hb)
  have Cv8 := Lib.hid (Cells.below Cv7.out hb)
  have Cw8 := Lib.hid (Cells.below Cw7.out hb)
  clear hb B7 Cm7 Cn7 Ca7 Cb7 Cu7 Cv7 Cw7
  go_wp2_with fail
  refine (valid_is sw true _ _ _ SW.out.valid (by omega) Cw8.out).mono ?_
  rintro e W9 ⟨rfl, hb⟩
  have B9 := Lib.hid (below_next B8.out hb)
  have Cm9 := Lib.hid (Words.below Cm8.out hb)
  have Cn9 := Lib.hid (Words.below Cn8.out hb)
  have Ca9 := Lib.hid (Cells.below Ca8.out hb)
  have Cb9 := Lib.hid (Cells.below Cb8.out hb)
  have Cu9 := Lib.hid (Cells.below Cu8.out hb)
  have Cv9 := Lib.hid (Cells.below Cv8.out hb)
  have Cw9 := Lib.hid (Cells.below Cw8.out hb)
  clear hb B8 Cm8 Cn8 Ca8 Cb8 Cu8 Cv8 Cw8
  clear Cm9
  clear Cn9
  go_wp2_with fail
  obtain ⟨V, hV⟩ : ∃ V, (W9.alloc (.cells #[.int .i64 day] 3)).alloc (.cells #[.slice pa a.length ca, .slice pb b.length cb] 24) = V := ⟨_, rfl⟩
  have LV := Lib.hid (show Looks V W9.heap.size (.slice (some ⟨W9.heap.size, 0, none⟩) 1 1) 1 by subst hV; exact (Looks.one _ _).alloc _)
  have XV := Lib.hid (show Boxed2 V (W9.heap.size + 1) 24 (.slice pa a.length ca) (.slice pb b.length cb) by subst hV; have := Boxed2.new (W9.alloc (.cells #[.int .i64 day] 3)) 24 (.slice pa a.length ca) (.slice pb b.length cb); simpa using this)
  have BV := Lib.hid (show Below W9.heap.size W9 V by subst hV; exact ((Below.refl _ _).alloc (Nat.le_refl _) _).alloc (by simp) _)
  rw [hV]
  clear hV
  go_loopw [15, 75] (fun c i wr => ∃ j k : Nat, j ≤ 2 ∧ k ≤ 1 + 240 * j ∧ i = .int .i64 j ∧ Hid (Looks wr W9.heap.size c k) ∧ Hid (Boxed2 wr (W9.heap.size + 1) 24 (.slice pa a.length ca) (.slice pb b.length cb)) ∧ Hid (Below W9.heap.size W9 wr)) (fun _ i _ => 2 - (intOf i).toNat)
  case atStart => exact ⟨0, 1, by omega, by omega, rfl, LV, XV, BV⟩
  case round =>
    obtain ⟨j, k, hj, hk, rfl, hL, hX, hB⟩ := hrel
    have x0 := hX.out.cell0
    have x1 := hX.out.cell1
    by_cases hj0 : j < 1
    · obtain rfl : j = 0 := by omega
      go_wp2_with fail
      go_loopw [15, 81] (fun c i wr => ∃ q k : Nat, q ≤ a.length ∧ k ≤ 1 + 240 * 0 + 4 * q ∧ i = .int .i64 q ∧ Hid (Looks wr W9.heap.size c k) ∧ Hid (Boxed2 wr (W9.heap.size + 1) 24 (.slice pa a.length ca) (.slice pb b.length cb)) ∧ Hid (Below W9.heap.size W9 wr)) (fun _ i _ => a.length - (intOf i).toNat)
      case atStart => exact ⟨0, k, by omega, by omega, rfl, hL, hX, hB⟩
      case round =>
        obtain ⟨q, k2, hq, hk2, rfl, hL2, hX2, hB2⟩ := hrel
        by_cases hlt : q < a.length
        · obtain ⟨bb, ob, rfl, hlt3, x, y, hxy, h1, h2⟩ := Ca9.out.at q hlt
          have c1 := (hB2.out.cell (p := ⟨bb, ob + q * 2, none⟩) hlt3).trans h1
          have c2 := (hB2.out.cell (p := ⟨bb, ob + q * 2 + 1, none⟩) hlt3).trans h2
          have hz9 := hB2.out.size
          have hne : bb ≠ wr.heap.size := Nat.ne_of_lt (Nat.lt_of_lt_of_le hlt3 hz9)
          have hg := valid_get VA.out hlt
          simp only [hxy] at hg
          clear h1 h2 hxy
          obtain ⟨xs, hown⟩ := hL2.out
          have HO := Lib.hid hown
          clear hown hL2
          go_wp2_with (first | (at_builtin; refine wpList_append_own _ rfl _ _ 47 rfl W9.heap.size 3 i0 (.int .i64 0) 1 8 Try.underlying47 hi0 hz0 hz1 hz2 rfl (by decide) _ _ _ rfl ((HO.out.alloc _).alloc _) ⟨wr.heap.size + 1, 0, none⟩ 4 4 [.int .i64 (x - 1), .int .i64 x, .int .i64 (y - 1), .int .i64 y] rfl rfl (cell_four_new _ _ _ _ _ _ _ (by simp)) (by simp [Value.oneCell']) (by unfold maxLen; omega) (by omega) (by simp; omega) ?_; intro v' w1 hown' hgrow _))
          have X3 := Lib.hid (hX2.out.keptRow (by decide) HO.out hgrow)
          have B3 := Lib.hid (below_grownRow2 HO.out hB2.out hz9 hgrow)
          have L3 := Lib.hid (show Looks w1 W9.heap.size v' (k2 + 4) from ⟨xs ++ [x - 1, x, y - 1, y], by simpa using hown'⟩)
          clear hown' hgrow hX2 hB2 HO
          go_roundw
          case rel => first | exact ⟨q + 1, k2 + 4, by omega, by omega, by go_num, L3, X3, B3⟩ | ((repeat apply Exists.intro); exact ⟨⟨q + 1, k2 + 4, by omega, by omega, by go_num, L3, X3, B3⟩, rfl⟩)
          case measure => simp [intOf]; omega
        · go_wp2
          go_roundw
          case rel => first | exact ⟨0 + 1, k2, by omega, by omega, by go_num, hL2, hX2, hB2⟩ | ((repeat apply Exists.intro); exact ⟨⟨0 + 1, k2, by omega, by omega, by go_num, hL2, hX2, hB2⟩, rfl⟩)
          case measure => simp [intOf]
    · by_cases hj1 : j < 2
      · obtain rfl : j = 1 := by omega
        go_wp2_with fail
        go_loopw [15, 81] (fun c i wr => ∃ q k : Nat, q ≤ b.length ∧ k ≤ 1 + 240 * 1 + 4 * q ∧ i = .int .i64 q ∧ Hid (Looks wr W9.heap.size c k) ∧ Hid (Boxed2 wr (W9.heap.size + 1) 24 (.slice pa a.length ca) (.slice pb b.length cb)) ∧ Hid (Below W9.heap.size W9 wr)) (fun _ i _ => b.length - (intOf i).toNat)
        case atStart => exact ⟨0, k, by omega, by omega, rfl, hL, hX, hB⟩
        case round =>
          obtain ⟨q, k2, hq, hk2, rfl, hL2, hX2, hB2⟩ := hrel
          by_cases hlt : q < b.length
          · obtain ⟨bb, ob, rfl, hlt3, x, y, hxy, h1, h2⟩ := Cb9.out.at q hlt
            have c1 := (hB2.out.cell (p := ⟨bb, ob + q * 2, none⟩) hlt3).trans h1
            have c2 := (hB2.out.cell (p := ⟨bb, ob + q * 2 + 1, none⟩) hlt3).trans h2
            have hz9 := hB2.out.size
            have hne : bb ≠ wr.heap.size := Nat.ne_of_lt (Nat.lt_of_lt_of_le hlt3 hz9)
            have hg := valid_get VB.out hlt
            simp only [hxy] at hg
            clear h1 h2 hxy
            obtain ⟨xs, hown⟩ := hL2.out
            have HO := Lib.hid hown
            clear hown hL2
            go_wp2_with (first | (at_builtin; refine wpList_append_own _ rfl _ _ 47 rfl W9.heap.size 3 i0 (.int .i64 0) 1 8 Try.underlying47 hi0 hz0 hz1 hz2 rfl (by decide) _ _ _ rfl ((HO.out.alloc _).alloc _) ⟨wr.heap.size + 1, 0, none⟩ 4 4 [.int .i64 (x - 1), .int .i64 x, .int .i64 (y - 1), .int .i64 y] rfl rfl (cell_four_new _ _ _ _ _ _ _ (by simp)) (by simp [Value.oneCell']) (by unfold maxLen; omega) (by omega) (by simp; omega) ?_; intro v' w1 hown' hgrow _))
            have X3 := Lib.hid (hX2.out.keptRow (by decide) HO.out hgrow)
            have B3 := Lib.hid (below_grownRow2 HO.out hB2.out hz9 hgrow)
            have L3 := Lib.hid (show Looks w1 W9.heap.size v' (k2 + 4) from ⟨xs ++ [x - 1, x, y - 1, y], by simpa using hown'⟩)
            clear hown' hgrow hX2 hB2 HO
            go_roundw
            case rel => first | exact ⟨q + 1, k2 + 4, by omega, by omega, by go_num, L3, X3, B3⟩ | ((repeat apply Exists.intro); exact ⟨⟨q + 1, k2 + 4, by omega, by omega, by go_num, L3, X3, B3⟩, rfl⟩)
            case measure => simp [intOf]; omega
          · go_wp2
            go_roundw
            case rel => first | exact ⟨1 + 1, k2, by omega, by omega, by go_num, hL2, hX2, hB2⟩ | ((repeat apply Exists.intro); exact ⟨⟨1 + 1, k2, by omega, by omega, by go_num, hL2, hX2, hB2⟩, rfl⟩)
            case measure => simp [intOf]
      · obtain rfl : j = 2 := by omega
        obtain ⟨pl, cl, rfl, hcl⟩ := hL.out.form
        have HL := Lib.hid hcl
        clear hcl x0 x1
        have Ka := Lib.hid (Ca9.out.below hB.out)
        have Kb := Lib.hid (Cb9.out.below hB.out)
        have Ku := Lib.hid (Cu9.out.below hB.out)
        have Kv := Lib.hid (Cv9.out.below hB.out)
        have Kw := Lib.hid (Cw9.out.below hB.out)
        have BW := Lib.hid (below_next B9.out hB.out)
        obtain ⟨wo, rfl⟩ : ∃ wo : World, wo = wr := ⟨_, rfl⟩
        go_wp2_with fail
        go_loopw [102] (fun i wr => ∃ q : Nat, q ≤ k ∧ i = .int .i64 q ∧ Hid (Below wo.heap.size wo wr)) (fun i _ => k - (intOf i).toNat)
        case atStart => exact ⟨0, by omega, rfl, Below.refl _ _⟩
        case round =>
          obtain ⟨q, hq, rfl, hB9⟩ := hrel
          by_cases hlt : q < k
          · obtain ⟨bb, d, rfl, hlt3, h1⟩ := HL.out q hlt
            have c1 := (hB9.out.cell (p := ⟨bb, 0 + q, none⟩) hlt3).trans h1
            clear h1
            simp only [Nat.zero_add] at c1
            have Ma := Lib.hid (Ka.out.below hB9.out)
            have Mb := Lib.hid (Kb.out.below hB9.out)
            have Mu := Lib.hid (Ku.out.below hB9.out)
            have Mv := Lib.hid (Kv.out.below hB9.out)
            have Mw := Lib.hid (Kw.out.below hB9.out)
            have hu := SU.out.mem d
            have hv := SV.out.mem d
            have hw := SW.out.mem d
            cases hma : mem a d with
            | false =>
              cases hmb : mem b d with
              | false =>
                rw [hma, hmb] at hu hv hw
                have HMA := Lib.hid hma
                have HMB := Lib.hid hmb
                have HU := Lib.hid hu
                have HV := Lib.hid hv
                have HW := Lib.hid hw
                clear hma hmb hu hv hw
                go_wp2_with fail
                refine (in_is a d false _ _ _ (by omega) HMA.out Ma.out).mono ?_
                rintro e _ ⟨rfl, rfl⟩
                go_wp2_with fail
                refine (in_is b d false _ _ _ (by omega) HMB.out Mb.out).mono ?_
                rintro e _ ⟨rfl, rfl⟩
                go_wp2_with fail
                refine (in_is su d false _ _ _ (by omega) HU.out Mu.out).mono ?_
                rintro e _ ⟨rfl, rfl⟩
                go_wp2_with fail
                refine (in_is sv d false _ _ _ (by omega) HV.out Mv.out).mono ?_
                rintro e _ ⟨rfl, rfl⟩
                go_wp2_with fail
                refine (in_is sw d false _ _ _ (by omega) HW.out Mw.out).mono ?_
                rintro e _ ⟨rfl, rfl⟩
                go_wp2_with fail
                refine (has_is a d false _ _ _ HMA.out (by omega) VA.out Ma.out).mono ?_
                rintro e w7 ⟨rfl, hb7⟩
                have B7 := Lib.hid (below_next hB9.out hb7)
                clear hb7
                go_wp2
                go_roundw
                case rel => first | exact ⟨q + 1, by omega, by go_num, B7⟩ | ((repeat apply Exists.intro); exact ⟨⟨q + 1, by omega, by go_num, B7⟩, rfl⟩)
                case measure => simp [intOf]; omega
              | true =>
                rw [hma, hmb] at hu hv hw
                have HMA := Lib.hid hma
                have HMB := Lib.hid hmb
                have HU := Lib.hid hu
                have HV := Lib.hid hv
                have HW := Lib.hid hw
                clear hma hmb hu hv hw
                go_wp2_with fail
                refine (in_is a d false _ _ _ (by omega) HMA.out Ma.out).mono ?_
                rintro e _ ⟨rfl, rfl⟩
                go_wp2_with fail
                refine (in_is b d true _ _ _ (by omega) HMB.out Mb.out).mono ?_
                rintro e _ ⟨rfl, rfl⟩
                go_wp2_with fail
                refine (in_is su d true _ _ _ (by omega) HU.out Mu.out).mono ?_
                rintro e _ ⟨rfl, rfl⟩
                go_wp2_with fail
                refine (in_is sv d false _ _ _ (by omega) HV.out Mv.out).mono ?_
                rintro e _ ⟨rfl, rfl⟩
                go_wp2_with fail
                refine (in_is sw d false _ _ _ (by omega) HW.out Mw.out).mono ?_
                rintro e _ ⟨rfl, rfl⟩
                go_wp2_with fail
                refine (has_is a d false _ _ _ HMA.out (by omega) VA.out Ma.out).mono ?_
                rintro e w7 ⟨rfl, hb7⟩
                have B7 := Lib.hid (below_next hB9.out hb7)
                clear hb7
                go_wp2
                go_roundw
                case rel => first | exact ⟨q + 1, by omega, by go_num, B7⟩ | ((repeat apply Exists.intro); exact ⟨⟨q + 1, by omega, by go_num, B7⟩, rfl⟩)
                case measure => simp [intOf]; omega
            | true =>
              cases hmb : mem b d with
              | false =>
                rw [hma, hmb] at hu hv hw
                have HMA := Lib.hid hma
                have HMB := Lib.hid hmb
                have HU := Lib.hid hu
                have HV := Lib.hid hv
                have HW := Lib.hid hw
                clear hma hmb hu hv hw
                go_wp2_with fail
                refine (in_is a d true _ _ _ (by omega) HMA.out Ma.out).mono ?_
                rintro e _ ⟨rfl, rfl⟩
                go_wp2_with fail
                refine (in_is b d false _ _ _ (by omega) HMB.out Mb.out).mono ?_
                rintro e _ ⟨rfl, rfl⟩
                go_wp2_with fail
                refine (in_is su d true _ _ _ (by omega) HU.out Mu.out).mono ?_
                rintro e _ ⟨rfl, rfl⟩
                go_wp2_with fail
                refine (in_is sv d false _ _ _ (by omega) HV.out Mv.out).mono ?_
                rintro e _ ⟨rfl, rfl⟩
                go_wp2_with fail
                refine (in_is sw d true _ _ _ (by omega) HW.out Mw.out).mono ?_
                rintro e _ ⟨rfl, rfl⟩
                go_wp2_with fail
                refine (has_is a d true _ _ _ HMA.out (by omega) VA.out Ma.out).mono ?_
                rintro e w7 ⟨rfl, hb7⟩
                have B7 := Lib.hid (below_next hB9.out hb7)
                clear hb7
                go_wp2
                go_roundw
                case rel => first | exact ⟨q + 1, by omega, by go_num, B7⟩ | ((repeat apply Exists.intro); exact ⟨⟨q + 1, by omega, by go_num, B7⟩, rfl⟩)
                case measure => simp [intOf]; omega
              | true =>
                rw [hma, hmb] at hu hv hw
                have HMA := Lib.hid hma
                have HMB := Lib.hid hmb
                have HU := Lib.hid hu
                have HV := Lib.hid hv
                have HW := Lib.hid hw
                clear hma hmb hu hv hw
                go_wp2_with fail
                refine (in_is a d true _ _ _ (by omega) HMA.out Ma.out).mono ?_
                rintro e _ ⟨rfl, rfl⟩
                go_wp2_with fail
                refine (in_is b d true _ _ _ (by omega) HMB.out Mb.out).mono ?_
                rintro e _ ⟨rfl, rfl⟩
                go_wp2_with fail
                refine (in_is su d true _ _ _ (by omega) HU.out Mu.out).mono ?_
                rintro e _ ⟨rfl, rfl⟩
                go_wp2_with fail
                refine (in_is sv d true _ _ _ (by omega) HV.out Mv.out).mono ?_
                rintro e _ ⟨rfl, rfl⟩
                go_wp2_with fail
                refine (in_is sw d false _ _ _ (by omega) HW.out Mw.out).mono ?_
                rintro e _ ⟨rfl, rfl⟩
                go_wp2_with fail
                refine (has_is a d true _ _ _ HMA.out (by omega) VA.out Ma.out).mono ?_
                rintro e w7 ⟨rfl, hb7⟩
                have B7 := Lib.hid (below_next hB9.out hb7)
                clear hb7
                go_wp2
                go_roundw
                case rel => first | exact ⟨q + 1, by omega, by go_num, B7⟩ | ((repeat apply Exists.intro); exact ⟨⟨q + 1, by omega, by go_num, B7⟩, rfl⟩)
                case measure => simp [intOf]; omega
          · go_wp2
            go_ret
            exact ⟨rfl, below_next BW.out hB9.out⟩

end Go.Proofs.Ytgpbdocgnfjckaa
