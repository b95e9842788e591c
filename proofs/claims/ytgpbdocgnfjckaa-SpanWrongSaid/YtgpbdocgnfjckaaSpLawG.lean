/- SpanGaps: the walk of the law. -/
import Derived.Test.YtgpbdocgnfjckaaSpLawC
import Derived.Test.YtgpbdocgnfjckaaSpPlain8
namespace Go.Proofs.Ytgpbdocgnfjckaa
open Go.RowKit Go.Shelf Sp

theorem in_is (l : Sps) (d : Int) (x : Bool) (p : Option Addr) (cap : Nat) (w : World) (hl : l.length ≤ 100000) (hx : mem l d = x) (hc : Cells w p l) :
    Calls Try.prog 30 #[.slice p l.length cap, .int .i64 d] w fun e w' => e = .returned (.bool x) ∧ w = w' := by
  subst hx; exact (in_any l d p cap w hl hc).mono fun _ _ ⟨he, hw⟩ => ⟨he, hw.symm⟩

set_option maxHeartbeats 8000000 in
set_option maxRecDepth 100000 in
theorem gaps_law (pm : Option Addr) (nm cm : Nat) (n : Int) (w : World) (hm : Words w pm nm) (hn64 : n ≤ 9223372036854775807) :
    Calls Try.prog 10 #[.slice pm nm cm, .int .i64 n] w fun e w' => e = .returned (.bool true) ∧ Below w.heap.size w w' := by
  have B0 := Lib.hid (Below.refl w.heap.size w)
  have Cm0 := Lib.hid hm
  clear hm
  go_enter Try.func10, Try.ntmps10
  go_wp2_with fail
  refine (awake_any _).mono ?_
  rintro e W1 ⟨rfl, hb⟩
  have B1 := Lib.hid (below_next B0.out hb)
  have Cm1 := Lib.hid (Words.below Cm0.out hb)
  clear hb B0 Cm0
  go_wp2_with fail
  refine (built_any pm nm cm _ Cm1.out).mono ?_
  rintro e W2 ⟨v, l, rfl, hv, hll, ho, hb⟩
  obtain ⟨pl, cl, rfl, hcl⟩ := ho.form
  have VL := Lib.hid hv
  clear hv
  have B2 := Lib.hid (below_next B1.out hb)
  have Cm2 := Lib.hid (Words.below Cm1.out hb)
  have Cl2 := Lib.hid (hcl)
  clear hb B1 Cm1 hcl ho
  by_cases hn : n < 0
  · go_wp2_with fail
    refine (bridge_bad l n _ _ _ (by omega) (.inr hn) Cl2.out).mono ?_
    rintro e W3 ⟨rfl, hb⟩
    have B3 := Lib.hid (below_next B2.out hb)
    have Cm3 := Lib.hid (Words.below Cm2.out hb)
    have Cl3 := Lib.hid (Cells.below Cl2.out hb)
    clear hb B2 Cm2 Cl2
    go_wp2
    go_ret
    exact ⟨rfl, B3.out⟩
  · obtain ⟨b, hb⟩ : ∃ b, brg n l = b := ⟨_, rfl⟩
    have HB := Lib.hid hb
    have BR := Lib.hid (bridged (n := n) VL.out)
    rw [hb] at BR
    clear hb
    have hbl := BR.out.le
    go_wp2_with fail
    refine (bridge_is l n _ _ _ b HB.out (by omega) VL.out (by omega) Cl2.out).mono ?_
    rintro e W3 ⟨v, rfl, ho, hb⟩
    obtain ⟨pb, cb, rfl, hcb⟩ := ho.form
    have B3 := Lib.hid (below_next B2.out hb)
    have Cm3 := Lib.hid (Words.below Cm2.out hb)
    have Cl3 := Lib.hid (Cells.below Cl2.out hb)
    have Cb3 := Lib.hid (hcb)
    clear hb B2 Cm2 Cl2 hcb ho
    go_wp2_with fail
    refine (bridge_is b n _ _ _ b BR.out.again (by omega) BR.out.valid (by omega) Cb3.out).mono ?_
    rintro e W4 ⟨v, rfl, ho, hb⟩
    obtain ⟨pg, cg, rfl, hcg⟩ := ho.form
    have B4 := Lib.hid (below_next B3.out hb)
    have Cm4 := Lib.hid (Words.below Cm3.out hb)
    have Cl4 := Lib.hid (Cells.below Cl3.out hb)
    have Cb4 := Lib.hid (Cells.below Cb3.out hb)
    have Cg4 := Lib.hid (hcg)
    clear hb B3 Cm3 Cl3 Cb3 hcg ho
    go_wp2_with fail
    refine (minus_ok b l _ _ _ _ (by omega) (by omega) BR.out.valid VL.out _ Cb4.out Cl4.out).mono ?_
    rintro e W5 ⟨v, r, rfl, hs, hlr, ho, hb⟩
    obtain ⟨pr, cr, rfl, hcr⟩ := ho.form
    have SR := Lib.hid hs
    clear hs
    have B5 := Lib.hid (below_next B4.out hb)
    have Cm5 := Lib.hid (Words.below Cm4.out hb)
    have Cl5 := Lib.hid (Cells.below Cl4.out hb)
    have Cb5 := Lib.hid (Cells.below Cb4.out hb)
    have Cg5 := Lib.hid (Cells.below Cg4.out hb)
    have Cr5 := Lib.hid (hcr)
    clear hb B4 Cm4 Cl4 Cb4 Cg4 hcr ho
    go_wp2_with fail
    refine (valid_is b true _ _ _ BR.out.valid (by omega) Cb5.out).mono ?_
    rintro e W6 ⟨rfl, hb⟩
    have B6 := Lib.hid (below_next B5.out hb)
    have Cm6 := Lib.hid (Words.below Cm5.out hb)
    have Cl6 := Lib.hid (Cells.below Cl5.out hb)
    have Cb6 := Lib.hid (Cells.below Cb5.out hb)
    have Cg6 := Lib.hid (Cells.below Cg5.out hb)
    have Cr6 := Lib.hid (Cells.below Cr5.out hb)
    clear hb B5 Cm5 Cl5 Cb5 Cg5 Cr5
    go_wp2_with fail
    refine (within_is l b true _ _ _ _ BR.out.within (by omega) (by omega) VL.out BR.out.valid _ Cl6.out Cb6.out).mono ?_
    rintro e W7 ⟨rfl, hb⟩
    have B7 := Lib.hid (below_next B6.out hb)
    have Cm7 := Lib.hid (Words.below Cm6.out hb)
    have Cl7 := Lib.hid (Cells.below Cl6.out hb)
    have Cb7 := Lib.hid (Cells.below Cb6.out hb)
    have Cg7 := Lib.hid (Cells.below Cg6.out hb)
    have Cr7 := Lib.hid (Cells.below Cr6.out hb)
    clear hb B6 Cm6 Cl6 Cb6 Cg6 Cr6
    go_wp2_with fail
    refine (same_yes b _ _ _ _ _ (by omega) Cg7.out Cb7.out).mono ?_
    rintro e W8 ⟨rfl, hb⟩
    have B8 := Lib.hid (below_next B7.out hb)
    have Cm8 := Lib.hid (Words.below Cm7.out hb)
    have Cl8 := Lib.hid (Cells.below Cl7.out hb)
    have Cb8 := Lib.hid (Cells.below Cb7.out hb)
    have Cg8 := Lib.hid (Cells.below Cg7.out hb)
    have Cr8 := Lib.hid (Cells.below Cr7.out hb)
    clear hb B7 Cm7 Cl7 Cb7 Cg7 Cr7
    clear Cg8
    clear Cm8
    have hl0 := BR.out.len0
    by_cases hz : l.length = 0
    · obtain rfl : b = [] := List.eq_nil_of_length_eq_zero (hl0.1 hz)
      obtain rfl : l = [] := List.eq_nil_of_length_eq_zero hz
      obtain rfl : r = [] := (empty_iff SR.out.valid).2 (fun d => SR.out.mem d)
      clear hz hl0
      go_wp2_with fail
      go_loopw [12] (fun i wr => i = .int .i64 1 ∧ wr = W8) (fun _ _ => 0)
      case atStart => exact ⟨rfl, rfl⟩
      case round =>
        obtain ⟨rfl, rfl⟩ := hrel
        go_wp2_with fail
        go_loopw [100] (fun i w9 => i = .int .i64 0 ∧ w9 = wr) (fun _ _ => 0)
        case atStart => exact ⟨rfl, rfl⟩
        case round =>
          obtain ⟨rfl, rfl⟩ := hrel
          go_wp2_with fail
          go_quiet (fail)
          go_wp2
          go_ret
          exact ⟨rfl, below_drewN B8.out _⟩
    · have hbz : ¬ b.length = 0 := fun h => hz (hl0.2 h)
      have t1 : ((l.length : Int) == 0) = false := by simpa using hz
      have t2 : ((b.length : Int) == 0) = false := by simpa using hbz
      have z1 : 0 < l.length := by omega
      have z2 : 0 < b.length := by omega
      clear hz hbz hl0
      go_wp2_with fail
      go_loopw [12] (fun i wr => ∃ k : Nat, 1 ≤ k ∧ k ≤ b.length + 1 ∧ i = .int .i64 k ∧ ∃ m, wr = W8.drewN m) (fun i _ => b.length - (intOf i).toNat)
      case atStart => exact ⟨1, by omega, by omega, rfl, 0, rfl⟩
      case round =>
        obtain ⟨k, hk1, hk2, rfl, m, rfl⟩ := hrel
        by_cases hlt : k < b.length
        · obtain ⟨bb, ob, rfl, _, x, y, hxy, c1, _⟩ := Cb8.out.at k hlt
          obtain ⟨bb2, ob2, hp2, _, x2, y2, hxy2, _, c2⟩ := Cb8.out.at (k - 1) (by omega)
          cases hp2
          have hf := BR.out.far (k - 1) (by omega)
          have hx1 := valid_get BR.out.valid hlt
          have hx2 := valid_get BR.out.valid (k := k - 1) (by omega)
          simp only [show k - 1 + 1 = k by omega, hxy, hxy2] at hf hx1 hx2
          have j1 : (1 : Int) ≤ (k : Int) := by omega
          have j0 : (0 : Int) ≤ (k : Int) - 1 := by omega
          have j2 : (k : Int) - 1 < (b.length : Int) := by omega
          have j3 : ((k : Int) - 1).toNat = k - 1 := by omega
          have j4 : IntKind.i64.wrap ((k : Int) - 1) = (k : Int) - 1 := IntWalk.i64_in _ (by omega)
          have j5 : IntKind.i64.wrap (x - y2) = x - y2 := IntWalk.i64_in _ (by omega)
          have hf2 : ¬ x - y2 ≤ n := by omega
          clear hxy hxy2
          go_wp2_with fail
          go_quiet (fail)
          clear j4 j5
          go_wp2
          go_roundw
          case rel => exact ⟨k + 1, by omega, by omega, by go_num, m + nq, rfl⟩
          case measure => simp [intOf]; omega
        · go_wp2_with fail
          obtain ⟨V, hV⟩ : ∃ V, W8.drewN m = V := ⟨_, rfl⟩
          have HBV := Lib.hid (show Below w.heap.size w V by subst hV; exact below_drewN B8.out _)
          have Kl := Lib.hid (show Cells V _ _ by subst hV; exact Cl8.out)
          have Kb := Lib.hid (show Cells V _ _ by subst hV; exact Cb8.out)
          have Kr := Lib.hid (show Cells V _ _ by subst hV; exact Cr8.out)
          rw [hV]
          clear hV
          go_loopw [100] (fun i wr => ∃ k : Nat, k ≤ r.length ∧ i = .int .i64 k ∧ Below V.heap.size V wr) (fun i _ => r.length - (intOf i).toNat)
          case atStart => exact ⟨0, by omega, rfl, Below.refl _ _⟩
          case round =>
            obtain ⟨j, hj, rfl, hb⟩ := hrel
            by_cases hlt2 : j < r.length
            · obtain ⟨br, orr, rfl, hlt3, x, y, hxy, h1, h2⟩ := Kr.out.at j hlt2
              have c1 := (hb.cell (p := ⟨br, orr + j * 2, none⟩) hlt3).trans h1
              have c2 := (hb.cell (p := ⟨br, orr + j * 2 + 1, none⟩) hlt3).trans h2
              have hne : br ≠ wr.heap.size := Nat.ne_of_lt (Nat.lt_of_lt_of_le hlt3 hb.size)
              have hr := BR.out.rest r SR.out j hlt2
              have hg := valid_get SR.out.valid hlt2
              simp only [hxy] at hr hg
              have m1 := Lib.hid hr.2.1
              have m2 := Lib.hid hr.2.2
              have m3 : ¬ n < y - x := by omega
              have CL := Lib.hid ((Kl.out.below hb).below ((Below.refl _ _).alloc (Nat.le_refl _) (.cells #[.int .i64 x, .int .i64 y] 27)))
              clear h1 h2 hxy hr
              go_wp2_with (first | (go_at_call 30; refine (in_is l _ true _ _ _ (by omega) (by first | exact m1.out | exact m2.out) CL.out).mono ?_; rintro e w9 ⟨rfl, rfl⟩))
              go_roundw
              case rel => exact ⟨j + 1, by omega, by go_num, hb.alloc hb.size _⟩
              case measure => simp [intOf]; omega
            · obtain ⟨bl, ol, rfl, hl1, x, y, hxy, h1, _⟩ := Kl.out.at 0 z1
              obtain ⟨bl2, ol2, hp, _, x2, y2, hxy2, _, h2⟩ := Kl.out.at (l.length - 1) (by omega)
              cases hp
              obtain ⟨bb, ob, rfl, hb1, x3, y3, hxy3, h3, _⟩ := Kb.out.at 0 z2
              obtain ⟨bb2, ob2, hp, _, x4, y4, hxy4, _, h4⟩ := Kb.out.at (b.length - 1) (by omega)
              cases hp
              have f1 := BR.out.first z1 z2
              have f2 := BR.out.last z1 z2
              simp only [hxy, hxy3] at f1
              simp only [hxy2, hxy4] at f2
              subst f1
              subst f2
              have c1 := (hb.cell (p := ⟨bl, ol + 0 * 2, none⟩) hl1).trans h1
              have c2 := (hb.cell (p := ⟨bl, ol + (l.length - 1) * 2 + 1, none⟩) hl1).trans h2
              have c3 := (hb.cell (p := ⟨bb, ob + 0 * 2, none⟩) hb1).trans h3
              have c4 := (hb.cell (p := ⟨bb, ob + (b.length - 1) * 2 + 1, none⟩) hb1).trans h4
              simp only [Nat.zero_mul, Nat.add_zero] at c1 c3
              clear h1 h2 h3 h4 hxy hxy2 hxy3 hxy4
              have j0l : (0 : Int) ≤ (l.length : Int) - 1 := by omega
              have j2l : (l.length : Int) - 1 < (l.length : Int) := by omega
              have j3l : ((l.length : Int) - 1).toNat = l.length - 1 := by omega
              have j5l : (0 : Int) < (l.length : Int) := by omega
              have j6l : (1 : Int) ≤ (l.length : Int) := by omega
              have j0b : (0 : Int) ≤ (b.length : Int) - 1 := by omega
              have j2b : (b.length : Int) - 1 < (b.length : Int) := by omega
              have j3b : ((b.length : Int) - 1).toNat = b.length - 1 := by omega
              have j5b : (0 : Int) < (b.length : Int) := by omega
              have j6b : (1 : Int) ≤ (b.length : Int) := by omega
              have j4l : IntKind.i64.wrap ((l.length : Int) - 1) = (l.length : Int) - 1 := IntWalk.i64_in _ (by omega)
              have j4b : IntKind.i64.wrap ((b.length : Int) - 1) = (b.length : Int) - 1 := IntWalk.i64_in _ (by omega)
              go_wp2_with fail
              go_quiet (fail)
              clear j4l j4b
              go_wp2
              go_ret
              exact ⟨rfl, below_drewN (below_next HBV.out hb) _⟩

end Go.Proofs.Ytgpbdocgnfjckaa
