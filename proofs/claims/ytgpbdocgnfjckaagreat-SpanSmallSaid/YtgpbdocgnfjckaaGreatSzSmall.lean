/- SpanSmall: the law. -/
import Derived.Test.YtgpbdocgnfjckaaGreatSzDays
import Derived.Test.YtgpbdocgnfjckaaGreatSzSets
import Derived.Deep.RegionHeld3
namespace Go.Proofs.YtgpbdocgnfjckaaGreat
open Go.RowKit Go.Shelf Sp

/-- The row of the numbers lies at block E. -/
def Ends (E : Nat) (w : World) : Prop := ∀ i : Nat, i < 8 → ∃ v : Int, w.cell? ⟨E, i, none⟩ = some (.int .i64 v) ∧ -9223372036854775808 ≤ v ∧ v ≤ 9223372036854775807
theorem ends_cells (w : World) : Ends w.heap.size (w.alloc (.cells #[.int .i64 (-9223372036854775808), .int .i64 (-1), .int .i64 0, .int .i64 1, .int .i64 65535, .int .i64 65536, .int .i64 65537, .int .i64 9223372036854775807] 3)) := by
  intro i hi
  have : i = 0 ∨ i = 1 ∨ i = 2 ∨ i = 3 ∨ i = 4 ∨ i = 5 ∨ i = 6 ∨ i = 7 := by omega
  rcases this with rfl | rfl | rfl | rfl | rfl | rfl | rfl | rfl <;> exact ⟨_, by simp [go_sem]; rfl, by decide, by decide⟩
theorem Ends.below {E : Nat} {w w' : World} (h : Ends E w) (hE : E < w.heap.size) (hb : Below w.heap.size w w') : Ends E w' := by
  intro i hi
  obtain ⟨v, h1, h2⟩ := h i hi
  exact ⟨v, by rw [hb.cell (p := ⟨E, i, none⟩) hE]; exact h1, h2⟩

theorem Cells.later {w : World} {p : Option Addr} {l : Sps} (h : Cells w p l) (q : Later w) : Cells q.W p l := h.below q.below

set_option maxHeartbeats 8000000 in
set_option maxRecDepth 100000 in
theorem small_law (w : World) :
    Calls Tryz.prog 3 #[] w fun e w' => e = .returned (.bool true) ∧ Below w.heap.size w w' := by
  have CD := Lib.hid (fun b f W (h : 0 ≤ f ∧ f ≤ 65530) => dayset_any b f W h)
  go_enter Tryz.func3, Tryz.ntmps3
  go_wp2
  go_loopw [3] (fun i wr => ∃ k : Nat, k ≤ 128 ∧ i = .int .i64 k ∧ Hid (Below w.heap.size w wr)) (fun i _ => 128 - (intOf i).toNat)
  case atStart => exact ⟨0, by omega, rfl, Lib.hid (Below.refl _ _)⟩
  case round =>
    obtain ⟨k, hk, rfl, hB⟩ := hrel
    by_cases hlt : k < 128
    · have k0 : (0 : Int) ≤ (k : Int) := by omega
      have k1 : (k : Int) < 128 := by omega
      have B0 := hB
      clear hB
      go_wp2_with fail
      refine (CD.out _ _ _ (by omega)).mono ?_
      rintro e W1 ⟨v, la, rfl, hla, ho, hb⟩
      have B1 := Lib.hid (below_next B0.out hb)
      clear hb B0 
      obtain ⟨pa, ca, rfl, hc⟩ := ho.form
      have Ca1 := Lib.hid hc
      clear ho hc
      go_wp2_with fail
      refine (CD.out _ _ _ (by omega)).mono ?_
      rintro e W2 ⟨v, lb, rfl, hlb, ho, hb⟩
      have B2 := Lib.hid (below_next B1.out hb)
      have Ca2 := Lib.hid (Cells.below Ca1.out hb)
      clear hb B1 Ca1
      obtain ⟨pb, cb, rfl, hc⟩ := ho.form
      have Cb2 := Lib.hid hc
      clear ho hc
      go_wp2_with fail
      refine (both_any la lb _ _ _ _ _ (by omega) (by omega) Ca2.out Cb2.out).mono ?_
      rintro e W3 ⟨rfl, hb⟩
      have B3 := Lib.hid (below_next B2.out hb)
      have Ca3 := Lib.hid (Cells.below Ca2.out hb)
      have Cb3 := Lib.hid (Cells.below Cb2.out hb)
      clear hb B2 Ca2 Cb2
      go_wp2_with fail
      refine (both_any lb la _ _ _ _ _ (by omega) (by omega) Cb3.out Ca3.out).mono ?_
      rintro e W4 ⟨rfl, hb⟩
      have B4 := Lib.hid (below_next B3.out hb)
      have Ca4 := Lib.hid (Cells.below Ca3.out hb)
      have Cb4 := Lib.hid (Cells.below Cb3.out hb)
      clear hb B3 Ca3 Cb3
      have bW : w.heap.size ≤ W4.heap.size := B4.out.size
      have OE : Hid (Owns (W4.alloc (.cells #[] 30)) W4.heap.size (.slice (some ⟨W4.heap.size, 0, none⟩) 0 0) []) := Lib.hid (World.ownsRow_made W4 #[] 0 (Nat.le_refl _) (by decide) rfl)
      have Sb := Lib.hid (ssrc_of (Cb4.out.below ((Below.refl _ _).alloc (Nat.le_refl _) (.cells #[] 30))))
      have BE := Lib.hid ((Below.refl W4.heap.size W4).alloc (Nat.le_refl _) (.cells #[] 30))
      go_wp2_with (first
        | (at_builtin; refine BigFrame.wpList_want (by rfl) fun KK hKK => ?_; refine wp_append_arg _ _ _ rfl rfl W4.heap.size _ [] rfl OE.out pb lb.length cb lb rfl rfl Sb.out (by simp; omega) (by simp) ?_; intro v2 w2 hown2 hgrow2 hat2; refine hKK _ _ ?_; clear hKK
           have O2 : Hid (Owns w2 W4.heap.size v2 lb) := Lib.hid hown2
           have B2 := Lib.hid (OE.out.below_row BE.out (Nat.le_refl _) hgrow2)
           have Sa : Hid (SSrc w2 pa la) := Lib.hid (ssrc_of (Ca4.out.below B2.out))
           have b2 := B2.out.size
           clear hown2 hgrow2 hat2)
        | (at_builtin; refine BigFrame.wpList_want (by rfl) fun KK hKK => ?_; refine wp_append_arg _ _ _ rfl rfl W4.heap.size _ lb rfl O2.out pa la.length ca la rfl rfl Sa.out (by omega) b2 ?_; intro v3 w3 hown3 hgrow3 hat3; refine hKK _ _ ?_; clear hKK)
        | fail)
      obtain ⟨p3, c3, rfl, hc3⟩ := hown3.form
      have E3 := Lib.hid (O2.out.below_row B2.out (Nat.le_refl _) hgrow3)
      have Ca5 := Lib.hid (Ca4.out.below E3.out)
      have Cb5 := Lib.hid (Cb4.out.below E3.out)
      have B5 := Lib.hid (below_next B4.out E3.out)
      have C3 := Lib.hid hc3
      clear hown3 hgrow3 hat3 hc3 E3 O2 B2 Sa Sb OE BE bW b2 Ca4 Cb4 B4
      obtain ⟨W5, hW⟩ : ∃ W5, W5 = w3 := ⟨_, rfl⟩
      rw [← hW] at Ca5 Cb5 B5 C3 ⊢
      clear hW
      go_wp2_with fail
      refine (makes_any (lb ++ la) _ _ _ (by simp; omega) C3.out).mono ?_
      rintro e W6 ⟨rfl, hb⟩
      have B6 := Lib.hid (below_next B5.out hb)
      have Ca6 := Lib.hid (Cells.below Ca5.out hb)
      have Cb6 := Lib.hid (Cells.below Cb5.out hb)
      clear hb B5 Ca5 Cb5
      clear C3
      by_cases h8 : (k : Int) % 8 = 0
      · have h8 := h8
        go_wp2_with fail
        refine (asks_any la _ _ _ _ _ (by omega) (by omega) (by omega) Ca6.out).mono ?_
        rintro e W7 ⟨rfl, hb⟩
        have B7 := Lib.hid (below_next B6.out hb)
        have Ca7 := Lib.hid (Cells.below Ca6.out hb)
        have Cb7 := Lib.hid (Cells.below Cb6.out hb)
        clear hb B6 Ca6 Cb6
        go_wp2_with fail
        refine (asks_any la _ _ _ _ _ (by omega) (by omega) (by omega) Ca7.out).mono ?_
        rintro e W8 ⟨rfl, hb⟩
        have B8 := Lib.hid (below_next B7.out hb)
        have Ca8 := Lib.hid (Cells.below Ca7.out hb)
        have Cb8 := Lib.hid (Cells.below Cb7.out hb)
        clear hb B7 Ca7 Cb7
        go_wp2_with fail
        refine (asks_any lb _ _ _ _ _ (by omega) (by omega) (by omega) Cb8.out).mono ?_
        rintro e W9 ⟨rfl, hb⟩
        have B9 := Lib.hid (below_next B8.out hb)
        have Ca9 := Lib.hid (Cells.below Ca8.out hb)
        have Cb9 := Lib.hid (Cells.below Cb8.out hb)
        clear hb B8 Ca8 Cb8
        go_wp2_with fail
        refine (asks_any lb _ _ _ _ _ (by omega) (by omega) (by omega) Cb9.out).mono ?_
        rintro e W10 ⟨rfl, hb⟩
        have B10 := Lib.hid (below_next B9.out hb)
        have Ca10 := Lib.hid (Cells.below Ca9.out hb)
        have Cb10 := Lib.hid (Cells.below Cb9.out hb)
        clear hb B9 Ca9 Cb9
        go_wp2
        go_roundw
        case rel => exact ⟨k + 1, by omega, by go_num, B10⟩
        case measure => simp [intOf]; omega
      · have h8 : ((k : Int) % 8 == 0) = false := by simpa using h8
        go_wp2
        go_roundw
        case rel => exact ⟨k + 1, by omega, by go_num, B6⟩
        case measure => simp [intOf]; omega
    · obtain rfl : k = 128 := by omega
      clear hlt hk
      have B0 := hB
      clear hB
      rw [show ((128 : Nat) : Int) = 128 from rfl]
      go_wp2
      have hE := ends_cells wr
      have hb0 := B0.out.alloc B0.out.size (.cells #[.int .i64 (-9223372036854775808), .int .i64 (-1), .int .i64 0, .int .i64 1, .int .i64 65535, .int .i64 65536, .int .i64 65537, .int .i64 9223372036854775807] 3)
      generalize hW : wr.alloc (.cells #[.int .i64 (-9223372036854775808), .int .i64 (-1), .int .i64 0, .int .i64 1, .int .i64 65535, .int .i64 65536, .int .i64 65537, .int .i64 9223372036854775807] 3) = W0 at *
      clear hW B0
      generalize wr.heap.size = E at *
      have HE := Lib.hid hE
      have HB0 := Lib.hid hb0
      clear hE hb0
      go_loopw [7] (fun i wr => ∃ k : Nat, k ≤ 8 ∧ i = .int .i64 k ∧ Hid (Ends E wr ∧ Below w.heap.size w wr)) (fun i _ => 20 - (intOf i).toNat)
      case atStart => exact ⟨0, by omega, rfl, Lib.hid ⟨HE.out, HB0.out⟩⟩
      case round =>
        clear HE HB0
        obtain ⟨k, hk, rfl, hI⟩ := hrel
        by_cases hlt : k < 8
        · have i1 : (0 : Int) ≤ (k : Int) := by omega
          have i2 : (k : Int) < 8 := by omega
          go_wp2
          go_loopw [8] (fun i wr => ∃ j : Nat, j ≤ 8 ∧ i = .int .i64 j ∧ Hid (Ends E wr ∧ Below w.heap.size w wr)) (fun i _ => 20 - (intOf i).toNat)
          case atStart => exact ⟨0, by omega, rfl, hI⟩
          case round =>
            clear hI
            obtain ⟨j, hj, rfl, hI⟩ := hrel
            by_cases hlt2 : j < 8
            · obtain ⟨x, hx, hx1, hx2⟩ := hI.out.1 k hlt
              obtain ⟨y, hy, hy1, hy2⟩ := hI.out.1 j hlt2
              have HXY := Lib.hid (And.intro (And.intro hx1 hx2) (And.intro hy1 hy2))
              have i3 : (0 : Int) ≤ (j : Int) := by omega
              have i4 : (j : Int) < 8 := by omega
              have hEl := World.block_lt_of_cell? wr _ hx
              have hne : E ≠ wr.heap.size := Nat.ne_of_lt hEl
              have hne2 : E ≠ wr.heap.size + 1 := by have := hEl; dsimp only at this; omega
              clear hx1 hx2 hy1 hy2
              go_wp2_with fail
              go_region_held3 (fun w9 => w9.cell? ⟨E, k, none⟩ = some (.int .i64 x) ∧ w9.cell? ⟨E, j, none⟩ = some (.int .i64 y))
                (first | go_keep)
                (first | (go_at_call 10; refine (to_any _ _ _).mono ?_; rintro e w9 ⟨rfl, rfl⟩) | (go_at_call 9; refine (set_any _ _ _ _).mono ?_; rintro e w9 ⟨rfl, rfl⟩))
              obtain ⟨W1, hW⟩ : ∃ W1, W1 = ((wr.alloc (.cells #[.int .i64 x, .int .i64 y] 30)).alloc (.cells #[.int .i64 x, .int .i64 y] 30)).drew := ⟨_, rfl⟩
              have hbw : Below wr.heap.size wr W1 := by rw [hW]; exact (((Below.refl wr.heap.size wr).alloc (Nat.le_refl _) _).alloc (by simp) _).drew
              have C1 : Hid (Cells W1 (some ⟨wr.heap.size + 1, 0, none⟩) [(x, y)]) := Lib.hid (by
                rw [hW]
                have h9 := cells_new1 (wr.alloc (.cells #[.int .i64 x, .int .i64 y] 30)) x y
                rw [show (wr.alloc (.cells #[.int .i64 x, .int .i64 y] 30)).heap.size = wr.heap.size + 1 by simp] at h9
                exact h9)
              have I1 : Hid (Ends E W1 ∧ Below w.heap.size w W1) := Lib.hid ⟨hI.out.1.below hEl hbw, hI.out.2.trans (hbw.mono hI.out.2.size)⟩
              have c1 := (hbw.cell (p := ⟨E, k, none⟩) hEl).trans hx
              have c2 := (hbw.cell (p := ⟨E, j, none⟩) hEl).trans hy
              have HEl := Lib.hid (Nat.lt_of_lt_of_le hEl hbw.size)
              clear hx hy hI hbw
              rw [← hW]
              clear hW hne hne2 hEl
              have CA := Lib.hid (fun p : Later W1 => makes_any [(x, y)] (some ⟨wr.heap.size + 1, 0, none⟩) 1 p.W (by simp) (C1.out.later p))
              have CB := Lib.hid (fun p : Later W1 => both_any [(x, y)] [] (some ⟨wr.heap.size + 1, 0, none⟩) none 1 0 p.W (by simp) (by simp) (C1.out.later p) (Cells.nil _ _))
              have CC := Lib.hid (fun p : Later W1 => asks_any [(x, y)] x y (some ⟨wr.heap.size + 1, 0, none⟩) 1 p.W (by simp) HXY.out.2.1 HXY.out.2.2 (C1.out.later p))
              clear C1
              go_wp2_with fail
              refine wp_region_laterS (fun W => W.cell? ⟨E, k, none⟩ = some (.int .i64 x) ∧ W.cell? ⟨E, j, none⟩ = some (.int .i64 y) ∧ Hid (Ends E W ∧ Below w.heap.size w W)) (by kernel_rfl) (by kernel_rfl) (fun p => ⟨p.cell _ _ c1, p.cell _ _ c2, Lib.hid ⟨I1.out.1.below HEl.out p.below, I1.out.2.trans (p.below.mono I1.out.2.size)⟩⟩) ?_
              intro hS
              repeat (go_big_quiet_step ((first | (go_at_call 7; exact Later.call (CA.out _)) | (go_at_call 6; exact Later.call (CB.out _)) | (go_at_call 8; exact Later.call (CC.out _)))))
              refine wpQuiet_nil ?_
              rintro _ ⟨q, rfl⟩
              have I2 := (hS q).2.2
              clear hS CA CB CC
              go_wp2
              go_roundw
              case rel => exact ⟨j + 1, by omega, by go_num, I2⟩
              case measure => simp [intOf]; omega
            · go_wp2
              go_roundw
              case rel => exact ⟨k + 1, by omega, by go_num, hI⟩
              case measure => simp [intOf]; omega
        · have e8 : (k : Int) = 8 := by omega
          rw [e8]
          clear e8
          obtain rfl : k = 8 := by omega
          have B0 := Lib.hid hI.out.2
          clear hI
          go_wp2_with fail
          refine (makes_any [] none 0 _ (by simp) (Cells.nil _ _)).mono ?_
          rintro e W1 ⟨rfl, hb⟩
          have B1 := Lib.hid (below_next B0.out hb)
          clear hb B0 
          go_wp2_with fail
          refine (asks_any [] 0 0 none 0 _ (by simp) (by decide) (by decide) (Cells.nil _ _)).mono ?_
          rintro e W2 ⟨rfl, hb⟩
          have B2 := Lib.hid (below_next B1.out hb)
          clear hb B1 
          go_wp2_with fail
          refine (awake_any _).mono ?_
          rintro e W3 ⟨rfl, hb⟩
          have B3 := Lib.hid (below_next B2.out hb)
          clear hb B2 
          go_wp2
          go_ret
          exact ⟨rfl, B3.out⟩

end Go.Proofs.YtgpbdocgnfjckaaGreat
