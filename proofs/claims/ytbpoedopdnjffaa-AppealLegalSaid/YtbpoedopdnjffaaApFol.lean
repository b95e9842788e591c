/- follows: what an accepted filing makes of its case. -/
import Derived.Test.YtbpoedopdnjffaaApLawK
import Derived.Deep.CutRange
namespace Go.Proofs.Ytbpoedopdnjffaa
open Go.RowKit Go.Shelf Sp

theorem blk4_3 (X : World) (o1 o2 o3 o4 : Obj) : ((((X.alloc o1).alloc o2).alloc o3).alloc o4).heap[X.heap.size + 1 + 1 + 1]? = some o4 := by
  have h1 := World.alloc_heap_new (((X.alloc o1).alloc o2).alloc o3) o4
  rw [World.size_alloc, World.size_alloc, World.size_alloc] at h1
  exact h1
theorem blk4_2 (X : World) (o1 o2 o3 o4 : Obj) : ((((X.alloc o1).alloc o2).alloc o3).alloc o4).heap[X.heap.size + 1 + 1]? = some o3 := by
  have h1 := World.alloc_heap_new ((X.alloc o1).alloc o2) o3
  rw [World.size_alloc, World.size_alloc] at h1
  exact (((Below.refl _ (((X.alloc o1).alloc o2).alloc o3)).alloc (Nat.le_refl _) o4).block (X.heap.size + 1 + 1) (by simp)).trans h1
theorem blk4_b (X : World) (o1 o2 o3 o4 : Obj) : Below X.heap.size X ((((X.alloc o1).alloc o2).alloc o3).alloc o4) :=
  ((((Below.refl _ _).alloc (Nat.le_refl _) _).alloc (by simp) _).alloc (by simp; omega) _).alloc (by simp; omega) _

set_option maxHeartbeats 8000000 in
set_option maxRecDepth 100000 in
theorem follows_yes (f : Fl) (was now : Cs) (pw pn : Option Addr) (lw kw ln kn : Nat) (W : World) (hW : f.Wf) (ho' : opensP f = false) (hst : was.st = needP f.kind) (hch : f.kind = 2 → f.n ≤ was.days) (he' : bare (folP f was) = bare now) (hlv : 0 ≤ was.level ∧ was.level ≤ 3) (hdy : 1 ≤ was.days ∧ was.days ≤ 400) :
    Calls Try.prog 18 #[flAgg f, csAgg was (.slice pw lw kw), csAgg now (.slice pn ln kn)] W fun e w' => e = .returned (.bool true) ∧ Below W.heap.size W w' := by
  have hk := hW.kind
  obtain ⟨k1, k4⟩ := opensP_not ho'
  have hday := hW.day
  have h6 := hW.k6
  obtain ⟨kind, day, case, n, til, fh⟩ := f
  obtain ⟨Z, hZ⟩ : ∃ Z, Z = folP ⟨kind, day, case, n, til, fh⟩ was := ⟨_, rfl⟩
  rw [← hZ] at he'
  obtain ⟨el, st, op, dy, chx, lv, du, ho, si, he⟩ := was
  obtain ⟨nel, nst, nop, ndy, nch, nlv, ndu, nho, nsi, nhe⟩ := now
  unfold flAgg csAgg
  dsimp only at hk k1 k4 hday h6 hst hch hlv hdy ⊢
  obtain rfl : nel = Z.el := (congrArg Cs.el he').symm
  obtain rfl : nst = Z.st := (congrArg Cs.st he').symm
  obtain rfl : nop = Z.opened := (congrArg Cs.opened he').symm
  obtain rfl : ndy = Z.days := (congrArg Cs.days he').symm
  obtain rfl : nch = Z.choice := (congrArg Cs.choice he').symm
  obtain rfl : nlv = Z.level := (congrArg Cs.level he').symm
  obtain rfl : ndu = Z.due := (congrArg Cs.due he').symm
  obtain rfl : nho = Z.hold := (congrArg Cs.hold he').symm
  obtain rfl : nsi = Z.since := (congrArg Cs.since he').symm
  have HZ := Lib.hid hZ
  have HST := Lib.hid hst
  have HCH := Lib.hid hch
  have H6 := Lib.hid h6
  clear hW ho' hZ he' hst hch h6
  go_enter Try.func18, Try.ntmps18
  go_upto_region 1 with (fail)
  go_cut [7] from 8 to 95 (fun v7 wx => v7 = .pointer (some ⟨W.heap.size + 1 + 1 + 1, 0, none⟩) ∧ wx = ((((W.alloc (.cells #[.int .u8 kind, .int .i64 day, .int .i64 case, .int .i64 n, .int .i64 til, .bool fh] 30)).alloc (.cells #[.bool el, .int .u8 st, .int .i64 op, .int .i64 dy, .int .i64 chx, .int .i64 lv, .int .i64 du, .bool ho, .int .i64 si, .slice pw lw kw] 39)).alloc (.cells #[.bool Z.el, .int .u8 Z.st, .int .i64 Z.opened, .int .i64 Z.days, .int .i64 Z.choice, .int .i64 Z.level, .int .i64 Z.due, .bool Z.hold, .int .i64 Z.since, .slice pn ln kn] 39)).alloc (.cells #[.bool el, .int .u8 st, .int .i64 op, .int .i64 dy, .int .i64 chx, .int .i64 lv, .int .i64 du, .bool ho, .int .i64 si, .slice pw lw kw] 39)))
  case first =>
    go_wp2_with fail
    go_meet
    exact ⟨rfl, rfl⟩
  case rest =>
  obtain ⟨rfl, rfl⟩ := hcut
  go_step
  go_step
  go_cut [] from 8 to 90 (fun wx => CsAt wx (W.heap.size + 1 + 1 + 1) Z (.slice pw lw kw) ∧ CsAt wx (W.heap.size + 1 + 1) ⟨Z.el, Z.st, Z.opened, Z.days, Z.choice, Z.level, Z.due, Z.hold, Z.since, nhe⟩ (.slice pn ln kn) ∧ Below W.heap.size W wx)
  case first =>
    rcases (show kind = 2 ∨ kind = 3 ∨ kind = 5 ∨ kind = 6 ∨ kind = 7 by omega) with rfl | rfl | rfl | rfl | rfl
    · have e0 : st = 1 := HST.out
      subst e0
      have hc2 := HCH.out rfl
      have hn2 : ¬ dy < n := by omega
      have HK := Lib.hid (show Z = ⟨el, 1, op, dy, n, lv, du, ho, si, he⟩ from HZ.out.trans rfl)
      go_wp2
      all_goals (go_meet; exact ⟨by rw [HK.out]; exact blk4_3 W _ _ _ _, blk4_2 W _ _ _ _, (by first | exact blk4_b W _ _ _ _ | exact (blk4_b W _ _ _ _).drew | exact (blk4_b W _ _ _ _).drew.drew)⟩)
    · have e0 : st = 1 := HST.out
      subst e0
      have HK := Lib.hid (show Z = ⟨el, 4, op, dy, chx, lv, day, ho, si, he⟩ from HZ.out.trans rfl)
      go_wp2
      all_goals go_region
      all_goals go_wp2
      all_goals (go_meet; exact ⟨by rw [HK.out]; exact blk4_3 W _ _ _ _, blk4_2 W _ _ _ _, (by first | exact blk4_b W _ _ _ _ | exact (blk4_b W _ _ _ _).drew | exact (blk4_b W _ _ _ _).drew.drew)⟩)
    · have e0 : st = 2 := HST.out
      subst e0
      cases fh with
      | true =>
        have HK := Lib.hid (show Z = ⟨el, 3, op, dy, chx, lv + 1, day + 365, true, day, he⟩ from HZ.out.trans rfl)
        go_wp2
        all_goals go_region
        all_goals go_wp2
        all_goals go_region
        all_goals go_wp2
        all_goals (go_meet; exact ⟨by rw [HK.out]; exact blk4_3 W _ _ _ _, blk4_2 W _ _ _ _, (by first | exact blk4_b W _ _ _ _ | exact (blk4_b W _ _ _ _).drew | exact (blk4_b W _ _ _ _).drew.drew)⟩)
      | false =>
        have HK := Lib.hid (show Z = ⟨el, 3, op, dy, chx, lv + 1, day + 365, ho, si, he⟩ from HZ.out.trans rfl)
        go_wp2
        all_goals go_region
        all_goals go_wp2
        all_goals (go_meet; exact ⟨by rw [HK.out]; exact blk4_3 W _ _ _ _, blk4_2 W _ _ _ _, (by first | exact blk4_b W _ _ _ _ | exact (blk4_b W _ _ _ _).drew | exact (blk4_b W _ _ _ _).drew.drew)⟩)
    · have e0 : st = 3 := HST.out
      subst e0
      rcases (H6.out rfl).2 with rfl | rfl
      · by_cases hl3 : lv < 3
        · have HK := Lib.hid (show Z = ⟨el, 2, op, dy, chx, lv, day + dy, false, 0, he⟩ by
            rw [HZ.out]; unfold folP; dsimp only
            rw [if_neg (by decide), if_neg (by decide), if_neg (by decide), if_neg (by decide), if_pos ⟨rfl, hl3⟩])
          go_wp2
          all_goals go_region
          all_goals go_wp2
          all_goals go_region
          all_goals go_wp2
          all_goals (go_meet; exact ⟨by rw [HK.out]; exact blk4_3 W _ _ _ _, blk4_2 W _ _ _ _, (by first | exact blk4_b W _ _ _ _ | exact (blk4_b W _ _ _ _).drew | exact (blk4_b W _ _ _ _).drew.drew)⟩)
        · have HK := Lib.hid (show Z = ⟨el, 4, op, dy, chx, lv, day, false, 0, he⟩ by
            rw [HZ.out]; unfold folP; dsimp only
            rw [if_neg (by decide), if_neg (by decide), if_neg (by decide), if_neg (by decide), if_neg (by omega)])
          go_wp2
          all_goals go_region
          all_goals go_wp2
          all_goals (go_meet; exact ⟨by rw [HK.out]; exact blk4_3 W _ _ _ _, blk4_2 W _ _ _ _, (by first | exact blk4_b W _ _ _ _ | exact (blk4_b W _ _ _ _).drew | exact (blk4_b W _ _ _ _).drew.drew)⟩)
      · have HK := Lib.hid (show Z = ⟨el, 5, op, dy, chx, lv, day, false, 0, he⟩ from HZ.out.trans rfl)
        go_wp2
        all_goals go_region
        all_goals go_wp2
        all_goals (go_meet; exact ⟨by rw [HK.out]; exact blk4_3 W _ _ _ _, blk4_2 W _ _ _ _, (by first | exact blk4_b W _ _ _ _ | exact (blk4_b W _ _ _ _).drew | exact (blk4_b W _ _ _ _).drew.drew)⟩)
    · have e0 : st = 3 := HST.out
      subst e0
      have HK := Lib.hid (show Z = ⟨el, 4, op, dy, chx, lv, day, false, 0, he⟩ from HZ.out.trans rfl)
      go_wp2
      all_goals go_region
      all_goals go_wp2
      all_goals (go_meet; exact ⟨by rw [HK.out]; exact blk4_3 W _ _ _ _, blk4_2 W _ _ _ _, (by first | exact blk4_b W _ _ _ _ | exact (blk4_b W _ _ _ _).drew | exact (blk4_b W _ _ _ _).drew.drew)⟩)
  case rest =>
  obtain ⟨hk7, hk5, hbx⟩ := hcut
  obtain ⟨m0, m1, m2, m3, m4, m5, m6, m7, m8, m9⟩ := hk7.cell
  obtain ⟨l0, l1, l2, l3, l4, l5, l6, l7, l8, l9⟩ := hk5.cell
  have mf := hk7.frozen
  have lf := hk5.frozen
  have K7 := Lib.hid hk7
  have K5 := Lib.hid hk5
  have BX := Lib.hid hbx
  have hlt : W.heap.size + 1 + 1 + 1 < wc.heap.size := hk7.lt
  clear hk7 hk5 hbx
  have mf9 := mf 9
  have lf9 := lf 9
  clear mf lf
  have K7a := K7.out.set_.2.2.2.2.2.2 [] (.slice none 0 0)
  have K5a := K5.out.of_block (Below.heap_setCell wc ⟨W.heap.size + 1 + 1 + 1, 9, none⟩ (.slice none 0 0) (W.heap.size + 1 + 1) (by show W.heap.size + 1 + 1 ≠ W.heap.size + 1 + 1 + 1; omega))
  have K5b := Lib.hid (K5a.set_.2.2.2.2.2.2 [] (.slice none 0 0))
  have K7b := Lib.hid (K7a.of_block (Below.heap_setCell (wc.setCell ⟨W.heap.size + 1 + 1 + 1, 9, none⟩ (.slice none 0 0)) ⟨W.heap.size + 1 + 1, 9, none⟩ (.slice none 0 0) (W.heap.size + 1 + 1 + 1) (by show W.heap.size + 1 + 1 + 1 ≠ W.heap.size + 1 + 1; omega)))
  have BX2 := Lib.hid ((BX.out.setCell (p := ⟨W.heap.size + 1 + 1 + 1, 9, none⟩) (by show W.heap.size ≤ W.heap.size + 1 + 1 + 1; omega) (.slice none 0 0)).setCell (p := ⟨W.heap.size + 1 + 1, 9, none⟩) (by show W.heap.size ≤ W.heap.size + 1 + 1; omega) (.slice none 0 0))
  clear K7a K5a K7 K5 BX
  go_upto_region 27 with (fail)
  generalize (wc.setCell ⟨W.heap.size + 1 + 1 + 1, 9, none⟩ (.slice none 0 0)).setCell ⟨W.heap.size + 1 + 1, 9, none⟩ (.slice none 0 0) = W2 at *
  clear m0 m1 m2 m3 m4 m5 m6 m7 m8 m9 l0 l1 l2 l3 l4 l5 l6 l7 l8 l9 mf9 lf9 hlt
  obtain ⟨m0, m1, m2, m3, m4, m5, m6, m7, m8, m9⟩ := K7b.out.cell
  obtain ⟨l0, l1, l2, l3, l4, l5, l6, l7, l8, l9⟩ := K5b.out.cell
  dsimp only at m0 m1 m2 m3 m4 m5 m6 m7 m8 m9 l0 l1 l2 l3 l4 l5 l6 l7 l8 l9
  have CST := Lib.hid (fun W => stays_yes (bare Z) none none 0 0 W (by simp [bare]) (.inl rfl) (.inl rfl))
  unfold csAgg bare at CST
  dsimp only [List.length_nil] at CST
  clear K7b K5b
  go_wp2_with fail
  refine (CST.out _).mono ?_
  rintro e W3 ⟨rfl, hb3⟩
  have B3 := Lib.hid (below_next BX2.out hb3)
  go_wp2
  go_ret
  exact ⟨rfl, B3.out⟩

end Go.Proofs.Ytbpoedopdnjffaa
