/- AppealTime: the law's walk. -/
import Derived.Test.YtbpoedopdnjffaaApTim
import Derived.Deep.CutRange
import Derived.Deep.RegionHeld3
namespace Go.Proofs.Ytbpoedopdnjffaa
open Go.RowKit Go.Shelf Sp

/-- A night, fields written out. -/
theorem nightB_a {el : Bool} {st op dy ch lv du : Int} {ho : Bool} {si : Int} {he : Sps} {d : Int} (h : d + 1 ≤ du ∨ st = 4 ∨ st = 5) : nightB ⟨el, st, op, dy, ch, lv, du, ho, si, he⟩ d = ⟨el, st, op, dy, ch, lv, du, ho, si, he⟩ := if_pos h
theorem nightB_b {el : Bool} {st op dy ch lv du : Int} {ho : Bool} {si : Int} {he : Sps} {d : Int} (h : ¬ (d + 1 ≤ du ∨ st = 4 ∨ st = 5)) (h2 : st ≠ 3 ∨ lv = 3) : nightB ⟨el, st, op, dy, ch, lv, du, ho, si, he⟩ d = ⟨el, 4, op, dy, ch, lv, d + 1, false, 0, he⟩ := by
  unfold nightB; dsimp only; rw [if_neg h, if_pos h2]
theorem nightB_c {el : Bool} {st op dy ch lv du : Int} {ho : Bool} {si : Int} {he : Sps} {d : Int} (h : ¬ (d + 1 ≤ du ∨ st = 4 ∨ st = 5)) (h2 : ¬ (st ≠ 3 ∨ lv = 3)) : nightB ⟨el, st, op, dy, ch, lv, du, ho, si, he⟩ d = ⟨el, 2, op, dy, ch, lv, d + 1 + dy, false, 0, he⟩ := by
  unfold nightB; dsimp only; rw [if_neg h, if_neg h2]

theorem cell_keep {w w' : World} (hb : Below w.drew.heap.size w.drew w') {p : Addr} {v : Value} (h : w.cell? p = some v) : w'.cell? p = some v := (hb.cell (show p.block < w.drew.heap.size from World.block_lt_of_cell? w _ h)).trans h
theorem ten_cells {W : World} {B : Nat} {v0 v1 v2 v3 v4 v5 v6 v7 v8 v9 : Value} {t : TypeId} (h : W.heap[B]? = some (.cells #[v0, v1, v2, v3, v4, v5, v6, v7, v8, v9] t (0, 0))) :
    W.cell? ⟨B, 0, none⟩ = some v0 ∧ W.cell? ⟨B, 1, none⟩ = some v1 ∧ W.cell? ⟨B, 2, none⟩ = some v2 ∧ W.cell? ⟨B, 3, none⟩ = some v3 ∧ W.cell? ⟨B, 4, none⟩ = some v4 ∧ W.cell? ⟨B, 5, none⟩ = some v5 ∧ W.cell? ⟨B, 6, none⟩ = some v6 ∧ W.cell? ⟨B, 7, none⟩ = some v7 ∧ W.cell? ⟨B, 8, none⟩ = some v8 ∧ W.cell? ⟨B, 9, none⟩ = some v9 := by
  simp only [World.cell?, h]
  exact ⟨rfl, rfl, rfl, rfl, rfl, rfl, rfl, rfl, rfl, rfl⟩
theorem set_nine {W : World} {B : Nat} {v0 v1 v2 v3 v4 v5 v6 v7 v8 v9 : Value} {t : TypeId} (h : W.heap[B]? = some (.cells #[v0, v1, v2, v3, v4, v5, v6, v7, v8, v9] t (0, 0))) (u : Value) :
    (W.setCell ⟨B, 9, none⟩ u).heap[B]? = some (.cells #[v0, v1, v2, v3, v4, v5, v6, v7, v8, u] t (0, 0)) := by
  have := setCell_row (i := 9) u h
  simpa using this
theorem blk2_0 (X : World) (o1 o2 : Obj) : ((X.alloc o1).alloc o2).heap[X.heap.size]? = some o1 :=
  (((Below.refl _ (X.alloc o1)).alloc (Nat.le_refl _) o2).block X.heap.size (by simp)).trans (World.alloc_heap_new X o1)
theorem blk2_1 (X : World) (o1 o2 : Obj) : ((X.alloc o1).alloc o2).heap[X.heap.size + 1]? = some o2 := by
  have h1 := World.alloc_heap_new (X.alloc o1) o2
  rw [World.size_alloc] at h1
  exact h1
theorem blk2_b (X : World) (o1 o2 : Obj) : Below X.heap.size X ((X.alloc o1).alloc o2) := ((Below.refl _ _).alloc (Nat.le_refl _) _).alloc (by simp) _

set_option maxHeartbeats 8000000 in
set_option maxRecDepth 100000 in
theorem time_law (l : List Nt) (x : Int) (p : Option Addr) (cap : Nat) (w : World) (hc : NCells w p l) (bd : ∀ y ∈ l, y.Bd) :
    Calls Try.prog 5 #[.slice p l.length cap, .int .i64 x] w fun e w' => e = .returned (.bool true) ∧ Below w.heap.size w w' := by
  have NC := Lib.hid hc
  have BT := Lib.hid (builtP_bt bd)
  have CB := Lib.hid (fun W h => built_is l p cap W h bd)
  generalize builtP l = F at *
  have hla := lastP_bt BT.out
  have h30 := BT.out.len
  have hLen := BT.out.cs.2
  have CL := Lib.hid (fun q cq W h => last_any F q cq W h BT.out.bd (by omega))
  have CA := Lib.hid (fun (d : Int) (q : Option Addr) (cq : Nat) (W : World) (h : FCells W q F) (h1 : lastP F ≤ d) (h2 : d ≤ 65535) => at_ok F d q cq W h BT.out.bd (by omega) h1 h2)
  have IV := Lib.hid BT.out.cs.1
  generalize lastP F = la at *
  generalize (runD F).cs = L at *
  clear hc bd
  obtain ⟨i0, hi0, hz0, hz1, hz2⟩ := info_parts info_int
  go_enter Try.func5, Try.ntmps5
  go_wp2_with fail
  refine (awake_any _).mono ?_
  rintro e W1 ⟨rfl, hb⟩
  have B1 := Lib.hid hb
  have N1 := Lib.hid (NC.out.below hb)
  clear hb NC
  go_wp2_with fail
  refine (CB.out _ N1.out).mono ?_
  rintro e W2 ⟨q, cq, rfl, hq, hb⟩
  have B2 := Lib.hid (below_next B1.out hb)
  have F2 := Lib.hid hq
  clear hb hq B1 N1 CB
  go_wp2_with fail
  refine (CL.out q cq _ F2.out).mono ?_
  rintro e W3 ⟨rfl, hb⟩
  have B3 := Lib.hid (below_next B2.out hb)
  have F3 := Lib.hid (F2.out.below hb)
  clear hb B2 F2
  go_wp2_with fail
  refine (CA.out la q cq _ F3.out (Int.le_refl _) (by omega)).mono ?_
  rintro e W5 ⟨qa, ca, rfl, ha, hb⟩
  have B5 := Lib.hid (below_next B3.out hb)
  have F5 := Lib.hid (F3.out.below hb)
  have C5 := Lib.hid ha
  clear hb ha B3 F3
  go_wp2_with fail
  refine (pick_any x 2000 _ (by decide) (by decide)).mono ?_
  rintro e _ ⟨rfl, rfl⟩
  obtain ⟨y, hy⟩ : ∃ y, y = x % 2000 := ⟨_, rfl⟩
  rw [← hy]
  have hy0 : 0 ≤ y ∧ y < 2000 := by omega
  clear hy
  have hyl : -1 ≤ la + y ∧ la + y ≤ 70000 := by omega
  go_wp2
  have L0 := Lib.hid (show Look W5.heap.size W5 (W5.alloc (.cells #[.int .i64 (la + y)] 3)) (.slice (some ⟨W5.heap.size, 0, none⟩) 1 1) 1 from
    ⟨⟨[la + y], rfl, ZOwns.one _, fun z hz => by rw [List.mem_singleton.1 hz]; exact hyl⟩, (Below.refl _ _).alloc (Nat.le_refl _) _⟩)
  generalize W5.alloc (.cells #[.int .i64 (la + y)] 3) = W6 at *
  generalize Value.slice (some ⟨W5.heap.size, 0, none⟩) 1 1 = v0 at *
  go_loopw [44, 9] (fun i u wr => ∃ (k : Nat) (v : Value), k ≤ L.length ∧ i = .int .i64 k ∧ v = u ∧ Hid (Look W5.heap.size W5 wr v (1 + 4 * k))) (fun i _ _ => L.length - (intOf i).toNat)
  case atStart => exact ⟨0, v0, by omega, rfl, rfl, L0⟩
  case round =>
    obtain ⟨k, v, hk, rfl, rfl, hI⟩ := hrel
    by_cases hlt : k < L.length
    · obtain ⟨b4, o4, q4, c4, rfl, hx4, _⟩ := (C5.out.below hI.out.bel).at k hlt
      obtain ⟨g0, g1, g2, g3, g4, g5, g6, g7, g8, g9⟩ := hx4
      have okx := passP_ok (IV.out _ (List.getElem_mem hlt)).1 la
      have hdu : 0 ≤ (atP L[k] la).due ∧ (atP L[k] la).due ≤ 66302 := okx.due
      have hdy : 1 ≤ (atP L[k] la).days ∧ (atP L[k] la).days ≤ 400 := okx.days
      have hb4 : b4 ≠ wr.heap.size := Nat.ne_of_lt (World.block_lt_of_cell? wr _ g0)
      generalize atP L[k] la = c at *
      obtain ⟨zs, hzl, hZ, hzb⟩ := hI.out.own
      have HR := Lib.hid (show wr.ownsRow W5.heap.size 3 1 v (1 + 4 * k) (zs.map (Value.int .i64)) by rw [← hzl]; exact hZ)
      have HG := Lib.hid (fun (o1 o2 : Obj) (w1 : World) (v' : Value) h1 h2 h3 => Look.grow (X := (wr.alloc o1).alloc o2) (w1 := w1) (v' := v') (a := c.due - 1) (b := c.due) (c := c.due + c.days) (d := c.due + 1 + c.days) hzl hZ hzb hI.out.bel hI.out.bel.size (blk2_b _ _ _) h1 h2 h3)
      have hbnd : (-1 ≤ c.due - 1 ∧ c.due - 1 ≤ 70000) ∧ (-1 ≤ c.due ∧ c.due ≤ 70000) ∧ (-1 ≤ c.due + c.days ∧ c.due + c.days ≤ 70000) ∧ (-1 ≤ c.due + 1 + c.days ∧ c.due + 1 + c.days ≤ 70000) := by omega
      have HB := Lib.hid hbnd
      have hsz := hI.out.bel.size
      clear hzl hZ hzb okx hI hbnd
      go_wp2_with (first | (at_builtin; refine wpList_append_own _ rfl _ _ 43 rfl W5.heap.size 3 i0 _ 1 8 Try.underlying43 hi0 hz0 hz1 hz2 rfl (by decide) _ _ _ rfl ((HR.out.alloc _).alloc _) ⟨wr.heap.size + 1, 0, none⟩ 4 4 [.int .i64 (c.due - 1), .int .i64 c.due, .int .i64 (c.due + c.days), .int .i64 (c.due + 1 + c.days)] rfl rfl (four_cells _ _ _ _ _ _ (by simp)) (by simp [Value.oneCell']) (by unfold maxLen; omega) (by omega) (by simp; omega) ?_; intro v' w1 hown' hgrow _) | fail)
      have H1 := Lib.hid (HG.out _ _ w1 v' HB.out hgrow hown')
      clear hown' hgrow
      go_roundw
      case rel => exact ⟨k + 1, v', by omega, by go_num, rfl, Lib.hid (by have := H1.out; rwa [show 1 + 4 * (k + 1) = 1 + 4 * k + 4 by omega])⟩
      case measure => simp [intOf]; omega
    · obtain rfl : k = L.length := by omega
      obtain ⟨zs, hzl, hZ, hzb⟩ := hI.out.own
      obtain ⟨pz, cz, rfl, hzc⟩ := hZ.form
      have B7 := Lib.hid (below_next B5.out hI.out.bel)
      have F7 := Lib.hid (F5.out.below hI.out.bel)
      have Z7 := Lib.hid hzc
      have ZB := Lib.hid hzb
      have hzn : zs.length ≤ 401 := by omega
      clear hzl hZ hzb hzc hI C5 B5 F5 L0 hyl hy0
      generalize wr = W7 at *
      go_wp2
      go_loopw [70] (fun i wr => ∃ k : Nat, k ≤ zs.length ∧ i = .int .i64 k ∧ Hid (Below W7.heap.size W7 wr)) (fun i _ => zs.length - (intOf i).toNat)
      case atStart => exact ⟨0, by omega, rfl, Lib.hid (Below.refl _ _)⟩
      case round =>
        obtain ⟨k, hk, rfl, hI⟩ := hrel
        by_cases hlt : k < zs.length
        · obtain ⟨gz, rfl, hcz⟩ := (Z7.out.below hI.out) k hlt
          have hzd := ZB.out _ (List.getElem_mem hlt)
          generalize zs[k] = d at *
          by_cases hd1 : d < la
          · go_wp2
            go_roundw
            case rel => exact ⟨k + 1, by omega, by go_num, hI⟩
            case measure => simp [intOf]; omega
          · by_cases hd2 : 65536 ≤ d + 1
            · go_wp2
              go_roundw
              case rel => exact ⟨k + 1, by omega, by go_num, hI⟩
              case measure => simp [intOf]; omega
            · have F8 := Lib.hid (F7.out.below hI.out)
              go_wp2_with fail
              refine (CA.out d q cq _ F8.out (by omega) (by omega)).mono ?_
              rintro e W9 ⟨qx, cx, rfl, hx, hb⟩
              have F9 := Lib.hid (F8.out.below hb)
              have B9 := Lib.hid (below_next hI.out hb)
              have X9 := Lib.hid hx
              clear hb hx hI F8
              go_wp2_with fail
              refine (CA.out (d + 1) q cq _ F9.out (by omega) (by omega)).mono ?_
              rintro e W10 ⟨qy, cy, rfl, hy, hb⟩
              have B10 := Lib.hid (below_next B9.out hb)
              have X10 := Lib.hid (X9.out.below hb)
              have Y10 := Lib.hid hy
              clear hb hy F9 B9 X9 hcz
              go_wp2
              go_loopw [108] (fun i wr => ∃ j : Nat, j ≤ L.length ∧ i = .int .i64 j ∧ Hid (Below W10.heap.size W10 wr)) (fun i _ => L.length - (intOf i).toNat)
              case atStart => exact ⟨0, by omega, rfl, Lib.hid (Below.refl _ _)⟩
              case round =>
                obtain ⟨j, hj, rfl, hI⟩ := hrel
                by_cases hlt2 : j < L.length
                · obtain ⟨bx, ox, px, kx, rfl, hcx, hsx⟩ := (X10.out.below hI.out).at j hlt2
                  obtain ⟨yb, oy, py, ky, rfl, hcy, hsy⟩ := (Y10.out.below hI.out).at j hlt2
                  obtain ⟨okj, ivj⟩ := IV.out _ (List.getElem_mem hlt2)
                  have HN := night_ok okj ivj (show la ≤ d by omega) (show 0 ≤ d by omega) (by omega)
                  rw [nightP_eq] at HN
                  have okp := passP_ok okj d
                  have hst : 1 ≤ (atP L[j] d).st ∧ (atP L[j] d).st ≤ 5 := okp.st
                  have hdy : 1 ≤ (atP L[j] d).days ∧ (atP L[j] d).days ≤ 400 := okp.days
                  have hdu : 0 ≤ (atP L[j] d).due ∧ (atP L[j] d).due ≤ 66302 := okp.due
                  have hhv : validB (atP L[j] d).held = true := atP_held_valid okj d
                  have hhl : (atP L[j] d).held.length ≤ 14 := Nat.le_trans (heldP_len okp _) hb_max
                  rw [HN] at hcy hsy
                  generalize atP L[j] d = X at *
                  obtain ⟨el, st, op, dy, chx, lv, du, ho, si, he⟩ := X
                  obtain ⟨z, hz⟩ : ∃ z, z = nightB ⟨el, st, op, dy, chx, lv, du, ho, si, he⟩ d := ⟨_, rfl⟩
                  rw [← hz] at hcy hsy
                  have HZ := Lib.hid hz
                  dsimp only at hst hdy hdu hhv hhl hcx hsx hcy hsy
                  have HHV := Lib.hid hhv
                  have HCY := Lib.hid hcy
                  have HSY := Lib.hid hsy
                  have HSX := Lib.hid hsx
                  obtain ⟨g0, g1, g2, g3, g4, g5, g6, g7, g8, g9⟩ := hcx
                  dsimp only at g0 g1 g2 g3 g4 g5 g6 g7 g8 g9
                  have hyb : yb < wr.heap.size := hcy.lt
                  have HUL := Lib.hid (show (un he [(d + 1, d + 2)]).length ≤ 100 ∧ he.length ≤ 100 by have := un_len he [(d + 1, d + 2)]; simp at this; omega)
                  have HL14 := Lib.hid hhl
                  clear HN okp okj ivj hhv hhl hcy hsy hsx hz
                  go_upto_region 25 with (fail)
                  go_cut [20] from 109 to 181 (fun v20 wx => v20 = .pointer (some ⟨wr.heap.size + 1, 0, none⟩) ∧ wx = (wr.alloc (.cells #[.bool el, .int .u8 st, .int .i64 op, .int .i64 dy, .int .i64 chx, .int .i64 lv, .int .i64 du, .bool ho, .int .i64 si, .slice px he.length kx] 39)).alloc (.cells #[.bool el, .int .u8 st, .int .i64 op, .int .i64 dy, .int .i64 chx, .int .i64 lv, .int .i64 du, .bool ho, .int .i64 si, .slice px he.length kx] 39))
                  case first =>
                    go_wp2_with fail
                    go_meet
                    exact ⟨rfl, rfl⟩
                  case rest =>
                  obtain ⟨rfl, rfl⟩ := hcut
                  go_step
                  go_step
                  go_cut [] from 109 to 181 (fun wx => CsAt wx (wr.heap.size + 1) z (.slice px he.length kx) ∧ wx.heap[wr.heap.size]? = some (.cells #[.bool el, .int .u8 st, .int .i64 op, .int .i64 dy, .int .i64 chx, .int .i64 lv, .int .i64 du, .bool ho, .int .i64 si, .slice px he.length kx] 39 (0, 0)) ∧ Below wr.heap.size wr wx)
                  case first =>
                    by_cases c1 : d + 1 ≤ du
                    · have HK := Lib.hid (show z = ⟨el, st, op, dy, chx, lv, du, ho, si, he⟩ by rw [HZ.out]; exact nightB_a (.inl c1))
                      go_wp2
                      go_meet
                      exact ⟨by rw [HK.out]; exact blk2_1 wr _ _, blk2_0 wr _ _, blk2_b wr _ _⟩
                    · by_cases c2 : st = 4
                      · subst c2
                        have HK := Lib.hid (show z = ⟨el, 4, op, dy, chx, lv, du, ho, si, he⟩ by rw [HZ.out]; exact nightB_a (.inr (.inl rfl)))
                        go_wp2
                        go_meet
                        exact ⟨by rw [HK.out]; exact blk2_1 wr _ _, blk2_0 wr _ _, blk2_b wr _ _⟩
                      · by_cases c3 : st = 5
                        · subst c3
                          have HK := Lib.hid (show z = ⟨el, 5, op, dy, chx, lv, du, ho, si, he⟩ by rw [HZ.out]; exact nightB_a (.inr (.inr rfl)))
                          go_wp2
                          go_meet
                          exact ⟨by rw [HK.out]; exact blk2_1 wr _ _, blk2_0 wr _ _, blk2_b wr _ _⟩
                        · have c4 : ¬ (d + 1 ≤ du ∨ st = 4 ∨ st = 5) := by omega
                          have e4 : (st == 4) = false := by simpa using c2
                          have e5 : (st == 5) = false := by simpa using c3
                          by_cases c5 : st = 3
                          · subst c5
                            by_cases c6 : lv = 3
                            · subst c6
                              have HK := Lib.hid (show z = ⟨el, 4, op, dy, chx, 3, d + 1, false, 0, he⟩ by rw [HZ.out]; exact nightB_b c4 (.inr rfl))
                              go_wp2
                              go_meet
                              exact ⟨by rw [HK.out]; exact blk2_1 wr _ _, blk2_0 wr _ _, blk2_b wr _ _⟩
                            · have e6 : (lv == 3) = false := by simpa using c6
                              have HK := Lib.hid (show z = ⟨el, 2, op, dy, chx, lv, d + 1 + dy, false, 0, he⟩ by rw [HZ.out]; exact nightB_c c4 (by omega))
                              go_wp2
                              go_region
                              all_goals go_wp2
                              all_goals (go_meet; exact ⟨by rw [HK.out]; exact blk2_1 wr _ _, blk2_0 wr _ _, (blk2_b wr _ _).drew⟩)
                          · have e3 : (st == 3) = false := by simpa using c5
                            have HK := Lib.hid (show z = ⟨el, 4, op, dy, chx, lv, d + 1, false, 0, he⟩ by rw [HZ.out]; exact nightB_b c4 (.inl c5))
                            go_wp2
                            go_meet
                            exact ⟨by rw [HK.out]; exact blk2_1 wr _ _, blk2_0 wr _ _, blk2_b wr _ _⟩
                  case rest =>
                  obtain ⟨hk1, hk0, hbx⟩ := hcut
                  obtain ⟨_, _, _, _, _, _, _, _, _, n9⟩ := ten_cells hk0
                  have K11 := Lib.hid hk1
                  have D11 := Lib.hid hbx
                  obtain ⟨N, hN⟩ : ∃ N, N = wr.heap.size := ⟨_, rfl⟩
                  have hNlt : wr.heap.size + 1 < wc.heap.size := hk1.lt
                  have hsp : validB [(d + 1, d + 2)] = true := by unfold validB; rw [validFrom_cons]; dsimp only; exact ⟨by omega, by omega, by omega, rfl⟩
                  have HSP := Lib.hid hsp
                  clear hk1 hk0 hbx hsp g0 g1 g2 g3 g4 g5 g6 g7 g8 g9
                  go_wp2_with fail
                  refine (union_is he [(d + 1, d + 2)] px _ kx 1 (by have := HUL.out; omega) (by simp) HHV.out HSP.out _ ?_ ?_).mono ?_
                  · exact (HSX.out.below D11.out).below ((Below.refl _ _).alloc (Nat.le_refl _) _)
                  · exact cells_new1' _ _ _ _ rfl
                  rintro e W12 ⟨u, rfl, hou, hb12⟩
                  obtain ⟨pu, cu, rfl, _⟩ := hou.form
                  have hou := hou.low
                  have D12 := Lib.hid (show Below N wr W12 by rw [hN]; exact (D11.out.alloc (by omega) _).trans (hb12.mono (by simp; omega)))
                  have K12 := Lib.hid (show CsAt W12 (N + 1) z (.slice px he.length kx) by
                    rw [hN]
                    exact K11.out.of_block ((hb12.block _ (by simp; omega)).trans (((Below.refl _ wc).alloc (Nat.le_refl _) _).block _ hNlt)))
                  have HNs := Lib.hid hN
                  have DW := Lib.hid (show ∀ Wx, Below N wr Wx → Below wr.heap.size wr Wx from fun Wx h => by rw [← HNs.out]; exact h)
                  rw [← hN] at hyb ⊢
                  clear hb12 D11 K11 n9 hNlt hN
                  cases hh : z.hold with
                  | true =>
                    have O13 := Lib.hid (hou.setBox K12.out 9 (.slice pu (un he [(d + 1, d + 2)]).length cu))
                    have Q13 := Lib.hid (cells_of O13.out)
                    have K13 := Lib.hid (K12.out.set_.2.2.2.2.2.2 (un he [(d + 1, d + 2)]) (.slice pu (un he [(d + 1, d + 2)]).length cu))
                    have z9 := K12.out.frozen 9
                    obtain ⟨_, _, _, _, _, _, _, k7, _, k9⟩ := K12.out.cell
                    rw [hh] at k7
                    have D13 := Lib.hid (show Below N wr (W12.setCell ⟨N + 1, 9, none⟩ (.slice pu (un he [(d + 1, d + 2)]).length cu)) from D12.out.setCell (by show N ≤ N + 1; omega) _)
                    have Y13 := Lib.hid (HCY.out.of_block (D13.out.block yb hyb))
                    have P13 := Lib.hid (HSY.out.below (DW.out _ D13.out))
                    rw [if_pos hh] at Y13 P13
                    go_upto_region 33 with (fail)
                    generalize W12.setCell ⟨N + 1, 9, none⟩ (.slice pu (un he [(d + 1, d + 2)]).length cu) = W13 at *
                    clear k7 k9 z9 hou O13 K12
                    have CST := Lib.hid (fun W h1 h2 => stays_yes { z with held := (un he [(d + 1, d + 2)]) } py pu ky cu W (by dsimp only; have := HUL.out; omega) h1 h2)
                    unfold csAgg at CST
                    dsimp only at CST
                    obtain ⟨s0, s1, s2, s3, s4, s5, s6, s7, s8, s9⟩ := Y13.out
                    obtain ⟨t0, t1, t2, t3, t4, t5, t6, t7, t8, t9⟩ := K13.out.cell
                    dsimp only at s0 s1 s2 s3 s4 s5 s6 s7 s8 s9 t0 t1 t2 t3 t4 t5 t6 t7 t8 t9
                    rw [hh] at s7 t7 CST
                    have S13 := Lib.hid (show (W13.cell? ⟨yb, oy + j * 10, none⟩ = some (.bool z.el) ∧ W13.cell? ⟨yb, oy + j * 10 + 1, none⟩ = some (.int .u8 z.st) ∧ W13.cell? ⟨yb, oy + j * 10 + 2, none⟩ = some (.int .i64 z.opened) ∧ W13.cell? ⟨yb, oy + j * 10 + 3, none⟩ = some (.int .i64 z.days) ∧ W13.cell? ⟨yb, oy + j * 10 + 4, none⟩ = some (.int .i64 z.choice) ∧ W13.cell? ⟨yb, oy + j * 10 + 5, none⟩ = some (.int .i64 z.level) ∧ W13.cell? ⟨yb, oy + j * 10 + 6, none⟩ = some (.int .i64 z.due) ∧ W13.cell? ⟨yb, oy + j * 10 + 7, none⟩ = some (.bool true) ∧ W13.cell? ⟨yb, oy + j * 10 + 8, none⟩ = some (.int .i64 z.since) ∧ W13.cell? ⟨yb, oy + j * 10 + 9, none⟩ = some (.slice py (un he [(d + 1, d + 2)]).length ky) ∧ W13.cell? ⟨N + 1, 0, none⟩ = some (.bool z.el) ∧ W13.cell? ⟨N + 1, 1, none⟩ = some (.int .u8 z.st) ∧ W13.cell? ⟨N + 1, 2, none⟩ = some (.int .i64 z.opened) ∧ W13.cell? ⟨N + 1, 3, none⟩ = some (.int .i64 z.days) ∧ W13.cell? ⟨N + 1, 4, none⟩ = some (.int .i64 z.choice) ∧ W13.cell? ⟨N + 1, 5, none⟩ = some (.int .i64 z.level) ∧ W13.cell? ⟨N + 1, 6, none⟩ = some (.int .i64 z.due) ∧ W13.cell? ⟨N + 1, 7, none⟩ = some (.bool true) ∧ W13.cell? ⟨N + 1, 8, none⟩ = some (.int .i64 z.since) ∧ W13.cell? ⟨N + 1, 9, none⟩ = some (.slice pu (un he [(d + 1, d + 2)]).length cu)) from ⟨s0, s1, s2, s3, s4, s5, s6, s7, s8, s9, t0, t1, t2, t3, t4, t5, t6, t7, t8, t9⟩)
                    have hyl : (j : Int) < (L.length : Int) := by omega
                    clear s0 s1 s2 s3 s4 s5 s6 s7 s8 s9 t0 t1 t2 t3 t4 t5 t6 t7 t8 t9 Y13 K13
                    go_region_held3 (fun w9 => w9.cell? ⟨yb, oy + j * 10, none⟩ = some (.bool z.el) ∧ w9.cell? ⟨yb, oy + j * 10 + 1, none⟩ = some (.int .u8 z.st) ∧ w9.cell? ⟨yb, oy + j * 10 + 2, none⟩ = some (.int .i64 z.opened) ∧ w9.cell? ⟨yb, oy + j * 10 + 3, none⟩ = some (.int .i64 z.days) ∧ w9.cell? ⟨yb, oy + j * 10 + 4, none⟩ = some (.int .i64 z.choice) ∧ w9.cell? ⟨yb, oy + j * 10 + 5, none⟩ = some (.int .i64 z.level) ∧ w9.cell? ⟨yb, oy + j * 10 + 6, none⟩ = some (.int .i64 z.due) ∧ w9.cell? ⟨yb, oy + j * 10 + 7, none⟩ = some (.bool true) ∧ w9.cell? ⟨yb, oy + j * 10 + 8, none⟩ = some (.int .i64 z.since) ∧ w9.cell? ⟨yb, oy + j * 10 + 9, none⟩ = some (.slice py (un he [(d + 1, d + 2)]).length ky) ∧ w9.cell? ⟨N + 1, 0, none⟩ = some (.bool z.el) ∧ w9.cell? ⟨N + 1, 1, none⟩ = some (.int .u8 z.st) ∧ w9.cell? ⟨N + 1, 2, none⟩ = some (.int .i64 z.opened) ∧ w9.cell? ⟨N + 1, 3, none⟩ = some (.int .i64 z.days) ∧ w9.cell? ⟨N + 1, 4, none⟩ = some (.int .i64 z.choice) ∧ w9.cell? ⟨N + 1, 5, none⟩ = some (.int .i64 z.level) ∧ w9.cell? ⟨N + 1, 6, none⟩ = some (.int .i64 z.due) ∧ w9.cell? ⟨N + 1, 7, none⟩ = some (.bool true) ∧ w9.cell? ⟨N + 1, 8, none⟩ = some (.int .i64 z.since) ∧ w9.cell? ⟨N + 1, 9, none⟩ = some (.slice pu (un he [(d + 1, d + 2)]).length cu))
                      (first | (exact S13.out) | (obtain ⟨a0, a1, a2, a3, a4, a5, a6, a7, a8, a9, a10, a11, a12, a13, a14, a15, a16, a17, a18, a19⟩ := S13.out; exact ⟨cell_keep hb14 a0, cell_keep hb14 a1, cell_keep hb14 a2, cell_keep hb14 a3, cell_keep hb14 a4, cell_keep hb14 a5, cell_keep hb14 a6, cell_keep hb14 a7, cell_keep hb14 a8, cell_keep hb14 a9, cell_keep hb14 a10, cell_keep hb14 a11, cell_keep hb14 a12, cell_keep hb14 a13, cell_keep hb14 a14, cell_keep hb14 a15, cell_keep hb14 a16, cell_keep hb14 a17, cell_keep hb14 a18, cell_keep hb14 a19⟩))
                      (first | (go_at_call 17; refine (CST.out W13.drew (cells_drew P13.out) (cells_drew Q13.out)).mono ?_; rintro e W14 ⟨rfl, hb14⟩))
                    have D14 := Lib.hid (show Below W10.heap.size W10 W14 from below_next (hI.out.trans ((DW.out _ D13.out).mono hI.out.size)).drew hb14)
                    clear hb14
                    go_wp2
                    go_roundw
                    case rel => exact ⟨j + 1, by omega, by go_num, D14⟩
                    case measure => simp [intOf]; omega
                  | false =>
                    have Q13 := Lib.hid (HSX.out.below (DW.out _ D12.out))
                    have K13 := Lib.hid (K12.out)
                    obtain ⟨_, _, _, _, _, _, _, k7, _, _⟩ := K12.out.cell
                    rw [hh] at k7
                    have D13 := Lib.hid D12.out
                    have Y13 := Lib.hid (HCY.out.of_block (D13.out.block yb hyb))
                    have P13 := Lib.hid (HSY.out.below (DW.out _ D13.out))
                    have hne : ¬ z.hold = true := by rw [hh]; decide
                    simp only [if_neg hne] at Y13 P13
                    go_upto_region 33 with (fail)
                    generalize W12 = W13 at *
                    clear k7 hou K12
                    have CST := Lib.hid (fun W h1 h2 => stays_yes { z with held := he } py px ky kx W (by dsimp only; have := HUL.out; omega) h1 h2)
                    unfold csAgg at CST
                    dsimp only at CST
                    obtain ⟨s0, s1, s2, s3, s4, s5, s6, s7, s8, s9⟩ := Y13.out
                    obtain ⟨t0, t1, t2, t3, t4, t5, t6, t7, t8, t9⟩ := K13.out.cell
                    dsimp only at s0 s1 s2 s3 s4 s5 s6 s7 s8 s9 t0 t1 t2 t3 t4 t5 t6 t7 t8 t9
                    rw [hh] at s7 t7 CST
                    have S13 := Lib.hid (show (W13.cell? ⟨yb, oy + j * 10, none⟩ = some (.bool z.el) ∧ W13.cell? ⟨yb, oy + j * 10 + 1, none⟩ = some (.int .u8 z.st) ∧ W13.cell? ⟨yb, oy + j * 10 + 2, none⟩ = some (.int .i64 z.opened) ∧ W13.cell? ⟨yb, oy + j * 10 + 3, none⟩ = some (.int .i64 z.days) ∧ W13.cell? ⟨yb, oy + j * 10 + 4, none⟩ = some (.int .i64 z.choice) ∧ W13.cell? ⟨yb, oy + j * 10 + 5, none⟩ = some (.int .i64 z.level) ∧ W13.cell? ⟨yb, oy + j * 10 + 6, none⟩ = some (.int .i64 z.due) ∧ W13.cell? ⟨yb, oy + j * 10 + 7, none⟩ = some (.bool false) ∧ W13.cell? ⟨yb, oy + j * 10 + 8, none⟩ = some (.int .i64 z.since) ∧ W13.cell? ⟨yb, oy + j * 10 + 9, none⟩ = some (.slice py he.length ky) ∧ W13.cell? ⟨N + 1, 0, none⟩ = some (.bool z.el) ∧ W13.cell? ⟨N + 1, 1, none⟩ = some (.int .u8 z.st) ∧ W13.cell? ⟨N + 1, 2, none⟩ = some (.int .i64 z.opened) ∧ W13.cell? ⟨N + 1, 3, none⟩ = some (.int .i64 z.days) ∧ W13.cell? ⟨N + 1, 4, none⟩ = some (.int .i64 z.choice) ∧ W13.cell? ⟨N + 1, 5, none⟩ = some (.int .i64 z.level) ∧ W13.cell? ⟨N + 1, 6, none⟩ = some (.int .i64 z.due) ∧ W13.cell? ⟨N + 1, 7, none⟩ = some (.bool false) ∧ W13.cell? ⟨N + 1, 8, none⟩ = some (.int .i64 z.since) ∧ W13.cell? ⟨N + 1, 9, none⟩ = some (.slice px he.length kx)) from ⟨s0, s1, s2, s3, s4, s5, s6, s7, s8, s9, t0, t1, t2, t3, t4, t5, t6, t7, t8, t9⟩)
                    have hyl : (j : Int) < (L.length : Int) := by omega
                    clear s0 s1 s2 s3 s4 s5 s6 s7 s8 s9 t0 t1 t2 t3 t4 t5 t6 t7 t8 t9 Y13 K13
                    go_region_held3 (fun w9 => w9.cell? ⟨yb, oy + j * 10, none⟩ = some (.bool z.el) ∧ w9.cell? ⟨yb, oy + j * 10 + 1, none⟩ = some (.int .u8 z.st) ∧ w9.cell? ⟨yb, oy + j * 10 + 2, none⟩ = some (.int .i64 z.opened) ∧ w9.cell? ⟨yb, oy + j * 10 + 3, none⟩ = some (.int .i64 z.days) ∧ w9.cell? ⟨yb, oy + j * 10 + 4, none⟩ = some (.int .i64 z.choice) ∧ w9.cell? ⟨yb, oy + j * 10 + 5, none⟩ = some (.int .i64 z.level) ∧ w9.cell? ⟨yb, oy + j * 10 + 6, none⟩ = some (.int .i64 z.due) ∧ w9.cell? ⟨yb, oy + j * 10 + 7, none⟩ = some (.bool false) ∧ w9.cell? ⟨yb, oy + j * 10 + 8, none⟩ = some (.int .i64 z.since) ∧ w9.cell? ⟨yb, oy + j * 10 + 9, none⟩ = some (.slice py he.length ky) ∧ w9.cell? ⟨N + 1, 0, none⟩ = some (.bool z.el) ∧ w9.cell? ⟨N + 1, 1, none⟩ = some (.int .u8 z.st) ∧ w9.cell? ⟨N + 1, 2, none⟩ = some (.int .i64 z.opened) ∧ w9.cell? ⟨N + 1, 3, none⟩ = some (.int .i64 z.days) ∧ w9.cell? ⟨N + 1, 4, none⟩ = some (.int .i64 z.choice) ∧ w9.cell? ⟨N + 1, 5, none⟩ = some (.int .i64 z.level) ∧ w9.cell? ⟨N + 1, 6, none⟩ = some (.int .i64 z.due) ∧ w9.cell? ⟨N + 1, 7, none⟩ = some (.bool false) ∧ w9.cell? ⟨N + 1, 8, none⟩ = some (.int .i64 z.since) ∧ w9.cell? ⟨N + 1, 9, none⟩ = some (.slice px he.length kx))
                      (first | (exact S13.out) | (obtain ⟨a0, a1, a2, a3, a4, a5, a6, a7, a8, a9, a10, a11, a12, a13, a14, a15, a16, a17, a18, a19⟩ := S13.out; exact ⟨cell_keep hb14 a0, cell_keep hb14 a1, cell_keep hb14 a2, cell_keep hb14 a3, cell_keep hb14 a4, cell_keep hb14 a5, cell_keep hb14 a6, cell_keep hb14 a7, cell_keep hb14 a8, cell_keep hb14 a9, cell_keep hb14 a10, cell_keep hb14 a11, cell_keep hb14 a12, cell_keep hb14 a13, cell_keep hb14 a14, cell_keep hb14 a15, cell_keep hb14 a16, cell_keep hb14 a17, cell_keep hb14 a18, cell_keep hb14 a19⟩))
                      (first | (go_at_call 17; refine (CST.out W13.drew (cells_drew P13.out) (cells_drew Q13.out)).mono ?_; rintro e W14 ⟨rfl, hb14⟩))
                    have D14 := Lib.hid (show Below W10.heap.size W10 W14 from below_next (hI.out.trans ((DW.out _ D13.out).mono hI.out.size)).drew hb14)
                    clear hb14
                    go_wp2
                    go_roundw
                    case rel => exact ⟨j + 1, by omega, by go_num, D14⟩
                    case measure => simp [intOf]; omega
                · obtain rfl : j = L.length := by omega
                  have J := Lib.hid (below_next B10.out hI.out)
                  go_wp2
                  go_roundw
                  case rel => exact ⟨k + 1, by omega, by go_num, J⟩
                  case measure => simp [intOf]; omega
        · obtain rfl : k = zs.length := by omega
          have B8 := Lib.hid (below_next B7.out hI.out)
          go_wp2
          go_ret
          exact ⟨rfl, B8.out⟩

end Go.Proofs.Ytbpoedopdnjffaa
