/- The effects of filings on a case: the closures choose$1, lock$1, appeal$1, rule$1, withdraw$1. The effects of a ruling and of a withdrawal. The list's methods: change, open. The list's method open. The list's methods: what each filing does to a docket. A map literal whose entries are laid in an order that Go leaves open: seven entries with constant keys; what it holds in the end. -/
import Derived.Test.YtbpoedopdnjffaaGreatZpC
import Derived.BigRegion
import Derived.Deep.AppendLies
import Derived.Deep.RegionLaw
import Derived.MapFrom
import Derived.Maps.Own
namespace Go.Proofs.YtbpoedopdnjffaaGreat
open Go.RowKit Go.Shelf Sp

theorem box_ne {W : World} {C F : Nat} {c : Cs} {f : Fl} (h : CaseAt W C c) (hf : FlBox W F f) : F ≠ C := by
  obtain ⟨v, h1, _⟩ := h
  intro e
  subst e
  unfold CsAt at h1
  unfold FlBox at hf
  rw [h1] at hf
  injection hf with hf
  injection hf with _ e _
  exact absurd e (by decide)

theorem But.drewN {g : Nat} {w w' : World} (h : But g w w') (n : Nat) : But g w (w'.drewN n) := ⟨h.os, h.tape, h.output, h.size, h.block⟩
theorem effP_2 {f : Fl} (h : f.kind = 2) (c : Cs) : effP f c = { c with choice := f.n } := by unfold effP; rw [if_pos h]
theorem effP_3 {f : Fl} (h : f.kind = 3) (c : Cs) : effP f c = { c with st := 4, due := f.day } := by unfold effP; rw [if_neg (by omega), if_pos h]
theorem effP_5 {f : Fl} (h : f.kind = 5) (c : Cs) : effP f c = if f.hold = true then { c with st := 3, due := f.day + 365, level := c.level + 1, hold := true, since := f.day } else { c with st := 3, due := f.day + 365, level := c.level + 1 } := by
  unfold effP; rw [if_neg (by omega), if_neg (by omega), if_pos h]
theorem effP_6 {f : Fl} (h : f.kind = 6) (c : Cs) : effP f c = if f.n = 1 then upholdP c f.day else endHoldP { c with st := 5, due := f.day } f.day := by
  unfold effP; rw [if_neg (by omega), if_neg (by omega), if_neg (by omega), if_pos h]
theorem effP_7 {f : Fl} (h : f.kind = 7) (c : Cs) : effP f c = endHoldP { c with st := 4, due := f.day } f.day := by
  unfold effP; rw [if_neg (by omega), if_neg (by omega), if_neg (by omega), if_neg (by omega)]

/-- What is asked of the effect of a filing: it has the error ee, or makes of the case what effP says. -/
def EffOf (k : Nat) (f : Fl) : Prop := ∀ (C F : Nat) (c : Cs) (w : World), CaseAt w C c → FlBox w F f → c.Ok → c.st = needP f.kind →
  (c.days < f.n ∧ f.kind = 2 → Calls Tryz.prog k #[.pointer (some ⟨C, 0, none⟩), .pointer (some ⟨F, 0, none⟩)] w fun e w' => e = .returned (.int .i64 402) ∧ But C w w') ∧
  (¬ (c.days < f.n ∧ f.kind = 2) → Calls Tryz.prog k #[.pointer (some ⟨C, 0, none⟩), .pointer (some ⟨F, 0, none⟩)] w fun e w' => e = .returned (.int .i64 0) ∧ CaseAt w' C (effP f c) ∧ But C w w')

set_option maxHeartbeats 1000000 in
theorem choose1_eff (f : Fl) (hk : f.kind = 2) : EffOf 85 f := by
  intro C F c w h hf _ _
  have hne := box_ne h hf
  obtain ⟨v, A1, O1⟩ := h
  obtain ⟨_, _, _, c3, c4, _, _, _, _, _⟩ := A1.cell
  have z4 := A1.frozen 4
  obtain ⟨_, _, _, f3, _, _⟩ := hf.cell
  have A2 := A1.set_.2.1 f.n
  have O2 := O1.setBox A1 4 (.int .i64 f.n)
  have R := Lib.hid (show CaseAt _ C (effP f c) from by rw [effP_2 hk]; exact ⟨_, A2, O2⟩)
  clear A1 O1 A2 O2 hf
  refine ⟨fun hd => ?_, fun hd => ?_⟩
  · replace hd := hd.1
    clear hk
    go_enter Tryz.func85, Tryz.ntmps85
    go_wp2
    go_quiet (fail)
    go_wp2
    go_ret
    exact ⟨rfl, (But.refl C w).drewN _⟩
  · replace hd : ¬ c.days < f.n := fun h => hd ⟨h, hk⟩
    clear hk
    go_enter Tryz.func85, Tryz.ntmps85
    go_wp2
    go_quiet (fail)
    go_wp2
    go_ret
    exact ⟨rfl, R.out, ((But.refl C w).drewN _).set_ 4 _⟩

set_option maxHeartbeats 1000000 in
theorem lock1_eff (f : Fl) (hk : f.kind = 3) : EffOf 86 f := by
  intro C F c w h hf _ _
  have hne := box_ne h hf
  obtain ⟨v, A1, O1⟩ := h
  obtain ⟨_, c1, _, _, _, _, c6, _, _, _⟩ := A1.cell
  have z1 := A1.frozen 1
  have z6 := A1.frozen 6
  obtain ⟨_, f1, _, _, _, _⟩ := hf.cell
  have A2 := A1.set_.1 4
  have O2 := O1.setBox A1 1 (.int .u8 4)
  have A3 := A2.set_.2.2.2.1 f.day
  have O3 := O2.setBox A2 6 (.int .i64 f.day)
  have R := Lib.hid (show CaseAt _ C (effP f c) from by rw [effP_3 hk]; exact ⟨_, A3, O3⟩)
  clear A1 O1 A2 O2 A3 O3 hf
  refine ⟨fun hd => absurd hd.2 (by omega), fun _ => ?_⟩
  clear hk
  go_enter Tryz.func86, Tryz.ntmps86
  go_wp2
  go_region
  all_goals
    go_wp2
    go_ret
    exact ⟨rfl, R.out, (((But.refl C w).set_ 1 _).set_ 6 _).drew⟩

set_option maxHeartbeats 2000000 in
theorem appeal1_eff (f : Fl) (hk : f.kind = 5) (hd : 0 ≤ f.day ∧ f.day ≤ 65535) : EffOf 87 f := by
  intro C F c w h hf ok _
  have hne := box_ne h hf
  have hl := ok.lev
  clear ok
  obtain ⟨v, A1, O1⟩ := h
  obtain ⟨_, c1, _, _, _, c5, c6, c7, c8, _⟩ := A1.cell
  have z1 := A1.frozen 1
  have z5 := A1.frozen 5
  have z6 := A1.frozen 6
  have z7 := A1.frozen 7
  have z8 := A1.frozen 8
  obtain ⟨_, f1, _, _, _, f5⟩ := hf.cell
  have A2 := A1.set_.1 3
  have O2 := O1.setBox A1 1 (.int .u8 3)
  have A3 := A2.set_.2.2.2.1 (f.day + 365)
  have O3 := O2.setBox A2 6 (.int .i64 (f.day + 365))
  have A4 := A3.set_.2.2.1 (c.level + 1)
  have O4 := O3.setBox A3 5 (.int .i64 (c.level + 1))
  have A5 := A4.set_.2.2.2.2.1 true
  have O5 := O4.setBox A4 7 (.bool true)
  have A6 := A5.set_.2.2.2.2.2.1 f.day
  have O6 := O5.setBox A5 8 (.int .i64 f.day)
  refine ⟨fun hd => absurd hd.2 (by omega), fun _ => ?_⟩
  cases hh : f.hold with
  | true =>
    have R := Lib.hid (show CaseAt _ C (effP f c) from by rw [effP_5 hk, if_pos hh]; exact ⟨_, A6, O6⟩)
    rw [hh] at f5
    clear A1 O1 A2 O2 A3 O3 A4 O4 A5 O5 A6 O6 hf hk hh
    go_enter Tryz.func87, Tryz.ntmps87
    go_wp2
    go_region
    all_goals
      go_wp2
      go_region
      all_goals
        go_wp2
        go_ret
        exact ⟨rfl, R.out, (((((((But.refl C w).set_ 1 _).set_ 6 _).set_ 5 _).set_ 7 _).set_ 8 _).drew).drew⟩
  | false =>
    have R := Lib.hid (show CaseAt _ C (effP f c) from by rw [effP_5 hk, if_neg (by rw [hh]; decide)]; exact ⟨_, A4, O4⟩)
    rw [hh] at f5
    clear A1 O1 A2 O2 A3 O3 A4 O4 A5 O5 A6 O6 hf hk hh
    go_enter Tryz.func87, Tryz.ntmps87
    go_wp2
    go_region
    all_goals
      go_wp2
      go_ret
      exact ⟨rfl, R.out, ((((But.refl C w).set_ 1 _).set_ 6 _).set_ 5 _).drew⟩

end Go.Proofs.YtbpoedopdnjffaaGreat

namespace Go.Proofs.YtbpoedopdnjffaaGreat
open Go.RowKit Go.Shelf Sp

theorem FlBox.but {W W' : World} {F g : Nat} {f : Fl} (h : FlBox W F f) (hb : But g W W') (hne : F ≠ g) : FlBox W' F f := h.of_block (hb.block F h.lt hne)
theorem hok_upd {c : Cs} (h : c.HOk) (x d : Int) : Cs.HOk { c with st := x, due := d } := ⟨h.vh, h.hold, h.len⟩

set_option maxHeartbeats 2000000 in
theorem withdraw1_eff (f : Fl) (hk : f.kind = 7) : EffOf 90 f := by
  intro C F c w h hf ok _
  have hne := box_ne h hf
  obtain ⟨v, A1, O1⟩ := h
  obtain ⟨_, c1, _, _, _, _, c6, _, _, _⟩ := A1.cell
  have z1 := A1.frozen 1
  have z6 := A1.frozen 6
  obtain ⟨_, f1, _, _, _, _⟩ := hf.cell
  have A2 := A1.set_.1 4
  have O2 := O1.setBox A1 1 (.int .u8 4)
  have A3 := A2.set_.2.2.2.1 f.day
  have O3 := O2.setBox A2 6 (.int .i64 f.day)
  have K := Lib.hid (show CaseAt ((w.setCell ⟨C, 1, none⟩ (.int .u8 4)).setCell ⟨C, 6, none⟩ (.int .i64 f.day)).drew C { c with st := 4, due := f.day } from ⟨_, A3, O3⟩)
  have HO := Lib.hid (hok_upd ok.h 4 f.day)
  have E := Lib.hid (effP_7 hk c)
  clear A1 O1 A2 O2 A3 O3 hf ok
  refine ⟨fun hd => absurd hd.2 (by omega), fun _ => ?_⟩
  clear hk
  go_enter Tryz.func90, Tryz.ntmps90
  go_wp2
  go_region
  all_goals
    go_wp2_with fail
    refine (endHold_any C { c with st := 4, due := f.day } f.day _ K.out HO.out).mono ?_
    rintro e W1 ⟨rfl, h4, h5⟩
    have R := Lib.hid (show CaseAt W1 C (effP f c) from by rw [E.out]; exact h4)
    have B := Lib.hid ((show But C w _ from (((But.refl C w).set_ 1 _).set_ 6 _).drew).trans h5)
    clear h4 h5
    go_wp2
    go_ret
    exact ⟨rfl, R.out, B.out⟩

set_option maxHeartbeats 2000000 in
theorem rule1_eff (f : Fl) (hk : f.kind = 6) (hd : 0 ≤ f.day ∧ f.day ≤ 65535) : EffOf 88 f := by
  intro C F c w h hf ok _
  have hne := box_ne h hf
  refine ⟨fun hd => absurd hd.2 (by omega), fun _ => ?_⟩
  obtain ⟨_, f1, _, f3, _, _⟩ := hf.cell
  by_cases hn : f.n = 1
  · have CU := Lib.hid (uphold_any C c f.day w h ok (by omega))
    have E := Lib.hid (show effP f c = upholdP c f.day by rw [effP_6 hk, if_pos hn])
    rw [hn] at f3
    clear h hf ok hn hk hd
    go_enter Tryz.func88, Tryz.ntmps88
    go_wp2_with fail
    refine CU.out.mono ?_
    rintro e W1 ⟨rfl, h4, h5⟩
    have R := Lib.hid (show CaseAt W1 C (effP f c) from by rw [E.out]; exact h4)
    clear h4
    go_wp2
    go_ret
    exact ⟨rfl, R.out, h5⟩
  · have E := Lib.hid (show effP f c = endHoldP { c with st := 5, due := f.day } f.day by rw [effP_6 hk, if_neg hn])
    have bn : (f.n == 1) = false := by simpa using hn
    obtain ⟨v, A1, O1⟩ := h
    obtain ⟨_, c1, _, _, _, _, c6, _, _, _⟩ := A1.cell
    have z1 := A1.frozen 1
    have z6 := A1.frozen 6
    have A2 := A1.set_.1 5
    have O2 := O1.setBox A1 1 (.int .u8 5)
    have A3 := A2.set_.2.2.2.1 f.day
    have O3 := O2.setBox A2 6 (.int .i64 f.day)
    have K := Lib.hid (show CaseAt ((w.setCell ⟨C, 1, none⟩ (.int .u8 5)).setCell ⟨C, 6, none⟩ (.int .i64 f.day)).drew C { c with st := 5, due := f.day } from ⟨_, A3, O3⟩)
    have HO := Lib.hid (hok_upd ok.h 5 f.day)
    clear A1 O1 A2 O2 A3 O3 hf ok hk hd hn
    go_enter Tryz.func88, Tryz.ntmps88
    go_wp2
    go_region
    all_goals
      go_wp2_with fail
      refine (endHold_any C { c with st := 5, due := f.day } f.day _ K.out HO.out).mono ?_
      rintro e W1 ⟨rfl, h4, h5⟩
      have R := Lib.hid (show CaseAt W1 C (effP f c) from by rw [E.out]; exact h4)
      have B := Lib.hid ((show But C w _ from (((But.refl C w).set_ 1 _).set_ 6 _).drew).trans h5)
      clear h4 h5
      go_wp2
      go_ret
      exact ⟨rfl, R.out, B.out⟩

end Go.Proofs.YtbpoedopdnjffaaGreat

namespace Go.Proofs.YtbpoedopdnjffaaGreat
open Go.RowKit Go.Shelf Sp

/-- One case of a docket, read. -/
theorem DkAt.read {W : World} {base B : Nat} {L : List Cs} {last : Int} (h : DkAt W base B L last) (k : Nat) (hk : k < L.length) :
    ∃ g cap u, W.cell? ⟨B, 0, none⟩ = some (.slice (some ⟨g, 0, none⟩) L.length cap) ∧ W.cell? ⟨B, 1, none⟩ = some (.int .i64 last) ∧ g ≠ B ∧ base ≤ g ∧ CaseCells W g (k * 10) L[k] u ∧ Owns W 0 u L[k].held ∧ ∀ j, W.frozen? ⟨g, j, none⟩ = false := by
  obtain ⟨v, ps, rfl, hB, hc⟩ := h
  obtain ⟨p, cap, rfl, hr⟩ := hc.form
  rw [List.length_map] at hk
  obtain ⟨g, rfl, hb, _, ⟨cur, hg⟩, hcl⟩ := hr (by intro e; subst e; simp at hk)
  obtain ⟨h1, h2⟩ := hcl k hk
  refine ⟨g, cap, ps[k].2, by simp [World.cell?, hB], by simp [World.cell?, hB], ?_, hb, by simpa using h1, by simpa using hc.2 _ (List.getElem_mem hk), h2⟩
  rintro rfl
  rw [hB] at hg
  injection hg with hg
  injection hg with _ e _
  exact absurd e (by decide)
theorem DkAt.cell {W : World} {base B : Nat} {L : List Cs} {last : Int} (h : DkAt W base B L last) :
    ∃ p cap, W.cell? ⟨B, 0, none⟩ = some (.slice p L.length cap) ∧ W.cell? ⟨B, 1, none⟩ = some (.int .i64 last) ∧ ∀ j, W.frozen? ⟨B, j, none⟩ = false := by
  obtain ⟨v, ps, rfl, hB, hc⟩ := h
  obtain ⟨p, cap, rfl, _⟩ := hc.form
  exact ⟨p, cap, by simp [World.cell?, hB], by simp [World.cell?, hB], fun j => by simp [World.frozen?, hB]⟩

theorem caseAt_new {W : World} {c : Cs} {u : Value} {k : Nat} (ho : Owns W 0 u c.held) (hk : W.heap.size = k) :
    CaseAt (W.alloc (.cells #[.bool c.el, .int .u8 c.st, .int .i64 c.opened, .int .i64 c.days, .int .i64 c.choice, .int .i64 c.level, .int .i64 c.due, .bool c.hold, .int .i64 c.since, u] 52)) k c := by
  subst hk
  exact ⟨u, World.alloc_heap_new W _, World.ownsRow.alloc ho _⟩
theorem ownP_at {L : List Cs} {f : Fl} {k : Nat} (hk : f.case = (k : Int) + 1) (hkl : k < L.length) : ownP L f = passP L[k] f.day := by
  unfold ownP
  rw [show f.case.toNat - 1 = k by omega, List.getD_eq_getElem?_getD, List.getElem?_eq_getElem hkl]; rfl

theorem flbox_mid {w W1 : World} {f : Fl} {o : Obj} {n C : Nat} (q : But C (((w.alloc (.cells #[.int .u8 f.kind, .int .i64 f.day, .int .i64 f.case, .int .i64 f.n, .int .i64 f.til, .bool f.hold] 26)).drewN n).alloc o) W1) (hC : w.heap.size ≠ C) : FlBox W1 w.heap.size f := by
  have h1 : FlBox (w.alloc (.cells #[.int .u8 f.kind, .int .i64 f.day, .int .i64 f.case, .int .i64 f.n, .int .i64 f.til, .bool f.hold] 26)) w.heap.size f := World.alloc_heap_new w _
  have h2 := h1.of_block (((Below.refl _ ((w.alloc (.cells #[.int .u8 f.kind, .int .i64 f.day, .int .i64 f.case, .int .i64 f.n, .int .i64 f.til, .bool f.hold] 26)).drewN n)).alloc (Nat.le_refl _) o).block w.heap.size h1.lt)
  exact h2.of_block (q.block _ h2.lt hC)

theorem DkAt.drew {W : World} {base B : Nat} {L : List Cs} {last : Int} (h : DkAt W base B L last) : DkAt W.drew base B L last := h
theorem DFr.drew {base B : Nat} {w w' : World} (h : DFr base B w w') : DFr base B w w'.drew := ⟨h.os, h.tape, h.output, h.size, h.block⟩
/-- Ten cells of a row, written one by one. -/
def setCase (W : World) (g i : Nat) (c : Cs) (u : Value) : World :=
  (((((((((W.setCell ⟨g, i, none⟩ (.bool c.el)).setCell ⟨g, i + 1, none⟩ (.int .u8 c.st)).setCell ⟨g, i + 2, none⟩ (.int .i64 c.opened)).setCell ⟨g, i + 3, none⟩ (.int .i64 c.days)).setCell ⟨g, i + 4, none⟩ (.int .i64 c.choice)).setCell ⟨g, i + 5, none⟩ (.int .i64 c.level)).setCell ⟨g, i + 6, none⟩ (.int .i64 c.due)).setCell ⟨g, i + 7, none⟩ (.bool c.hold)).setCell ⟨g, i + 8, none⟩ (.int .i64 c.since)).setCell ⟨g, i + 9, none⟩ u
theorem setCase_but (W : World) (g i : Nat) (c : Cs) (u : Value) : But g W (setCase W g i c u) :=
  (((((((((But.refl g W).set_ _ _).set_ _ _).set_ _ _).set_ _ _).set_ _ _).set_ _ _).set_ _ _).set_ _ _).set_ _ _ |>.set_ _ _
theorem setCell_row {W : World} {g i : Nat} {cur : Array Value} {t : TypeId} (v : Value) (h : W.heap[g]? = some (.cells cur t (0, 0))) : (W.setCell ⟨g, i, none⟩ v).heap[g]? = some (.cells (cur.setIfInBounds i v) t (0, 0)) := by
  simp only [World.setCell, Array.getElem?_modify, h]; rfl
def set10 (xs : List Value) (i : Nat) (c : Cs) (u : Value) : List Value :=
  (((((((((xs.set i (.bool c.el)).set (i + 1) (.int .u8 c.st)).set (i + 2) (.int .i64 c.opened)).set (i + 3) (.int .i64 c.days)).set (i + 4) (.int .i64 c.choice)).set (i + 5) (.int .i64 c.level)).set (i + 6) (.int .i64 c.due)).set (i + 7) (.bool c.hold)).set (i + 8) (.int .i64 c.since)).set (i + 9) u
theorem setCase_row {W : World} {g i : Nat} {cur : Array Value} {t : TypeId} (c : Cs) (u : Value) (h : W.heap[g]? = some (.cells cur t (0, 0))) : ∃ cur', (setCase W g i c u).heap[g]? = some (.cells cur' t (0, 0)) ∧ cur'.toList = set10 cur.toList i c u := by
  unfold setCase
  refine ⟨_, setCell_row _ (setCell_row _ (setCell_row _ (setCell_row _ (setCell_row _ (setCell_row _ (setCell_row _ (setCell_row _ (setCell_row _ (setCell_row _ h))))))))), ?_⟩
  unfold set10
  simp only [Array.toList_setIfInBounds]
theorem set10_cons (x : Value) (xs : List Value) (i : Nat) (c : Cs) (u : Value) : set10 (x :: xs) (i + 1) c u = x :: set10 xs i c u := by
  unfold set10
  simp only [List.set_cons_succ, show ∀ j, i + 1 + j = (i + j) + 1 from fun j => by omega]
theorem set10_flat (ps : List (Cs × Value)) (c : Cs) (u : Value) : ∀ k : Nat, k < ps.length → set10 (cflat ps) (k * 10) c u = cflat (ps.set k (c, u)) := by
  induction ps with
  | nil => intro k h; simp at h
  | cons p ps ih =>
    intro k h
    cases k with
    | zero => rfl
    | succ k =>
      rw [show (k + 1) * 10 = k * 10 + 1 + 1 + 1 + 1 + 1 + 1 + 1 + 1 + 1 + 1 by omega, List.set_cons_succ, cflat_cons, cflat_cons, ← ih k (by simpa using h)]
      unfold csRow
      simp only [List.cons_append, List.nil_append, set10_cons]
theorem set10_take (xs : List Value) (m i : Nat) (c : Cs) (u : Value) : (set10 xs i c u).take m = set10 (xs.take m) i c u := by
  unfold set10; simp only [List.take_set]
theorem set10_length (xs : List Value) (i : Nat) (c : Cs) (u : Value) : (set10 xs i c u).length = xs.length := by unfold set10; simp only [List.length_set]

theorem Owns.butCase {W W' : World} {g : Nat} {cur : Array Value} (hg : W.heap[g]? = some (.cells cur 52 (0, 0))) (hb : But g W W') {b0 : Nat} {v : Value} {l : Sps} (ho : Owns W b0 v l) : Owns W' b0 v l := by
  refine ⟨ho.1, ?_⟩
  rcases ho.2 with h1 | ⟨g', cap, cur', e, hb', hg', rest⟩
  · exact .inl h1
  · refine .inr ⟨g', cap, cur', e, hb', (hb.block g' (Array.getElem?_eq_some_iff.1 hg').1 ?_).trans hg', rest⟩
    rintro rfl
    rw [hg] at hg'
    injection hg' with hg'
    injection hg' with _ e _
    exact absurd e (by decide)

/-- A case of a row is written. -/
theorem CRow.store {W : World} {base : Nat} {v : Value} {ps : List (Cs × Value)} (h : CRow W base v ps) {g k : Nat} (hv : v.ownBlock = some g) (hk : k < ps.length) (c : Cs) (u : Value) (ho : Owns W 0 u c.held) :
    CRow (setCase W g (k * 10) c u) base v (ps.set k (c, u)) := by
  rcases h.1.2 with ⟨_, h0⟩ | ⟨g', cap, cur, rfl, hb, hg, hn, hm, hs, ht⟩
  · omega
  · obtain rfl : g' = g := by simpa [Value.ownBlock] using hv
    obtain ⟨cur', hc1, hc2⟩ := setCase_row (i := k * 10) c u hg
    have hbut := setCase_but W g' (k * 10) c u
    refine ⟨⟨by rw [cflat_length, List.length_set], .inr ⟨g', cap, cur', by rw [List.length_set], hb, hc1, by rw [List.length_set]; exact hn, hm, ?_, ?_⟩⟩, fun p hp => ?_⟩
    · rw [← Array.length_toList, hc2, set10_length, Array.length_toList]; exact hs
    · rw [List.length_set, hc2, set10_take, ht, set10_flat ps c u k hk]
    · rcases List.mem_or_eq_of_mem_set hp with hp | rfl
      · exact (h.2 p hp).butCase hg hbut
      · exact Owns.butCase hg hbut ho

/-- A docket's case is written. -/
theorem DkAt.store {W : World} {base B : Nat} {L : List Cs} {last : Int} (h : DkAt W base B L last) {g k cap : Nat} (hc : W.cell? ⟨B, 0, none⟩ = some (.slice (some ⟨g, 0, none⟩) L.length cap)) (hk : k < L.length) (c : Cs) (u : Value) (ho : Owns W 0 u c.held) :
    DkAt (setCase W g (k * 10) c u) base B (L.set k c) last ∧ DFr base B W (setCase W g (k * 10) c u) := by
  obtain ⟨v, ps, rfl, hB, hr⟩ := h
  have e : v = .slice (some ⟨g, 0, none⟩) (ps.map Prod.fst).length cap := by simpa [World.cell?, hB] using hc
  rw [List.length_map] at hk
  have hv : v.ownBlock = some g := by rw [e]; rfl
  obtain ⟨p, cap', e2, hr2⟩ := hr.form
  obtain ⟨g2, rfl, hbg, hv2, ⟨cur, hg⟩, _⟩ := hr2 (by intro e; subst e; simp at hk)
  obtain rfl : g2 = g := by rw [hv] at hv2; exact (Option.some.inj hv2).symm
  have hne : B ≠ g2 := by
    rintro rfl
    rw [hB] at hg
    injection hg with hg
    injection hg with _ e _
    exact absurd e (by decide)
  have hbut := setCase_but W g2 (k * 10) c u
  refine ⟨⟨v, ps.set k (c, u), by rw [List.map_set], (hbut.block B (Array.getElem?_eq_some_iff.1 hB).1 hne).trans hB, hr.store hv hk c u ho⟩, ⟨hbut.os, hbut.tape, hbut.output, hbut.size, fun j hj hjB hcs => hbut.block j hj ?_⟩⟩
  intro ej
  rw [ej] at hcs
  rcases hcs with hcs | hcs
  · omega
  · exact hcs cur (0, 0) hg

set_option maxHeartbeats 2000000 in
set_option maxRecDepth 100000 in
theorem change_go (base B F : Nat) (L : List Cs) (last : Int) (f : Fl) (kf : Nat) (ek : ∀ args w, (callFunc kf args).run Tryz.prog w = .ok (.enter kf args) w) (he : EffOf kf f) (w : World) (h : DkAt w base B L last) (hf : FlBox w F f) (h1 : 1 ≤ f.case) (h2 : f.case ≤ L.length) (hL : L.length ≤ 100) (okc : ∀ c ∈ L, c.Ok)
    (hst : (ownP L f).st = needP f.kind) (hch : ¬ ((ownP L f).days < f.n ∧ f.kind = 2)) :
    Calls Tryz.prog 84 #[.pointer (some ⟨B, 0, none⟩), flAgg f, .int .u8 (needP f.kind), .func (.func kf) #[] #[.pointer (some ⟨F, 0, none⟩)]] w fun e w' => e = .returned (.int .i64 0) ∧ DkAt w' base B (L.set (f.case.toNat - 1) (effP f (ownP L f))) last ∧ DFr base B w w' := by
  obtain ⟨k, hk⟩ : ∃ k : Nat, f.case = (k : Int) + 1 := ⟨(f.case - 1).toNat, by omega⟩
  have hkl : k < L.length := by omega
  have EO := Lib.hid (ownP_at hk hkl)
  rw [EO.out] at hst hch
  have HE := Lib.hid he
  have HD := Lib.hid h
  have HF := Lib.hid hf
  have HST := Lib.hid hst
  have HCH := Lib.hid hch
  have OK := Lib.hid (okc _ (List.getElem_mem hkl))
  obtain ⟨g, cap, u, c0, _, hgB, hbg, hcc, ho, hz⟩ := h.read k hkl
  obtain ⟨pu, cu, rfl, _⟩ := ho.form
  have HO := Lib.hid ho
  have C0 := Lib.hid c0
  have CC := Lib.hid hcc
  have HZ := Lib.hid hz
  obtain ⟨r0, r1, r2, r3, r4, r5, r6, r7, r8, r9⟩ := hcc
  have hBl := h.lt
  have hgl := World.block_lt_of_cell? w _ r0
  have hFl := hf.lt
  unfold flAgg
  rw [hk]
  obtain ⟨nd, hnd⟩ : ∃ nd, nd = needP f.kind := ⟨_, rfl⟩
  rw [← hnd]
  have HND := Lib.hid hnd
  clear h hf ho hst hch he hnd hk
  go_enter Tryz.func84, Tryz.ntmps84
  go_wp2
  go_quiet (fail)
  go_wp2
  go_region
  go_wp2_with fail
  refine (pass_any (w.heap.size + 1) L[k] f.day _ (caseAt_new ?_ ?_) OK.out).mono ?_
  · exact World.ownsRow.alloc HO.out _
  · simp
  rintro e W1 ⟨rfl, q1, q2⟩
  have HB1 := Lib.hid (q2.belowOf (base := w.heap.size) (w0 := w) ((below_drewN ((Below.refl _ _).alloc (Nat.le_refl _) _) _).alloc (by simp) _) (by simp; omega) (by omega))
  have e2 := (flbox_mid (f := { f with case := (k : Int) + 1 }) q2 (by omega)).cell.2.2.1
  dsimp only at e2
  have ok1 := Lib.hid (passP_ok OK.out f.day)
  have D1 := Lib.hid (HD.out.later HB1.out)
  have F1 := Lib.hid (HF.out.of_block (HB1.out.block F hFl))
  have Q1 := Lib.hid q1
  have z1 := HB1.out.size
  have hC1 : w.heap.size + 1 < W1.heap.size := by
    obtain ⟨_, A1, _⟩ := q1; exact A1.lt
  obtain ⟨v1, A1, _⟩ := q1
  have g1 := A1.cell.2.1
  rw [HST.out, ← HND.out] at g1
  clear q2 A1 c0 r0 r1 r2 r3 r4 r5 r6 r7 r8 r9 hz
  go_wp2_with fail
  refine ((HE.out (w.heap.size + 1) F (passP L[k] f.day) W1 Q1.out F1.out ok1.out HST.out).2 HCH.out).mono ?_
  rintro e W2 ⟨rfl, q3, q4⟩
  have HB2 := Lib.hid (q4.belowOf (base := w.heap.size) (w0 := w) HB1.out z1 (by omega))
  have D2 := Lib.hid (HD.out.later HB2.out)
  have e3 : W2.cell? ⟨w.heap.size, 2, none⟩ = some (.int .i64 ((k : Int) + 1)) := by
    rw [World.cell?_of_block (a := ⟨w.heap.size, 2, none⟩) (q4.block w.heap.size (by omega) (by omega))]
    exact e2
  have Q3 := Lib.hid q3
  obtain ⟨v3, A3, O3⟩ := q3
  obtain ⟨pv, cv, rfl, _⟩ := O3.form
  obtain ⟨t0, t1, t2, t3, t4, t5, t6, t7, t8, t9⟩ := A3.cell
  have c0 : W2.cell? ⟨B, 0, none⟩ = some (.slice (some ⟨g, 0, none⟩) L.length cap) := (HB2.out.cell (p := ⟨B, 0, none⟩) hBl).trans C0.out
  obtain ⟨r0, r1, r2, r3, r4, r5, r6, r7, r8, r9⟩ := CC.out.of_block (HB2.out.block g hgl)
  have hz' : ∀ j, W2.frozen? ⟨g, j, none⟩ = false := fun j => (HB2.out.frozen (p := ⟨g, j, none⟩) hgl).trans (HZ.out j)
  have x0 := hz' (k * 10)
  have x1 := hz' (k * 10 + 1)
  have x2 := hz' (k * 10 + 2)
  have x3 := hz' (k * 10 + 3)
  have x4 := hz' (k * 10 + 4)
  have x5 := hz' (k * 10 + 5)
  have x6 := hz' (k * 10 + 6)
  have x7 := hz' (k * 10 + 7)
  have x8 := hz' (k * 10 + 8)
  have x9 := hz' (k * 10 + 9)
  have s3 := D2.out.store c0 hkl (effP f (passP L[k] f.day)) _ O3
  unfold setCase at s3
  have S3 := Lib.hid s3
  clear s3
  have hgC : g ≠ w.heap.size + 1 := by omega
  clear hz' e2 g1 q4 O3
  go_wp2
  go_region
  go_wp2
  go_ret
  refine ⟨rfl, ?_, ?_⟩
  · rw [EO.out, show ((k : Int) + 1).toNat - 1 = k by omega]; exact S3.out.1.drew
  · exact ((DFr.of_below HB2.out).trans S3.out.2).drew

end Go.Proofs.YtbpoedopdnjffaaGreat

namespace Go.Proofs.YtbpoedopdnjffaaGreat
open Go.RowKit Go.Shelf Sp

theorem info_case : (Tryz.prog.info? 52).map (fun i => (i.zero, i.size, i.bytes)) = some (some (.agg #[.bool false, .int .u8 0, .int .i64 0, .int .i64 0, .int .i64 0, .int .i64 0, .int .i64 0, .bool false, .int .i64 0, .slice none 0 0]), 10, 88) := by kernel_rfl

theorem DkAt.parts {W : World} {base B : Nat} {L : List Cs} {last : Int} (h : DkAt W base B L last) :
    ∃ p cap ps, ps.map Prod.fst = L ∧ ps.length = L.length ∧ W.heap[B]? = some (.cells #[.slice p L.length cap, .int .i64 last] 60 (0, 0)) ∧ CRow W base (.slice p L.length cap) ps ∧ (Value.slice p L.length cap).ownBlock ≠ some B := by
  obtain ⟨v, ps, rfl, hB, hr⟩ := h
  obtain ⟨p, cap, rfl, hr2⟩ := hr.form
  refine ⟨p, cap, ps, rfl, by simp, by simpa using hB, by simpa using hr, ?_⟩
  cases ps with
  | nil =>
    rcases hr.1.2 with ⟨e, _⟩ | ⟨g, cap', cur, e, _, hg, _⟩
    · cases e; simp [Value.ownBlock]
    · intro e'
      cases e
      simp [Value.ownBlock] at e'
      subst e'
      rw [hB] at hg
      injection hg with hg
      injection hg with _ e _
      exact absurd e (by decide)
  | cons q qs =>
    obtain ⟨g, rfl, _, _, ⟨cur, hg⟩, _⟩ := hr2 (by simp)
    intro e'
    simp [Value.ownBlock] at e'
    subst e'
    rw [hB] at hg
    injection hg with hg
    injection hg with _ e _
    exact absurd e (by decide)

/-- A case is appended, and the slice stored. -/
theorem DkAt.appended {W w1 : World} {base B : Nat} {L : List Cs} {last : Int} {p : Option Addr} {cap : Nat} {ps : List (Cs × Value)} (hm : ps.map Prod.fst = L) (hn : ps.length = L.length)
    (hB : W.heap[B]? = some (.cells #[.slice p L.length cap, .int .i64 last] 60 (0, 0))) (hr : CRow W base (.slice p L.length cap) ps) (hne : (Value.slice p L.length cap).ownBlock ≠ some B) 
    (c : Cs) (hc : c.held = []) {g cap' : Nat} (hown : w1.ownsRow base 52 10 (.slice (some ⟨g, 0, none⟩) (L.length + 1) cap') (L.length + 1) (cflat ps ++ csRow c (.slice none 0 0)))
    (hg : W.grownBy w1 (Value.slice p L.length cap).ownBlock) (hat : (Value.slice p L.length cap).ownBlock = some g ∨ W.heap.size ≤ g) :
    DkAt (w1.setCell ⟨B, 0, none⟩ (.slice (some ⟨g, 0, none⟩) (L.length + 1) cap')) base B (L ++ [c]) last ∧ DFr base B W (w1.setCell ⟨B, 0, none⟩ (.slice (some ⟨g, 0, none⟩) (L.length + 1) cap')) := by
  have hBl := (Array.getElem?_eq_some_iff.1 hB).1
  have hB1 : w1.heap[B]? = some (.cells #[.slice p L.length cap, .int .i64 last] 60 (0, 0)) := (hg.block B hBl (fun e => hne e.symm)).trans hB
  have hgB : g ≠ B := by
    rintro rfl
    rcases hat with e | e
    · exact hne e
    · omega
  have hcase : ∀ k, (Value.slice p L.length cap).ownBlock = some k → ∃ cur, W.heap[k]? = some (.cells cur 52 (0, 0)) ∧ base ≤ k := by
    intro k hk
    rcases hr.1.2 with ⟨e, _⟩ | ⟨g', _, cur, e, hb', hg', _⟩
    · rw [e] at hk; cases hk
    · rw [e] at hk
      obtain rfl : g' = k := Option.some.inj hk
      exact ⟨cur, hg', hb'⟩
  have hfr : DFr base B W (w1.setCell ⟨B, 0, none⟩ (.slice (some ⟨g, 0, none⟩) (L.length + 1) cap')) := by
    refine ⟨hg.os, hg.tape, hg.output, by simpa using hg.size, fun k hk hkB hcs => ?_⟩
    refine (Below.heap_setCell w1 ⟨B, 0, none⟩ _ k hkB).trans (hg.block k hk ?_)
    intro e
    obtain ⟨cur, h1, h2⟩ := hcase k e.symm
    rcases hcs with hcs | hcs
    · omega
    · exact hcs cur (0, 0) h1
  refine ⟨⟨.slice (some ⟨g, 0, none⟩) (L.length + 1) cap', ps ++ [(c, .slice none 0 0)], by rw [List.map_append, hm]; rfl, ?_, ⟨?_, fun q hq => ?_⟩⟩, hfr⟩
  · have := setCell_row (i := 0) (.slice (some ⟨g, 0, none⟩) (L.length + 1) cap') hB1
    simpa using this
  · rw [List.length_append, List.length_singleton, hn, cflat_append]
    refine ⟨by rw [List.length_append, cflat_length, hn]; simp [cflat, csRow]; omega, .inr ?_⟩
    rcases hown.2 with ⟨e, _⟩ | ⟨g2, cap2, cur2, e, h1, h2, h3⟩
    · cases e
    · cases e
      exact ⟨g, cap', cur2, rfl, h1, (Below.heap_setCell w1 ⟨B, 0, none⟩ _ g hgB).trans h2, h3⟩
  · rcases List.mem_append.1 hq with hq | hq
    · exact (hr.2 q hq).dfr hfr (fun cs z e => by rw [hB] at e; injection e with e; injection e with _ e _; exact absurd e (by decide))
    · rw [List.mem_singleton.1 hq]
      show Owns _ 0 (.slice none 0 0) c.held
      rw [hc]
      exact Owns.nil _ _

theorem far_B {w w1 : World} {o o' : Obj} {B : Nat} {row : Option Nat} (hg : (((w.alloc o).alloc o').drew).grownBy w1 row) (hne : row ≠ some B) (hB : B < w.heap.size) : w1.heap[B]? = w.heap[B]? := by
  refine (hg.block B (by simp; omega) (fun e => hne e.symm)).trans ?_
  exact (((Below.refl _ w).alloc (Nat.le_refl _) o).alloc (by simp) o').block B hB
theorem news_case {w : World} {o : Obj} {c : Cs} {v : Value} : ∀ j u, (csRow c v)[j]? = some u → (((w.alloc o).alloc (.cells #[.bool c.el, .int .u8 c.st, .int .i64 c.opened, .int .i64 c.days, .int .i64 c.choice, .int .i64 c.level, .int .i64 c.due, .bool c.hold, .int .i64 c.since, v] 52)).drew).cell? ((⟨w.heap.size + 1, 0, none⟩ : Addr).add j) = some u := by
  have h : (((w.alloc o).alloc (.cells #[.bool c.el, .int .u8 c.st, .int .i64 c.opened, .int .i64 c.days, .int .i64 c.choice, .int .i64 c.level, .int .i64 c.due, .bool c.hold, .int .i64 c.since, v] 52)).drew).heap[w.heap.size + 1]? = some (.cells #[.bool c.el, .int .u8 c.st, .int .i64 c.opened, .int .i64 c.days, .int .i64 c.choice, .int .i64 c.level, .int .i64 c.due, .bool c.hold, .int .i64 c.since, v] 52 (0, 0)) := by
    have := World.alloc_heap_new (w.alloc o) (.cells #[.bool c.el, .int .u8 c.st, .int .i64 c.opened, .int .i64 c.days, .int .i64 c.choice, .int .i64 c.level, .int .i64 c.due, .bool c.hold, .int .i64 c.since, v] 52)
    rw [World.size_alloc] at this
    exact this
  exact World.news_of_block h

theorem open_end {w w1 : World} {o o' : Obj} {base B : Nat} {L : List Cs} {last : Int} {p : Option Addr} {cap : Nat} {ps : List (Cs × Value)} (hm : ps.map Prod.fst = L) (hn : ps.length = L.length)
    (hB : w.heap[B]? = some (.cells #[.slice p L.length cap, .int .i64 last] 60 (0, 0))) (hr : CRow w base (.slice p L.length cap) ps) (hne : (Value.slice p L.length cap).ownBlock ≠ some B)
    (c : Cs) (hc : c.held = []) {g cap' : Nat} (hown : w1.ownsRow base 52 10 (.slice (some ⟨g, 0, none⟩) (L.length + 1) cap') (L.length + 1) (cflat ps ++ csRow c (.slice none 0 0)))
    (hg : (((w.alloc o).alloc o').drew).grownBy w1 (Value.slice p L.length cap).ownBlock) (hat : (Value.slice p L.length cap).ownBlock = some g ∨ g = w.heap.size + 1 + 1) :
    DkAt (w1.setCell ⟨B, 0, none⟩ (.slice (some ⟨g, 0, none⟩) (L.length + 1) cap')) base B (L ++ [c]) last ∧ DFr base B w (w1.setCell ⟨B, 0, none⟩ (.slice (some ⟨g, 0, none⟩) (L.length + 1) cap')) := by
  have hb : Below w.heap.size w (((w.alloc o).alloc o').drew) := (((Below.refl _ w).alloc (Nat.le_refl _) o).alloc (by simp) o').drew
  have hBl := (Array.getElem?_eq_some_iff.1 hB).1
  obtain ⟨h1, h2⟩ := DkAt.appended hm hn ((hb.block B hBl).trans hB) (hr.later hb) hne c hc hown hg (hat.imp id fun e => by rw [e]; simp)
  exact ⟨h1, (DFr.of_below hb).trans h2⟩

set_option maxHeartbeats 2000000 in
set_option maxRecDepth 100000 in
theorem open_go (base B : Nat) (L : List Cs) (last : Int) (c : Cs) (hc : c.held = []) (w : World) (h : DkAt w base B L last) (hb : base ≤ w.heap.size) (hL : L.length < 100) :
    Calls Tryz.prog 83 #[.pointer (some ⟨B, 0, none⟩), .agg #[.bool c.el, .int .u8 c.st, .int .i64 c.opened, .int .i64 c.days, .int .i64 c.choice, .int .i64 c.level, .int .i64 c.due, .bool c.hold, .int .i64 c.since, .slice none 0 0]] w
      fun e w' => e = .returned (.int .i64 0) ∧ DkAt w' base B (L ++ [c]) last ∧ DFr base B w w' := by
  have hBl := h.lt
  obtain ⟨p, cap, ps, hm, hn, hB, hr, hne⟩ := h.parts
  have c0 : w.cell? ⟨B, 0, none⟩ = some (.slice p L.length cap) := by simp [World.cell?, hB]
  have z0 : w.frozen? ⟨B, 0, none⟩ = false := by simp [World.frozen?, hB]
  have HO := Lib.hid hr.1
  have ag : (Value.slice p L.length cap).ownBlock ≠ some w.heap.size := by
    intro e
    have := (hr.1.lt _ e).2
    omega
  have HM := Lib.hid hm
  have HN := Lib.hid hn
  have HB := Lib.hid hB
  have HR := Lib.hid hr
  have HNE := Lib.hid hne
  have HC := Lib.hid hc
  have AG := Lib.hid ag
  obtain ⟨i0, hi0, hz0, hz1, hz2⟩ := info_parts info_case
  have hB0 : B ≠ w.heap.size := by omega
  clear h hm hn hB hr hne hc ag
  go_enter Tryz.func83, Tryz.ntmps83
  go_wp2
  go_region_law ((refine step_append_lies _ (by rfl) _ _ _ (by rfl) base 52 i0 _ 10 88 Tryz.underlying35 hi0 hz0 hz1 hz2 rfl (by omega) (.slice p L.length cap) L.length (cflat ps) (by rfl) (by have := HO.out; rw [HN.out] at this; exact ((this.alloc _).alloc _).drew) ⟨w.heap.size + 1, 0, none⟩ 1 1 (csRow c (.slice none 0 0)) (by rfl) (by rfl) news_case (by simp [csRow, Value.oneCell']) (by omega) (by unfold maxLen; omega) (by omega) (by simp; omega) (w.heap.size + 1 + 1) (by simp) ?_; intro gg cap' w1 hown1 hgrow hat hlt'; have zf : w1.frozen? ⟨B, 0, none⟩ = false := (World.frozen?_of_block (far_B hgrow HNE.out hBl)).trans z0; have zc : w1.cell? ⟨B, 0, none⟩ = some (.slice p L.length cap) := (World.cell?_of_block (a := ⟨B, 0, none⟩) (far_B hgrow HNE.out hBl)).trans c0))
  all_goals
    have X := Lib.hid (open_end HM.out HN.out HB.out HR.out HNE.out c HC.out hown1 hgrow hat)
    clear hown1 hgrow hat hlt' zf zc
    go_wp2
    go_ret
    exact ⟨rfl, X.out.1, X.out.2⟩

end Go.Proofs.YtbpoedopdnjffaaGreat

namespace Go.Proofs.YtbpoedopdnjffaaGreat
open Go.RowKit Go.Shelf Sp

set_option maxHeartbeats 2000000 in
set_option maxRecDepth 100000 in
theorem change_none (base B F : Nat) (L : List Cs) (last : Int) (f : Fl) (kf : Nat) (w : World) (h : DkAt w base B L last) (hc2 : (L.length : Int) < f.case) :
    Calls Tryz.prog 84 #[.pointer (some ⟨B, 0, none⟩), flAgg f, .int .u8 (needP f.kind), .func (.func kf) #[] #[.pointer (some ⟨F, 0, none⟩)]] w fun e w' => e = .returned (.int .i64 6) ∧ Below w.heap.size w w' := by
  obtain ⟨p, cap, c0, _, _⟩ := h.cell
  have hBl := h.lt
  unfold flAgg
  obtain ⟨nd, hnd⟩ : ∃ nd, nd = needP f.kind := ⟨_, rfl⟩
  rw [← hnd]
  clear h hnd
  go_enter Tryz.func84, Tryz.ntmps84
  go_wp2
  go_quiet (fail)
  go_wp2
  go_ret
  exact ⟨rfl, below_drewN ((Below.refl _ _).alloc (Nat.le_refl _) _) _⟩

set_option maxHeartbeats 2000000 in
set_option maxRecDepth 100000 in
theorem change_bad (base B F : Nat) (L : List Cs) (last : Int) (f : Fl) (kf : Nat) (ek : ∀ args w, (callFunc kf args).run Tryz.prog w = .ok (.enter kf args) w) (he : EffOf kf f) (w : World) (h : DkAt w base B L last) (hf : FlBox w F f) (h1 : 1 ≤ f.case) (h2 : f.case ≤ L.length) (hL : L.length ≤ 100) (okc : ∀ c ∈ L, c.Ok)
    (hbad : (ownP L f).st ≠ needP f.kind ∨ ((ownP L f).st = needP f.kind ∧ (ownP L f).days < f.n ∧ f.kind = 2)) :
    Calls Tryz.prog 84 #[.pointer (some ⟨B, 0, none⟩), flAgg f, .int .u8 (needP f.kind), .func (.func kf) #[] #[.pointer (some ⟨F, 0, none⟩)]] w fun e w' => e = .returned (.int .i64 (if (ownP L f).st ≠ needP f.kind then 401 else 402)) ∧ Below w.heap.size w w' := by
  obtain ⟨k, hk⟩ : ∃ k : Nat, f.case = (k : Int) + 1 := ⟨(f.case - 1).toNat, by omega⟩
  have hkl : k < L.length := by omega
  have EO := Lib.hid (ownP_at hk hkl)
  rw [EO.out] at hbad ⊢
  have HE := Lib.hid he
  have HD := Lib.hid h
  have HF := Lib.hid hf
  have OK := Lib.hid (okc _ (List.getElem_mem hkl))
  obtain ⟨g, cap, u, c0, _, hgB, hbg, hcc, ho, hz⟩ := h.read k hkl
  obtain ⟨pu, cu, rfl, _⟩ := ho.form
  have HO := Lib.hid ho
  obtain ⟨r0, r1, r2, r3, r4, r5, r6, r7, r8, r9⟩ := hcc
  have hBl := h.lt
  have hgl := World.block_lt_of_cell? w _ r0
  have hFl := hf.lt
  unfold flAgg
  rw [hk]
  obtain ⟨nd, hnd⟩ : ∃ nd, nd = needP f.kind := ⟨_, rfl⟩
  rw [← hnd] at hbad ⊢
  have HND := Lib.hid hnd
  have HB := Lib.hid hbad
  obtain ⟨ee, hee⟩ : ∃ ee : Int, ee = if (passP L[k] f.day).st ≠ nd then 401 else 402 := ⟨_, rfl⟩
  rw [← hee]
  have HEE := Lib.hid hee
  clear h hf ho he hnd hk hbad hee
  go_enter Tryz.func84, Tryz.ntmps84
  go_wp2
  go_quiet (fail)
  go_wp2
  go_region
  go_wp2_with fail
  refine (pass_any (w.heap.size + 1) L[k] f.day _ (caseAt_new ?_ ?_) OK.out).mono ?_
  · exact World.ownsRow.alloc HO.out _
  · simp
  rintro e W1 ⟨rfl, q1, q2⟩
  have HB1 := Lib.hid (q2.belowOf (base := w.heap.size) (w0 := w) ((below_drewN ((Below.refl _ _).alloc (Nat.le_refl _) _) _).alloc (by simp) _) (by simp; omega) (by omega))
  have ok1 := Lib.hid (passP_ok OK.out f.day)
  have F1 := Lib.hid (HF.out.of_block (HB1.out.block F hFl))
  have Q1 := Lib.hid q1
  have z1 := HB1.out.size
  obtain ⟨v1, A1, _⟩ := q1
  have g1 := A1.cell.2.1
  by_cases hst : (passP L[k] f.day).st = nd
  · have hch : (passP L[k] f.day).days < f.n ∧ f.kind = 2 := by
      rcases HB.out with h | h
      · exact absurd hst h
      · exact h.2
    have HCH := Lib.hid hch
    have HST := Lib.hid hst
    rw [hst] at g1
    have E := Lib.hid (show ee = 402 by rw [HEE.out, if_neg (by simpa using hst)])
    clear q2 A1 c0 r0 r1 r2 r3 r4 r5 r6 r7 r8 r9 hz hch hst
    go_wp2_with fail
    refine ((HE.out (w.heap.size + 1) F (passP L[k] f.day) W1 Q1.out F1.out ok1.out (HST.out.trans HND.out)).1 HCH.out).mono ?_
    rintro e W2 ⟨rfl, q4⟩
    have HB2 := Lib.hid (q4.belowOf (base := w.heap.size) (w0 := w) HB1.out z1 (by omega))
    clear q4
    go_wp2
    go_ret
    exact ⟨ret_int E.out.symm, HB2.out⟩
  · have bst : ((passP L[k] f.day).st != nd) = true := by simpa using hst
    have E := Lib.hid (show ee = 401 by rw [HEE.out, if_pos hst])
    clear q2 A1 c0 r0 r1 r2 r3 r4 r5 r6 r7 r8 r9 hz hst
    go_wp2
    go_ret
    exact ⟨ret_int E.out.symm, HB1.out⟩

/-- What a method leaves: the error, the docket, all else. -/
def MPost (base B : Nat) (L : List Cs) (last : Int) (f : Fl) (w : World) (e : Ending) (w' : World) : Prop :=
  e = .returned (.int .i64 (errL L f)) ∧ DkAt w' base B (if errL L f = 0 then effL L f else L) last ∧ DFr base B w w'

theorem change_any (base B F : Nat) (L : List Cs) (last : Int) (f : Fl) (kf : Nat) (ek : ∀ args w, (callFunc kf args).run Tryz.prog w = .ok (.enter kf args) w) (he : EffOf kf f) (w : World) (h : DkAt w base B L last) (hf : FlBox w F f) (ho : opensP f = false) (h1 : 1 ≤ f.case) (hL : L.length ≤ 100) (okc : ∀ c ∈ L, c.Ok) :
    Calls Tryz.prog 84 #[.pointer (some ⟨B, 0, none⟩), flAgg f, .int .u8 (needP f.kind), .func (.func kf) #[] #[.pointer (some ⟨F, 0, none⟩)]] w (MPost base B L last f w) := by
  have hno : ¬ opensP f = true := by rw [ho]; decide
  by_cases h2 : (L.length : Int) < f.case
  · have e : errL L f = 6 := by unfold errL; rw [if_neg hno, if_pos h2]
    refine (change_none base B F L last f kf w h h2).mono fun e' W ⟨he, hb⟩ => ⟨by rw [e]; exact he, by rw [e, if_neg (by decide)]; exact h.later hb, .of_below hb⟩
  · by_cases h3 : (ownP L f).st = needP f.kind
    · by_cases h4 : (ownP L f).days < f.n ∧ f.kind = 2
      · have e : errL L f = 402 := by unfold errL; rw [if_neg hno, if_neg h2, if_neg (by simpa using h3), if_pos ⟨h4.2, h4.1⟩]
        refine (change_bad base B F L last f kf ek he w h hf h1 (by omega) hL okc (.inr ⟨h3, h4⟩)).mono fun e' W ⟨he, hb⟩ => ⟨by rw [e, he, if_neg (by simpa using h3)], by rw [e, if_neg (by decide)]; exact h.later hb, .of_below hb⟩
      · have e : errL L f = 0 := by unfold errL; rw [if_neg hno, if_neg h2, if_neg (by simpa using h3), if_neg (fun h => h4 ⟨h.2, h.1⟩)]
        refine (change_go base B F L last f kf ek he w h hf h1 (by omega) hL okc h3 h4).mono fun e' W ⟨he, hd, hb⟩ => ⟨by rw [e, he], by rw [e, if_pos rfl, effL, if_neg hno]; exact hd, hb⟩
    · have e : errL L f = 401 := by unfold errL; rw [if_neg hno, if_neg h2, if_pos h3]
      refine (change_bad base B F L last f kf ek he w h hf h1 (by omega) hL okc (.inl h3)).mono fun e' W ⟨he, hb⟩ => ⟨by rw [e, he, if_pos h3], by rw [e, if_neg (by decide)]; exact h.later hb, .of_below hb⟩

set_option maxHeartbeats 2000000 in
theorem open_full (base B : Nat) (L : List Cs) (last : Int) (c : Cs) (w : World) (h : DkAt w base B L last) (hL : 100 ≤ L.length) (hL2 : L.length ≤ 100) :
    Calls Tryz.prog 83 #[.pointer (some ⟨B, 0, none⟩), .agg #[.bool c.el, .int .u8 c.st, .int .i64 c.opened, .int .i64 c.days, .int .i64 c.choice, .int .i64 c.level, .int .i64 c.due, .bool c.hold, .int .i64 c.since, .slice none 0 0]] w
      fun e w' => e = .returned (.int .i64 4) ∧ Below w.heap.size w w' := by
  obtain ⟨p, cap, c0, _, _⟩ := h.cell
  have hBl := h.lt
  clear h
  go_enter Tryz.func83, Tryz.ntmps83
  go_wp2
  go_ret
  exact ⟨rfl, (Below.refl _ _).alloc (Nat.le_refl _) _⟩

theorem open_any (base B : Nat) (L : List Cs) (last : Int) (f : Fl) (ho : opensP f = true) (w : World) (h : DkAt w base B L last) (hb : base ≤ w.heap.size) (hL : L.length ≤ 100) :
    Calls Tryz.prog 83 #[.pointer (some ⟨B, 0, none⟩), .agg #[.bool (newCase f).el, .int .u8 (newCase f).st, .int .i64 (newCase f).opened, .int .i64 (newCase f).days, .int .i64 (newCase f).choice, .int .i64 (newCase f).level, .int .i64 (newCase f).due, .bool (newCase f).hold, .int .i64 (newCase f).since, .slice none 0 0]] w
      (MPost base B L last f w) := by
  by_cases h1 : 100 ≤ L.length
  · have e : errL L f = 4 := by unfold errL; rw [if_pos ho, if_pos h1]
    refine (open_full base B L last (newCase f) w h h1 hL).mono fun e' W ⟨he, hb⟩ => ⟨by rw [e]; exact he, by rw [e, if_neg (by decide)]; exact h.later hb, .of_below hb⟩
  · have e : errL L f = 0 := by unfold errL; rw [if_pos ho, if_neg h1]
    refine (open_go base B L last (newCase f) (by unfold newCase; split <;> rfl) w h hb (by omega)).mono fun e' W ⟨he, hd, hf⟩ => ⟨by rw [e]; exact he, by rw [e, if_pos rfl, effL, if_pos ho]; exact hd, hf⟩

theorem MPost.pre {base B : Nat} {L : List Cs} {last : Int} {f : Fl} {w w0 : World} {e : Ending} {w' : World} (h : MPost base B L last f w0 e w') (hb : Below w.heap.size w w0) : MPost base B L last f w e w' := ⟨h.1, h.2.1, (DFr.of_below hb).trans h.2.2⟩
theorem flbox_new (w : World) (f : Fl) : FlBox (w.alloc (.cells #[.int .u8 f.kind, .int .i64 f.day, .int .i64 f.case, .int .i64 f.n, .int .i64 f.til, .bool f.hold] 26)) w.heap.size f := World.alloc_heap_new w _

set_option maxHeartbeats 2000000 in
theorem choose_any (base B : Nat) (L : List Cs) (last : Int) (f : Fl) (hk : f.kind = 2) (hw : f.Wf) (w : World) (h : DkAt w base B L last) (hL : L.length ≤ 100) (okc : ∀ c ∈ L, c.Ok) :
    Calls Tryz.prog 42 #[.pointer (some ⟨B, 0, none⟩), flAgg f] w (MPost base B L last f w) := by
  have hn : needP f.kind = 1 := by rw [hk]; decide
  have HC := Lib.hid (change_any base B w.heap.size L last f 85 (enters_of Tryz.func85 (by kernel_rfl) rfl) (choose1_eff f hk) (w.alloc (.cells #[.int .u8 f.kind, .int .i64 f.day, .int .i64 f.case, .int .i64 f.n, .int .i64 f.til, .bool f.hold] 26))
    (h.later ((Below.refl _ _).alloc (Nat.le_refl _) _)) (flbox_new w f) (by unfold opensP; rw [hk]; rfl) (hw.kc (by omega) (by omega)).1 hL okc)
  rw [hn] at HC
  unfold flAgg at HC ⊢
  clear h hk hw hn okc hL
  go_enter Tryz.func42, Tryz.ntmps42
  go_wp2_with fail
  refine HC.out.mono ?_
  rintro e W ⟨rfl, hd, hfr⟩
  have R := Lib.hid (show MPost base B L last f w (.returned (.int .i64 (errL L f))) W from MPost.pre ⟨rfl, hd, hfr⟩ ((Below.refl _ _).alloc (Nat.le_refl _) _))
  clear hd hfr
  obtain ⟨ee, hee⟩ : ∃ ee, ee = errL L f := ⟨_, rfl⟩
  rw [← hee] at R ⊢
  clear hee
  go_wp2
  go_ret
  exact R.out

set_option maxHeartbeats 2000000 in
theorem lock_any (base B : Nat) (L : List Cs) (last : Int) (f : Fl) (hk : f.kind = 3) (hw : f.Wf) (w : World) (h : DkAt w base B L last) (hL : L.length ≤ 100) (okc : ∀ c ∈ L, c.Ok) :
    Calls Tryz.prog 43 #[.pointer (some ⟨B, 0, none⟩), flAgg f] w (MPost base B L last f w) := by
  have hn : needP f.kind = 1 := by rw [hk]; decide
  have HC := Lib.hid (change_any base B w.heap.size L last f 86 (enters_of Tryz.func86 (by kernel_rfl) rfl) (lock1_eff f hk) (w.alloc (.cells #[.int .u8 f.kind, .int .i64 f.day, .int .i64 f.case, .int .i64 f.n, .int .i64 f.til, .bool f.hold] 26))
    (h.later ((Below.refl _ _).alloc (Nat.le_refl _) _)) (flbox_new w f) (by unfold opensP; rw [hk]; rfl) (hw.kc (by omega) (by omega)).1 hL okc)
  rw [hn] at HC
  unfold flAgg at HC ⊢
  clear h hk hw hn okc hL
  go_enter Tryz.func43, Tryz.ntmps43
  go_wp2_with fail
  refine HC.out.mono ?_
  rintro e W ⟨rfl, hd, hfr⟩
  have R := Lib.hid (show MPost base B L last f w (.returned (.int .i64 (errL L f))) W from MPost.pre ⟨rfl, hd, hfr⟩ ((Below.refl _ _).alloc (Nat.le_refl _) _))
  clear hd hfr
  obtain ⟨ee, hee⟩ : ∃ ee, ee = errL L f := ⟨_, rfl⟩
  rw [← hee] at R ⊢
  clear hee
  go_wp2
  go_ret
  exact R.out

set_option maxHeartbeats 2000000 in
theorem appeal_any (base B : Nat) (L : List Cs) (last : Int) (f : Fl) (hk : f.kind = 5) (hw : f.Wf) (w : World) (h : DkAt w base B L last) (hL : L.length ≤ 100) (okc : ∀ c ∈ L, c.Ok) :
    Calls Tryz.prog 45 #[.pointer (some ⟨B, 0, none⟩), flAgg f] w (MPost base B L last f w) := by
  have hn : needP f.kind = 2 := by rw [hk]; decide
  have HC := Lib.hid (change_any base B w.heap.size L last f 87 (enters_of Tryz.func87 (by kernel_rfl) rfl) (appeal1_eff f hk hw.day) (w.alloc (.cells #[.int .u8 f.kind, .int .i64 f.day, .int .i64 f.case, .int .i64 f.n, .int .i64 f.til, .bool f.hold] 26))
    (h.later ((Below.refl _ _).alloc (Nat.le_refl _) _)) (flbox_new w f) (by unfold opensP; rw [hk]; rfl) (hw.kc (by omega) (by omega)).1 hL okc)
  rw [hn] at HC
  unfold flAgg at HC ⊢
  clear h hk hw hn okc hL
  go_enter Tryz.func45, Tryz.ntmps45
  go_wp2_with fail
  refine HC.out.mono ?_
  rintro e W ⟨rfl, hd, hfr⟩
  have R := Lib.hid (show MPost base B L last f w (.returned (.int .i64 (errL L f))) W from MPost.pre ⟨rfl, hd, hfr⟩ ((Below.refl _ _).alloc (Nat.le_refl _) _))
  clear hd hfr
  obtain ⟨ee, hee⟩ : ∃ ee, ee = errL L f := ⟨_, rfl⟩
  rw [← hee] at R ⊢
  clear hee
  go_wp2
  go_ret
  exact R.out

set_option maxHeartbeats 2000000 in
theorem rule_any (base B : Nat) (L : List Cs) (last : Int) (f : Fl) (hk : f.kind = 6) (hw : f.Wf) (w : World) (h : DkAt w base B L last) (hL : L.length ≤ 100) (okc : ∀ c ∈ L, c.Ok) :
    Calls Tryz.prog 46 #[.pointer (some ⟨B, 0, none⟩), flAgg f] w (MPost base B L last f w) := by
  have hn : needP f.kind = 3 := by rw [hk]; decide
  have HC := Lib.hid (change_any base B w.heap.size L last f 88 (enters_of Tryz.func88 (by kernel_rfl) rfl) (rule1_eff f hk hw.day) (w.alloc (.cells #[.int .u8 f.kind, .int .i64 f.day, .int .i64 f.case, .int .i64 f.n, .int .i64 f.til, .bool f.hold] 26))
    (h.later ((Below.refl _ _).alloc (Nat.le_refl _) _)) (flbox_new w f) (by unfold opensP; rw [hk]; rfl) (hw.kc (by omega) (by omega)).1 hL okc)
  rw [hn] at HC
  unfold flAgg at HC ⊢
  clear h hk hw hn okc hL
  go_enter Tryz.func46, Tryz.ntmps46
  go_wp2_with fail
  refine HC.out.mono ?_
  rintro e W ⟨rfl, hd, hfr⟩
  have R := Lib.hid (show MPost base B L last f w (.returned (.int .i64 (errL L f))) W from MPost.pre ⟨rfl, hd, hfr⟩ ((Below.refl _ _).alloc (Nat.le_refl _) _))
  clear hd hfr
  obtain ⟨ee, hee⟩ : ∃ ee, ee = errL L f := ⟨_, rfl⟩
  rw [← hee] at R ⊢
  clear hee
  go_wp2
  go_ret
  exact R.out

set_option maxHeartbeats 2000000 in
theorem withdraw_any (base B : Nat) (L : List Cs) (last : Int) (f : Fl) (hk : f.kind = 7) (hw : f.Wf) (w : World) (h : DkAt w base B L last) (hL : L.length ≤ 100) (okc : ∀ c ∈ L, c.Ok) :
    Calls Tryz.prog 47 #[.pointer (some ⟨B, 0, none⟩), flAgg f] w (MPost base B L last f w) := by
  have hn : needP f.kind = 3 := by rw [hk]; decide
  have HC := Lib.hid (change_any base B w.heap.size L last f 90 (enters_of Tryz.func90 (by kernel_rfl) rfl) (withdraw1_eff f hk) (w.alloc (.cells #[.int .u8 f.kind, .int .i64 f.day, .int .i64 f.case, .int .i64 f.n, .int .i64 f.til, .bool f.hold] 26))
    (h.later ((Below.refl _ _).alloc (Nat.le_refl _) _)) (flbox_new w f) (by unfold opensP; rw [hk]; rfl) (hw.kc (by omega) (by omega)).1 hL okc)
  rw [hn] at HC
  unfold flAgg at HC ⊢
  clear h hk hw hn okc hL
  go_enter Tryz.func47, Tryz.ntmps47
  go_wp2_with fail
  refine HC.out.mono ?_
  rintro e W ⟨rfl, hd, hfr⟩
  have R := Lib.hid (show MPost base B L last f w (.returned (.int .i64 (errL L f))) W from MPost.pre ⟨rfl, hd, hfr⟩ ((Below.refl _ _).alloc (Nat.le_refl _) _))
  clear hd hfr
  obtain ⟨ee, hee⟩ : ∃ ee, ee = errL L f := ⟨_, rfl⟩
  rw [← hee] at R ⊢
  clear hee
  go_wp2
  go_ret
  exact R.out

set_option maxHeartbeats 2000000 in
theorem elect_any (base B : Nat) (L : List Cs) (last : Int) (f : Fl) (hk : f.kind = 1) (hw : f.Wf) (w : World) (h : DkAt w base B L last) (hb : base ≤ w.heap.size) (hL : L.length ≤ 100) :
    Calls Tryz.prog 41 #[.pointer (some ⟨B, 0, none⟩), flAgg f] w (MPost base B L last f w) := by
  have hd := hw.day
  have hn := hw.k1 hk
  have HC := Lib.hid (open_any base B L last f (by unfold opensP; rw [hk]; rfl) (w.alloc (.cells #[.int .u8 f.kind, .int .i64 f.day, .int .i64 f.case, .int .i64 f.n, .int .i64 f.til, .bool f.hold] 26))
    (h.later ((Below.refl _ _).alloc (Nat.le_refl _) _)) (by simp; omega) hL)
  have hnc : newCase f = ⟨true, 1, f.day, f.n, 1, 0, f.til, false, 0, []⟩ := by unfold newCase; rw [if_pos hk]
  rw [hnc] at HC
  unfold flAgg
  have b1 : 0 ≤ f.n ∧ f.n ≤ 400 := by omega
  clear h hk hw hnc hL hn hb
  go_enter Tryz.func41, Tryz.ntmps41
  go_wp2_with fail
  refine HC.out.mono ?_
  rintro e W ⟨rfl, hd, hfr⟩
  have R := Lib.hid (show MPost base B L last f w (.returned (.int .i64 (errL L f))) W from MPost.pre ⟨rfl, hd, hfr⟩ ((Below.refl _ _).alloc (Nat.le_refl _) _))
  clear hd hfr
  obtain ⟨ee, hee⟩ : ∃ ee, ee = errL L f := ⟨_, rfl⟩
  rw [← hee] at R ⊢
  clear hee
  go_wp2
  go_ret
  exact R.out

set_option maxHeartbeats 2000000 in
theorem decide_any (base B : Nat) (L : List Cs) (last : Int) (f : Fl) (hk : f.kind = 4) (hw : f.Wf) (w : World) (h : DkAt w base B L last) (hb : base ≤ w.heap.size) (hL : L.length ≤ 100) :
    Calls Tryz.prog 44 #[.pointer (some ⟨B, 0, none⟩), flAgg f] w (MPost base B L last f w) := by
  have hd := hw.day
  have hn := hw.k4 hk
  have HC := Lib.hid (open_any base B L last f (by unfold opensP; rw [hk]; rfl) (w.alloc (.cells #[.int .u8 f.kind, .int .i64 f.day, .int .i64 f.case, .int .i64 f.n, .int .i64 f.til, .bool f.hold] 26))
    (h.later ((Below.refl _ _).alloc (Nat.le_refl _) _)) (by simp; omega) hL)
  have hnc : newCase f = ⟨false, 2, f.day, f.n, 0, 0, f.day + f.n, false, 0, []⟩ := by unfold newCase; rw [if_neg (by omega)]
  rw [hnc] at HC
  unfold flAgg
  have b1 : 0 ≤ f.n ∧ f.n ≤ 400 := by omega
  clear h hk hw hnc hL hn hb
  go_enter Tryz.func44, Tryz.ntmps44
  go_wp2_with fail
  refine HC.out.mono ?_
  rintro e W ⟨rfl, hd, hfr⟩
  have R := Lib.hid (show MPost base B L last f w (.returned (.int .i64 (errL L f))) W from MPost.pre ⟨rfl, hd, hfr⟩ ((Below.refl _ _).alloc (Nat.le_refl _) _))
  clear hd hfr
  obtain ⟨ee, hee⟩ : ∃ ee, ee = errL L f := ⟨_, rfl⟩
  rw [← hee] at R ⊢
  clear hee
  go_wp2
  go_ret
  exact R.out

end Go.Proofs.YtbpoedopdnjffaaGreat

namespace Go.Proofs.YtbpoedopdnjffaaGreat
open Go.RowKit Go.Shelf

/-- The map that the call has made. -/
def MapAt (b : Nat) (w0 w : World) (es : Array MapEntry) (clock : Nat) : Prop := w.heap[b]? = some (.map es clock) ∧ Below b w0 w
theorem MapAt.made (w : World) : MapAt w.heap.size w (w.alloc (.map #[] 0)) #[] 0 := ⟨(MapKept.heap_alloc w _).1, (Below.refl _ _).alloc (Nat.le_refl _) _⟩

theorem MapAt.insert {P : Program} {b : Nat} {w0 w : World} {es : Array MapEntry} {clock : Nat} (h : MapAt b w0 w es clock) {mt k e : TypeId} {kd : IntKind} (ht : P.underlying mt = some (.map k e)) (hk : P.underlying k = some (.int kd)) (n : Int) (v : Value)
    (hf : Instr.findNow (.int kd) (.int kd n) es.toList 0 = some none) :
    ∃ w', (Instr.mapUpdate mt (.map (some b)) (.int kd n) v).run P w = .ok () w' ∧ MapAt b w0 w' (es.push { key := .int kd n, val := v, born := clock }) (clock + 1) := by
  have hc : (Instr.checkKey false 10000 k (.int kd n)).run P w = .ok () w := MapKept.run_checkKey (k := .int kd n) hk (by simp [MapKept.IsKey]) false 9999
  refine ⟨{ w with heap := w.heap.setIfInBounds b (.map (es.push { key := .int kd n, val := v, born := clock }) (clock + 1)) }, ?_, ?_, ?_⟩
  · simp [Instr.mapUpdate, run_underlying ht, MapKept.run_getObj_map h.1, hc, MapKept.run_findKey hk hf, MapKept.run_setObj_map _ h.1, Result.andThen]
  · exact (MapKept.heap_set h.1).1
  · refine h.2.trans ⟨rfl, rfl, rfl, by simp, fun i hi => ?_⟩
    exact (MapKept.heap_set h.1).2 i (by omega)
theorem MapAt.lookup {P : Program} {w : World} {b : Nat} {es : Array MapEntry} {clock : Nat} (h : w.heap[b]? = some (.map es clock)) {mt k e : TypeId} {kd : IntKind} (ht : P.underlying mt = some (.map k e)) (hk : P.underlying k = some (.int kd)) (n : Int) (i : Nat) (v : Value)
    (hf : Instr.findNow (.int kd) (.int kd n) es.toList 0 = some (some (i, v))) : (Instr.lookup mt (.map (some b)) (.int kd n) false).run P w = .ok v w := by
  have hc : ∀ q, (Instr.checkKey q 10000 k (.int kd n)).run P w = .ok () w := fun q => MapKept.run_checkKey (k := .int kd n) hk (by simp [MapKept.IsKey]) q 9999
  simp [Instr.lookup, run_underlying ht, MapKept.run_getObj_map h, hc, MapKept.run_findKey hk hf, Result.andThen]

/-- All keys of a list of entries are integers of kind kd. -/
def IntKeys (kd : IntKind) (es : List MapEntry) : Prop := ∀ e ∈ es, ∃ n, e.key = .int kd n
theorem findNow_snoc {kd : IntKind} (k n : Int) (v : Value) (c : Nat) : ∀ (es : List MapEntry) (i : Nat), IntKeys kd es →
    Instr.findNow (.int kd) (.int kd k) (es ++ [{ key := .int kd n, val := v, born := c }]) i = match Instr.findNow (.int kd) (.int kd k) es i with
      | some none => if k = n then some (some (i + es.length, v)) else some none
      | r => r
  | [], i, _ => by
    by_cases h : k = n
    · subst h; simp [Instr.findNow, Instr.sameNow]
    · have hb : (k == n) = false := by simpa using h
      simp [Instr.findNow, Instr.sameNow, hb, h]
  | e :: es, i, hI => by
    obtain ⟨m, hm⟩ := hI e (List.mem_cons_self ..)
    have ih := findNow_snoc k n v c es (i + 1) (fun x hx => hI x (List.mem_cons_of_mem _ hx))
    by_cases h : k = m
    · subst h; simp [Instr.findNow, Instr.sameNow, hm]
    · have hb : (k == m) = false := by simpa using h
      simp only [List.cons_append, Instr.findNow, Instr.sameNow, hm, if_true, hb]
      rw [ih]
      cases hf : Instr.findNow (.int kd) (.int kd k) es (i + 1) with
      | none => rfl
      | some r =>
        cases r with
        | none => simp only [List.length_cons]; rw [show i + 1 + es.length = i + (es.length + 1) by omega]
        | some q => rfl

/-- How many of seven are still to come. -/
def left7 (m : Nat) : Nat := ((List.range 7).filter fun k => !m.testBit k).length
theorem left7_set : ∀ m : Fin 128, ∀ k : Fin 7, m.val.testBit k.val = false → left7 (m.val ||| 2 ^ k.val) + 1 = left7 m.val ∧ (m.val ||| 2 ^ k.val) < 128 := by decide +kernel
theorem left7_zero : ∀ m : Fin 128, left7 m.val = 0 → m.val = 127 := by decide +kernel
theorem left7_pos : ∀ m : Fin 128, left7 m.val ≠ 0 → m.val ≠ 127 := by decide +kernel
theorem bit_set : ∀ m : Fin 128, ∀ k j : Fin 7, (m.val ||| 2 ^ k.val).testBit j.val = (m.val.testBit j.val || decide (j = k)) := by decide +kernel
theorem bit_all : ∀ j : Fin 7, (127 : Nat).testBit j.val = true := by decide

/-- What lies in the map when the entries of the mask m have been laid. -/
def Laid7 (kd : IntKind) (val : Nat → Value) (m : Nat) (es : List MapEntry) : Prop :=
  IntKeys kd es ∧ ∀ k, k < 7 → if m.testBit k = true then ∃ j, Instr.findNow (.int kd) (.int kd (k + 1 : Nat)) es 0 = some (some (j, val k)) else Instr.findNow (.int kd) (.int kd (k + 1 : Nat)) es 0 = some none
theorem Laid7.nil (kd : IntKind) (val : Nat → Value) : Laid7 kd val 0 [] := ⟨(fun e h => by cases h), fun k _ => by rw [if_neg (by simp)]; rfl⟩
theorem Laid7.step {kd : IntKind} {val : Nat → Value} {m : Nat} {es : List MapEntry} (h : Laid7 kd val m es) (hm : m < 128) {k : Nat} (hk : k < 7) (hb : m.testBit k = false) (c : Nat) :
    Laid7 kd val (m ||| 2 ^ k) (es ++ [{ key := .int kd (k + 1 : Nat), val := val k, born := c }]) := by
  refine ⟨fun e he => ?_, fun j hj => ?_⟩
  · rcases List.mem_append.1 he with he | he
    · exact h.1 e he
    · rw [List.mem_singleton.1 he]; exact ⟨_, rfl⟩
  · have e1 := bit_set ⟨m, hm⟩ ⟨k, hk⟩ ⟨j, hj⟩
    have h1 := h.2 j hj
    dsimp only at e1
    rw [e1, findNow_snoc _ _ _ _ _ _ h.1]
    by_cases hjk : j = k
    · subst hjk
      rw [hb, if_neg (by decide)] at h1
      rw [h1]
      simp
    · have hne : decide ((⟨j, hj⟩ : Fin 7) = ⟨k, hk⟩) = false := by simpa using hjk
      have hne2 : ¬ (((j + 1 : Nat) : Int) = ((k + 1 : Nat) : Int)) := by omega
      rw [hne, Bool.or_false]
      cases hbj : m.testBit j with
      | true =>
        rw [hbj, if_pos rfl] at h1
        obtain ⟨i, hi⟩ := h1
        rw [hi, if_pos rfl]
        exact ⟨i, rfl⟩
      | false =>
        rw [hbj, if_neg (by decide)] at h1
        rw [h1, if_neg (by decide), if_neg hne2]

section
variable {P : Program} {ops : Array Oper} {Q : Exit → Act → World → Prop} {md : Region.Mode}

/-- What has come up, the entries of the mask m among it: the table's region (38 operations). -/
def lst7 (m : Nat) : Array Bool := #[true, true, true, true, true, m.testBit 0, true, true, true, true, m.testBit 1, true, true, true, true, m.testBit 2, true, true, true, true, m.testBit 3, true, true, true, true, m.testBit 4, true, true, true, true, m.testBit 5, true, true, true, true, m.testBit 6, false, false]
theorem lst7_off {m i : Nat} (h : (lst7 m).getD i true = false) : (∃ k, k < 7 ∧ i = 5 + 5 * k ∧ m.testBit k = false) ∨ i = 36 ∨ i = 37 := by
  by_cases hi : i < 38
  · rcases (show i = 5 ∨ i = 10 ∨ i = 15 ∨ i = 20 ∨ i = 25 ∨ i = 30 ∨ i = 35 ∨ i = 36 ∨ i = 37 ∨ (i < 5 ∨ (5 < i ∧ i < 10) ∨ (10 < i ∧ i < 15) ∨ (15 < i ∧ i < 20) ∨ (20 < i ∧ i < 25) ∨ (25 < i ∧ i < 30) ∨ (30 < i ∧ i < 35)) by omega) with rfl | rfl | rfl | rfl | rfl | rfl | rfl | rfl | rfl | h2
    · exact .inl ⟨0, by omega, rfl, h⟩
    · exact .inl ⟨1, by omega, rfl, h⟩
    · exact .inl ⟨2, by omega, rfl, h⟩
    · exact .inl ⟨3, by omega, rfl, h⟩
    · exact .inl ⟨4, by omega, rfl, h⟩
    · exact .inl ⟨5, by omega, rfl, h⟩
    · exact .inl ⟨6, by omega, rfl, h⟩
    · exact .inr (.inl rfl)
    · exact .inr (.inr rfl)
    · exfalso
      rcases (show i = 0 ∨ i = 1 ∨ i = 2 ∨ i = 3 ∨ i = 4 ∨ i = 6 ∨ i = 7 ∨ i = 8 ∨ i = 9 ∨ i = 11 ∨ i = 12 ∨ i = 13 ∨ i = 14 ∨ i = 16 ∨ i = 17 ∨ i = 18 ∨ i = 19 ∨ i = 21 ∨ i = 22 ∨ i = 23 ∨ i = 24 ∨ i = 26 ∨ i = 27 ∨ i = 28 ∨ i = 29 ∨ i = 31 ∨ i = 32 ∨ i = 33 ∨ i = 34 by omega) with
        rfl | rfl | rfl | rfl | rfl | rfl | rfl | rfl | rfl | rfl | rfl | rfl | rfl | rfl | rfl | rfl | rfl | rfl | rfl | rfl | rfl | rfl | rfl | rfl | rfl | rfl | rfl | rfl | rfl <;> exact absurd h (by simp [lst7])
  · exfalso
    have : (lst7 m).size = 38 := rfl
    rw [Array.getD_eq_getD_getElem?, Array.getElem?_eq_none (by omega)] at h
    cases h
theorem lst7_at (m k : Nat) (hk : k < 7) : (lst7 m).getD (5 + 5 * k) true = m.testBit k ∧ (lst7 m).getD (5 + 5 * k) false = m.testBit k ∧ (lst7 m).getD (4 + 5 * k) false = true := by
  rcases (show k = 0 ∨ k = 1 ∨ k = 2 ∨ k = 3 ∨ k = 4 ∨ k = 5 ∨ k = 6 by omega) with rfl | rfl | rfl | rfl | rfl | rfl | rfl <;> exact ⟨rfl, rfl, rfl⟩
theorem all_bits : ∀ m : Fin 128, (∀ k : Fin 7, m.val.testBit k.val = true) → m.val = 127 := by decide +kernel
theorem ready7 (h36 : ((ops[36]?).map fun o => (List.range 7).all fun k => o.after.any fun e => Region.binds md e && e.on == 5 + 5 * k) = some true)
    (h37 : ((ops[37]?).map fun o => o.after.any fun e => Region.binds md e && e.on == 36) = some true)
    (hins : ((List.range 7).all fun k => ((ops[5 + 5 * k]?).map fun o => o.after.all fun e => e.on == 0 || e.on == 4 + 5 * k).getD false) = true)
    (m : Nat) (hm : m < 128) (hne : m ≠ 127) : Region.ready md ops (lst7 m) ≠ [] ∧ ∀ i ∈ Region.ready md ops (lst7 m), ∃ k, k < 7 ∧ i = 5 + 5 * k ∧ m.testBit k = false := by
  have hex : ∃ k, k < 7 ∧ m.testBit k = false := by
    by_cases h : ∃ k, k < 7 ∧ m.testBit k = false
    · exact h
    · exfalso
      refine hne (all_bits ⟨m, hm⟩ fun k => ?_)
      cases hb : m.testBit k.val with
      | true => rfl
      | false => exact absurd ⟨k.val, k.isLt, hb⟩ h
  refine ⟨fun e => ?_, fun i hi => ?_⟩
  · obtain ⟨k, hk, hb⟩ := hex
    have h1 := List.all_eq_true.1 hins k (List.mem_range.2 hk)
    have hin : 5 + 5 * k ∈ Region.ready md ops (lst7 m) := by
      cases ho : ops[5 + 5 * k]? with
      | none => rw [ho] at h1; cases h1
      | some o =>
        rw [ho] at h1
        refine mem_ready.2 ⟨by rw [(lst7_at m k hk).1]; exact hb, o, ho, fun e he _ => ?_⟩
        have h2 := (Array.all_eq_true'.1 (show o.after.all _ = true from h1)) e he
        simp only [Bool.or_eq_true, beq_iff_eq] at h2
        rcases h2 with h2 | h2
        · rw [h2]; rfl
        · rw [h2]; exact (lst7_at m k hk).2.2
    rw [e] at hin
    cases hin
  · obtain ⟨hun, o, ho, hall⟩ := mem_ready.1 hi
    rcases lst7_off hun with h | rfl | rfl
    · exact h
    · exfalso
      obtain ⟨k, hk, hb⟩ := hex
      rw [ho] at h36
      have h1 := List.all_eq_true.1 (Option.some.inj h36) k (List.mem_range.2 hk)
      obtain ⟨e, he, h2⟩ := Array.any_eq_true'.1 h1
      simp only [Bool.and_eq_true, beq_iff_eq] at h2
      have h3 := hall e he h2.1
      rw [h2.2, (lst7_at m k hk).2.1, hb] at h3
      cases h3
    · exfalso
      rw [ho] at h37
      obtain ⟨e, he, h2⟩ := Array.any_eq_true'.1 (Option.some.inj h37)
      simp only [Bool.and_eq_true, beq_iff_eq] at h2
      have h3 := hall e he h2.1
      rw [h2.2] at h3
      cases h3
theorem lst7_set (m k : Nat) (hm : m < 128) (hk : k < 7) : (lst7 m).setIfInBounds (5 + 5 * k) true = lst7 (m ||| 2 ^ k) := by
  have hb := fun j hj => bit_set ⟨m, hm⟩ ⟨k, hk⟩ ⟨j, hj⟩
  have b0 := hb 0 (by omega)
  have b1 := hb 1 (by omega)
  have b2 := hb 2 (by omega)
  have b3 := hb 3 (by omega)
  have b4 := hb 4 (by omega)
  have b5 := hb 5 (by omega)
  have b6 := hb 6 (by omega)
  dsimp only at b0 b1 b2 b3 b4 b5 b6
  unfold lst7
  rw [b0, b1, b2, b3, b4, b5, b6]
  rcases (show k = 0 ∨ k = 1 ∨ k = 2 ∨ k = 3 ∨ k = 4 ∨ k = 5 ∨ k = 6 by omega) with rfl | rfl | rfl | rfl | rfl | rfl | rfl <;> simp

/-- The entries in whatever order. -/
theorem inserts_any {mt kt et : TypeId} {kd : IntKind} (ht : P.underlying mt = some (.map kt et)) (hkt : P.underlying kt = some (.int kd)) (idx : Nat → Nat) (val : Nat → Value) (b : Nat) (w0 : World) (a : Act)
    (hop : ∀ k, k < 7 → ∃ o mo vo, ops[idx k]? = some o ∧ o.guard = none ∧ o.dst = none ∧ o.op = .insert mt mo (.const (.int kd (k + 1 : Nat))) vo ∧ a.eval mo = .map (some b) ∧ a.eval vo = val k)
    (Lst : Nat → Array Bool) (hset : ∀ m k : Nat, m < 128 → k < 7 → (Lst m).setIfInBounds (idx k) true = Lst (m ||| 2 ^ k))
    (hready : ∀ m : Nat, m < 128 → m ≠ 127 → Region.ready md ops (Lst m) ≠ [] ∧ ∀ i ∈ Region.ready md ops (Lst m), ∃ k, k < 7 ∧ i = idx k ∧ m.testBit k = false)
    (r : Nat) (hend : ∀ w es clock, MapAt b w0 w es clock → Laid7 kd val 127 es.toList → wpAny P md ops Q r (Lst 127) a w) :
    ∀ (n m : Nat) (w : World) (es : Array MapEntry) (clock : Nat), m < 128 → left7 m = n → MapAt b w0 w es clock → Laid7 kd val m es.toList → wpAny P md ops Q (n + r) (Lst m) a w := by
  intro n
  induction n with
  | zero =>
    intro m w es clock hm hl hM hL
    have h127 := left7_zero ⟨m, hm⟩ hl
    dsimp only at h127
    subst h127
    rw [Nat.zero_add]
    exact hend w es clock hM hL
  | succ n ih =>
    intro m w es clock hm hl hM hL
    have hne := left7_pos ⟨m, hm⟩ (by dsimp only; omega)
    obtain ⟨hr1, hr2⟩ := hready m hm hne
    rw [show n + 1 + r = (n + r) + 1 by omega]
    refine wpAny_all rfl hr1 ?_
    · intro i hi
      obtain ⟨k, hk7, rfl, hb⟩ := hr2 i hi
      obtain ⟨o, mo, vo, ho, hg, hd, hop', em, ev⟩ := hop k hk7
      have hs := hset m k hm hk7
      have hl7 := left7_set ⟨m, hm⟩ ⟨k, hk7⟩ hb
      dsimp only at hl7
      have hfn := hL.2 k hk7
      rw [hb, if_neg (by decide)] at hfn
      obtain ⟨w', hrun, hM'⟩ := hM.insert ht hkt (k + 1 : Nat) (val k) hfn
      unfold wpOp
      rw [ho]
      have hw : Region.wanted o (yielded ops a.tmps) = true := by simp [Region.wanted, hg]
      simp only [hw, if_true]
      left
      unfold Oper.wp execOp
      have ec : a.eval (.const (.int kd (k + 1 : Nat))) = .int kd (k + 1 : Nat) := rfl
      simp only [hop', em, ev, ec, Sem.run_bind, hrun, Result.andThen_ok, Sem.run_pure]
      unfold Oper.upon
      dsimp only
      rw [hd, hs]
      exact ih (m ||| 2 ^ k) w' _ _ hl7.2 (by omega) hM' (by rw [Array.toList_push]; exact hL.step hm hk7 hb clock)
end

end Go.Proofs.YtbpoedopdnjffaaGreat
