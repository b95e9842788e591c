/- The effects of filings on a case: the closures choose$1, lock$1, appeal$1, rule$1, withdraw$1. -/
import Derived.Test.YtbpoedopdnjffaaApDkt
import Derived.BigRegion
namespace Go.Proofs.Ytbpoedopdnjffaa
open Go.RowKit Go.Shelf Sp

theorem box_ne {W : World} {C F : Nat} {c : Cs} {f : Fl} (h : CaseAt W C c) (hf : FlBox W F f) : F ≠ C := by
  obtain ⟨v, h1, _⟩ := h
  intro e
  subst e
  unfold CsAt at h1
  unfold FlBox at hf
  rw [h1] at hf
  injection hf with hf
  injection hf with _ e _
  exact absurd e (by decide)

theorem But.drewN {g : Nat} {w w' : World} (h : But g w w') (n : Nat) : But g w (w'.drewN n) := ⟨h.os, h.tape, h.output, h.size, h.block⟩
theorem effP_2 {f : Fl} (h : f.kind = 2) (c : Cs) : effP f c = { c with choice := f.n } := by unfold effP; rw [if_pos h]
theorem effP_3 {f : Fl} (h : f.kind = 3) (c : Cs) : effP f c = { c with st := 4, due := f.day } := by unfold effP; rw [if_neg (by omega), if_pos h]
theorem effP_5 {f : Fl} (h : f.kind = 5) (c : Cs) : effP f c = if f.hold = true then { c with st := 3, due := f.day + 365, level := c.level + 1, hold := true, since := f.day } else { c with st := 3, due := f.day + 365, level := c.level + 1 } := by
  unfold effP; rw [if_neg (by omega), if_neg (by omega), if_pos h]
theorem effP_6 {f : Fl} (h : f.kind = 6) (c : Cs) : effP f c = if f.n = 1 then upholdP c f.day else endHoldP { c with st := 5, due := f.day } f.day := by
  unfold effP; rw [if_neg (by omega), if_neg (by omega), if_neg (by omega), if_pos h]
theorem effP_7 {f : Fl} (h : f.kind = 7) (c : Cs) : effP f c = endHoldP { c with st := 4, due := f.day } f.day := by
  unfold effP; rw [if_neg (by omega), if_neg (by omega), if_neg (by omega), if_neg (by omega)]

/-- What is asked of the effect of a filing: it has the error ee, or makes of the case what effP says. -/
def EffOf (k : Nat) (f : Fl) : Prop := ∀ (C F : Nat) (c : Cs) (w : World), CaseAt w C c → FlBox w F f → c.Ok → c.st = needP f.kind →
  (c.days < f.n ∧ f.kind = 2 → Calls Try.prog k #[.pointer (some ⟨C, 0, none⟩), .pointer (some ⟨F, 0, none⟩)] w fun e w' => e = .returned (.int .i64 402) ∧ But C w w') ∧
  (¬ (c.days < f.n ∧ f.kind = 2) → Calls Try.prog k #[.pointer (some ⟨C, 0, none⟩), .pointer (some ⟨F, 0, none⟩)] w fun e w' => e = .returned (.int .i64 0) ∧ CaseAt w' C (effP f c) ∧ But C w w')

set_option maxHeartbeats 1000000 in
theorem choose1_eff (f : Fl) (hk : f.kind = 2) : EffOf 67 f := by
  intro C F c w h hf _ _
  have hne := box_ne h hf
  obtain ⟨v, A1, O1⟩ := h
  obtain ⟨_, _, _, c3, c4, _, _, _, _, _⟩ := A1.cell
  have z4 := A1.frozen 4
  obtain ⟨_, _, _, f3, _, _⟩ := hf.cell
  have A2 := A1.set_.2.1 f.n
  have O2 := O1.setBox A1 4 (.int .i64 f.n)
  have R := Lib.hid (show CaseAt _ C (effP f c) from by rw [effP_2 hk]; exact ⟨_, A2, O2⟩)
  clear A1 O1 A2 O2 hf
  refine ⟨fun hd => ?_, fun hd => ?_⟩
  · replace hd := hd.1
    clear hk
    go_enter Try.func67, Try.ntmps67
    go_wp2
    go_quiet (fail)
    go_wp2
    go_ret
    exact ⟨rfl, (But.refl C w).drewN _⟩
  · replace hd : ¬ c.days < f.n := fun h => hd ⟨h, hk⟩
    clear hk
    go_enter Try.func67, Try.ntmps67
    go_wp2
    go_quiet (fail)
    go_wp2
    go_ret
    exact ⟨rfl, R.out, ((But.refl C w).drewN _).set_ 4 _⟩

set_option maxHeartbeats 1000000 in
theorem lock1_eff (f : Fl) (hk : f.kind = 3) : EffOf 68 f := by
  intro C F c w h hf _ _
  have hne := box_ne h hf
  obtain ⟨v, A1, O1⟩ := h
  obtain ⟨_, c1, _, _, _, _, c6, _, _, _⟩ := A1.cell
  have z1 := A1.frozen 1
  have z6 := A1.frozen 6
  obtain ⟨_, f1, _, _, _, _⟩ := hf.cell
  have A2 := A1.set_.1 4
  have O2 := O1.setBox A1 1 (.int .u8 4)
  have A3 := A2.set_.2.2.2.1 f.day
  have O3 := O2.setBox A2 6 (.int .i64 f.day)
  have R := Lib.hid (show CaseAt _ C (effP f c) from by rw [effP_3 hk]; exact ⟨_, A3, O3⟩)
  clear A1 O1 A2 O2 A3 O3 hf
  refine ⟨fun hd => absurd hd.2 (by omega), fun _ => ?_⟩
  clear hk
  go_enter Try.func68, Try.ntmps68
  go_wp2
  go_region
  all_goals
    go_wp2
    go_ret
    exact ⟨rfl, R.out, (((But.refl C w).set_ 1 _).set_ 6 _).drew⟩

set_option maxHeartbeats 2000000 in
theorem appeal1_eff (f : Fl) (hk : f.kind = 5) (hd : 0 ≤ f.day ∧ f.day ≤ 65535) : EffOf 69 f := by
  intro C F c w h hf ok _
  have hne := box_ne h hf
  have hl := ok.lev
  clear ok
  obtain ⟨v, A1, O1⟩ := h
  obtain ⟨_, c1, _, _, _, c5, c6, c7, c8, _⟩ := A1.cell
  have z1 := A1.frozen 1
  have z5 := A1.frozen 5
  have z6 := A1.frozen 6
  have z7 := A1.frozen 7
  have z8 := A1.frozen 8
  obtain ⟨_, f1, _, _, _, f5⟩ := hf.cell
  have A2 := A1.set_.1 3
  have O2 := O1.setBox A1 1 (.int .u8 3)
  have A3 := A2.set_.2.2.2.1 (f.day + 365)
  have O3 := O2.setBox A2 6 (.int .i64 (f.day + 365))
  have A4 := A3.set_.2.2.1 (c.level + 1)
  have O4 := O3.setBox A3 5 (.int .i64 (c.level + 1))
  have A5 := A4.set_.2.2.2.2.1 true
  have O5 := O4.setBox A4 7 (.bool true)
  have A6 := A5.set_.2.2.2.2.2.1 f.day
  have O6 := O5.setBox A5 8 (.int .i64 f.day)
  refine ⟨fun hd => absurd hd.2 (by omega), fun _ => ?_⟩
  cases hh : f.hold with
  | true =>
    have R := Lib.hid (show CaseAt _ C (effP f c) from by rw [effP_5 hk, if_pos hh]; exact ⟨_, A6, O6⟩)
    rw [hh] at f5
    clear A1 O1 A2 O2 A3 O3 A4 O4 A5 O5 A6 O6 hf hk hh
    go_enter Try.func69, Try.ntmps69
    go_wp2
    go_region
    all_goals
      go_wp2
      go_region
      all_goals
        go_wp2
        go_ret
        exact ⟨rfl, R.out, (((((((But.refl C w).set_ 1 _).set_ 6 _).set_ 5 _).set_ 7 _).set_ 8 _).drew).drew⟩
  | false =>
    have R := Lib.hid (show CaseAt _ C (effP f c) from by rw [effP_5 hk, if_neg (by rw [hh]; decide)]; exact ⟨_, A4, O4⟩)
    rw [hh] at f5
    clear A1 O1 A2 O2 A3 O3 A4 O4 A5 O5 A6 O6 hf hk hh
    go_enter Try.func69, Try.ntmps69
    go_wp2
    go_region
    all_goals
      go_wp2
      go_ret
      exact ⟨rfl, R.out, ((((But.refl C w).set_ 1 _).set_ 6 _).set_ 5 _).drew⟩

end Go.Proofs.Ytbpoedopdnjffaa
