/- The effects of a ruling and of a withdrawal. -/
import Derived.Test.YtbpoedopdnjffaaApEff
namespace Go.Proofs.Ytbpoedopdnjffaa
open Go.RowKit Go.Shelf Sp

theorem FlBox.but {W W' : World} {F g : Nat} {f : Fl} (h : FlBox W F f) (hb : But g W W') (hne : F ≠ g) : FlBox W' F f := h.of_block (hb.block F h.lt hne)
theorem hok_upd {c : Cs} (h : c.HOk) (x d : Int) : Cs.HOk { c with st := x, due := d } := ⟨h.vh, h.hold, h.len⟩

set_option maxHeartbeats 2000000 in
theorem withdraw1_eff (f : Fl) (hk : f.kind = 7) : EffOf 72 f := by
  intro C F c w h hf ok _
  have hne := box_ne h hf
  obtain ⟨v, A1, O1⟩ := h
  obtain ⟨_, c1, _, _, _, _, c6, _, _, _⟩ := A1.cell
  have z1 := A1.frozen 1
  have z6 := A1.frozen 6
  obtain ⟨_, f1, _, _, _, _⟩ := hf.cell
  have A2 := A1.set_.1 4
  have O2 := O1.setBox A1 1 (.int .u8 4)
  have A3 := A2.set_.2.2.2.1 f.day
  have O3 := O2.setBox A2 6 (.int .i64 f.day)
  have K := Lib.hid (show CaseAt ((w.setCell ⟨C, 1, none⟩ (.int .u8 4)).setCell ⟨C, 6, none⟩ (.int .i64 f.day)).drew C { c with st := 4, due := f.day } from ⟨_, A3, O3⟩)
  have HO := Lib.hid (hok_upd ok.h 4 f.day)
  have E := Lib.hid (effP_7 hk c)
  clear A1 O1 A2 O2 A3 O3 hf ok
  refine ⟨fun hd => absurd hd.2 (by omega), fun _ => ?_⟩
  clear hk
  go_enter Try.func72, Try.ntmps72
  go_wp2
  go_region
  all_goals
    go_wp2_with fail
    refine (endHold_any C { c with st := 4, due := f.day } f.day _ K.out HO.out).mono ?_
    rintro e W1 ⟨rfl, h4, h5⟩
    have R := Lib.hid (show CaseAt W1 C (effP f c) from by rw [E.out]; exact h4)
    have B := Lib.hid ((show But C w _ from (((But.refl C w).set_ 1 _).set_ 6 _).drew).trans h5)
    clear h4 h5
    go_wp2
    go_ret
    exact ⟨rfl, R.out, B.out⟩

set_option maxHeartbeats 2000000 in
theorem rule1_eff (f : Fl) (hk : f.kind = 6) (hd : 0 ≤ f.day ∧ f.day ≤ 65535) : EffOf 70 f := by
  intro C F c w h hf ok _
  have hne := box_ne h hf
  refine ⟨fun hd => absurd hd.2 (by omega), fun _ => ?_⟩
  obtain ⟨_, f1, _, f3, _, _⟩ := hf.cell
  by_cases hn : f.n = 1
  · have CU := Lib.hid (uphold_any C c f.day w h ok (by omega))
    have E := Lib.hid (show effP f c = upholdP c f.day by rw [effP_6 hk, if_pos hn])
    rw [hn] at f3
    clear h hf ok hn hk hd
    go_enter Try.func70, Try.ntmps70
    go_wp2_with fail
    refine CU.out.mono ?_
    rintro e W1 ⟨rfl, h4, h5⟩
    have R := Lib.hid (show CaseAt W1 C (effP f c) from by rw [E.out]; exact h4)
    clear h4
    go_wp2
    go_ret
    exact ⟨rfl, R.out, h5⟩
  · have E := Lib.hid (show effP f c = endHoldP { c with st := 5, due := f.day } f.day by rw [effP_6 hk, if_neg hn])
    have bn : (f.n == 1) = false := by simpa using hn
    obtain ⟨v, A1, O1⟩ := h
    obtain ⟨_, c1, _, _, _, _, c6, _, _, _⟩ := A1.cell
    have z1 := A1.frozen 1
    have z6 := A1.frozen 6
    have A2 := A1.set_.1 5
    have O2 := O1.setBox A1 1 (.int .u8 5)
    have A3 := A2.set_.2.2.2.1 f.day
    have O3 := O2.setBox A2 6 (.int .i64 f.day)
    have K := Lib.hid (show CaseAt ((w.setCell ⟨C, 1, none⟩ (.int .u8 5)).setCell ⟨C, 6, none⟩ (.int .i64 f.day)).drew C { c with st := 5, due := f.day } from ⟨_, A3, O3⟩)
    have HO := Lib.hid (hok_upd ok.h 5 f.day)
    clear A1 O1 A2 O2 A3 O3 hf ok hk hd hn
    go_enter Try.func70, Try.ntmps70
    go_wp2
    go_region
    all_goals
      go_wp2_with fail
      refine (endHold_any C { c with st := 5, due := f.day } f.day _ K.out HO.out).mono ?_
      rintro e W1 ⟨rfl, h4, h5⟩
      have R := Lib.hid (show CaseAt W1 C (effP f c) from by rw [E.out]; exact h4)
      have B := Lib.hid ((show But C w _ from (((But.refl C w).set_ 1 _).set_ 6 _).drew).trans h5)
      clear h4 h5
      go_wp2
      go_ret
      exact ⟨rfl, R.out, B.out⟩

end Go.Proofs.Ytbpoedopdnjffaa
