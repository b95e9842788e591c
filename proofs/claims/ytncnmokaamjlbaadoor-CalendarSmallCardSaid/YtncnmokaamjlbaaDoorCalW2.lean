/- The walks of monthOf and of sort.Search as monthOf calls it. -/
import Derived.Test.YtncnmokaamjlbaaDoorCalW1
namespace Go.Proofs.YtncnmokaamjlbaaDoor
open Go.RowKit

theorem Lens.drewN {w : World} (h : Lens w) (n : Nat) : Lens (w.drewN n) := h

theorem Lens.alloc {w : World} (h : Lens w) (o : Obj) : Lens (w.alloc o) := h.below ((Below.refl _ _).alloc (Nat.le_refl _) _)
theorem below_drewN {B : Nat} {a w : World} (h : Below B a w) (n : Nat) : Below B a (w.drewN n) := ⟨h.os, h.tape, h.output, h.size, h.block⟩

theorem quiet_left {P : Program} {f : FuncId} {args : Array Value} {w : World} {n : Nat} {v : Value}
    (h : Calls P f args (w.drewN n) fun e w' => e = .returned v ∧ w.drewN n = w') : Calls P f args (w.drewN n) fun e w'' => e = .returned v ∧ ∃ m, w'' = w.drewN m :=
  h.mono fun _ _ ⟨he, hm⟩ => ⟨he, n, hm.symm⟩

set_option maxHeartbeats 400000 in
theorem month_fn (n d : Int) (B : Nat) (w : World) (hL : Lens w) (hc : w.cell? ⟨B, 0, none⟩ = some (.int .i64 d)) (h0 : 0 ≤ n) (h1 : n ≤ 2154) :
    Calls Tryd.prog 53 #[.int .i64 n, .pointer (some ⟨B, 0, none⟩)] w fun e w' => e = .returned (.bool (decide (d < Cal.st (n.toNat + 1)))) ∧ ∃ k, w' = w.drewN k := by
  obtain ⟨n, rfl⟩ := Int.eq_ofNat_of_zero_le h0
  have HL := Lib.hid hL; clear hL
  have x1 : ((n : Int) + 1).toNat = n + 1 := by omega
  go_enter Tryd.func53, Tryd.ntmps53
  go_wp2_with fail
  go_quiet ((go_at_call 36; exact quiet_left (start_any _ _ (HL.out.drewN _) (by omega) (by omega))))
  go_wp2
  go_ret
  exact ⟨by rw [Int.toNat_natCast]; rfl, nq, rfl⟩

set_option maxHeartbeats 400000 in
theorem search_month (d : Int) (B : Nat) (w : World) (hL : Lens w) (hc : w.cell? ⟨B, 0, none⟩ = some (.int .i64 d)) (h0 : 0 ≤ d) (h1 : d < 65536) :
    Calls Tryd.prog 52 #[.int .i64 2154, .func (.func 53) #[] #[.pointer (some ⟨B, 0, none⟩)]] w fun e w' => e = .returned (.int .i64 (Cal.mo d)) ∧ ∃ k, w' = w.drewN k := by
  have HL := Lib.hid hL; clear hL
  have HC := Lib.hid hc; clear hc
  have s0 := Lib.hid (show Cal.st 0 ≤ d ∧ d < Cal.st (2154 + 1) by have := Cal.st_step 2154; rw [Cal.st_2154] at this; rw [Cal.st_zero]; omega)
  go_enter Tryd.func52, Tryd.ntmps52
  go_wp2
  go_loopw [5, 6] (fun i j wr => ∃ (k l h : Nat), l ≤ h ∧ h ≤ 2154 ∧ i = .int .i64 l ∧ j = .int .i64 h ∧ Hid (Cal.st l ≤ d ∧ d < Cal.st (h + 1)) ∧ wr = w.drewN k) (fun i j _ => (intOf j).toNat - (intOf i).toNat)
  case atStart => exact ⟨0, 0, 2154, by omega, by omega, rfl, rfl, s0, rfl⟩
  case round =>
    obtain ⟨k, l, h, hlh, hh, rfl, rfl, hs, rfl⟩ := hrel
    by_cases hlt : l < h
    · have Hm := Lib.hid (show ((l : Int) + h) / 2 = ((l + h) / 2 : Nat) by omega)
      by_cases hd : d < Cal.st ((l + h) / 2 + 1)
      · go_wp2_with fail
        refine (month_fn _ d B _ (HL.out.drewN _) HC.out (by omega) (by omega)).mono ?_
        rintro e w' ⟨rfl, k', rfl⟩
        rw [Hm.out, Int.toNat_natCast, decide_eq_true hd, World.drewN_drewN]
        have hs' := Lib.hid (And.intro hs.out.1 hd)
        clear hd Hm
        go_wp2
        go_roundw
        case rel => exact ⟨k + k', l, (l + h) / 2, by omega, by omega, rfl, rfl, hs', rfl⟩
        case measure => simp [intOf]; omega
      · go_wp2_with fail
        refine (month_fn _ d B _ (HL.out.drewN _) HC.out (by omega) (by omega)).mono ?_
        rintro e w' ⟨rfl, k', rfl⟩
        rw [Hm.out, Int.toNat_natCast, decide_eq_false (Int.not_lt.mpr hd), World.drewN_drewN]
        have hs' := Lib.hid (And.intro hd hs.out.2)
        clear hd Hm
        go_wp2
        go_roundw
        case rel => exact ⟨k + k', (l + h) / 2 + 1, h, by omega, by omega, by go_num, rfl, hs', rfl⟩
        case measure => simp [intOf]; omega
    · go_wp2_with fail
      go_ret
      obtain rfl : l = h := by omega
      exact ⟨ret_int (by rw [Cal.mo_eq hs.out.1 hs.out.2]), k, rfl⟩

set_option maxHeartbeats 400000 in
theorem month_any (d : Int) (w : World) (hL : Lens w) (h0 : 0 ≤ d) (h1 : d < 65536) :
    Calls Tryd.prog 45 #[.int .i64 d] w fun e w' => e = .returned (.int .i64 (Cal.mo d)) ∧ Below w.heap.size w w' := by
  have HL := Lib.hid hL; clear hL
  go_enter Tryd.func45, Tryd.ntmps45
  go_wp2_with fail
  refine (search_month d _ _ (HL.out.alloc _) (by simp) h0 h1).mono ?_
  rintro e w' ⟨rfl, k, rfl⟩
  go_wp2
  go_ret
  exact ⟨rfl, below_drewN ((Below.refl _ _).alloc (Nat.le_refl _) _) _⟩
end Go.Proofs.YtncnmokaamjlbaaDoor
