/- The walks of Month, First, Weekday, Add, Between and Age. -/
import Derived.Test.YtncnmokaamjlbaaDoorCalW3
namespace Go.Proofs.YtncnmokaamjlbaaDoor
open Go.RowKit

set_option maxHeartbeats 400000 in
theorem monthN_any (d : Int) (w : World) (hL : Lens w) :
    Calls Tryd.prog 26 #[.int .i64 d] w fun e w' => e = .returned (.tuple #[.int .i64 (Cal.nv d), .int .i64 (Cal.ev d)]) ∧ Below w.heap.size w w' := by
  have HL := Lib.hid hL; clear hL
  by_cases hd : Cal.IsD d
  · have Hd := Lib.hid hd
    have hn := Lib.hid (show Cal.nv d = (Cal.mo d : Int) ∧ Cal.ev d = 0 by unfold Cal.nv Cal.ev; rw [if_pos hd, if_pos hd]; exact ⟨rfl, rfl⟩)
    clear hd
    go_enter Tryd.func26, Tryd.ntmps26
    go_wp2_with (first | (go_at_call 37; refine (isDate_yes _ _ Hd.out).mono ?_; rintro e w' ⟨rfl, rfl⟩))
    refine (month_any d _ HL.out Hd.out.1 Hd.out.2).mono ?_
    rintro e w1 ⟨rfl, hb⟩
    go_wp2
    go_ret2
    exact ⟨ret_two hn.out.1.symm hn.out.2.symm, hb⟩
  · have hn := Lib.hid (show Cal.nv d = 0 ∧ Cal.ev d = 2 by unfold Cal.nv Cal.ev; rw [if_neg hd, if_neg hd]; exact ⟨rfl, rfl⟩)
    have Hd := Lib.hid hd; clear hd
    go_enter Tryd.func26, Tryd.ntmps26
    go_wp2_with (first | (go_at_call 37; refine (isDate_no _ _ Hd.out).mono ?_; rintro e w' ⟨rfl, rfl⟩))
    go_ret2
    exact ⟨ret_two hn.out.1.symm hn.out.2.symm, Below.refl _ _⟩

set_option maxHeartbeats 400000 in
theorem first_any (n : Int) (w : World) (hL : Lens w) :
    Calls Tryd.prog 27 #[.int .i64 n] w fun e w' => e = .returned (.tuple #[.int .i64 (Cal.fv n), .int .i64 (Cal.fe n)]) ∧ w = w' := by
  have HL := Lib.hid hL; clear hL
  by_cases h0 : n < 0
  · have hn := Lib.hid (show Cal.fv n = 0 ∧ Cal.fe n = 2 by unfold Cal.fv Cal.fe; rw [if_neg (fun h => by unfold Cal.IsM at h; omega), if_neg (fun h => by unfold Cal.IsM at h; omega)]; exact ⟨rfl, rfl⟩)
    go_enter Tryd.func27, Tryd.ntmps27
    go_wp2
    go_ret2
    exact ⟨ret_two hn.out.1.symm hn.out.2.symm, rfl⟩
  by_cases h1 : 2154 ≤ n
  · have hn := Lib.hid (show Cal.fv n = 0 ∧ Cal.fe n = 2 by unfold Cal.fv Cal.fe; rw [if_neg (fun h => by unfold Cal.IsM at h; omega), if_neg (fun h => by unfold Cal.IsM at h; omega)]; exact ⟨rfl, rfl⟩)
    go_enter Tryd.func27, Tryd.ntmps27
    go_wp2
    go_ret2
    exact ⟨ret_two hn.out.1.symm hn.out.2.symm, rfl⟩
  have hm : Cal.IsM n := ⟨by omega, by omega⟩
  have hn := Lib.hid (show Cal.fv n = Cal.st n.toNat ∧ Cal.fe n = 0 by unfold Cal.fv Cal.fe; rw [if_pos hm, if_pos hm]; exact ⟨rfl, rfl⟩)
  clear hm
  go_enter Tryd.func27, Tryd.ntmps27
  go_wp2_with (first | (go_at_call 36; refine (start_any _ _ HL.out (by omega) (by omega)).mono ?_; rintro e w' ⟨rfl, rfl⟩))
  go_ret2
  exact ⟨ret_two hn.out.1.symm hn.out.2.symm, rfl⟩

set_option maxHeartbeats 400000 in
theorem weekday_any (d : Int) (w : World) :
    Calls Tryd.prog 25 #[.int .i64 d] w fun e w' => e = .returned (.tuple #[.int .i64 (Cal.wv d), .int .i64 (Cal.ev d)]) ∧ w = w' := by
  by_cases hd : Cal.IsD d
  · have Hd := Lib.hid hd
    have hn := Lib.hid (show Cal.wv d = d % 7 + 1 ∧ Cal.ev d = 0 by unfold Cal.wv Cal.ev; rw [if_pos hd, if_pos hd]; exact ⟨rfl, rfl⟩)
    have h0 := hd.1; have h1 := hd.2
    clear hd
    go_enter Tryd.func25, Tryd.ntmps25
    go_wp2_with (first | (go_at_call 37; refine (isDate_yes _ _ Hd.out).mono ?_; rintro e w' ⟨rfl, rfl⟩))
    go_ret2
    exact ⟨ret_two hn.out.1.symm hn.out.2.symm, rfl⟩
  · have hn := Lib.hid (show Cal.wv d = 0 ∧ Cal.ev d = 2 by unfold Cal.wv Cal.ev; rw [if_neg hd, if_neg hd]; exact ⟨rfl, rfl⟩)
    have Hd := Lib.hid hd; clear hd
    go_enter Tryd.func25, Tryd.ntmps25
    go_wp2_with (first | (go_at_call 37; refine (isDate_no _ _ Hd.out).mono ?_; rintro e w' ⟨rfl, rfl⟩))
    go_ret2
    exact ⟨ret_two hn.out.1.symm hn.out.2.symm, rfl⟩

theorem add_no {a n : Int} (h : Cal.IsD a) (h1 : ¬ Cal.AddOk a n) : Cal.addv a n = 0 ∧ Cal.adde a n = 30 := by
  unfold Cal.addv Cal.adde; rw [if_neg (fun x => h1 x.2), if_pos h, if_neg h1]; exact ⟨rfl, rfl⟩
theorem add_yes {a n : Int} (h : Cal.IsD a) (h1 : Cal.AddOk a n) : Cal.addv a n = Cal.into a ((Cal.mo a : Int) + n).toNat ∧ Cal.adde a n = 0 := by
  unfold Cal.addv Cal.adde; rw [if_pos ⟨h, h1⟩, if_pos h, if_pos h1]; exact ⟨rfl, rfl⟩
theorem add_bad {a n : Int} (h : ¬ Cal.IsD a) : Cal.addv a n = 0 ∧ Cal.adde a n = 2 := by
  unfold Cal.addv Cal.adde; rw [if_neg (fun x => h x.1), if_neg h]; exact ⟨rfl, rfl⟩

set_option maxHeartbeats 1000000 in
theorem add_any (a n : Int) (w : World) (hL : Lens w) :
    Calls Tryd.prog 29 #[.int .i64 a, .int .i64 n] w fun e w' => e = .returned (.tuple #[.int .i64 (Cal.addv a n), .int .i64 (Cal.adde a n)]) ∧ Below w.heap.size w w' := by
  have HL := Lib.hid hL; clear hL
  by_cases hd : Cal.IsD a
  · have Hd := Lib.hid hd
    obtain ⟨hm1, hm2, hm3⟩ := Cal.mo_spec a hd.1 hd.2
    have h0 := hd.1; have h1 := hd.2
    by_cases c1 : n < -(Cal.mo a : Int)
    · have hn := Lib.hid (add_no hd (n := n) (fun h => by unfold Cal.AddOk at h; omega))
      clear hd
      go_enter Tryd.func29, Tryd.ntmps29
      go_wp2_with (first | (go_at_call 37; refine (isDate_yes _ _ Hd.out).mono ?_; rintro e w' ⟨rfl, rfl⟩))
      refine (month_any a _ HL.out Hd.out.1 Hd.out.2).mono ?_
      rintro e w1 ⟨rfl, hb⟩
      go_wp2
      go_ret2
      exact ⟨ret_two hn.out.1.symm hn.out.2.symm, hb⟩
    by_cases c2 : 2154 - (Cal.mo a : Int) ≤ n
    · have hn := Lib.hid (add_no hd (n := n) (fun h => by unfold Cal.AddOk at h; omega))
      clear hd
      go_enter Tryd.func29, Tryd.ntmps29
      go_wp2_with (first | (go_at_call 37; refine (isDate_yes _ _ Hd.out).mono ?_; rintro e w' ⟨rfl, rfl⟩))
      refine (month_any a _ HL.out Hd.out.1 Hd.out.2).mono ?_
      rintro e w1 ⟨rfl, hb⟩
      go_wp2
      go_ret2
      exact ⟨ret_two hn.out.1.symm hn.out.2.symm, hb⟩
    obtain ⟨k, hk⟩ : ∃ k : Nat, (Cal.mo a : Int) + n = k := Int.eq_ofNat_of_zero_le (by omega)
    have hin := Cal.into_bd hd k
    have hst := Cal.st_add 0 k
    have hst1 := Cal.st_step k
    rw [Cal.st_zero, Nat.zero_add] at hst
    have hst2 := Cal.st_nonneg (Cal.mo a)
    have Hk := Lib.hid hk
    have hk1 : k ≤ 2153 := by omega
    have hinto := Lib.hid (show Cal.st k + min (a - Cal.st (Cal.mo a)) (Cal.st (k + 1) - Cal.st k - 1) = Cal.into a k by unfold Cal.into; rw [Cal.len_month])
    have hk2 : (Cal.mo a : Int) + n ≤ k ∧ k ≤ (Cal.mo a : Int) + n := by omega
    by_cases c3 : Cal.into a k < 65536
    · have hok := add_yes hd (n := n) ⟨by omega, by omega, by rw [hk, Int.toNat_natCast]; exact c3⟩
      rw [hk, Int.toNat_natCast] at hok
      have hn := Lib.hid hok
      clear hd hk hok
      go_enter Tryd.func29, Tryd.ntmps29
      go_wp2_with (first | (go_at_call 37; refine (isDate_yes _ _ Hd.out).mono ?_; rintro e w' ⟨rfl, rfl⟩))
      refine (month_any a _ HL.out Hd.out.1 Hd.out.2).mono ?_
      rintro e w1 ⟨rfl, hb⟩
      go_wp2_with fail
      refine (start_any _ _ (HL.out.below hb) (by omega) (by omega)).mono ?_; rintro e w' ⟨rfl, rfl⟩; rw [Int.toNat_natCast]
      go_wp2_with fail
      rw [Hk.out]
      clear hk2 Hk
      refine (start_any _ _ (HL.out.below hb) (by omega) (by omega)).mono ?_; rintro e w' ⟨rfl, rfl⟩; rw [show ((k : Int) + 1).toNat = k + 1 by omega]
      go_wp2_with (first | (go_at_call 36; refine (start_any _ _ (HL.out.below hb) (by omega) (by omega)).mono ?_; rintro e w' ⟨rfl, rfl⟩; rw [Int.toNat_natCast]))
      all_goals
        refine (isDate_yes _ _ ⟨by have := hinto.out; omega, by have := hinto.out; omega⟩).mono ?_
        rintro e w' ⟨rfl, rfl⟩
        go_wp2
        go_ret2
        exact ⟨ret_two (by have := hinto.out; rw [hn.out.1]; omega) hn.out.2.symm, hb⟩
    · have hn := Lib.hid (add_no hd (n := n) (fun h => c3 (by have := h.2.2; rw [hk, Int.toNat_natCast] at this; exact this)))
      clear hd hk
      go_enter Tryd.func29, Tryd.ntmps29
      go_wp2_with (first | (go_at_call 37; refine (isDate_yes _ _ Hd.out).mono ?_; rintro e w' ⟨rfl, rfl⟩))
      refine (month_any a _ HL.out Hd.out.1 Hd.out.2).mono ?_
      rintro e w1 ⟨rfl, hb⟩
      go_wp2_with fail
      refine (start_any _ _ (HL.out.below hb) (by omega) (by omega)).mono ?_; rintro e w' ⟨rfl, rfl⟩; rw [Int.toNat_natCast]
      go_wp2_with fail
      rw [Hk.out]
      clear hk2 Hk
      refine (start_any _ _ (HL.out.below hb) (by omega) (by omega)).mono ?_; rintro e w' ⟨rfl, rfl⟩; rw [show ((k : Int) + 1).toNat = k + 1 by omega]
      go_wp2_with (first | (go_at_call 36; refine (start_any _ _ (HL.out.below hb) (by omega) (by omega)).mono ?_; rintro e w' ⟨rfl, rfl⟩; rw [Int.toNat_natCast]))
      all_goals
        refine (isDate_no _ _ (fun h => by have := hinto.out; unfold Cal.IsD at h; omega)).mono ?_
        rintro e w' ⟨rfl, rfl⟩
        go_wp2
        go_ret2
        exact ⟨ret_two hn.out.1.symm hn.out.2.symm, hb⟩
  · have hn := Lib.hid (add_bad (n := n) hd)
    have Hd := Lib.hid hd; clear hd
    go_enter Tryd.func29, Tryd.ntmps29
    go_wp2_with (first | (go_at_call 37; refine (isDate_no _ _ Hd.out).mono ?_; rintro e w' ⟨rfl, rfl⟩))
    go_ret2
    exact ⟨ret_two hn.out.1.symm hn.out.2.symm, Below.refl _ _⟩

theorem months_is (a b : Int) : Cal.months a b = (Cal.mo b : Int) - Cal.mo a - if Cal.into a (Cal.mo b) ≤ b then 0 else 1 := rfl

set_option maxHeartbeats 1000000 in
theorem between_up (a b : Int) (w : World) (hL : Lens w) (ha : Cal.IsD a) (hb : Cal.IsD b) (hab : a ≤ b) :
    Calls Tryd.prog 30 #[.int .i64 a, .int .i64 b] w fun e w' => e = .returned (.tuple #[.int .i64 (Cal.months a b), .int .i64 0]) ∧ Below w.heap.size w w' := by
  have HL := Lib.hid hL; clear hL
  have Ha := Lib.hid ha
  have Hb := Lib.hid hb
  have hm := Cal.mo_mono ha hb hab
  obtain ⟨hm1, hm2, hm3⟩ := Cal.mo_spec b hb.1 hb.2
  have hk := Lib.hid (show ((Cal.mo a : Int) + ((Cal.mo b : Int) - Cal.mo a)).toNat = Cal.mo b by omega)
  by_cases c : Cal.into a (Cal.mo b) ≤ b
  · have hok := add_yes ha (n := (Cal.mo b : Int) - Cal.mo a) ⟨by omega, by omega, by rw [hk.out]; have := hb.2; omega⟩
    rw [hk.out] at hok
    have hn := Lib.hid hok
    have hf := Lib.hid (show Cal.months a b = (Cal.mo b : Int) - Cal.mo a by rw [months_is, if_pos c]; omega)
    have Hc := Lib.hid c
    clear ha hb hok c
    go_enter Tryd.func30, Tryd.ntmps30
    go_wp2_with (first | (go_at_call 37; (first | (with_reducible refine (isDate_yes a _ Ha.out).mono ?_) | (with_reducible refine (isDate_yes b _ Hb.out).mono ?_)); rintro e w' ⟨rfl, rfl⟩))
    refine (month_any b _ HL.out Hb.out.1 Hb.out.2).mono ?_
    rintro e w1 ⟨rfl, hb1⟩
    go_wp2_with fail
    refine (month_any a _ (HL.out.below hb1) Ha.out.1 Ha.out.2).mono ?_
    rintro e w2 ⟨rfl, hb2⟩
    go_wp2_with fail
    refine (add_any a _ _ ((HL.out.below hb1).below hb2)).mono ?_
    rintro e w3 ⟨rfl, hb3⟩
    rw [hn.out.1, hn.out.2]
    have c := Hc.out
    go_wp2
    go_ret2
    exact ⟨ret_two hf.out.symm rfl, below_next (below_next hb1 hb2) hb3⟩
  · have hf := Lib.hid (show Cal.months a b = (Cal.mo b : Int) - Cal.mo a - 1 by rw [months_is, if_neg c])
    have Hc := Lib.hid c
    by_cases c3 : Cal.into a (Cal.mo b) < 65536
    · have hok := add_yes ha (n := (Cal.mo b : Int) - Cal.mo a) ⟨by omega, by omega, by rw [hk.out]; exact c3⟩
      rw [hk.out] at hok
      have hn := Lib.hid hok
      clear ha hb hok c
      go_enter Tryd.func30, Tryd.ntmps30
      go_wp2_with (first | (go_at_call 37; (first | (with_reducible refine (isDate_yes a _ Ha.out).mono ?_) | (with_reducible refine (isDate_yes b _ Hb.out).mono ?_)); rintro e w' ⟨rfl, rfl⟩))
      refine (month_any b _ HL.out Hb.out.1 Hb.out.2).mono ?_
      rintro e w1 ⟨rfl, hb1⟩
      go_wp2_with fail
      refine (month_any a _ (HL.out.below hb1) Ha.out.1 Ha.out.2).mono ?_
      rintro e w2 ⟨rfl, hb2⟩
      go_wp2_with fail
      refine (add_any a _ _ ((HL.out.below hb1).below hb2)).mono ?_
      rintro e w3 ⟨rfl, hb3⟩
      rw [hn.out.1, hn.out.2]
      have c : b < Cal.into a (Cal.mo b) := Hc.out
      go_wp2
      go_ret2
      exact ⟨ret_two hf.out.symm rfl, below_next (below_next hb1 hb2) hb3⟩
    · have hn := Lib.hid (add_no ha (n := (Cal.mo b : Int) - Cal.mo a) (fun h => c3 (by have := h.2.2; rw [hk.out] at this; exact this)))
      clear ha hb c
      go_enter Tryd.func30, Tryd.ntmps30
      go_wp2_with (first | (go_at_call 37; (first | (with_reducible refine (isDate_yes a _ Ha.out).mono ?_) | (with_reducible refine (isDate_yes b _ Hb.out).mono ?_)); rintro e w' ⟨rfl, rfl⟩))
      refine (month_any b _ HL.out Hb.out.1 Hb.out.2).mono ?_
      rintro e w1 ⟨rfl, hb1⟩
      go_wp2_with fail
      refine (month_any a _ (HL.out.below hb1) Ha.out.1 Ha.out.2).mono ?_
      rintro e w2 ⟨rfl, hb2⟩
      go_wp2_with fail
      refine (add_any a _ _ ((HL.out.below hb1).below hb2)).mono ?_
      rintro e w3 ⟨rfl, hb3⟩
      rw [hn.out.1, hn.out.2]
      go_wp2
      go_ret2
      exact ⟨ret_two hf.out.symm rfl, below_next (below_next hb1 hb2) hb3⟩

set_option maxHeartbeats 1000000 in
theorem between_any (a b : Int) (w : World) (hL : Lens w) :
    Calls Tryd.prog 30 #[.int .i64 a, .int .i64 b] w fun e w' => e = .returned (.tuple #[.int .i64 (Cal.betv a b), .int .i64 (Cal.bete a b)]) ∧ Below w.heap.size w w' := by
  have HL := Lib.hid hL; clear hL
  by_cases ha : Cal.IsD a
  · by_cases hb : Cal.IsD b
    · by_cases hab : a ≤ b
      · have hn := Lib.hid (show Cal.betv a b = Cal.months a b ∧ Cal.bete a b = 0 by unfold Cal.betv Cal.bete; rw [if_pos ⟨ha, hb⟩, if_neg (by omega), if_pos ⟨ha, hb⟩]; exact ⟨rfl, rfl⟩)
        rw [hn.out.1, hn.out.2]
        exact between_up a b w HL.out ha hb hab
      · have hn := Lib.hid (show Cal.betv a b = -Cal.months b a ∧ Cal.bete a b = 0 by unfold Cal.betv Cal.bete; rw [if_pos ⟨ha, hb⟩, if_pos (by omega), if_pos ⟨ha, hb⟩]; exact ⟨rfl, rfl⟩)
        have Ha := Lib.hid ha
        have Hb := Lib.hid hb
        have hmb := Cal.months_bd hb ha (by omega)
        have hab' : b < a := by omega
        clear ha hb hab
        go_enter Tryd.func30, Tryd.ntmps30
        go_wp2_with (first | (go_at_call 37; (first | (with_reducible refine (isDate_yes a _ Ha.out).mono ?_) | (with_reducible refine (isDate_yes b _ Hb.out).mono ?_)); rintro e w' ⟨rfl, rfl⟩))
        refine (between_up b a _ HL.out Hb.out Ha.out (by omega)).mono ?_
        rintro e w1 ⟨rfl, hb1⟩
        go_wp2
        go_ret2
        exact ⟨ret_two hn.out.1.symm hn.out.2.symm, hb1⟩
    · have hn := Lib.hid (show Cal.betv a b = 0 ∧ Cal.bete a b = 2 by unfold Cal.betv Cal.bete; rw [if_neg (fun h => hb h.2), if_neg (fun h => hb h.2)]; exact ⟨rfl, rfl⟩)
      have Ha := Lib.hid ha
      have Hb := Lib.hid hb
      clear ha hb
      go_enter Tryd.func30, Tryd.ntmps30
      go_wp2_with (first | (go_at_call 37; (first | (with_reducible refine (isDate_yes a _ Ha.out).mono ?_) | (with_reducible refine (isDate_no b _ Hb.out).mono ?_)); rintro e w' ⟨rfl, rfl⟩))
      go_ret2
      exact ⟨ret_two hn.out.1.symm hn.out.2.symm, Below.refl _ _⟩
  · have hn := Lib.hid (show Cal.betv a b = 0 ∧ Cal.bete a b = 2 by unfold Cal.betv Cal.bete; rw [if_neg (fun h => ha h.1), if_neg (fun h => ha h.1)]; exact ⟨rfl, rfl⟩)
    have Ha := Lib.hid ha
    clear ha
    go_enter Tryd.func30, Tryd.ntmps30
    go_wp2_with (first | (go_at_call 37; (with_reducible refine (isDate_no a _ Ha.out).mono ?_); rintro e w' ⟨rfl, rfl⟩))
    go_ret2
    exact ⟨ret_two hn.out.1.symm hn.out.2.symm, Below.refl _ _⟩

end Go.Proofs.YtncnmokaamjlbaaDoor
