/- The reference's Before, Nth and Has. -/
import Derived.Test.YtgpbdocgnfjckaaGreatSpRf2
import Derived.Test.YtgpbdocgnfjckaaGreatSpPlain7
namespace Go.Proofs.YtgpbdocgnfjckaaGreat
open Go.RowKit Go.Shelf Sp

theorem valid_isS {l : Sps} (hv : validB l = true) : ∀ s ∈ l, isS s.1 s.2 = true := fun s hs => by
  obtain ⟨i, hi, rfl⟩ := List.mem_iff_getElem.1 hs
  have := valid_get hv hi
  exact isS_iff.2 (by omega)

set_option maxHeartbeats 2000000 in
set_option maxRecDepth 100000 in
theorem rbefore_ok (l : Sps) (day : Int) (p : Option Addr) (cap : Nat) (w : World) (hl : l.length ≤ 10000) (hv : validB l = true) (hc : Cells w p l) :
    Calls Tryz.prog 35 #[.slice p l.length cap, .int .i64 day] w fun e w' => e = .returned (.int .i64 (bef l day)) ∧ Below w.heap.size w w' := by
  have HV := Lib.hid hv
  have HC := Lib.hid hc
  have CV := Lib.hid (rvalid_is l true p cap w hv (by omega) hc)
  clear hv hc
  go_enter Tryz.func35, Tryz.ntmps35
  go_wp2_with fail
  refine CV.out.mono ?_
  rintro e W1 ⟨rfl, b1⟩
  have C1 := Lib.hid (HC.out.below b1)
  go_wp2_with fail
  refine (marks_any l p cap W1 (by omega) C1.out (valid_isS HV.out)).mono ?_
  rintro e W2 ⟨rfl, hm, b2⟩
  have B2 := Lib.hid (below_next b1 b2)
  have HM := Lib.hid hm
  clear b1 b2 hm C1 CV
  go_wp2
  go_loop [6, 7] (fun c d => ∃ e n : Int, 0 ≤ e ∧ e ≤ 65536 ∧ (e ≤ day ∨ e = 0) ∧ 0 ≤ n ∧ n ≤ e ∧ c = .int .i64 n ∧ d = .int .i64 e ∧ Hid (n = bef l e)) (fun _ d => (65536 - intOf d).toNat)
  case atStart => exact ⟨0, 0, by omega, by omega, .inr rfl, by omega, by omega, rfl, rfl, Lib.hid (bef_low HV.out (by omega)).symm⟩
  case round =>
    obtain ⟨e, n, he0, he1, hd, hn0, hn1, rfl, rfl, hN⟩ := hrel
    by_cases hlt : e < 65536
    · by_cases hday : e < day
      · have c0 : W2.cell? ⟨W1.heap.size, e.toNat, none⟩ = some (.bool (mem l e)) := by
          have := HM.out.cell e.toNat (by omega)
          rwa [Int.toNat_of_nonneg he0] at this
        have hs := Lib.hid (bef_succ HV.out e)
        obtain ⟨b, hb⟩ : ∃ b, b = mem l e := ⟨_, rfl⟩
        rw [← hb] at c0
        rw [← hb, ← hN.out] at hs
        clear hb
        have k1 : e < ((65536 : Nat) : Int) := by omega
        cases b with
        | true =>
          go_wp2
          go_round
          case rel => exact ⟨e + 1, n + 1, by omega, by omega, by omega, by omega, by omega, by go_num, by go_num, Lib.hid (by rw [hs.out]; rfl)⟩
          case measure => simp [intOf]; omega
        | false =>
          go_wp2
          go_round
          case rel => exact ⟨e + 1, n, by omega, by omega, by omega, by omega, by omega, rfl, by go_num, Lib.hid (by rw [hs.out]; simp)⟩
          case measure => simp [intOf]; omega
      · have hr : Hid (n = bef l day) := Lib.hid (by
          rcases hd with h | h
          · rw [hN.out, show e = day by omega]
          · rw [hN.out, h, bef_low HV.out (by omega), bef_low HV.out (by omega)])
        go_wp2
        go_ret
        exact ⟨ret_int hr.out, B2.out⟩
    · have hr : Hid (n = bef l day) := Lib.hid (by
        rw [hN.out, show e = 65536 by omega]
        exact (bef_high HV.out (by omega)).symm)
      go_wp2
      go_ret
      exact ⟨ret_int hr.out, B2.out⟩

theorem rbefore_any (l : Sps) (day : Int) (p : Option Addr) (cap : Nat) (w : World) (hl : l.length ≤ 10000) (hc : Cells w p l) :
    Calls Tryz.prog 35 #[.slice p l.length cap, .int .i64 day] w fun e w' => e = .returned (.int .i64 (befv l day)) ∧ Below w.heap.size w w' := by
  unfold befv
  cases hv : validB l with
  | true => rw [if_pos rfl]; exact rbefore_ok l day p cap w hl hv hc
  | false =>
    rw [if_neg (by decide)]
    have CV := Lib.hid (rvalid_is l false p cap w hv (by omega) hc)
    clear hc hv
    go_enter Tryz.func35, Tryz.ntmps35
    go_wp2_with fail
    refine CV.out.mono ?_
    rintro e W1 ⟨rfl, b1⟩
    go_wp2
    go_ret
    exact ⟨rfl, b1⟩

theorem ret_pair {a b : Int} {x y : Bool} (h : a = b) (h2 : x = y) : Ending.returned (.tuple #[.int .i64 a, .bool x]) = .returned (.tuple #[.int .i64 b, .bool y]) := by rw [h, h2]
theorem wrap_low (x : Int) (h0 : -9223372036854775808 ≤ x) (h1 : x ≤ 9223372036854775807) : IntKind.i64.wrap (x - 1) = if x = -9223372036854775808 then 9223372036854775807 else x - 1 := by
  split
  · rename_i h; subst h; rfl
  · exact IntWalk.i64_in _ (by omega)

set_option maxHeartbeats 2000000 in
set_option maxRecDepth 100000 in
theorem rnth_ok (l : Sps) (n : Int) (p : Option Addr) (cap : Nat) (w : World) (hl : l.length ≤ 10000) (hv : validB l = true) (hn : 0 ≤ n) (hn1 : n ≤ 9223372036854775807) (hc : Cells w p l) :
    Calls Tryz.prog 29 #[.slice p l.length cap, .int .i64 n] w fun e w' => e = .returned (.tuple #[.int .i64 ((nth l n).getD 0), .bool (nth l n).isSome]) ∧ Below w.heap.size w w' := by
  have HV := Lib.hid hv
  have HC := Lib.hid hc
  have CV := Lib.hid (rvalid_is l true p cap w hv (by omega) hc)
  clear hv hc
  go_enter Tryz.func29, Tryz.ntmps29
  go_wp2_with fail
  refine CV.out.mono ?_
  rintro e W1 ⟨rfl, b1⟩
  have C1 := Lib.hid (HC.out.below b1)
  go_wp2_with fail
  refine (marks_any l p cap W1 (by omega) C1.out (valid_isS HV.out)).mono ?_
  rintro e W2 ⟨rfl, hm, b2⟩
  have B2 := Lib.hid (below_next b1 b2)
  have HM := Lib.hid hm
  clear b1 b2 hm C1 CV
  go_wp2
  go_loop [1, 7] (fun c d => ∃ e x : Int, 0 ≤ e ∧ e ≤ 65536 ∧ 0 ≤ x ∧ x ≤ 9223372036854775807 ∧ c = .int .i64 x ∧ d = .int .i64 e ∧ Hid (x = n - bef l e)) (fun _ d => (65536 - intOf d).toNat)
  case atStart => exact ⟨0, n, by omega, by omega, by omega, by omega, rfl, rfl, Lib.hid (by rw [bef_low HV.out (by omega)]; omega)⟩
  case round =>
    obtain ⟨e, x, he0, he1, hx0, hx1, rfl, rfl, hN⟩ := hrel
    by_cases hlt : e < 65536
    · have c0 : W2.cell? ⟨W1.heap.size, e.toNat, none⟩ = some (.bool (mem l e)) := by
        have := HM.out.cell e.toNat (by omega)
        rwa [Int.toNat_of_nonneg he0] at this
      have hs := Lib.hid (bef_succ HV.out e)
      have hnb := Lib.hid (fun h : mem l e = true => nth_bef HV.out h)
      obtain ⟨b, hb⟩ : ∃ b, b = mem l e := ⟨_, rfl⟩
      rw [← hb] at c0 hs hnb
      have k1 : e < ((65536 : Nat) : Int) := by omega
      clear hb
      cases b with
      | true =>
        by_cases hx : x = 0
        · have hr := Lib.hid (show nth l n = some e by
            have h1 := hnb.out rfl
            have h2 := hN.out
            rw [show bef l e = n by omega] at h1; exact h1)
          have t1 : ((x : Int) == 0) = true := by rw [beq_iff_eq]; exact hx
          have q1 := Lib.hid (show (nth l n).getD 0 = e by rw [hr.out]; rfl)
          have q2 := Lib.hid (show (nth l n).isSome = true by rw [hr.out]; rfl)
          clear hnb hs hx
          go_wp2
          go_ret2
          exact ⟨ret_pair q1.out.symm q2.out.symm, B2.out⟩
        · have t1 : ((x : Int) == 0) = false := beq_eq_false_iff_ne.2 hx
          have hN2 := Lib.hid (show x - 1 = n - bef l (e + 1) by rw [hs.out, hN.out]; simp; omega)
          have hx2 : 0 ≤ x - 1 := by omega
          clear hnb hs hx
          go_wp2
          go_round
          case rel => exact ⟨e + 1, x - 1, by omega, by omega, by omega, by omega, by go_num, by go_num, hN2⟩
          case measure => simp [intOf]; omega
      | false =>
        have hN2 := Lib.hid (show x = n - bef l (e + 1) by rw [hs.out, hN.out]; simp)
        clear hnb hs
        go_wp2
        go_round
        case rel => exact ⟨e + 1, x, by omega, by omega, by omega, by omega, rfl, by go_num, hN2⟩
        case measure => simp [intOf]; omega
    · have hr : Hid (nth l n = none) := Lib.hid (by
        have h1 := nth_some HV.out hn
        have h2 := hN.out
        rw [show e = 65536 by omega] at h2
        rw [decide_eq_false (by omega)] at h1
        cases h : nth l n with
        | none => rfl
        | some y => rw [h] at h1; cases h1)
      have q1 := Lib.hid (show (nth l n).getD 0 = 0 by rw [hr.out]; rfl)
      have q2 := Lib.hid (show (nth l n).isSome = false by rw [hr.out]; rfl)
      go_wp2
      go_ret2
      exact ⟨ret_pair q1.out.symm q2.out.symm, B2.out⟩

set_option maxHeartbeats 2000000 in
set_option maxRecDepth 100000 in
theorem rnth_neg (l : Sps) (n : Int) (p : Option Addr) (cap : Nat) (w : World) (hl : l.length ≤ 10000) (hv : validB l = true) (hn : n < 0) (hn1 : -9223372036854775808 ≤ n) (hc : Cells w p l) :
    Calls Tryz.prog 29 #[.slice p l.length cap, .int .i64 n] w fun e w' => e = .returned (.tuple #[.int .i64 0, .bool false]) ∧ Below w.heap.size w w' := by
  have HV := Lib.hid hv
  have HC := Lib.hid hc
  have CV := Lib.hid (rvalid_is l true p cap w hv (by omega) hc)
  clear hv hc
  go_enter Tryz.func29, Tryz.ntmps29
  go_wp2_with fail
  refine CV.out.mono ?_
  rintro e W1 ⟨rfl, b1⟩
  have C1 := Lib.hid (HC.out.below b1)
  go_wp2_with fail
  refine (marks_any l p cap W1 (by omega) C1.out (valid_isS HV.out)).mono ?_
  rintro e W2 ⟨rfl, hm, b2⟩
  have B2 := Lib.hid (below_next b1 b2)
  have HM := Lib.hid hm
  clear b1 b2 hm C1 CV
  go_wp2
  go_loop [1, 7] (fun c d => ∃ e x : Int, 0 ≤ e ∧ e ≤ 65536 ∧ -9223372036854775808 ≤ x ∧ x ≤ 9223372036854775807 ∧ c = .int .i64 x ∧ d = .int .i64 e ∧ Hid (∃ j : Int, 0 ≤ j ∧ j ≤ e ∧ (x = n - j ∨ x = n - j + 18446744073709551616))) (fun _ d => (65536 - intOf d).toNat)
  case atStart => exact ⟨0, n, by omega, by omega, by omega, by omega, rfl, rfl, Lib.hid ⟨0, by omega, by omega, .inl (by omega)⟩⟩
  case round =>
    obtain ⟨e, x, he0, he1, hx0, hx1, rfl, rfl, hN⟩ := hrel
    by_cases hlt : e < 65536
    · have c0 : W2.cell? ⟨W1.heap.size, e.toNat, none⟩ = some (.bool (mem l e)) := by
        have := HM.out.cell e.toNat (by omega)
        rwa [Int.toNat_of_nonneg he0] at this
      obtain ⟨b, hb⟩ : ∃ b, b = mem l e := ⟨_, rfl⟩
      rw [← hb] at c0
      have k1 : e < ((65536 : Nat) : Int) := by omega
      have t1 : ((x : Int) == 0) = false := beq_eq_false_iff_ne.2 (by obtain ⟨j, h1, h2, h3⟩ := hN.out; omega)
      clear hb
      cases b with
      | true =>
        by_cases hx : x = -9223372036854775808
        · have kw : IntKind.i64.wrap (x - 1) = 9223372036854775807 := by rw [wrap_low x hx0 hx1, if_pos hx]
          have hN2 : Hid (∃ j : Int, 0 ≤ j ∧ j ≤ e + 1 ∧ ((9223372036854775807 : Int) = n - j ∨ (9223372036854775807 : Int) = n - j + 18446744073709551616)) := Lib.hid (by
            obtain ⟨j, h1, h2, h3⟩ := hN.out
            exact ⟨j + 1, by omega, by omega, by omega⟩)
          have HX := Lib.hid hx
          clear hN hx
          go_wp2
          go_round
          case rel => exact ⟨e + 1, _, by omega, by omega, by omega, by omega, rfl, by go_num, hN2⟩
          case measure => simp [intOf]; omega
        · have kw : IntKind.i64.wrap (x - 1) = x - 1 := by rw [wrap_low x hx0 hx1, if_neg hx]
          have hN2 : Hid (∃ j : Int, 0 ≤ j ∧ j ≤ e + 1 ∧ (x - 1 = n - j ∨ x - 1 = n - j + 18446744073709551616)) := Lib.hid (by
            obtain ⟨j, h1, h2, h3⟩ := hN.out
            exact ⟨j + 1, by omega, by omega, by omega⟩)
          have hx2 : -9223372036854775808 ≤ x - 1 := by omega
          clear hN hx
          go_wp2
          go_round
          case rel => exact ⟨e + 1, x - 1, by omega, by omega, by omega, by omega, by go_num, by go_num, hN2⟩
          case measure => simp [intOf]; omega
      | false =>
        have hN2 : Hid (∃ j : Int, 0 ≤ j ∧ j ≤ e + 1 ∧ (x = n - j ∨ x = n - j + 18446744073709551616)) := Lib.hid (by
          obtain ⟨j, h1, h2, h3⟩ := hN.out
          exact ⟨j, by omega, by omega, h3⟩)
        clear hN
        go_wp2
        go_round
        case rel => exact ⟨e + 1, x, by omega, by omega, by omega, by omega, rfl, by go_num, hN2⟩
        case measure => simp [intOf]; omega
    · go_wp2
      go_ret2
      exact ⟨rfl, B2.out⟩

theorem rnth_bad (l : Sps) (n : Int) (p : Option Addr) (cap : Nat) (w : World) (hl : l.length ≤ 10000) (hv : validB l = false) (hc : Cells w p l) :
    Calls Tryz.prog 29 #[.slice p l.length cap, .int .i64 n] w fun e w' => e = .returned (.tuple #[.int .i64 0, .bool false]) ∧ Below w.heap.size w w' := by
  have CV := Lib.hid (rvalid_is l false p cap w hv (by omega) hc)
  clear hc hv
  go_enter Tryz.func29, Tryz.ntmps29
  go_wp2_with fail
  refine CV.out.mono ?_
  rintro e W1 ⟨rfl, b1⟩
  go_wp2
  go_ret2
  exact ⟨rfl, b1⟩

set_option maxHeartbeats 2000000 in
theorem rhas_any (l : Sps) (day : Int) (p : Option Addr) (cap : Nat) (w : World) (hl : l.length ≤ 10000) (hc : Cells w p l) :
    Calls Tryz.prog 33 #[.slice p l.length cap, .int .i64 day] w fun e w' => e = .returned (.bool (validB l && mem l day)) ∧ Below w.heap.size w w' := by
  have HC := Lib.hid hc
  cases hv : validB l with
  | false =>
    have CV := Lib.hid (rvalid_is l false p cap w hv (by omega) hc)
    clear hc hv
    go_enter Tryz.func33, Tryz.ntmps33
    go_wp2_with fail
    refine CV.out.mono ?_
    rintro e W1 ⟨rfl, b1⟩
    go_wp2
    go_ret
    exact ⟨rfl, b1⟩
  | true =>
    have CV := Lib.hid (rvalid_is l true p cap w hv (by omega) hc)
    have HV := Lib.hid hv
    clear hc hv
    by_cases h0 : 0 ≤ day
    · by_cases h1 : day < 65536
      · go_enter Tryz.func33, Tryz.ntmps33
        go_wp2_with fail
        refine CV.out.mono ?_
        rintro e W1 ⟨rfl, b1⟩
        have C1 := Lib.hid (HC.out.below b1)
        go_wp2_with fail
        refine (marks_any l p cap W1 (by omega) C1.out (valid_isS HV.out)).mono ?_
        rintro e W2 ⟨rfl, hm, b2⟩
        have B2 := Lib.hid (below_next b1 b2)
        have c0 : W2.cell? ⟨W1.heap.size, day.toNat, none⟩ = some (.bool (mem l day)) := by
          have := hm.cell day.toNat (by omega)
          rwa [Int.toNat_of_nonneg h0] at this
        have k1 : day < ((65536 : Nat) : Int) := by omega
        clear b1 b2 hm C1 CV
        go_wp2
        go_ret
        exact ⟨ret_bool (by simp), B2.out⟩
      · have hr := Lib.hid (show mem l day = false by
          rw [← Bool.not_eq_true]; intro h; have := mem_bd HV.out _ h; omega)
        go_enter Tryz.func33, Tryz.ntmps33
        go_wp2_with fail
        refine CV.out.mono ?_
        rintro e W1 ⟨rfl, b1⟩
        go_wp2
        go_ret
        exact ⟨ret_bool (by rw [hr.out]), b1⟩
    · have hr := Lib.hid (show mem l day = false by
        rw [← Bool.not_eq_true]; intro h; have := mem_bd HV.out _ h; omega)
      go_enter Tryz.func33, Tryz.ntmps33
      go_wp2_with fail
      refine CV.out.mono ?_
      rintro e W1 ⟨rfl, b1⟩
      go_wp2
      go_ret
      exact ⟨ret_bool (by rw [hr.out]), b1⟩

end Go.Proofs.YtgpbdocgnfjckaaGreat
