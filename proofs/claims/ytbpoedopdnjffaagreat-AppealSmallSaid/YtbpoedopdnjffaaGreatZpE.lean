/- wellFormed. -/
import Derived.Test.YtbpoedopdnjffaaGreatZpD
namespace Go.Proofs.YtbpoedopdnjffaaGreat
open Go.RowKit Go.Shelf Sp

theorem within_any (a b c : Int) (W : World) : Calls Tryz.prog 51 #[.int .i64 a, .int .i64 b, .int .i64 c] W fun e w' => e = .returned (.bool (decide (b ≤ a) && decide (a ≤ c))) ∧ W = w' := by
  by_cases h : b ≤ a
  · have hf := Lib.hid (show (decide (b ≤ a) && decide (a ≤ c)) = decide (a ≤ c) by simp [h])
    go_enter Tryz.func51, Tryz.ntmps51
    go_wp2
    go_ret
    exact ⟨ret_bool hf.out.symm, rfl⟩
  · have hf := Lib.hid (show (decide (b ≤ a) && decide (a ≤ c)) = false by simp [h])
    go_enter Tryz.func51, Tryz.ntmps51
    go_wp2
    go_ret
    exact ⟨ret_bool hf.out.symm, rfl⟩
theorem within_is (a b c : Int) (x : Bool) (h : (decide (b ≤ a) && decide (a ≤ c)) = x) (W : World) : Calls Tryz.prog 51 #[.int .i64 a, .int .i64 b, .int .i64 c] W fun e w' => e = .returned (.bool x) ∧ W = w' := by
  subst h; exact within_any a b c W
theorem isDay_is (d : Int) (x : Bool) (h : (decide (0 ≤ d) && decide (d ≤ 65535)) = x) (w : World) : Calls Tryz.prog 29 #[.int .i64 d] w fun e w' => e = .returned (.bool x) ∧ w = w' := by
  subst h; exact isDay_any d w

set_option maxHeartbeats 4000000 in
set_option maxRecDepth 100000 in
theorem form_1 (day case n til : Int) (hold : Bool) (w : World) (hd : 0 ≤ day ∧ day ≤ 65535) (b : Bool) (hb : wf ⟨1, day, case, n, til, hold⟩ = b) :
    Calls Tryz.prog 48 #[flAgg ⟨1, day, case, n, til, hold⟩] w fun e w' => e = .returned (.bool b) ∧ Below w.heap.size w w' := by
  unfold flAgg
  have CD := Lib.hid (isDay_is day true (by simp [hd.1, hd.2]))
  by_cases hcase : case = 0
  · subst hcase
    cases hold with
    | true =>
      have hf := Lib.hid (show b = false by rw [← hb]; simp [wf, hd.1, hd.2])
      clear hb
      go_enter Tryz.func48, Tryz.ntmps48
      go_wp2_with fail
      refine (CD.out _).mono ?_
      rintro e w1 ⟨rfl, rfl⟩
      go_wp2
      go_region
      go_wp2
      go_ret
      exact ⟨ret_bool hf.out.symm, (((Below.refl _ _).alloc (Nat.le_refl _) _).alloc (by simp) _).drew⟩
    | false =>
      by_cases wn : 2 ≤ n ∧ n ≤ 9
      · by_cases wtil : day ≤ til ∧ til ≤ 65535
        · have hf := Lib.hid (show b = true by rw [← hb]; simp [wf, hd.1, hd.2, wn.1, wn.2, wtil.1, wtil.2])
          clear hb
          have Cn := Lib.hid (within_is n 2 9 true (by simp [wn.1, wn.2]))
          have Ctil := Lib.hid (within_is til day 65535 true (by simp [wtil.1, wtil.2]))
          go_enter Tryz.func48, Tryz.ntmps48
          go_wp2_with fail
          refine (CD.out _).mono ?_
          rintro e w1 ⟨rfl, rfl⟩
          go_wp2
          go_region
          go_wp2_with fail
          refine (Cn.out _).mono ?_
          rintro e w1 ⟨rfl, rfl⟩
          go_wp2_with fail
          refine (Ctil.out _).mono ?_
          rintro e w1 ⟨rfl, rfl⟩
          go_wp2
          go_ret
          exact ⟨ret_bool hf.out.symm, (((Below.refl _ _).alloc (Nat.le_refl _) _).alloc (by simp) _).drew⟩
        · have wtil' : (decide (day ≤ til) && decide (til ≤ 65535)) = false := by rw [← Bool.not_eq_true]; simpa using wtil
          have hf := Lib.hid (show b = false by rw [← hb]; simp [wf, hd.1, hd.2, wn.1, wn.2, wtil'])
          clear hb
          have Cn := Lib.hid (within_is n 2 9 true (by simp [wn.1, wn.2]))
          have Ctil := Lib.hid (within_is til day 65535 false wtil')
          go_enter Tryz.func48, Tryz.ntmps48
          go_wp2_with fail
          refine (CD.out _).mono ?_
          rintro e w1 ⟨rfl, rfl⟩
          go_wp2
          go_region
          go_wp2_with fail
          refine (Cn.out _).mono ?_
          rintro e w1 ⟨rfl, rfl⟩
          go_wp2_with fail
          refine (Ctil.out _).mono ?_
          rintro e w1 ⟨rfl, rfl⟩
          go_wp2
          go_ret
          exact ⟨ret_bool hf.out.symm, (((Below.refl _ _).alloc (Nat.le_refl _) _).alloc (by simp) _).drew⟩
      · have wn' : (decide (2 ≤ n) && decide (n ≤ 9)) = false := by rw [← Bool.not_eq_true]; simpa using wn
        have hf := Lib.hid (show b = false by rw [← hb]; simp [wf, hd.1, hd.2, wn'])
        clear hb
        have Cn := Lib.hid (within_is n 2 9 false wn')
        go_enter Tryz.func48, Tryz.ntmps48
        go_wp2_with fail
        refine (CD.out _).mono ?_
        rintro e w1 ⟨rfl, rfl⟩
        go_wp2
        go_region
        go_wp2_with fail
        refine (Cn.out _).mono ?_
        rintro e w1 ⟨rfl, rfl⟩
        go_wp2
        go_ret
        exact ⟨ret_bool hf.out.symm, (((Below.refl _ _).alloc (Nat.le_refl _) _).alloc (by simp) _).drew⟩
  · have hcaseb : (case == 0) = false := by simpa using hcase
    have hf := Lib.hid (show b = false by rw [← hb]; simp [wf, hd.1, hd.2, hcase])
    clear hb
    go_enter Tryz.func48, Tryz.ntmps48
    go_wp2_with fail
    refine (CD.out _).mono ?_
    rintro e w1 ⟨rfl, rfl⟩
    go_wp2
    go_region
    go_wp2
    go_ret
    exact ⟨ret_bool hf.out.symm, (((Below.refl _ _).alloc (Nat.le_refl _) _).alloc (by simp) _).drew⟩

set_option maxHeartbeats 4000000 in
set_option maxRecDepth 100000 in
theorem form_4 (day case n til : Int) (hold : Bool) (w : World) (hd : 0 ≤ day ∧ day ≤ 65535) (b : Bool) (hb : wf ⟨4, day, case, n, til, hold⟩ = b) :
    Calls Tryz.prog 48 #[flAgg ⟨4, day, case, n, til, hold⟩] w fun e w' => e = .returned (.bool b) ∧ Below w.heap.size w w' := by
  unfold flAgg
  have CD := Lib.hid (isDay_is day true (by simp [hd.1, hd.2]))
  by_cases hcase : case = 0
  · subst hcase
    by_cases htil : til = 0
    · subst htil
      cases hold with
      | true =>
        have hf := Lib.hid (show b = false by rw [← hb]; simp [wf, hd.1, hd.2])
        clear hb
        go_enter Tryz.func48, Tryz.ntmps48
        go_wp2_with fail
        refine (CD.out _).mono ?_
        rintro e w1 ⟨rfl, rfl⟩
        go_wp2
        go_ret
        exact ⟨ret_bool hf.out.symm, ((Below.refl _ _).alloc (Nat.le_refl _) _).alloc (by simp) _⟩
      | false =>
        by_cases wn : 1 ≤ n ∧ n ≤ 400
        · have hf := Lib.hid (show b = true by rw [← hb]; simp [wf, hd.1, hd.2, wn.1, wn.2])
          clear hb
          have Cn := Lib.hid (within_is n 1 400 true (by simp [wn.1, wn.2]))
          go_enter Tryz.func48, Tryz.ntmps48
          go_wp2_with fail
          refine (CD.out _).mono ?_
          rintro e w1 ⟨rfl, rfl⟩
          go_wp2_with fail
          refine (Cn.out _).mono ?_
          rintro e w1 ⟨rfl, rfl⟩
          go_wp2
          go_ret
          exact ⟨ret_bool hf.out.symm, ((Below.refl _ _).alloc (Nat.le_refl _) _).alloc (by simp) _⟩
        · have wn' : (decide (1 ≤ n) && decide (n ≤ 400)) = false := by rw [← Bool.not_eq_true]; simpa using wn
          have hf := Lib.hid (show b = false by rw [← hb]; simp [wf, hd.1, hd.2, wn'])
          clear hb
          have Cn := Lib.hid (within_is n 1 400 false wn')
          go_enter Tryz.func48, Tryz.ntmps48
          go_wp2_with fail
          refine (CD.out _).mono ?_
          rintro e w1 ⟨rfl, rfl⟩
          go_wp2_with fail
          refine (Cn.out _).mono ?_
          rintro e w1 ⟨rfl, rfl⟩
          go_wp2
          go_ret
          exact ⟨ret_bool hf.out.symm, ((Below.refl _ _).alloc (Nat.le_refl _) _).alloc (by simp) _⟩
    · have htilb : (til == 0) = false := by simpa using htil
      have hf := Lib.hid (show b = false by rw [← hb]; simp [wf, hd.1, hd.2, htil])
      clear hb
      go_enter Tryz.func48, Tryz.ntmps48
      go_wp2_with fail
      refine (CD.out _).mono ?_
      rintro e w1 ⟨rfl, rfl⟩
      go_wp2
      go_ret
      exact ⟨ret_bool hf.out.symm, ((Below.refl _ _).alloc (Nat.le_refl _) _).alloc (by simp) _⟩
  · have hcaseb : (case == 0) = false := by simpa using hcase
    have hf := Lib.hid (show b = false by rw [← hb]; simp [wf, hd.1, hd.2, hcase])
    clear hb
    go_enter Tryz.func48, Tryz.ntmps48
    go_wp2_with fail
    refine (CD.out _).mono ?_
    rintro e w1 ⟨rfl, rfl⟩
    go_wp2
    go_ret
    exact ⟨ret_bool hf.out.symm, ((Below.refl _ _).alloc (Nat.le_refl _) _).alloc (by simp) _⟩

set_option maxHeartbeats 4000000 in
set_option maxRecDepth 100000 in
theorem form_2 (day case n til : Int) (hold : Bool) (w : World) (hd : 0 ≤ day ∧ day ≤ 65535) (hc : 1 ≤ case) (b : Bool) (hb : wf ⟨2, day, case, n, til, hold⟩ = b) :
    Calls Tryz.prog 48 #[flAgg ⟨2, day, case, n, til, hold⟩] w fun e w' => e = .returned (.bool b) ∧ Below w.heap.size w w' := by
  unfold flAgg
  have CD := Lib.hid (isDay_is day true (by simp [hd.1, hd.2]))
  by_cases htil : til = 0
  · subst htil
    cases hold with
    | true =>
      have hf := Lib.hid (show b = false by rw [← hb]; simp [wf, hd.1, hd.2, hc])
      clear hb
      go_enter Tryz.func48, Tryz.ntmps48
      go_wp2_with fail
      refine (CD.out _).mono ?_
      rintro e w1 ⟨rfl, rfl⟩
      go_wp2
      go_ret
      exact ⟨ret_bool hf.out.symm, ((Below.refl _ _).alloc (Nat.le_refl _) _).alloc (by simp) _⟩
    | false =>
      by_cases wn : 1 ≤ n ∧ n ≤ 9
      · have hf := Lib.hid (show b = true by rw [← hb]; simp [wf, hd.1, hd.2, hc, wn.1, wn.2])
        clear hb
        have Cn := Lib.hid (within_is n 1 9 true (by simp [wn.1, wn.2]))
        go_enter Tryz.func48, Tryz.ntmps48
        go_wp2_with fail
        refine (CD.out _).mono ?_
        rintro e w1 ⟨rfl, rfl⟩
        go_wp2_with fail
        refine (Cn.out _).mono ?_
        rintro e w1 ⟨rfl, rfl⟩
        go_wp2
        go_ret
        exact ⟨ret_bool hf.out.symm, ((Below.refl _ _).alloc (Nat.le_refl _) _).alloc (by simp) _⟩
      · have wn' : (decide (1 ≤ n) && decide (n ≤ 9)) = false := by rw [← Bool.not_eq_true]; simpa using wn
        have hf := Lib.hid (show b = false by rw [← hb]; simp [wf, hd.1, hd.2, hc, wn'])
        clear hb
        have Cn := Lib.hid (within_is n 1 9 false wn')
        go_enter Tryz.func48, Tryz.ntmps48
        go_wp2_with fail
        refine (CD.out _).mono ?_
        rintro e w1 ⟨rfl, rfl⟩
        go_wp2_with fail
        refine (Cn.out _).mono ?_
        rintro e w1 ⟨rfl, rfl⟩
        go_wp2
        go_ret
        exact ⟨ret_bool hf.out.symm, ((Below.refl _ _).alloc (Nat.le_refl _) _).alloc (by simp) _⟩
  · have htilb : (til == 0) = false := by simpa using htil
    have hf := Lib.hid (show b = false by rw [← hb]; simp [wf, hd.1, hd.2, hc, htil])
    clear hb
    go_enter Tryz.func48, Tryz.ntmps48
    go_wp2_with fail
    refine (CD.out _).mono ?_
    rintro e w1 ⟨rfl, rfl⟩
    go_wp2
    go_ret
    exact ⟨ret_bool hf.out.symm, ((Below.refl _ _).alloc (Nat.le_refl _) _).alloc (by simp) _⟩

set_option maxHeartbeats 4000000 in
set_option maxRecDepth 100000 in
theorem form_3 (day case n til : Int) (hold : Bool) (w : World) (hd : 0 ≤ day ∧ day ≤ 65535) (hc : 1 ≤ case) (b : Bool) (hb : wf ⟨3, day, case, n, til, hold⟩ = b) :
    Calls Tryz.prog 48 #[flAgg ⟨3, day, case, n, til, hold⟩] w fun e w' => e = .returned (.bool b) ∧ Below w.heap.size w w' := by
  unfold flAgg
  have CD := Lib.hid (isDay_is day true (by simp [hd.1, hd.2]))
  by_cases hn : n = 0
  · subst hn
    by_cases htil : til = 0
    · subst htil
      cases hold with
      | true =>
        have hf := Lib.hid (show b = false by rw [← hb]; simp [wf, hd.1, hd.2, hc])
        clear hb
        go_enter Tryz.func48, Tryz.ntmps48
        go_wp2_with fail
        refine (CD.out _).mono ?_
        rintro e w1 ⟨rfl, rfl⟩
        go_wp2
        go_ret
        exact ⟨ret_bool hf.out.symm, ((Below.refl _ _).alloc (Nat.le_refl _) _).alloc (by simp) _⟩
      | false =>
        have hf := Lib.hid (show b = true by rw [← hb]; simp [wf, hd.1, hd.2, hc])
        clear hb
        go_enter Tryz.func48, Tryz.ntmps48
        go_wp2_with fail
        refine (CD.out _).mono ?_
        rintro e w1 ⟨rfl, rfl⟩
        go_wp2
        go_ret
        exact ⟨ret_bool hf.out.symm, ((Below.refl _ _).alloc (Nat.le_refl _) _).alloc (by simp) _⟩
    · have htilb : (til == 0) = false := by simpa using htil
      have hf := Lib.hid (show b = false by rw [← hb]; simp [wf, hd.1, hd.2, hc, htil])
      clear hb
      go_enter Tryz.func48, Tryz.ntmps48
      go_wp2_with fail
      refine (CD.out _).mono ?_
      rintro e w1 ⟨rfl, rfl⟩
      go_wp2
      go_ret
      exact ⟨ret_bool hf.out.symm, ((Below.refl _ _).alloc (Nat.le_refl _) _).alloc (by simp) _⟩
  · have hnb : (n == 0) = false := by simpa using hn
    have hf := Lib.hid (show b = false by rw [← hb]; simp [wf, hd.1, hd.2, hc, hn])
    clear hb
    go_enter Tryz.func48, Tryz.ntmps48
    go_wp2_with fail
    refine (CD.out _).mono ?_
    rintro e w1 ⟨rfl, rfl⟩
    go_wp2
    go_ret
    exact ⟨ret_bool hf.out.symm, ((Below.refl _ _).alloc (Nat.le_refl _) _).alloc (by simp) _⟩

set_option maxHeartbeats 4000000 in
set_option maxRecDepth 100000 in
theorem form_7 (day case n til : Int) (hold : Bool) (w : World) (hd : 0 ≤ day ∧ day ≤ 65535) (hc : 1 ≤ case) (b : Bool) (hb : wf ⟨7, day, case, n, til, hold⟩ = b) :
    Calls Tryz.prog 48 #[flAgg ⟨7, day, case, n, til, hold⟩] w fun e w' => e = .returned (.bool b) ∧ Below w.heap.size w w' := by
  unfold flAgg
  have CD := Lib.hid (isDay_is day true (by simp [hd.1, hd.2]))
  by_cases hn : n = 0
  · subst hn
    by_cases htil : til = 0
    · subst htil
      cases hold with
      | true =>
        have hf := Lib.hid (show b = false by rw [← hb]; simp [wf, hd.1, hd.2, hc])
        clear hb
        go_enter Tryz.func48, Tryz.ntmps48
        go_wp2_with fail
        refine (CD.out _).mono ?_
        rintro e w1 ⟨rfl, rfl⟩
        go_wp2
        go_ret
        exact ⟨ret_bool hf.out.symm, ((Below.refl _ _).alloc (Nat.le_refl _) _).alloc (by simp) _⟩
      | false =>
        have hf := Lib.hid (show b = true by rw [← hb]; simp [wf, hd.1, hd.2, hc])
        clear hb
        go_enter Tryz.func48, Tryz.ntmps48
        go_wp2_with fail
        refine (CD.out _).mono ?_
        rintro e w1 ⟨rfl, rfl⟩
        go_wp2
        go_ret
        exact ⟨ret_bool hf.out.symm, ((Below.refl _ _).alloc (Nat.le_refl _) _).alloc (by simp) _⟩
    · have htilb : (til == 0) = false := by simpa using htil
      have hf := Lib.hid (show b = false by rw [← hb]; simp [wf, hd.1, hd.2, hc, htil])
      clear hb
      go_enter Tryz.func48, Tryz.ntmps48
      go_wp2_with fail
      refine (CD.out _).mono ?_
      rintro e w1 ⟨rfl, rfl⟩
      go_wp2
      go_ret
      exact ⟨ret_bool hf.out.symm, ((Below.refl _ _).alloc (Nat.le_refl _) _).alloc (by simp) _⟩
  · have hnb : (n == 0) = false := by simpa using hn
    have hf := Lib.hid (show b = false by rw [← hb]; simp [wf, hd.1, hd.2, hc, hn])
    clear hb
    go_enter Tryz.func48, Tryz.ntmps48
    go_wp2_with fail
    refine (CD.out _).mono ?_
    rintro e w1 ⟨rfl, rfl⟩
    go_wp2
    go_ret
    exact ⟨ret_bool hf.out.symm, ((Below.refl _ _).alloc (Nat.le_refl _) _).alloc (by simp) _⟩

set_option maxHeartbeats 4000000 in
set_option maxRecDepth 100000 in
theorem form_5 (day case n til : Int) (hold : Bool) (w : World) (hd : 0 ≤ day ∧ day ≤ 65535) (hc : 1 ≤ case) (b : Bool) (hb : wf ⟨5, day, case, n, til, hold⟩ = b) :
    Calls Tryz.prog 48 #[flAgg ⟨5, day, case, n, til, hold⟩] w fun e w' => e = .returned (.bool b) ∧ Below w.heap.size w w' := by
  unfold flAgg
  have CD := Lib.hid (isDay_is day true (by simp [hd.1, hd.2]))
  cases hold with
  | true =>
    by_cases hn : n = 0
    · subst hn
      by_cases htil : til = 0
      · subst htil
        have hf := Lib.hid (show b = true by rw [← hb]; simp [wf, hd.1, hd.2, hc])
        clear hb
        go_enter Tryz.func48, Tryz.ntmps48
        go_wp2_with fail
        refine (CD.out _).mono ?_
        rintro e w1 ⟨rfl, rfl⟩
        go_wp2
        go_ret
        exact ⟨ret_bool hf.out.symm, ((Below.refl _ _).alloc (Nat.le_refl _) _).alloc (by simp) _⟩
      · have htilb : (til == 0) = false := by simpa using htil
        have hf := Lib.hid (show b = false by rw [← hb]; simp [wf, hd.1, hd.2, hc, htil])
        clear hb
        go_enter Tryz.func48, Tryz.ntmps48
        go_wp2_with fail
        refine (CD.out _).mono ?_
        rintro e w1 ⟨rfl, rfl⟩
        go_wp2
        go_ret
        exact ⟨ret_bool hf.out.symm, ((Below.refl _ _).alloc (Nat.le_refl _) _).alloc (by simp) _⟩
    · have hnb : (n == 0) = false := by simpa using hn
      have hf := Lib.hid (show b = false by rw [← hb]; simp [wf, hd.1, hd.2, hc, hn])
      clear hb
      go_enter Tryz.func48, Tryz.ntmps48
      go_wp2_with fail
      refine (CD.out _).mono ?_
      rintro e w1 ⟨rfl, rfl⟩
      go_wp2
      go_ret
      exact ⟨ret_bool hf.out.symm, ((Below.refl _ _).alloc (Nat.le_refl _) _).alloc (by simp) _⟩
  | false =>
    by_cases hn : n = 0
    · subst hn
      by_cases htil : til = 0
      · subst htil
        have hf := Lib.hid (show b = true by rw [← hb]; simp [wf, hd.1, hd.2, hc])
        clear hb
        go_enter Tryz.func48, Tryz.ntmps48
        go_wp2_with fail
        refine (CD.out _).mono ?_
        rintro e w1 ⟨rfl, rfl⟩
        go_wp2
        go_ret
        exact ⟨ret_bool hf.out.symm, ((Below.refl _ _).alloc (Nat.le_refl _) _).alloc (by simp) _⟩
      · have htilb : (til == 0) = false := by simpa using htil
        have hf := Lib.hid (show b = false by rw [← hb]; simp [wf, hd.1, hd.2, hc, htil])
        clear hb
        go_enter Tryz.func48, Tryz.ntmps48
        go_wp2_with fail
        refine (CD.out _).mono ?_
        rintro e w1 ⟨rfl, rfl⟩
        go_wp2
        go_ret
        exact ⟨ret_bool hf.out.symm, ((Below.refl _ _).alloc (Nat.le_refl _) _).alloc (by simp) _⟩
    · have hnb : (n == 0) = false := by simpa using hn
      have hf := Lib.hid (show b = false by rw [← hb]; simp [wf, hd.1, hd.2, hc, hn])
      clear hb
      go_enter Tryz.func48, Tryz.ntmps48
      go_wp2_with fail
      refine (CD.out _).mono ?_
      rintro e w1 ⟨rfl, rfl⟩
      go_wp2
      go_ret
      exact ⟨ret_bool hf.out.symm, ((Below.refl _ _).alloc (Nat.le_refl _) _).alloc (by simp) _⟩

set_option maxHeartbeats 4000000 in
set_option maxRecDepth 100000 in
theorem form_6 (day case n til : Int) (hold : Bool) (w : World) (hd : 0 ≤ day ∧ day ≤ 65535) (hc : 1 ≤ case) (b : Bool) (hb : wf ⟨6, day, case, n, til, hold⟩ = b) :
    Calls Tryz.prog 48 #[flAgg ⟨6, day, case, n, til, hold⟩] w fun e w' => e = .returned (.bool b) ∧ Below w.heap.size w w' := by
  unfold flAgg
  have CD := Lib.hid (isDay_is day true (by simp [hd.1, hd.2]))
  by_cases htil : til = 0
  · subst htil
    cases hold with
    | true =>
      have hf := Lib.hid (show b = false by rw [← hb]; simp [wf, hd.1, hd.2, hc])
      clear hb
      go_enter Tryz.func48, Tryz.ntmps48
      go_wp2_with fail
      refine (CD.out _).mono ?_
      rintro e w1 ⟨rfl, rfl⟩
      go_wp2
      go_ret
      exact ⟨ret_bool hf.out.symm, ((Below.refl _ _).alloc (Nat.le_refl _) _).alloc (by simp) _⟩
    | false =>
      by_cases h1 : n = 1
      · subst h1
        have hf := Lib.hid (show b = true by rw [← hb]; simp [wf, hd.1, hd.2, hc])
        clear hb
        go_enter Tryz.func48, Tryz.ntmps48
        go_wp2_with fail
        refine (CD.out _).mono ?_
        rintro e w1 ⟨rfl, rfl⟩
        go_wp2
        go_ret
        exact ⟨ret_bool hf.out.symm, ((Below.refl _ _).alloc (Nat.le_refl _) _).alloc (by simp) _⟩
      · have h1b : (n == 1) = false := by simpa using h1
        by_cases h2 : n = 2
        · subst h2
          have hf := Lib.hid (show b = true by rw [← hb]; simp [wf, hd.1, hd.2, hc])
          clear hb
          go_enter Tryz.func48, Tryz.ntmps48
          go_wp2_with fail
          refine (CD.out _).mono ?_
          rintro e w1 ⟨rfl, rfl⟩
          go_wp2
          go_ret
          exact ⟨ret_bool hf.out.symm, ((Below.refl _ _).alloc (Nat.le_refl _) _).alloc (by simp) _⟩
        · have h2b : (n == 2) = false := by simpa using h2
          have hf := Lib.hid (show b = false by rw [← hb]; simp [wf, hd.1, hd.2, hc, h1, h2])
          clear hb
          go_enter Tryz.func48, Tryz.ntmps48
          go_wp2_with fail
          refine (CD.out _).mono ?_
          rintro e w1 ⟨rfl, rfl⟩
          go_wp2
          go_ret
          exact ⟨ret_bool hf.out.symm, ((Below.refl _ _).alloc (Nat.le_refl _) _).alloc (by simp) _⟩
  · have htilb : (til == 0) = false := by simpa using htil
    have hf := Lib.hid (show b = false by rw [← hb]; simp [wf, hd.1, hd.2, hc, htil])
    clear hb
    go_enter Tryz.func48, Tryz.ntmps48
    go_wp2_with fail
    refine (CD.out _).mono ?_
    rintro e w1 ⟨rfl, rfl⟩
    go_wp2
    go_ret
    exact ⟨ret_bool hf.out.symm, ((Below.refl _ _).alloc (Nat.le_refl _) _).alloc (by simp) _⟩

set_option maxHeartbeats 4000000 in
set_option maxRecDepth 100000 in
theorem form_o (kind day case n til : Int) (hold : Bool) (w : World) (hd : 0 ≤ day ∧ day ≤ 65535) (hc : 1 ≤ case) (k1 : kind ≠ 1) (k4 : kind ≠ 4) (k2 : kind ≠ 2) (k3 : kind ≠ 3) (k7 : kind ≠ 7) (k5 : kind ≠ 5) (k6 : kind ≠ 6) (b : Bool) (hb : wf ⟨kind, day, case, n, til, hold⟩ = b) :
    Calls Tryz.prog 48 #[flAgg ⟨kind, day, case, n, til, hold⟩] w fun e w' => e = .returned (.bool b) ∧ Below w.heap.size w w' := by
  unfold flAgg
  have CD := Lib.hid (isDay_is day true (by simp [hd.1, hd.2]))
  have b1 : (kind == 1) = false := by simpa using k1
  have b4 : (kind == 4) = false := by simpa using k4
  have b2 : (kind == 2) = false := by simpa using k2
  have b3 : (kind == 3) = false := by simpa using k3
  have b7 : (kind == 7) = false := by simpa using k7
  have b5 : (kind == 5) = false := by simpa using k5
  have b6 : (kind == 6) = false := by simpa using k6
  have hf := Lib.hid (show b = false by rw [← hb]; simp [wf, hd.1, hd.2, hc, k1, k4, k2, k3, k7, k5, k6])
  clear hb
  go_enter Tryz.func48, Tryz.ntmps48
  go_wp2_with fail
  refine (CD.out _).mono ?_
  rintro e w1 ⟨rfl, rfl⟩
  go_wp2
  go_ret
  exact ⟨ret_bool hf.out.symm, ((Below.refl _ _).alloc (Nat.le_refl _) _).alloc (by simp) _⟩

set_option maxHeartbeats 4000000 in
set_option maxRecDepth 100000 in
theorem form_c (kind day case n til : Int) (hold : Bool) (w : World) (hd : 0 ≤ day ∧ day ≤ 65535) (hc : ¬ 1 ≤ case) (k1 : kind ≠ 1) (k4 : kind ≠ 4) (b : Bool) (hb : wf ⟨kind, day, case, n, til, hold⟩ = b) :
    Calls Tryz.prog 48 #[flAgg ⟨kind, day, case, n, til, hold⟩] w fun e w' => e = .returned (.bool b) ∧ Below w.heap.size w w' := by
  unfold flAgg
  have CD := Lib.hid (isDay_is day true (by simp [hd.1, hd.2]))
  have b1 : (kind == 1) = false := by simpa using k1
  have b4 : (kind == 4) = false := by simpa using k4
  have hf := Lib.hid (show b = false by rw [← hb]; simp [wf, hd.1, hd.2, hc, k1, k4])
  clear hb
  go_enter Tryz.func48, Tryz.ntmps48
  go_wp2_with fail
  refine (CD.out _).mono ?_
  rintro e w1 ⟨rfl, rfl⟩
  go_wp2
  go_ret
  exact ⟨ret_bool hf.out.symm, ((Below.refl _ _).alloc (Nat.le_refl _) _).alloc (by simp) _⟩

theorem formed_any (f : Fl) (w : World) (b : Bool) (hb : wf f = b) :
    Calls Tryz.prog 48 #[flAgg f] w fun e w' => e = .returned (.bool b) ∧ Below w.heap.size w w' := by
  obtain ⟨kind, day, case, n, til, hold⟩ := f
  by_cases hd : 0 ≤ day ∧ day ≤ 65535
  · by_cases k1 : kind = 1
    · subst k1; exact form_1 day case n til hold w hd b hb
    · by_cases k4 : kind = 4
      · subst k4; exact form_4 day case n til hold w hd b hb
      · by_cases hc : 1 ≤ case
        · by_cases k2 : kind = 2
          · subst k2; exact form_2 day case n til hold w hd hc b hb
          · by_cases k3 : kind = 3
            · subst k3; exact form_3 day case n til hold w hd hc b hb
            · by_cases k7 : kind = 7
              · subst k7; exact form_7 day case n til hold w hd hc b hb
              · by_cases k5 : kind = 5
                · subst k5; exact form_5 day case n til hold w hd hc b hb
                · by_cases k6 : kind = 6
                  · subst k6; exact form_6 day case n til hold w hd hc b hb
                  · exact form_o kind day case n til hold w hd hc k1 k4 k2 k3 k7 k5 k6 b hb
        · exact form_c kind day case n til hold w hd hc k1 k4 b hb
  · have hd' : (decide (0 ≤ day) && decide (day ≤ 65535)) = false := by rw [← Bool.not_eq_true]; simpa using hd
    unfold flAgg
    have CD := Lib.hid (isDay_is day false hd')
    have hf := Lib.hid (show b = false by rw [← hb]; unfold wf; rw [hd']; rfl)
    clear hb hd hd'
    go_enter Tryz.func48, Tryz.ntmps48
    go_wp2_with fail
    refine (CD.out _).mono ?_
    rintro e w1 ⟨rfl, rfl⟩
    go_wp2
    go_ret
    exact ⟨ret_bool hf.out.symm, (Below.refl _ _).alloc (Nat.le_refl _) _⟩

end Go.Proofs.YtbpoedopdnjffaaGreat
