/- find, Has, Within. -/
import Derived.Test.YtbpoedopdnjffaaSpW5
import Derived.Test.YtbpoedopdnjffaaSpPlain4
namespace Go.Proofs.Ytbpoedopdnjffaa
open Go.RowKit Go.Shelf Sp

set_option maxHeartbeats 400000 in
theorem find1_any (l : Sps) (k : Nat) (d : Int) (A B : Nat) (p : Option Addr) (cap : Nat) (w : World) (hk : k < l.length) (hc : Cells w p l)
    (hA : w.cell? ⟨A, 0, none⟩ = some (.slice p l.length cap)) (hB : w.cell? ⟨B, 0, none⟩ = some (.int .i64 d)) :
    Calls Try.prog 76 #[.int .i64 k, .pointer (some ⟨A, 0, none⟩), .pointer (some ⟨B, 0, none⟩)] w fun e w' => e = .returned (.bool (decide (d < l[k].2))) ∧ ∃ m, w' = w.drewN m := by
  obtain ⟨b, off, rfl, hlt', x, y, hxy, h1, h2⟩ := hc.at k hk
  have hf := Lib.hid (show l[k].2 = y by rw [hxy])
  clear hxy hc
  go_enter Try.func76, Try.ntmps76
  go_wp2_with fail
  go_quiet (fail)
  go_wp2
  go_ret
  exact ⟨ret_bool (by rw [hf.out]), nq, rfl⟩

set_option maxHeartbeats 1000000 in
theorem search_any (l : Sps) (d : Int) (A B : Nat) (p : Option Addr) (cap : Nat) (w : World) (hl : l.length ≤ 100000) (hv : validB l = true) (hc : Cells w p l)
    (hA : w.cell? ⟨A, 0, none⟩ = some (.slice p l.length cap)) (hB : w.cell? ⟨B, 0, none⟩ = some (.int .i64 d)) :
    Calls Try.prog 75 #[.int .i64 l.length, .func (.func 76) #[] #[.pointer (some ⟨A, 0, none⟩), .pointer (some ⟨B, 0, none⟩)]] w fun e w' => (∃ k : Nat, e = .returned (.int .i64 k) ∧ Fnd l d k) ∧ ∃ m, w' = w.drewN m := by
  have F1 := Lib.hid (fun (k m : Nat) hk => find1_any l k d A B p cap (w.drewN m) hk hc hA hB)
  have HV := Lib.hid hv
  clear hc hA hB hv
  go_enter Try.func75, Try.ntmps75
  go_wp2
  go_loopw [5, 6] (fun i j wr => ∃ (k lo hi : Nat), lo ≤ hi ∧ hi ≤ l.length ∧ i = .int .i64 lo ∧ j = .int .i64 hi ∧ Hid ((∀ i, (h : i < l.length) → i < lo → l[i].2 ≤ d) ∧ (∀ i, (h : i < l.length) → hi ≤ i → d < l[i].2)) ∧ wr = w.drewN k) (fun i j _ => (intOf j).toNat - (intOf i).toNat)
  case atStart => exact ⟨0, 0, l.length, by omega, by omega, rfl, rfl, Lib.hid ⟨fun i h h' => by omega, fun i h h' => by omega⟩, rfl⟩
  case round =>
    obtain ⟨k, lo, hi, hlh, hh, rfl, rfl, hs, rfl⟩ := hrel
    by_cases hlt : lo < hi
    · have Hm := Lib.hid (show ((lo : Int) + hi) / 2 = ((lo + hi) / 2 : Nat) by omega)
      have hml : (lo + hi) / 2 < l.length := by omega
      have F2 := Lib.hid (F1.out ((lo + hi) / 2) k hml)
      by_cases hd : d < (l[(lo + hi) / 2]).2
      · rw [decide_eq_true hd] at F2
        have hs' := Lib.hid (show (∀ i, (h : i < l.length) → i < lo → l[i].2 ≤ d) ∧ (∀ i, (h : i < l.length) → (lo + hi) / 2 ≤ i → d < l[i].2) from ⟨hs.out.1, fun i h h' => by
          rcases Nat.eq_or_lt_of_le h' with e | c
          · subst e; exact hd
          · have h5 := valid_mono HV.out c h
            have := valid_get HV.out h
            omega⟩)
        clear hd
        go_wp2_with fail
        rw [Hm.out]
        refine F2.out.mono ?_
        rintro e w' ⟨rfl, k', rfl⟩
        rw [World.drewN_drewN]
        go_wp2
        go_roundw
        case rel => exact ⟨k + k', lo, (lo + hi) / 2, by omega, by omega, rfl, by go_num, hs', rfl⟩
        case measure => simp [intOf]; omega
      · rw [decide_eq_false hd] at F2
        have hs' := Lib.hid (show (∀ i, (h : i < l.length) → i < (lo + hi) / 2 + 1 → l[i].2 ≤ d) ∧ (∀ i, (h : i < l.length) → hi ≤ i → d < l[i].2) from ⟨fun i h h' => by
          rcases Nat.eq_or_lt_of_le (Nat.le_of_lt_succ h') with e | c
          · subst e; omega
          · have h5 := valid_mono HV.out c hml
            have := valid_get HV.out hml
            omega, hs.out.2⟩)
        clear hd
        go_wp2_with fail
        rw [Hm.out]
        refine F2.out.mono ?_
        rintro e w' ⟨rfl, k', rfl⟩
        rw [World.drewN_drewN]
        go_wp2
        go_roundw
        case rel => exact ⟨k + k', (lo + hi) / 2 + 1, hi, by omega, by omega, by go_num, rfl, hs', rfl⟩
        case measure => simp [intOf]; omega
    · go_wp2_with fail
      go_ret
      obtain rfl : lo = hi := by omega
      exact ⟨⟨lo, rfl, hh, hs.out.1, hs.out.2⟩, k, rfl⟩

set_option maxHeartbeats 1000000 in
theorem find_any (l : Sps) (d : Int) (p : Option Addr) (cap : Nat) (w : World) (hl : l.length ≤ 100000) (hv : validB l = true) (hc : Cells w p l) :
    Calls Try.prog 59 #[.slice p l.length cap, .int .i64 d] w fun e w' => (∃ k : Nat, e = .returned (.int .i64 k) ∧ Fnd l d k) ∧ Below w.heap.size w w' := by
  have HV := Lib.hid hv; clear hv
  have HC := Lib.hid (fun W' (h : Below w.heap.size w W') => hc.below h); clear hc
  go_enter Try.func59, Try.ntmps59
  go_wp2_with fail
  have B0 : Below w.heap.size w ((w.alloc (.cells #[.slice p l.length cap] 37)).alloc (.cells #[.int .i64 d] 3)) := ((Below.refl _ w).alloc (Nat.le_refl _) _).alloc (by simp) _
  refine (search_any l d _ _ p cap _ hl HV.out (HC.out _ B0) (by simp) (by simp)).mono ?_
  rintro e w' ⟨⟨k, rfl, hk⟩, m, rfl⟩
  go_wp2
  go_ret
  exact ⟨⟨k, rfl, hk⟩, below_drewN B0 _⟩

set_option maxHeartbeats 1000000 in
theorem has_bad (l : Sps) (d : Int) (p : Option Addr) (cap : Nat) (w : World) (hl : l.length ≤ 100000) (hv : validB l = false) (hc : Cells w p l) :
    Calls Try.prog 37 #[.slice p l.length cap, .int .i64 d] w fun e w' => e = .returned (.bool false) ∧ Below w.heap.size w w' := by
  have CV := Lib.hid (valid_is l false p cap w hv hl hc)
  clear hv hc
  go_enter Try.func37, Try.ntmps37
  go_wp2_with (first | (go_at_call 23; refine CV.out.mono ?_; rintro e w1 ⟨rfl, hb1⟩))
  go_ret
  exact ⟨rfl, hb1⟩

set_option maxHeartbeats 1000000 in
theorem has_ok (l : Sps) (d : Int) (p : Option Addr) (cap : Nat) (w : World) (hl : l.length ≤ 100000) (hv : validB l = true) (hc : Cells w p l) :
    Calls Try.prog 37 #[.slice p l.length cap, .int .i64 d] w fun e w' => e = .returned (.bool (mem l d)) ∧ Below w.heap.size w w' := by
  have CV := Lib.hid (valid_is l true p cap w hv hl hc)
  have HV := Lib.hid hv; clear hv
  have HC := Lib.hid (fun W' (h : Below w.heap.size w W') => hc.below h); clear hc
  go_enter Try.func37, Try.ntmps37
  go_wp2_with (first | (go_at_call 23; refine CV.out.mono ?_; rintro e w1 ⟨rfl, hb1⟩))
  refine (find_any l d p cap _ hl HV.out (HC.out _ hb1)).mono ?_
  rintro e w2 ⟨⟨k, rfl, hk⟩, hb2⟩
  have B2 := below_next hb1 hb2
  have hm := Lib.hid (hk.mem HV.out)
  have hkl := hk.le
  clear hb1 hb2 hk
  by_cases hlt : k < l.length
  · obtain ⟨b, off, rfl, hlt', x, y, hxy, h1, h2⟩ := (HC.out _ B2).at k hlt
    by_cases hx : x ≤ d
    · have hf := Lib.hid (show mem l d = true from hm.out.2 ⟨hlt, by rw [hxy]; exact hx⟩)
      clear hxy h2
      go_wp2
      go_ret
      exact ⟨ret_bool hf.out.symm, B2⟩
    · have hf := Lib.hid (show mem l d = false by rw [← Bool.not_eq_true, hm.out]; rintro ⟨_, h⟩; rw [hxy] at h; exact hx h)
      clear hxy h2
      go_wp2
      go_ret
      exact ⟨ret_bool (by rw [hf.out]; simpa using hx), B2⟩
  · have hf := Lib.hid (show mem l d = false by rw [← Bool.not_eq_true, hm.out]; rintro ⟨h, _⟩; exact hlt h)
    go_wp2
    go_ret
    exact ⟨ret_bool hf.out.symm, B2⟩

end Go.Proofs.Ytbpoedopdnjffaa
