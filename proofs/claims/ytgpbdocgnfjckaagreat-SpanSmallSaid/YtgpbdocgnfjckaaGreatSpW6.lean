/- find, Has, Within. -/
import Derived.Test.YtgpbdocgnfjckaaGreatSpW5
import Derived.Test.YtgpbdocgnfjckaaGreatSpPlain4
namespace Go.Proofs.YtgpbdocgnfjckaaGreat
open Go.RowKit Go.Shelf Sp

set_option maxHeartbeats 400000 in
theorem find1_any (l : Sps) (k : Nat) (d : Int) (A B : Nat) (p : Option Addr) (cap : Nat) (w : World) (hk : k < l.length) (hc : Cells w p l)
    (hA : w.cell? ⟨A, 0, none⟩ = some (.slice p l.length cap)) (hB : w.cell? ⟨B, 0, none⟩ = some (.int .i64 d)) :
    Calls Tryz.prog 55 #[.int .i64 k, .pointer (some ⟨A, 0, none⟩), .pointer (some ⟨B, 0, none⟩)] w fun e w' => e = .returned (.bool (decide (d < l[k].2))) ∧ ∃ m, w' = w.drewN m := by
  obtain ⟨b, off, rfl, hlt', x, y, hxy, h1, h2⟩ := hc.at k hk
  have hf := Lib.hid (show l[k].2 = y by rw [hxy])
  clear hxy hc
  go_enter Tryz.func55, Tryz.ntmps55
  go_wp2_with fail
  go_quiet (fail)
  go_wp2
  go_ret
  exact ⟨ret_bool (by rw [hf.out]), nq, rfl⟩

set_option maxHeartbeats 1000000 in
theorem search_any (l : Sps) (d : Int) (A B : Nat) (p : Option Addr) (cap : Nat) (w : World) (hl : l.length ≤ 100000) (hv : validB l = true) (hc : Cells w p l)
    (hA : w.cell? ⟨A, 0, none⟩ = some (.slice p l.length cap)) (hB : w.cell? ⟨B, 0, none⟩ = some (.int .i64 d)) :
    Calls Tryz.prog 54 #[.int .i64 l.length, .func (.func 55) #[] #[.pointer (some ⟨A, 0, none⟩), .pointer (some ⟨B, 0, none⟩)]] w fun e w' => (∃ k : Nat, e = .returned (.int .i64 k) ∧ Fnd l d k) ∧ ∃ m, w' = w.drewN m := by
  have F1 := Lib.hid (fun (k m : Nat) hk => find1_any l k d A B p cap (w.drewN m) hk hc hA hB)
  have HV := Lib.hid hv
  clear hc hA hB hv
  go_enter Tryz.func54, Tryz.ntmps54
  go_wp2
  go_loopw [5, 6] (fun i j wr => ∃ (k lo hi : Nat), lo ≤ hi ∧ hi ≤ l.length ∧ i = .int .i64 lo ∧ j = .int .i64 hi ∧ Hid ((∀ i, (h : i < l.length) → i < lo → l[i].2 ≤ d) ∧ (∀ i, (h : i < l.length) → hi ≤ i → d < l[i].2)) ∧ wr = w.drewN k) (fun i j _ => (intOf j).toNat - (intOf i).toNat)
  case atStart => exact ⟨0, 0, l.length, by omega, by omega, rfl, rfl, Lib.hid ⟨fun i h h' => by omega, fun i h h' => by omega⟩, rfl⟩
  case round =>
    obtain ⟨k, lo, hi, hlh, hh, rfl, rfl, hs, rfl⟩ := hrel
    by_cases hlt : lo < hi
    · have Hm := Lib.hid (show ((lo : Int) + hi) / 2 = ((lo + hi) / 2 : Nat) by omega)
      have hml : (lo + hi) / 2 < l.length := by omega
      have F2 := Lib.hid (F1.out ((lo + hi) / 2) k hml)
      by_cases hd : d < (l[(lo + hi) / 2]).2
      · rw [decide_eq_true hd] at F2
        have hs' := Lib.hid (show (∀ i, (h : i < l.length) → i < lo → l[i].2 ≤ d) ∧ (∀ i, (h : i < l.length) → (lo + hi) / 2 ≤ i → d < l[i].2) from ⟨hs.out.1, fun i h h' => by
          rcases Nat.eq_or_lt_of_le h' with e | c
          · subst e; exact hd
          · have h5 := valid_mono HV.out c h
            have := valid_get HV.out h
            omega⟩)
        clear hd
        go_wp2_with fail
        rw [Hm.out]
        refine F2.out.mono ?_
        rintro e w' ⟨rfl, k', rfl⟩
        rw [World.drewN_drewN]
        go_wp2
        go_roundw
        case rel => exact ⟨k + k', lo, (lo + hi) / 2, by omega, by omega, rfl, by go_num, hs', rfl⟩
        case measure => simp [intOf]; omega
      · rw [decide_eq_false hd] at F2
        have hs' := Lib.hid (show (∀ i, (h : i < l.length) → i < (lo + hi) / 2 + 1 → l[i].2 ≤ d) ∧ (∀ i, (h : i < l.length) → hi ≤ i → d < l[i].2) from ⟨fun i h h' => by
          rcases Nat.eq_or_lt_of_le (Nat.le_of_lt_succ h') with e | c
          · subst e; omega
          · have h5 := valid_mono HV.out c hml
            have := valid_get HV.out hml
            omega, hs.out.2⟩)
        clear hd
        go_wp2_with fail
        rw [Hm.out]
        refine F2.out.mono ?_
        rintro e w' ⟨rfl, k', rfl⟩
        rw [World.drewN_drewN]
        go_wp2
        go_roundw
        case rel => exact ⟨k + k', (lo + hi) / 2 + 1, hi, by omega, by omega, by go_num, rfl, hs', rfl⟩
        case measure => simp [intOf]; omega
    · go_wp2_with fail
      go_ret
      obtain rfl : lo = hi := by omega
      exact ⟨⟨lo, rfl, hh, hs.out.1, hs.out.2⟩, k, rfl⟩

set_option maxHeartbeats 1000000 in
theorem find_any (l : Sps) (d : Int) (p : Option Addr) (cap : Nat) (w : World) (hl : l.length ≤ 100000) (hv : validB l = true) (hc : Cells w p l) :
    Calls Tryz.prog 44 #[.slice p l.length cap, .int .i64 d] w fun e w' => (∃ k : Nat, e = .returned (.int .i64 k) ∧ Fnd l d k) ∧ Below w.heap.size w w' := by
  have HV := Lib.hid hv; clear hv
  have HC := Lib.hid (fun W' (h : Below w.heap.size w W') => hc.below h); clear hc
  go_enter Tryz.func44, Tryz.ntmps44
  go_wp2_with fail
  have B0 : Below w.heap.size w ((w.alloc (.cells #[.slice p l.length cap] 22)).alloc (.cells #[.int .i64 d] 3)) := ((Below.refl _ w).alloc (Nat.le_refl _) _).alloc (by simp) _
  refine (search_any l d _ _ p cap _ hl HV.out (HC.out _ B0) (by simp) (by simp)).mono ?_
  rintro e w' ⟨⟨k, rfl, hk⟩, m, rfl⟩
  go_wp2
  go_ret
  exact ⟨⟨k, rfl, hk⟩, below_drewN B0 _⟩

set_option maxHeartbeats 1000000 in
theorem has_bad (l : Sps) (d : Int) (p : Option Addr) (cap : Nat) (w : World) (hl : l.length ≤ 100000) (hv : validB l = false) (hc : Cells w p l) :
    Calls Tryz.prog 32 #[.slice p l.length cap, .int .i64 d] w fun e w' => e = .returned (.bool false) ∧ Below w.heap.size w w' := by
  have CV := Lib.hid (valid_is l false p cap w hv hl hc)
  clear hv hc
  go_enter Tryz.func32, Tryz.ntmps32
  go_wp2_with (first | (go_at_call 26; refine CV.out.mono ?_; rintro e w1 ⟨rfl, hb1⟩))
  go_ret
  exact ⟨rfl, hb1⟩

set_option maxHeartbeats 1000000 in
theorem has_ok (l : Sps) (d : Int) (p : Option Addr) (cap : Nat) (w : World) (hl : l.length ≤ 100000) (hv : validB l = true) (hc : Cells w p l) :
    Calls Tryz.prog 32 #[.slice p l.length cap, .int .i64 d] w fun e w' => e = .returned (.bool (mem l d)) ∧ Below w.heap.size w w' := by
  have CV := Lib.hid (valid_is l true p cap w hv hl hc)
  have HV := Lib.hid hv; clear hv
  have HC := Lib.hid (fun W' (h : Below w.heap.size w W') => hc.below h); clear hc
  go_enter Tryz.func32, Tryz.ntmps32
  go_wp2_with (first | (go_at_call 26; refine CV.out.mono ?_; rintro e w1 ⟨rfl, hb1⟩))
  refine (find_any l d p cap _ hl HV.out (HC.out _ hb1)).mono ?_
  rintro e w2 ⟨⟨k, rfl, hk⟩, hb2⟩
  have B2 := below_next hb1 hb2
  have hm := Lib.hid (hk.mem HV.out)
  have hkl := hk.le
  clear hb1 hb2 hk
  by_cases hlt : k < l.length
  · obtain ⟨b, off, rfl, hlt', x, y, hxy, h1, h2⟩ := (HC.out _ B2).at k hlt
    by_cases hx : x ≤ d
    · have hf := Lib.hid (show mem l d = true from hm.out.2 ⟨hlt, by rw [hxy]; exact hx⟩)
      clear hxy h2
      go_wp2
      go_ret
      exact ⟨ret_bool hf.out.symm, B2⟩
    · have hf := Lib.hid (show mem l d = false by rw [← Bool.not_eq_true, hm.out]; rintro ⟨_, h⟩; rw [hxy] at h; exact hx h)
      clear hxy h2
      go_wp2
      go_ret
      exact ⟨ret_bool (by rw [hf.out]; simpa using hx), B2⟩
  · have hf := Lib.hid (show mem l d = false by rw [← Bool.not_eq_true, hm.out]; rintro ⟨h, _⟩; exact hlt h)
    go_wp2
    go_ret
    exact ⟨ret_bool hf.out.symm, B2⟩

set_option maxHeartbeats 1000000 in
theorem within_bad (a b : Sps) (pa pb : Option Addr) (ca cb : Nat) (la : a.length ≤ 10000) (lb : b.length ≤ 10000) (hv : (validB a && validB b) = false) (w : World) (hA : Cells w pa a) (hB : Cells w pb b) :
    Calls Tryz.prog 19 #[.slice pa a.length ca, .slice pb b.length cb] w fun e w' => e = .returned (.bool false) ∧ Below w.heap.size w w' := by
  have HB := Lib.hid (fun W' (h : Below w.heap.size w W') => hB.below h)
  clear hB
  cases hva : validB a with
  | false =>
    have CA := Lib.hid (valid_is a false pa ca w hva (by omega) hA)
    clear hva hv hA
    go_enter Tryz.func19, Tryz.ntmps19
    go_wp2_with (first | (go_at_call 26; refine CA.out.mono ?_; rintro e w1 ⟨rfl, hb1⟩))
    go_ret
    exact ⟨rfl, hb1⟩
  | true =>
    have hvb : validB b = false := by rw [hva] at hv; simpa using hv
    have CA := Lib.hid (valid_is a true pa ca w hva (by omega) hA)
    have CB := Lib.hid (fun W h => valid_is b false pb cb W hvb (by omega) (HB.out W h))
    clear hva hvb hv hA
    go_enter Tryz.func19, Tryz.ntmps19
    go_wp2_with (first | (go_at_call_of 26 pa; refine CA.out.mono ?_; rintro e w1 ⟨rfl, hb1⟩) | (go_at_call_of 26 pb; refine (CB.out _ hb1).mono ?_; rintro e w2 ⟨rfl, hb2⟩))
    go_ret
    exact ⟨rfl, below_next hb1 hb2⟩

set_option maxRecDepth 100000 in
set_option maxHeartbeats 2000000 in
theorem within_ok (a b : Sps) (pa pb : Option Addr) (ca cb : Nat) (la : a.length ≤ 10000) (lb : b.length ≤ 10000) (va : validB a = true) (vb : validB b = true) (w : World) (hA : Cells w pa a) (hB : Cells w pb b) :
    Calls Tryz.prog 19 #[.slice pa a.length ca, .slice pb b.length cb] w fun e w' => e = .returned (.bool (withinB a b)) ∧ Below w.heap.size w w' := by
  have CA := Lib.hid (valid_is a true pa ca w va (by omega) hA)
  have HA := Lib.hid (fun W' (h : Below w.heap.size w W') => hA.below h)
  have HB := Lib.hid (fun W' (h : Below w.heap.size w W') => hB.below h)
  have CB := Lib.hid (fun W h => valid_is b true pb cb W vb (by omega) (HB.out W h))
  have VA := Lib.hid va
  have VB := Lib.hid vb
  clear hA hB va vb
  go_enter Tryz.func19, Tryz.ntmps19
  go_wp2_with (first | (go_at_call_of 26 pa; refine CA.out.mono ?_; rintro e w1 ⟨rfl, hb1⟩) | (go_at_call_of 26 pb; refine (CB.out _ hb1).mono ?_; rintro e w2 ⟨rfl, hb2⟩))
  have B2 := below_next hb1 hb2
  clear hb1 hb2
  go_loopw [18] (fun i wr => ∃ k : Nat, k ≤ a.length ∧ i = .int .i64 k ∧ Below w.heap.size w wr ∧ Hid (withinB (a.take k) b = true)) (fun i _ => a.length - (intOf i).toNat)
  case atStart => exact ⟨0, by omega, rfl, B2, Lib.hid rfl⟩
  case round =>
    obtain ⟨k, hk, rfl, hb, hw⟩ := hrel
    by_cases hlt : k < a.length
    · obtain ⟨bk, off, rfl, hlt', x, y, hxy, h1, h2⟩ := (HA.out _ (Below.refl _ _)).at k hlt
      have c1 := (hb.cell (p := ⟨bk, off + k * 2, none⟩) hlt').trans h1
      have c2 := (hb.cell (p := ⟨bk, off + k * 2 + 1, none⟩) hlt').trans h2
      have hne : bk ≠ wr.heap.size := Nat.ne_of_lt (Nat.lt_of_lt_of_le hlt' hb.size)
      have hg := valid_get VA.out hlt
      have hst := take_succ_snoc hlt
      rw [hxy] at hg hst
      dsimp only at hg
      have hyes := Lib.hid (show inOne b (x, y) = true → withinB (a.take (k + 1)) b = true from fun h => by
        have := hw.out
        unfold withinB at this ⊢
        rw [hst, List.all_append, this]; simpa using h)
      have hno := Lib.hid (show inOne b (x, y) = false → withinB a b = false from fun h => by
        unfold withinB
        rw [← Bool.not_eq_true, List.all_eq_true]
        intro h'
        have := h' a[k] (List.getElem_mem hlt)
        rw [hxy, h] at this
        cases this)
      have Hg := Lib.hid hg.2.1
      clear h1 h2 hxy hst
      go_wp2_with fail
      refine (find_any b x pb cb _ (by omega) VB.out (HB.out _ (hb.alloc hb.size _))).mono ?_
      rintro e w3 ⟨⟨m, rfl, hm⟩, hb3⟩
      have B3 : Below w.heap.size w w3 := (hb.alloc hb.size _).trans (hb3.mono (by simp; have := hb.size; omega))
      have d1 : w3.cell? ⟨wr.heap.size, 0, none⟩ = some (.int .i64 x) := (hb3.cell (p := ⟨wr.heap.size, 0, none⟩) (by simp)).trans (by simp)
      have d2 : w3.cell? ⟨wr.heap.size, 1, none⟩ = some (.int .i64 y) := (hb3.cell (p := ⟨wr.heap.size, 1, none⟩) (by simp)).trans (by simp)
      have hml := hm.le
      have hio := Lib.hid (Fnd.inOne (s := (x, y)) VB.out Hg.out hm)
      clear hb3 hm c1 c2
      by_cases hmlt : m < b.length
      · obtain ⟨bb, ofb, rfl, _, x', y', hxy', h3, h4⟩ := (HB.out _ B3).at m hmlt
        have hio2 := Lib.hid (show inOne b (x, y) = true ↔ x' ≤ x ∧ y ≤ y' from ⟨fun h => by obtain ⟨_, h'⟩ := hio.out.1 h; rw [hxy'] at h'; exact h', fun h => hio.out.2 ⟨hmlt, by rw [hxy']; exact h⟩⟩)
        clear hio hxy'
        have hme : ((m : Int) == (b.length : Int)) = false := by simp; omega
        by_cases hx : x' ≤ x
        · by_cases hy : y ≤ y'
          · have hf := Lib.hid (hyes.out (hio2.out.2 ⟨hx, hy⟩))
            go_wp2_with fail
            go_quiet (fail)
            go_wp2
            go_roundw
            case rel => exact ⟨k + 1, by omega, by go_num, below_drewN B3 _, hf⟩
            case measure => simp [intOf]; omega
          · have hf := Lib.hid (hno.out (by rw [← Bool.not_eq_true, hio2.out]; intro h; exact hy h.2))
            go_wp2_with fail
            go_quiet (fail)
            go_wp2
            go_ret
            exact ⟨ret_bool hf.out.symm, below_drewN B3 _⟩
        · have hf := Lib.hid (hno.out (by rw [← Bool.not_eq_true, hio2.out]; intro h; exact hx h.1))
          go_wp2_with fail
          go_quiet (fail)
          go_wp2
          go_ret
          exact ⟨ret_bool hf.out.symm, below_drewN B3 _⟩
      · obtain rfl : m = b.length := by omega
        have hf := Lib.hid (hno.out (by rw [← Bool.not_eq_true, hio.out]; rintro ⟨h, _⟩; omega))
        go_wp2_with fail
        go_quiet (fail)
        go_wp2
        go_ret
        exact ⟨ret_bool hf.out.symm, below_drewN B3 _⟩
    · obtain rfl : k = a.length := by omega
      have hf := Lib.hid (show withinB a b = true by have := hw.out; rw [List.take_length] at this; exact this)
      go_wp2
      go_ret
      exact ⟨ret_bool hf.out.symm, hb⟩

end Go.Proofs.YtgpbdocgnfjckaaGreat
