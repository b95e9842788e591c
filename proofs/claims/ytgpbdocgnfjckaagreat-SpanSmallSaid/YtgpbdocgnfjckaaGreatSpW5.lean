/- Union, Meet, Minus; Before, Days, Nth. -/
import Derived.Test.YtgpbdocgnfjckaaGreatSpW4
import Derived.Test.YtgpbdocgnfjckaaGreatSpPlain3
namespace Go.Proofs.YtgpbdocgnfjckaaGreat
open Go.RowKit Go.Shelf Sp

theorem ret_two {a b c d : Value} (h : a = c) (k : b = d) : Ending.returned (.tuple #[a, b]) = .returned (.tuple #[c, d]) := by rw [h, k]

theorem Cells.at {w : World} {p : Option Addr} {l : Sps} (h : Cells w p l) (k : Nat) (hk : k < l.length) :
    ∃ b off, p = some ⟨b, off, none⟩ ∧ b < w.heap.size ∧ ∃ x y, l[k] = (x, y) ∧ w.cell? ⟨b, off + k * 2, none⟩ = some (.int .i64 x) ∧ w.cell? ⟨b, off + k * 2 + 1, none⟩ = some (.int .i64 y) := by
  rcases h with rfl | ⟨b, off, rfl, hc⟩
  · simp at hk
  · have h1 := hc k hk
    exact ⟨b, off, rfl, World.block_lt_of_cell? w _ h1.1, _, _, rfl, h1.1, h1.2⟩

set_option maxHeartbeats 1000000 in
theorem union_ok (a b : Sps) (pa pb : Option Addr) (ca cb : Nat) (la : a.length ≤ 10000) (lb : b.length ≤ 10000) (va : validB a = true) (vb : validB b = true) (w : World) (hA : Cells w pa a) (hB : Cells w pb b) :
    Calls Tryz.prog 14 #[.slice pa a.length ca, .slice pb b.length cb] w fun e W' => ∃ v l, e = .returned (.tuple #[v, .int .i64 0]) ∧ IsSet (fun d => mem a d || mem b d) l ∧ l.length ≤ 2 * (a.length + b.length) ∧ Owns W' w.heap.size v l ∧ Below w.heap.size w W' := by
  have C := Lib.hid (choose_ok 39 _ keeps_union (enters_of Tryz.func39 (by kernel_rfl) rfl) rfl a b pa pb ca cb la lb va vb w hA hB)
  clear va vb hA hB
  go_enter Tryz.func14, Tryz.ntmps14
  go_wp2_with (first | (go_at_call 38; refine C.out.mono ?_; rintro e w1 ⟨v, l, rfl, hs, hl, ho, hb⟩))
  go_ret2
  exact ⟨v, l, rfl, hs, hl, ho, hb⟩

set_option maxHeartbeats 1000000 in
theorem meet_ok (a b : Sps) (pa pb : Option Addr) (ca cb : Nat) (la : a.length ≤ 10000) (lb : b.length ≤ 10000) (va : validB a = true) (vb : validB b = true) (w : World) (hA : Cells w pa a) (hB : Cells w pb b) :
    Calls Tryz.prog 15 #[.slice pa a.length ca, .slice pb b.length cb] w fun e W' => ∃ v l, e = .returned (.tuple #[v, .int .i64 0]) ∧ IsSet (fun d => mem a d && mem b d) l ∧ l.length ≤ 2 * (a.length + b.length) ∧ Owns W' w.heap.size v l ∧ Below w.heap.size w W' := by
  have C := Lib.hid (choose_ok 40 _ keeps_meet (enters_of Tryz.func40 (by kernel_rfl) rfl) rfl a b pa pb ca cb la lb va vb w hA hB)
  clear va vb hA hB
  go_enter Tryz.func15, Tryz.ntmps15
  go_wp2_with (first | (go_at_call 38; refine C.out.mono ?_; rintro e w1 ⟨v, l, rfl, hs, hl, ho, hb⟩))
  go_ret2
  exact ⟨v, l, rfl, hs, hl, ho, hb⟩

set_option maxHeartbeats 1000000 in
theorem minus_ok (a b : Sps) (pa pb : Option Addr) (ca cb : Nat) (la : a.length ≤ 10000) (lb : b.length ≤ 10000) (va : validB a = true) (vb : validB b = true) (w : World) (hA : Cells w pa a) (hB : Cells w pb b) :
    Calls Tryz.prog 16 #[.slice pa a.length ca, .slice pb b.length cb] w fun e W' => ∃ v l, e = .returned (.tuple #[v, .int .i64 0]) ∧ IsSet (fun d => mem a d && !mem b d) l ∧ l.length ≤ 2 * (a.length + b.length) ∧ Owns W' w.heap.size v l ∧ Below w.heap.size w W' := by
  have C := Lib.hid (choose_ok 41 _ keeps_minus (enters_of Tryz.func41 (by kernel_rfl) rfl) rfl a b pa pb ca cb la lb va vb w hA hB)
  clear va vb hA hB
  go_enter Tryz.func16, Tryz.ntmps16
  go_wp2_with (first | (go_at_call 38; refine C.out.mono ?_; rintro e w1 ⟨v, l, rfl, hs, hl, ho, hb⟩))
  go_ret2
  exact ⟨v, l, rfl, hs, hl, ho, hb⟩

section
variable (a b : Sps) (pa pb : Option Addr) (ca cb : Nat) (la : a.length ≤ 10000) (lb : b.length ≤ 10000) (hv : (validB a && validB b) = false) (w : World) (hA : Cells w pa a) (hB : Cells w pb b)
include la lb hv hA hB
set_option maxHeartbeats 1000000 in
theorem union_bad : Calls Tryz.prog 14 #[.slice pa a.length ca, .slice pb b.length cb] w fun e W' => e = .returned (.tuple #[.slice none 0 0, .int .i64 2]) ∧ Below w.heap.size w W' := by
  have C := Lib.hid (choose_bad _ a b pa pb ca cb la lb hv w 39 rfl hA hB)
  clear hv hA hB
  go_enter Tryz.func14, Tryz.ntmps14
  go_wp2_with (first | (go_at_call 38; refine C.out.mono ?_; rintro e w1 ⟨rfl, hb⟩))
  go_ret2
  exact ⟨rfl, hb⟩
set_option maxHeartbeats 1000000 in
theorem meet_bad : Calls Tryz.prog 15 #[.slice pa a.length ca, .slice pb b.length cb] w fun e W' => e = .returned (.tuple #[.slice none 0 0, .int .i64 2]) ∧ Below w.heap.size w W' := by
  have C := Lib.hid (choose_bad _ a b pa pb ca cb la lb hv w 40 rfl hA hB)
  clear hv hA hB
  go_enter Tryz.func15, Tryz.ntmps15
  go_wp2_with (first | (go_at_call 38; refine C.out.mono ?_; rintro e w1 ⟨rfl, hb⟩))
  go_ret2
  exact ⟨rfl, hb⟩
set_option maxHeartbeats 1000000 in
theorem minus_bad : Calls Tryz.prog 16 #[.slice pa a.length ca, .slice pb b.length cb] w fun e W' => e = .returned (.tuple #[.slice none 0 0, .int .i64 2]) ∧ Below w.heap.size w W' := by
  have C := Lib.hid (choose_bad _ a b pa pb ca cb la lb hv w 41 rfl hA hB)
  clear hv hA hB
  go_enter Tryz.func16, Tryz.ntmps16
  go_wp2_with (first | (go_at_call 38; refine C.out.mono ?_; rintro e w1 ⟨rfl, hb⟩))
  go_ret2
  exact ⟨rfl, hb⟩
end

set_option maxHeartbeats 2000000 in
theorem before_ok (l : Sps) (d : Int) (p : Option Addr) (cap : Nat) (w : World) (hl : l.length ≤ 100000) (hv : validB l = true) (hc : Cells w p l) :
    Calls Tryz.prog 34 #[.slice p l.length cap, .int .i64 d] w fun e w' => e = .returned (.int .i64 (bef l d)) ∧ Below w.heap.size w w' := by
  have CV := Lib.hid (valid_is l true p cap w hv hl hc)
  have HV := Lib.hid hv; clear hv
  have HC := Lib.hid hc; clear hc
  go_enter Tryz.func34, Tryz.ntmps34
  go_wp2_with (first | (go_at_call 26; refine CV.out.mono ?_; rintro e w1 ⟨rfl, hb1⟩))
  go_loopw [5, 13] (fun c i wr => ∃ k : Nat, k ≤ l.length ∧ i = .int .i64 k ∧ (∃ t, c = .int .i64 t ∧ Hid (t = bef (l.take k) d) ∧ 0 ≤ t ∧ t ≤ 65537) ∧ Below w.heap.size w wr) (fun _ i _ => l.length - (intOf i).toNat)
  case atStart => exact ⟨0, by omega, rfl, ⟨0, rfl, rfl, by omega, by omega⟩, hb1⟩
  case round =>
    obtain ⟨k, hk, rfl, ⟨t, rfl, ht, t0, t1⟩, hb⟩ := hrel
    by_cases hlt : k < l.length
    · obtain ⟨b, off, rfl, hlt', x, y, hxy, h1, h2⟩ := HC.out.at k hlt
      have c1 := (hb.cell (p := ⟨b, off + k * 2, none⟩) hlt').trans h1
      have c2 := (hb.cell (p := ⟨b, off + k * 2 + 1, none⟩) hlt').trans h2
      have hne : b ≠ wr.heap.size := Nat.ne_of_lt (Nat.lt_of_lt_of_le hlt' hb.size)
      have hg := valid_get HV.out hlt
      rw [hxy] at hg
      have hbd := bef_bd (valid_take HV.out (k + 1)) d
      have hst := take_succ_snoc hlt
      rw [hxy] at hst
      rw [hst, bef_snoc] at hbd
      dsimp only at hg hbd
      have HST := Lib.hid hst
      clear h1 h2 hxy hst
      rw [← ht.out] at hbd
      by_cases hd : x < d
      · by_cases hyd : y ≤ d
        · have ht2 := Lib.hid (show t + (y - x) = bef (l.take (k + 1)) d by rw [HST.out, bef_snoc, ← ht.out, if_pos hd]; dsimp only; omega)
          have h3 : t + (y - x) ≤ 65537 := by rw [if_pos hd] at hbd; omega
          clear hbd
          go_wp2
          go_roundw
          case rel => exact ⟨k + 1, by omega, by go_num, ⟨_, rfl, ht2, by omega, by omega⟩, hb.alloc hb.size _⟩
          case measure => simp [intOf]; omega
        · have hyd' : d < y := by omega
          have ht2 := Lib.hid (show t + (d - x) = bef (l.take (k + 1)) d by rw [HST.out, bef_snoc, ← ht.out, if_pos hd]; dsimp only; omega)
          have h3 : t + (d - x) ≤ 65537 := by rw [if_pos hd] at hbd; omega
          clear hbd
          go_wp2
          go_roundw
          case rel => exact ⟨k + 1, by omega, by go_num, ⟨_, rfl, ht2, by omega, by omega⟩, hb.alloc hb.size _⟩
          case measure => simp [intOf]; omega
      · have ht2 := Lib.hid (show t = bef (l.take (k + 1)) d by rw [HST.out, bef_snoc, ← ht.out, if_neg hd]; omega)
        clear hbd
        go_wp2
        go_roundw
        case rel => exact ⟨k + 1, by omega, by go_num, ⟨_, rfl, ht2, by omega, by omega⟩, hb.alloc hb.size _⟩
        case measure => simp [intOf]; omega
    · obtain rfl : k = l.length := by omega
      have hf := Lib.hid (show t = bef l d by have := ht.out; rw [List.take_length] at this; exact this)
      go_wp2
      go_ret
      exact ⟨ret_int hf.out, hb⟩

set_option maxHeartbeats 1000000 in
theorem before_bad (l : Sps) (d : Int) (p : Option Addr) (cap : Nat) (w : World) (hl : l.length ≤ 100000) (hv : validB l = false) (hc : Cells w p l) :
    Calls Tryz.prog 34 #[.slice p l.length cap, .int .i64 d] w fun e w' => e = .returned (.int .i64 0) ∧ Below w.heap.size w w' := by
  have CV := Lib.hid (valid_is l false p cap w hv hl hc)
  clear hv hc
  go_enter Tryz.func34, Tryz.ntmps34
  go_wp2_with (first | (go_at_call 26; refine CV.out.mono ?_; rintro e w1 ⟨rfl, hb1⟩))
  go_ret
  exact ⟨rfl, hb1⟩

/-- What Before answers. -/
def befv (l : Sps) (d : Int) : Int := if validB l = true then bef l d else 0

theorem before_any (l : Sps) (d : Int) (p : Option Addr) (cap : Nat) (w : World) (hl : l.length ≤ 100000) (hc : Cells w p l) :
    Calls Tryz.prog 34 #[.slice p l.length cap, .int .i64 d] w fun e w' => e = .returned (.int .i64 (befv l d)) ∧ Below w.heap.size w w' := by
  unfold befv
  split
  · exact before_ok l d p cap w hl (by assumption) hc
  · exact before_bad l d p cap w hl (by simpa using ‹¬ validB l = true›) hc

theorem days_any (l : Sps) (p : Option Addr) (cap : Nat) (w : World) (hl : l.length ≤ 100000) (hc : Cells w p l) :
    Calls Tryz.prog 36 #[.slice p l.length cap] w fun e w' => e = .returned (.int .i64 (befv l 65536)) ∧ Below w.heap.size w w' := by
  have C := Lib.hid (before_any l 65536 p cap w hl hc)
  clear hc
  go_enter Tryz.func36, Tryz.ntmps36
  go_wp2_with (first | (go_at_call 34; refine C.out.mono ?_; rintro e w1 ⟨rfl, hb1⟩))
  go_ret
  exact ⟨rfl, hb1⟩

set_option maxHeartbeats 2000000 in
theorem nth_ok (l : Sps) (n : Int) (p : Option Addr) (cap : Nat) (w : World) (hl : l.length ≤ 100000) (hv : validB l = true) (hn : 0 ≤ n) (hn1 : n < 9223372036854775808) (hc : Cells w p l) :
    Calls Tryz.prog 28 #[.slice p l.length cap, .int .i64 n] w fun e w' => e = .returned (.tuple #[.int .i64 ((nth l n).getD 0), .bool (nth l n).isSome]) ∧ Below w.heap.size w w' := by
  have CV := Lib.hid (valid_is l true p cap w hv hl hc)
  have HV := Lib.hid hv; clear hv
  have HC := Lib.hid hc; clear hc
  go_enter Tryz.func28, Tryz.ntmps28
  go_wp2_with (first | (go_at_call 26; refine CV.out.mono ?_; rintro e w1 ⟨rfl, hb1⟩))
  go_loopw [1, 17] (fun c i wr => ∃ k : Nat, k ≤ l.length ∧ i = .int .i64 k ∧ (∃ t, c = .int .i64 t ∧ Hid (nth l n = nth (l.drop k) t) ∧ 0 ≤ t ∧ t < 9223372036854775808) ∧ Below w.heap.size w wr) (fun _ i _ => l.length - (intOf i).toNat)
  case atStart => exact ⟨0, by omega, rfl, ⟨n, rfl, Lib.hid (by simp), by omega, by omega⟩, hb1⟩
  case round =>
    obtain ⟨k, hk, rfl, ⟨t, rfl, ht, t0, t1⟩, hb⟩ := hrel
    by_cases hlt : k < l.length
    · obtain ⟨b, off, rfl, hlt', x, y, hxy, h1, h2⟩ := HC.out.at k hlt
      have c1 := (hb.cell (p := ⟨b, off + k * 2, none⟩) hlt').trans h1
      have c2 := (hb.cell (p := ⟨b, off + k * 2 + 1, none⟩) hlt').trans h2
      have hne : b ≠ wr.heap.size := Nat.ne_of_lt (Nat.lt_of_lt_of_le hlt' hb.size)
      have hg := valid_get HV.out hlt
      rw [hxy] at hg
      have hst := List.drop_eq_getElem_cons hlt
      rw [hxy] at hst
      dsimp only at hg
      have HST := Lib.hid hst
      clear h1 h2 hxy hst
      by_cases hd : t < y - x
      · have hf := Lib.hid (show nth l n = some (x + t) by rw [ht.out, HST.out, nth, if_pos hd])
        go_wp2
        go_ret2
        exact ⟨ret_two (by rw [hf.out]; rfl) (by rw [hf.out]; rfl), hb.alloc hb.size _⟩
      · have ht2 := Lib.hid (show nth l n = nth (l.drop (k + 1)) (t - (y - x)) by rw [ht.out, HST.out, nth, if_neg hd])
        go_wp2
        go_roundw
        case rel => exact ⟨k + 1, by omega, by go_num, ⟨_, rfl, ht2, by omega, by omega⟩, hb.alloc hb.size _⟩
        case measure => simp [intOf]; omega
    · obtain rfl : k = l.length := by omega
      have hf := Lib.hid (show nth l n = none by have := ht.out; rw [List.drop_length] at this; exact this)
      go_wp2
      go_ret2
      exact ⟨ret_two (by rw [hf.out]; rfl) (by rw [hf.out]; rfl), hb⟩

set_option maxHeartbeats 1000000 in
theorem nth_bad (l : Sps) (n : Int) (p : Option Addr) (cap : Nat) (w : World) (hl : l.length ≤ 100000) (hv : validB l = false ∨ n < 0) (hc : Cells w p l) :
    Calls Tryz.prog 28 #[.slice p l.length cap, .int .i64 n] w fun e w' => e = .returned (.tuple #[.int .i64 0, .bool false]) ∧ Below w.heap.size w w' := by
  have CV := Lib.hid (valid_any l p cap w hl hc)
  clear hc
  cases hval : validB l with
  | false =>
    rw [hval] at CV
    clear hv hval
    go_enter Tryz.func28, Tryz.ntmps28
    go_wp2_with (first | (go_at_call 26; refine CV.out.mono ?_; rintro e w1 ⟨rfl, hb1⟩))
    go_ret2
    exact ⟨rfl, hb1⟩
  | true =>
    have hn : n < 0 := by rcases hv with h | h; · rw [hval] at h; cases h
                          · exact h
    rw [hval] at CV
    clear hv hval
    go_enter Tryz.func28, Tryz.ntmps28
    go_wp2_with (first | (go_at_call 26; refine CV.out.mono ?_; rintro e w1 ⟨rfl, hb1⟩))
    go_ret2
    exact ⟨rfl, hb1⟩

end Go.Proofs.YtgpbdocgnfjckaaGreat
