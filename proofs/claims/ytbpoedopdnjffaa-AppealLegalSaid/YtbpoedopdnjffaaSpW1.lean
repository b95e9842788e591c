/- The walks of isSpan and Valid. -/
import Derived.Test.YtbpoedopdnjffaaProg
import Derived.Test.YtbpoedopdnjffaaSpPlain
import Derived.Test.YtbpoedopdnjffaaSpPlain2
import Derived.WalkKit
import Derived.WalkSpells
import Derived.WalkLawsBesides
import Derived.Handy
import Derived.Test.YtbpoedopdnjffaaSpLater
import Derived.Deep.QuietTactic
import Derived.BigQuiet
import Derived.Lib.Hide
import Derived.Deep.RegionHeld3
import Derived.Deep.RegionWith
namespace Go.Proofs.Ytbpoedopdnjffaa
open Go.RowKit Sp

theorem ret_int {k : IntKind} {a b : Int} (h : a = b) : Ending.returned (.int k a) = .returned (.int k b) := by rw [h]
theorem ret_bool {a b : Bool} (h : a = b) : Ending.returned (.bool a) = .returned (.bool b) := by rw [h]
theorem below_drewN {B : Nat} {a w : World} (h : Below B a w) (n : Nat) : Below B a (w.drewN n) := ⟨h.os, h.tape, h.output, h.size, h.block⟩
theorem below_next {w w1 w2 : World} (h1 : Below w.heap.size w w1) (h2 : Below w1.heap.size w1 w2) : Below w.heap.size w w2 := h1.trans (h2.mono h1.size)

/-- The slice of l's length at p reads as the spans l. -/
def Cells (w : World) (p : Option Addr) (l : Sps) : Prop :=
  l = [] ∨ ∃ b off, p = some ⟨b, off, none⟩ ∧
    ∀ i : Nat, (h : i < l.length) → w.cell? ⟨b, off + i * 2, none⟩ = some (.int .i64 l[i].1) ∧ w.cell? ⟨b, off + i * 2 + 1, none⟩ = some (.int .i64 l[i].2)

theorem Cells.nil (w : World) (p : Option Addr) : Cells w p [] := .inl rfl

theorem Cells.below {w w' : World} {p : Option Addr} {l : Sps} (h : Cells w p l) (hb : Below w.heap.size w w') : Cells w' p l := by
  rcases h with h | ⟨b, off, hv, hc⟩
  · exact .inl h
  · refine .inr ⟨b, off, hv, fun i hi => ?_⟩
    have h1 := hc i hi
    have hl := World.block_lt_of_cell? w _ h1.1
    rw [hb.cell (p := ⟨b, off + i * 2, none⟩) hl, hb.cell (p := ⟨b, off + i * 2 + 1, none⟩) hl]
    exact h1

def isS (a b : Int) : Bool := decide (0 ≤ a) && decide (a ≤ b) && decide (b ≤ 65536)

set_option maxHeartbeats 400000 in
theorem isSpan_any (a b : Int) (w : World) :
    Calls Try.prog 38 #[.agg #[.int .i64 a, .int .i64 b]] w fun e w' => e = .returned (.bool (isS a b)) ∧ Below w.heap.size w w' := by
  by_cases h1 : 0 ≤ a
  · by_cases h2 : a ≤ b
    · have hf := Lib.hid (show isS a b = decide (b ≤ 65536) by unfold isS; simp [h1, h2])
      go_enter Try.func38, Try.ntmps38
      go_wp2
      go_ret
      exact ⟨ret_bool hf.out.symm, by go_grown⟩
    · have hf := Lib.hid (show isS a b = false by unfold isS; simp [h2])
      go_enter Try.func38, Try.ntmps38
      go_wp2
      go_ret
      exact ⟨ret_bool hf.out.symm, by go_grown⟩
  · have hf := Lib.hid (show isS a b = false by unfold isS; simp [h1])
    go_enter Try.func38, Try.ntmps38
    go_wp2
    go_ret
    exact ⟨ret_bool hf.out.symm, by go_grown⟩

theorem isSpan_is (a b : Int) (x : Bool) (w : World) (h : isS a b = x) :
    Calls Try.prog 38 #[.agg #[.int .i64 a, .int .i64 b]] w fun e w' => e = .returned (.bool x) ∧ Below w.heap.size w w' := by
  subst h; exact isSpan_any a b w

theorem lastTo_ge {p : Int} {l : Sps} (h : validFrom p l = true) : p ≤ lastTo p l := by
  cases l with
  | nil => rw [lastTo_nil]; omega
  | cons s l =>
    have h' := h
    rw [validFrom_cons] at h'
    have := mem_last h s.1 (by rw [mem_cons_iff]; left; omega)
    omega

theorem lastTo_take (l : Sps) (k : Nat) (hk : k < l.length) (h0 : 0 < k) : lastTo (-1) (l.take k) = (l[k - 1]'(by omega)).2 := by
  have : l.take k = l.take (k - 1) ++ [l[k - 1]'(by omega)] := by
    have := List.take_succ_eq_append_getElem (l := l) (i := k - 1) (by omega)
    rw [show k - 1 + 1 = k by omega] at this
    exact this
  rw [this, lastTo_snoc]

/-- One span more: the beginning stays a set just where the test lets it by. -/
theorem take_valid (l : Sps) (k : Nat) (hk : k < l.length) (hv : validFrom (-1) (l.take k) = true) (x y : Int) (hxy : l[k] = (x, y)) :
    (validFrom (-1) (l.take (k + 1)) = true ↔ (isS x y = true ∧ x ≠ y ∧ (0 < k → (l[k - 1]'(by omega)).2 < x))) ∧ (validFrom (-1) (l.take (k + 1)) = false → validB l = false) := by
  constructor
  · rw [List.take_succ_eq_append_getElem hk, hxy, validFrom_snoc]
    have hge := lastTo_ge hv
    have hi : isS x y = true ↔ 0 ≤ x ∧ x ≤ y ∧ y ≤ 65536 := by unfold isS; simp [and_assoc]
    rw [hi]
    rcases Nat.eq_zero_or_pos k with h0 | h0
    · subst h0
      simp only [List.take_zero, lastTo_nil, validFrom, true_and]
      omega
    · rw [lastTo_take l k hk h0] at hge ⊢
      constructor
      · intro h; exact ⟨by omega, by omega, fun _ => h.2.1⟩
      · intro h; exact ⟨hv, h.2.2 h0, by omega, by omega⟩
  · intro h
    unfold validB
    cases hl : validFrom (-1) l with
    | false => rfl
    | true =>
      rw [← List.take_append_drop (k + 1) l, validFrom_append, h] at hl
      exact absurd hl.1 (by simp)

set_option maxHeartbeats 2000000 in
set_option maxRecDepth 100000 in
theorem valid_some (l : Sps) (b off cap : Nat) (w : World) (hn : l.length ≤ 100000)
    (hc : ∀ i : Nat, (h : i < l.length) → w.cell? ⟨b, off + i * 2, none⟩ = some (.int .i64 l[i].1) ∧ w.cell? ⟨b, off + i * 2 + 1, none⟩ = some (.int .i64 l[i].2)) :
    Calls Try.prog 23 #[.slice (some ⟨b, off, none⟩) l.length cap] w fun e w' => e = .returned (.bool (validB l)) ∧ Below w.heap.size w w' := by
  have HC := Lib.hid hc; clear hc
  go_enter Try.func23, Try.ntmps23
  go_wp2
  go_loopw [7] (fun i wr => ∃ k : Nat, k ≤ l.length ∧ i = .int .i64 k ∧ Below w.heap.size w wr ∧ Hid (validFrom (-1) (l.take k) = true)) (fun i _ => l.length - (intOf i).toNat)
  case atStart => exact ⟨0, by omega, rfl, Below.refl _ _, rfl⟩
  case round =>
    obtain ⟨k, hk, rfl, hb, hv⟩ := hrel
    by_cases hlt : k < l.length
    · have h1 := HC.out k hlt
      have hl := World.block_lt_of_cell? w _ h1.1
      obtain ⟨x, y, hxy⟩ : ∃ x y, l[k] = (x, y) := ⟨_, _, rfl⟩
      have hs := Lib.hid (take_valid l k hlt hv.out x y hxy)
      rw [hxy] at h1
      have c1 := (hb.cell (p := ⟨b, off + k * 2, none⟩) hl).trans h1.1
      have c2 := (hb.cell (p := ⟨b, off + k * 2 + 1, none⟩) hl).trans h1.2
      dsimp only at c1 c2
      have hne : b ≠ wr.heap.size := Nat.ne_of_lt (Nat.lt_of_lt_of_le hl hb.size)
      clear h1 hxy
      by_cases hS : isS x y = true
      · have CS := Lib.hid (fun W => isSpan_is x y true W hS)
        have HS := Lib.hid hS
        clear hS
        by_cases hE : x = y
        · have hf := Lib.hid (hs.out.2 (by rw [← Bool.not_eq_true, hs.out.1]; intro h; exact h.2.1 hE))
          subst hE
          go_wp2_with fail
          refine wp_region_laterS (fun W => W.cell? ⟨wr.heap.size, 0, none⟩ = some (.int .i64 x) ∧ W.cell? ⟨wr.heap.size, 1, none⟩ = some (.int .i64 x) ∧ Hid (Below w.heap.size w W)) (by kernel_rfl) (by kernel_rfl) (fun p => ⟨p.cell _ _ (by go_keep), p.cell _ _ (by go_keep), p.since (hb.alloc hb.size _)⟩) ?_
          intro hS
          repeat (go_big_quiet_step ((go_at_call 38; exact Later.call (CS.out _))))
          refine wpQuiet_nil ?_
          rintro _ ⟨p, rfl⟩
          have B1 := (hS p).2.2
          clear hS
          go_wp2
          go_ret
          exact ⟨ret_bool hf.out.symm, B1.out⟩
        · have Hne := Lib.hid hE
          have hE' : (x == y) = false := by simpa using hE
          by_cases h0 : k < 1
          · have hn := Lib.hid (hs.out.1.2 ⟨HS.out, Hne.out, fun h => by omega⟩)
            have h00 : ¬ (0 < k) := by omega
            go_wp2_with fail
            refine wp_region_laterS (fun W => W.cell? ⟨wr.heap.size, 0, none⟩ = some (.int .i64 x) ∧ W.cell? ⟨wr.heap.size, 1, none⟩ = some (.int .i64 y) ∧ Hid (Below w.heap.size w W)) (by kernel_rfl) (by kernel_rfl) (fun p => ⟨p.cell _ _ (by go_keep), p.cell _ _ (by go_keep), p.since (hb.alloc hb.size _)⟩) ?_
            intro hS
            repeat (go_big_quiet_step ((go_at_call 38; exact Later.call (CS.out _))))
            refine wpQuiet_nil ?_
            rintro _ ⟨p, rfl⟩
            have B1 := (hS p).2.2
            clear hS
            go_wp2
            go_roundw
            case rel => exact ⟨k + 1, by omega, by go_num, B1.out, hn⟩
            case measure => simp [intOf]; omega
          · obtain ⟨z, hz⟩ : ∃ z, z = (l[k - 1]'(by omega)).2 := ⟨_, rfl⟩
            have h2 := HC.out (k - 1) (by omega)
            rw [← hz] at h2
            have c3 := (hb.cell (p := ⟨b, off + (k - 1) * 2 + 1, none⟩) hl).trans h2.2
            have hpos : 0 < k := by omega
            have Hz := Lib.hid hz
            clear h2 hz
            have j1 : (1 : Int) ≤ (k : Int) := by omega
            have j0 : (0 : Int) ≤ (k : Int) - 1 := by omega
            have j2 : (k : Int) - 1 < (l.length : Int) := by omega
            have j3 : ((k : Int) - 1).toNat = k - 1 := by omega
            have j4 : IntKind.i64.wrap ((k : Int) - 1) = (k : Int) - 1 := IntWalk.i64_in _ (by omega)
            by_cases hzx : x ≤ z
            · have hf := Lib.hid (hs.out.2 (by rw [← Bool.not_eq_true, hs.out.1]; intro h; have := h.2.2 hpos; rw [← Hz.out] at this; omega))
              go_wp2_with fail
              refine wp_region_laterS (fun W => W.cell? ⟨wr.heap.size, 0, none⟩ = some (.int .i64 x) ∧ W.cell? ⟨wr.heap.size, 1, none⟩ = some (.int .i64 y) ∧ W.cell? ⟨b, off + (k - 1) * 2 + 1, none⟩ = some (.int .i64 z) ∧ Hid (Below w.heap.size w W)) (by kernel_rfl) (by kernel_rfl) (fun p => ⟨p.cell _ _ (by go_keep), p.cell _ _ (by go_keep), p.cell _ _ (by go_keep), p.since (hb.alloc hb.size _)⟩) ?_
              intro hS
              repeat (go_big_quiet_step ((go_at_call 38; exact Later.call (CS.out _))))
              refine wpQuiet_nil ?_
              rintro _ ⟨p, rfl⟩
              have B1 := (hS p).2.2.2
              clear hS
              go_wp2
              go_ret
              exact ⟨ret_bool hf.out.symm, B1.out⟩
            · have hn := Lib.hid (hs.out.1.2 ⟨HS.out, Hne.out, fun _ => by rw [← Hz.out]; omega⟩)
              go_wp2_with fail
              refine wp_region_laterS (fun W => W.cell? ⟨wr.heap.size, 0, none⟩ = some (.int .i64 x) ∧ W.cell? ⟨wr.heap.size, 1, none⟩ = some (.int .i64 y) ∧ W.cell? ⟨b, off + (k - 1) * 2 + 1, none⟩ = some (.int .i64 z) ∧ Hid (Below w.heap.size w W)) (by kernel_rfl) (by kernel_rfl) (fun p => ⟨p.cell _ _ (by go_keep), p.cell _ _ (by go_keep), p.cell _ _ (by go_keep), p.since (hb.alloc hb.size _)⟩) ?_
              intro hS
              repeat (go_big_quiet_step ((go_at_call 38; exact Later.call (CS.out _))))
              refine wpQuiet_nil ?_
              rintro _ ⟨p, rfl⟩
              have B1 := (hS p).2.2.2
              clear hS
              go_wp2
              go_roundw
              case rel => exact ⟨k + 1, by omega, by go_num, B1.out, hn⟩
              case measure => simp [intOf]; omega
      · have hS' : isS x y = false := by simpa using hS
        have CS := Lib.hid (fun W => isSpan_is x y false W hS')
        have hf := Lib.hid (hs.out.2 (by rw [← Bool.not_eq_true, hs.out.1]; intro h; exact hS h.1))
        clear hS hS'
        go_wp2_with fail
        refine wp_region_laterS (fun W => W.cell? ⟨wr.heap.size, 0, none⟩ = some (.int .i64 x) ∧ W.cell? ⟨wr.heap.size, 1, none⟩ = some (.int .i64 y) ∧ Hid (Below w.heap.size w W)) (by kernel_rfl) (by kernel_rfl) (fun p => ⟨p.cell _ _ (by go_keep), p.cell _ _ (by go_keep), p.since (hb.alloc hb.size _)⟩) ?_
        intro hS
        repeat (go_big_quiet_step ((go_at_call 38; exact Later.call (CS.out _))))
        refine wpQuiet_nil ?_
        rintro _ ⟨p, rfl⟩
        have B1 := (hS p).2.2
        clear hS
        go_wp2
        go_ret
        exact ⟨ret_bool hf.out.symm, B1.out⟩
    · obtain rfl : k = l.length := by omega
      have hf := Lib.hid (show validB l = true by have := hv.out; rw [List.take_length] at this; exact this)
      go_wp2
      go_ret
      exact ⟨ret_bool hf.out.symm, hb⟩

set_option maxHeartbeats 400000 in
theorem valid_none (p : Option Addr) (cap : Nat) (w : World) :
    Calls Try.prog 23 #[.slice p 0 cap] w fun e w' => e = .returned (.bool true) ∧ Below w.heap.size w w' := by
  go_enter Try.func23, Try.ntmps23
  go_wp2
  go_loopw [7] (fun i wr => i = .int .i64 0 ∧ wr = w) (fun _ _ => 0)
  case atStart => exact ⟨rfl, rfl⟩
  case round =>
    obtain ⟨rfl, rfl⟩ := hrel
    go_wp2
    go_ret
    exact ⟨rfl, Below.refl _ _⟩

theorem valid_any (l : Sps) (p : Option Addr) (cap : Nat) (w : World) (hn : l.length ≤ 100000) (hc : Cells w p l) :
    Calls Try.prog 23 #[.slice p l.length cap] w fun e w' => e = .returned (.bool (validB l)) ∧ Below w.heap.size w w' := by
  rcases hc with rfl | ⟨b, off, rfl, hc⟩
  · exact valid_none p cap w
  · exact valid_some l b off cap w hn hc

theorem valid_is (l : Sps) (x : Bool) (p : Option Addr) (cap : Nat) (w : World) (hx : validB l = x) (hn : l.length ≤ 100000) (hc : Cells w p l) :
    Calls Try.prog 23 #[.slice p l.length cap] w fun e w' => e = .returned (.bool x) ∧ Below w.heap.size w w' := by
  subst hx; exact valid_any l p cap w hn hc

set_option maxHeartbeats 1000000 in
theorem border_any (l : Sps) (i : Nat) (p : Option Addr) (cap : Nat) (w : World) (hn : l.length ≤ 100000) (hi : i < 2 * l.length) (hc : Cells w p l) :
    Calls Try.prog 74 #[.slice p l.length cap, .int .i64 i] w fun e w' => e = .returned (.int .i64 (bord l i)) ∧ w' = w := by
  rcases hc with rfl | ⟨b, off, rfl, hc⟩
  · simp at hi
  · obtain ⟨k, hk⟩ : ∃ k, k = i / 2 := ⟨_, rfl⟩
    have hkl : k < l.length := by omega
    obtain ⟨h1, h2⟩ := hc k hkl
    clear hc
    obtain ⟨x, y, hxy⟩ : ∃ x y, l[k] = (x, y) := ⟨_, _, rfl⟩
    rw [hxy] at h1 h2
    have hg : l.getD (i / 2) (0, 0) = (x, y) := by rw [← hk, List.getD_eq_getElem?_getD, List.getElem?_eq_getElem hkl, hxy]; rfl
    have q1 : (i : Int).tdiv 2 = (k : Int) := by rw [hk, Int.tdiv_eq_ediv_of_nonneg (by omega)]; omega
    have q2 : ((k : Int)).toNat = k := by omega
    by_cases h : i % 2 = 0
    · have hf := Lib.hid (show bord l i = x by unfold bord; rw [if_pos h, hg])
      have r1 : (i : Int).tmod 2 = 0 := by rw [Int.tmod_eq_emod_of_nonneg (by omega)]; omega
      have hi2 := Lib.hid hi
      have hk2 := Lib.hid hk
      clear hg hxy hk h hi
      go_enter Try.func74, Try.ntmps74
      go_wp2
      go_ret
      exact ⟨ret_int hf.out.symm, rfl⟩
    · have hf := Lib.hid (show bord l i = y by unfold bord; rw [if_neg h, hg])
      have r1 : (i : Int).tmod 2 = 1 := by rw [Int.tmod_eq_emod_of_nonneg (by omega)]; omega
      have hi2 := Lib.hid hi
      have hk2 := Lib.hid hk
      clear hg hxy hk h hi
      go_enter Try.func74, Try.ntmps74
      go_wp2
      go_ret
      exact ⟨ret_int hf.out.symm, rfl⟩

end Go.Proofs.Ytbpoedopdnjffaa
