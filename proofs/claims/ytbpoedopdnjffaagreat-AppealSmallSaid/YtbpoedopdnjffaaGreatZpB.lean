/- A region whose operations read and whose callees keep the old memory, walked once in the order of the text: the class of worlds 'later than w'. The walks of isSpan and Valid. The walk of the iterator of changes. The loop of choose: what it keeps between two rounds. -/
import Derived.Test.YtbpoedopdnjffaaGreatProg
import Derived.WalkKit
import Derived.WalkSpells
import Derived.WalkLawsBesides
import Derived.Handy
import Derived.Deep.QuietTactic
import Derived.BigQuiet
import Derived.Lib.Hide
import Derived.Below
import Derived.Test.YtbpoedopdnjffaaGreatZpA
import Derived.Deep.RegionHeld3
import Derived.Deep.RegionWith
import Derived.RangeFuncNested
import Derived.RangeFuncBound
import Derived.RangeFuncCalls
import Derived.RangeFuncLeaves
import Derived.RangeFuncBox
import Derived.Shelf.Abstract
import Derived.Sort.AtCallIn
import Derived.Shelf.RegionOpen
import Derived.OwnWalkIn
import Derived.TacticsInMore
import Derived.LoopNIn
import Derived.LoopIn
import Derived.Maps.AppendAt
namespace Go.Proofs.YtbpoedopdnjffaaGreat
open Go.RowKit

/-- A world that keeps the memory of w. -/
structure Later (w : World) where
  W : World
  below : Below w.heap.size w W

instance (w : World) : Nonempty (Later w) := ⟨⟨w, Below.refl _ _⟩⟩

theorem wp_region_later {P : Program} {id : Nat} {Q : Exit → Act → World → Prop} {a : Act} {w : World} {l : List Oper} (hm : P.follows .mixedOrders = true) (hB : Region.lexB .any l.toArray = true)
    (h : wpQuiet P l.toArray (fun w' => ∃ p : Later w, w' = p.W) (fun a' => ∀ w', (∃ p : Later w, w' = p.W) → Q .normal a' w') l a) : (Code.region id l.toArray true).wp P Q a w :=
  wp_region_quiet (C := fun w' => ∃ p : Later w, w' = p.W) hm hB ⟨⟨w.drew, (Below.refl _ _).drew⟩, rfl⟩ (by simpa using h)

/-- .. with facts S that every later world keeps. -/
theorem wp_region_laterS {P : Program} {id : Nat} {Q : Exit → Act → World → Prop} {a : Act} {w : World} {l : List Oper} (S : World → Prop) (hm : P.follows .mixedOrders = true) (hB : Region.lexB .any l.toArray = true)
    (hS : ∀ p : Later w, S p.W)
    (h : (∀ p : Later w, S p.W) → wpQuiet P l.toArray (fun w' => ∃ p : Later w, w' = p.W) (fun a' => ∀ w', (∃ p : Later w, w' = p.W) → Q .normal a' w') l a) : (Code.region id l.toArray true).wp P Q a w :=
  wp_region_later hm hB (h hS)

theorem Later.since {w0 w : World} (h : Below w0.heap.size w0 w) (p : Later w) : Below w0.heap.size w0 p.W := h.trans (p.below.mono h.size)

theorem Later.cell {w : World} (a : Addr) (v : Value) (h : w.cell? a = some v) (p : Later w) : p.W.cell? a = some v := by
  rw [p.below.cell (World.block_lt_of_cell? w _ h)]; exact h

theorem Later.call {P : Program} {f : FuncId} {args : Array Value} {w : World} {p : Later w} {v : Value}
    (h : Calls P f args p.W fun e w' => e = .returned v ∧ Below p.W.heap.size p.W w') : Calls P f args p.W fun e w'' => e = .returned v ∧ ∃ q : Later w, w'' = q.W :=
  h.mono fun _ w2 ⟨he, hb⟩ => ⟨he, ⟨w2, p.below.trans (hb.mono p.below.size)⟩, rfl⟩

theorem Later.call_same {P : Program} {f : FuncId} {args : Array Value} {w : World} {p : Later w} {v : Value}
    (h : Calls P f args p.W fun e w' => e = .returned v ∧ p.W = w') : Calls P f args p.W fun e w'' => e = .returned v ∧ ∃ q : Later w, w'' = q.W :=
  h.mono fun _ _ ⟨he, hb⟩ => ⟨he, p, hb.symm⟩

end Go.Proofs.YtbpoedopdnjffaaGreat

namespace Go.Proofs.YtbpoedopdnjffaaGreat
open Go.RowKit Sp

theorem ret_int {k : IntKind} {a b : Int} (h : a = b) : Ending.returned (.int k a) = .returned (.int k b) := by rw [h]
theorem ret_bool {a b : Bool} (h : a = b) : Ending.returned (.bool a) = .returned (.bool b) := by rw [h]
theorem below_drewN {B : Nat} {a w : World} (h : Below B a w) (n : Nat) : Below B a (w.drewN n) := ⟨h.os, h.tape, h.output, h.size, h.block⟩
theorem below_next {w w1 w2 : World} (h1 : Below w.heap.size w w1) (h2 : Below w1.heap.size w1 w2) : Below w.heap.size w w2 := h1.trans (h2.mono h1.size)

/-- The slice of l's length at p reads as the spans l. -/
def Cells (w : World) (p : Option Addr) (l : Sps) : Prop :=
  l = [] ∨ ∃ b off, p = some ⟨b, off, none⟩ ∧
    ∀ i : Nat, (h : i < l.length) → w.cell? ⟨b, off + i * 2, none⟩ = some (.int .i64 l[i].1) ∧ w.cell? ⟨b, off + i * 2 + 1, none⟩ = some (.int .i64 l[i].2)

theorem Cells.nil (w : World) (p : Option Addr) : Cells w p [] := .inl rfl

theorem Cells.below {w w' : World} {p : Option Addr} {l : Sps} (h : Cells w p l) (hb : Below w.heap.size w w') : Cells w' p l := by
  rcases h with h | ⟨b, off, hv, hc⟩
  · exact .inl h
  · refine .inr ⟨b, off, hv, fun i hi => ?_⟩
    have h1 := hc i hi
    have hl := World.block_lt_of_cell? w _ h1.1
    rw [hb.cell (p := ⟨b, off + i * 2, none⟩) hl, hb.cell (p := ⟨b, off + i * 2 + 1, none⟩) hl]
    exact h1

def isS (a b : Int) : Bool := decide (0 ≤ a) && decide (a ≤ b) && decide (b ≤ 65536)

set_option maxHeartbeats 400000 in
theorem isSpan_any (a b : Int) (w : World) :
    Calls Tryz.prog 125 #[.agg #[.int .i64 a, .int .i64 b]] w fun e w' => e = .returned (.bool (isS a b)) ∧ Below w.heap.size w w' := by
  by_cases h1 : 0 ≤ a
  · by_cases h2 : a ≤ b
    · have hf := Lib.hid (show isS a b = decide (b ≤ 65536) by unfold isS; simp [h1, h2])
      go_enter Tryz.func125, Tryz.ntmps125
      go_wp2
      go_ret
      exact ⟨ret_bool hf.out.symm, by go_grown⟩
    · have hf := Lib.hid (show isS a b = false by unfold isS; simp [h2])
      go_enter Tryz.func125, Tryz.ntmps125
      go_wp2
      go_ret
      exact ⟨ret_bool hf.out.symm, by go_grown⟩
  · have hf := Lib.hid (show isS a b = false by unfold isS; simp [h1])
    go_enter Tryz.func125, Tryz.ntmps125
    go_wp2
    go_ret
    exact ⟨ret_bool hf.out.symm, by go_grown⟩

theorem isSpan_is (a b : Int) (x : Bool) (w : World) (h : isS a b = x) :
    Calls Tryz.prog 125 #[.agg #[.int .i64 a, .int .i64 b]] w fun e w' => e = .returned (.bool x) ∧ Below w.heap.size w w' := by
  subst h; exact isSpan_any a b w

theorem lastTo_ge {p : Int} {l : Sps} (h : validFrom p l = true) : p ≤ lastTo p l := by
  cases l with
  | nil => rw [lastTo_nil]; omega
  | cons s l =>
    have h' := h
    rw [validFrom_cons] at h'
    have := mem_last h s.1 (by rw [mem_cons_iff]; left; omega)
    omega

theorem lastTo_take (l : Sps) (k : Nat) (hk : k < l.length) (h0 : 0 < k) : lastTo (-1) (l.take k) = (l[k - 1]'(by omega)).2 := by
  have : l.take k = l.take (k - 1) ++ [l[k - 1]'(by omega)] := by
    have := List.take_succ_eq_append_getElem (l := l) (i := k - 1) (by omega)
    rw [show k - 1 + 1 = k by omega] at this
    exact this
  rw [this, lastTo_snoc]

/-- One span more: the beginning stays a set just where the test lets it by. -/
theorem take_valid (l : Sps) (k : Nat) (hk : k < l.length) (hv : validFrom (-1) (l.take k) = true) (x y : Int) (hxy : l[k] = (x, y)) :
    (validFrom (-1) (l.take (k + 1)) = true ↔ (isS x y = true ∧ x ≠ y ∧ (0 < k → (l[k - 1]'(by omega)).2 < x))) ∧ (validFrom (-1) (l.take (k + 1)) = false → validB l = false) := by
  constructor
  · rw [List.take_succ_eq_append_getElem hk, hxy, validFrom_snoc]
    have hge := lastTo_ge hv
    have hi : isS x y = true ↔ 0 ≤ x ∧ x ≤ y ∧ y ≤ 65536 := by unfold isS; simp [and_assoc]
    rw [hi]
    rcases Nat.eq_zero_or_pos k with h0 | h0
    · subst h0
      simp only [List.take_zero, lastTo_nil, validFrom, true_and]
      omega
    · rw [lastTo_take l k hk h0] at hge ⊢
      constructor
      · intro h; exact ⟨by omega, by omega, fun _ => h.2.1⟩
      · intro h; exact ⟨hv, h.2.2 h0, by omega, by omega⟩
  · intro h
    unfold validB
    cases hl : validFrom (-1) l with
    | false => rfl
    | true =>
      rw [← List.take_append_drop (k + 1) l, validFrom_append, h] at hl
      exact absurd hl.1 (by simp)

set_option maxHeartbeats 2000000 in
set_option maxRecDepth 100000 in
theorem valid_some (l : Sps) (b off cap : Nat) (w : World) (hn : l.length ≤ 100000)
    (hc : ∀ i : Nat, (h : i < l.length) → w.cell? ⟨b, off + i * 2, none⟩ = some (.int .i64 l[i].1) ∧ w.cell? ⟨b, off + i * 2 + 1, none⟩ = some (.int .i64 l[i].2)) :
    Calls Tryz.prog 81 #[.slice (some ⟨b, off, none⟩) l.length cap] w fun e w' => e = .returned (.bool (validB l)) ∧ Below w.heap.size w w' := by
  have HC := Lib.hid hc; clear hc
  go_enter Tryz.func81, Tryz.ntmps81
  go_wp2
  go_loopw [7] (fun i wr => ∃ k : Nat, k ≤ l.length ∧ i = .int .i64 k ∧ Below w.heap.size w wr ∧ Hid (validFrom (-1) (l.take k) = true)) (fun i _ => l.length - (intOf i).toNat)
  case atStart => exact ⟨0, by omega, rfl, Below.refl _ _, rfl⟩
  case round =>
    obtain ⟨k, hk, rfl, hb, hv⟩ := hrel
    by_cases hlt : k < l.length
    · have h1 := HC.out k hlt
      have hl := World.block_lt_of_cell? w _ h1.1
      obtain ⟨x, y, hxy⟩ : ∃ x y, l[k] = (x, y) := ⟨_, _, rfl⟩
      have hs := Lib.hid (take_valid l k hlt hv.out x y hxy)
      rw [hxy] at h1
      have c1 := (hb.cell (p := ⟨b, off + k * 2, none⟩) hl).trans h1.1
      have c2 := (hb.cell (p := ⟨b, off + k * 2 + 1, none⟩) hl).trans h1.2
      dsimp only at c1 c2
      have hne : b ≠ wr.heap.size := Nat.ne_of_lt (Nat.lt_of_lt_of_le hl hb.size)
      clear h1 hxy
      by_cases hS : isS x y = true
      · have CS := Lib.hid (fun W => isSpan_is x y true W hS)
        have HS := Lib.hid hS
        clear hS
        by_cases hE : x = y
        · have hf := Lib.hid (hs.out.2 (by rw [← Bool.not_eq_true, hs.out.1]; intro h; exact h.2.1 hE))
          subst hE
          go_wp2_with fail
          refine wp_region_laterS (fun W => W.cell? ⟨wr.heap.size, 0, none⟩ = some (.int .i64 x) ∧ W.cell? ⟨wr.heap.size, 1, none⟩ = some (.int .i64 x) ∧ Hid (Below w.heap.size w W)) (by kernel_rfl) (by kernel_rfl) (fun p => ⟨p.cell _ _ (by go_keep), p.cell _ _ (by go_keep), p.since (hb.alloc hb.size _)⟩) ?_
          intro hS
          repeat (go_big_quiet_step ((go_at_call 125; exact Later.call (CS.out _))))
          refine wpQuiet_nil ?_
          rintro _ ⟨p, rfl⟩
          have B1 := (hS p).2.2
          clear hS
          go_wp2
          go_ret
          exact ⟨ret_bool hf.out.symm, B1.out⟩
        · have Hne := Lib.hid hE
          have hE' : (x == y) = false := by simpa using hE
          by_cases h0 : k < 1
          · have hn := Lib.hid (hs.out.1.2 ⟨HS.out, Hne.out, fun h => by omega⟩)
            have h00 : ¬ (0 < k) := by omega
            go_wp2_with fail
            refine wp_region_laterS (fun W => W.cell? ⟨wr.heap.size, 0, none⟩ = some (.int .i64 x) ∧ W.cell? ⟨wr.heap.size, 1, none⟩ = some (.int .i64 y) ∧ Hid (Below w.heap.size w W)) (by kernel_rfl) (by kernel_rfl) (fun p => ⟨p.cell _ _ (by go_keep), p.cell _ _ (by go_keep), p.since (hb.alloc hb.size _)⟩) ?_
            intro hS
            repeat (go_big_quiet_step ((go_at_call 125; exact Later.call (CS.out _))))
            refine wpQuiet_nil ?_
            rintro _ ⟨p, rfl⟩
            have B1 := (hS p).2.2
            clear hS
            go_wp2
            go_roundw
            case rel => exact ⟨k + 1, by omega, by go_num, B1.out, hn⟩
            case measure => simp [intOf]; omega
          · obtain ⟨z, hz⟩ : ∃ z, z = (l[k - 1]'(by omega)).2 := ⟨_, rfl⟩
            have h2 := HC.out (k - 1) (by omega)
            rw [← hz] at h2
            have c3 := (hb.cell (p := ⟨b, off + (k - 1) * 2 + 1, none⟩) hl).trans h2.2
            have hpos : 0 < k := by omega
            have Hz := Lib.hid hz
            clear h2 hz
            have j1 : (1 : Int) ≤ (k : Int) := by omega
            have j0 : (0 : Int) ≤ (k : Int) - 1 := by omega
            have j2 : (k : Int) - 1 < (l.length : Int) := by omega
            have j3 : ((k : Int) - 1).toNat = k - 1 := by omega
            have j4 : IntKind.i64.wrap ((k : Int) - 1) = (k : Int) - 1 := IntWalk.i64_in _ (by omega)
            by_cases hzx : x ≤ z
            · have hf := Lib.hid (hs.out.2 (by rw [← Bool.not_eq_true, hs.out.1]; intro h; have := h.2.2 hpos; rw [← Hz.out] at this; omega))
              go_wp2_with fail
              refine wp_region_laterS (fun W => W.cell? ⟨wr.heap.size, 0, none⟩ = some (.int .i64 x) ∧ W.cell? ⟨wr.heap.size, 1, none⟩ = some (.int .i64 y) ∧ W.cell? ⟨b, off + (k - 1) * 2 + 1, none⟩ = some (.int .i64 z) ∧ Hid (Below w.heap.size w W)) (by kernel_rfl) (by kernel_rfl) (fun p => ⟨p.cell _ _ (by go_keep), p.cell _ _ (by go_keep), p.cell _ _ (by go_keep), p.since (hb.alloc hb.size _)⟩) ?_
              intro hS
              repeat (go_big_quiet_step ((go_at_call 125; exact Later.call (CS.out _))))
              refine wpQuiet_nil ?_
              rintro _ ⟨p, rfl⟩
              have B1 := (hS p).2.2.2
              clear hS
              go_wp2
              go_ret
              exact ⟨ret_bool hf.out.symm, B1.out⟩
            · have hn := Lib.hid (hs.out.1.2 ⟨HS.out, Hne.out, fun _ => by rw [← Hz.out]; omega⟩)
              go_wp2_with fail
              refine wp_region_laterS (fun W => W.cell? ⟨wr.heap.size, 0, none⟩ = some (.int .i64 x) ∧ W.cell? ⟨wr.heap.size, 1, none⟩ = some (.int .i64 y) ∧ W.cell? ⟨b, off + (k - 1) * 2 + 1, none⟩ = some (.int .i64 z) ∧ Hid (Below w.heap.size w W)) (by kernel_rfl) (by kernel_rfl) (fun p => ⟨p.cell _ _ (by go_keep), p.cell _ _ (by go_keep), p.cell _ _ (by go_keep), p.since (hb.alloc hb.size _)⟩) ?_
              intro hS
              repeat (go_big_quiet_step ((go_at_call 125; exact Later.call (CS.out _))))
              refine wpQuiet_nil ?_
              rintro _ ⟨p, rfl⟩
              have B1 := (hS p).2.2.2
              clear hS
              go_wp2
              go_roundw
              case rel => exact ⟨k + 1, by omega, by go_num, B1.out, hn⟩
              case measure => simp [intOf]; omega
      · have hS' : isS x y = false := by simpa using hS
        have CS := Lib.hid (fun W => isSpan_is x y false W hS')
        have hf := Lib.hid (hs.out.2 (by rw [← Bool.not_eq_true, hs.out.1]; intro h; exact hS h.1))
        clear hS hS'
        go_wp2_with fail
        refine wp_region_laterS (fun W => W.cell? ⟨wr.heap.size, 0, none⟩ = some (.int .i64 x) ∧ W.cell? ⟨wr.heap.size, 1, none⟩ = some (.int .i64 y) ∧ Hid (Below w.heap.size w W)) (by kernel_rfl) (by kernel_rfl) (fun p => ⟨p.cell _ _ (by go_keep), p.cell _ _ (by go_keep), p.since (hb.alloc hb.size _)⟩) ?_
        intro hS
        repeat (go_big_quiet_step ((go_at_call 125; exact Later.call (CS.out _))))
        refine wpQuiet_nil ?_
        rintro _ ⟨p, rfl⟩
        have B1 := (hS p).2.2
        clear hS
        go_wp2
        go_ret
        exact ⟨ret_bool hf.out.symm, B1.out⟩
    · obtain rfl : k = l.length := by omega
      have hf := Lib.hid (show validB l = true by have := hv.out; rw [List.take_length] at this; exact this)
      go_wp2
      go_ret
      exact ⟨ret_bool hf.out.symm, hb⟩

set_option maxHeartbeats 400000 in
theorem valid_none (p : Option Addr) (cap : Nat) (w : World) :
    Calls Tryz.prog 81 #[.slice p 0 cap] w fun e w' => e = .returned (.bool true) ∧ Below w.heap.size w w' := by
  go_enter Tryz.func81, Tryz.ntmps81
  go_wp2
  go_loopw [7] (fun i wr => i = .int .i64 0 ∧ wr = w) (fun _ _ => 0)
  case atStart => exact ⟨rfl, rfl⟩
  case round =>
    obtain ⟨rfl, rfl⟩ := hrel
    go_wp2
    go_ret
    exact ⟨rfl, Below.refl _ _⟩

theorem valid_any (l : Sps) (p : Option Addr) (cap : Nat) (w : World) (hn : l.length ≤ 100000) (hc : Cells w p l) :
    Calls Tryz.prog 81 #[.slice p l.length cap] w fun e w' => e = .returned (.bool (validB l)) ∧ Below w.heap.size w w' := by
  rcases hc with rfl | ⟨b, off, rfl, hc⟩
  · exact valid_none p cap w
  · exact valid_some l b off cap w hn hc

theorem valid_is (l : Sps) (x : Bool) (p : Option Addr) (cap : Nat) (w : World) (hx : validB l = x) (hn : l.length ≤ 100000) (hc : Cells w p l) :
    Calls Tryz.prog 81 #[.slice p l.length cap] w fun e w' => e = .returned (.bool x) ∧ Below w.heap.size w w' := by
  subst hx; exact valid_any l p cap w hn hc

set_option maxHeartbeats 1000000 in
theorem border_any (l : Sps) (i : Nat) (p : Option Addr) (cap : Nat) (w : World) (hn : l.length ≤ 100000) (hi : i < 2 * l.length) (hc : Cells w p l) :
    Calls Tryz.prog 138 #[.slice p l.length cap, .int .i64 i] w fun e w' => e = .returned (.int .i64 (bord l i)) ∧ w' = w := by
  rcases hc with rfl | ⟨b, off, rfl, hc⟩
  · simp at hi
  · obtain ⟨k, hk⟩ : ∃ k, k = i / 2 := ⟨_, rfl⟩
    have hkl : k < l.length := by omega
    obtain ⟨h1, h2⟩ := hc k hkl
    clear hc
    obtain ⟨x, y, hxy⟩ : ∃ x y, l[k] = (x, y) := ⟨_, _, rfl⟩
    rw [hxy] at h1 h2
    have hg : l.getD (i / 2) (0, 0) = (x, y) := by rw [← hk, List.getD_eq_getElem?_getD, List.getElem?_eq_getElem hkl, hxy]; rfl
    have q1 : (i : Int).tdiv 2 = (k : Int) := by rw [hk, Int.tdiv_eq_ediv_of_nonneg (by omega)]; omega
    have q2 : ((k : Int)).toNat = k := by omega
    by_cases h : i % 2 = 0
    · have hf := Lib.hid (show bord l i = x by unfold bord; rw [if_pos h, hg])
      have r1 : (i : Int).tmod 2 = 0 := by rw [Int.tmod_eq_emod_of_nonneg (by omega)]; omega
      have hi2 := Lib.hid hi
      have hk2 := Lib.hid hk
      clear hg hxy hk h hi
      go_enter Tryz.func138, Tryz.ntmps138
      go_wp2
      go_ret
      exact ⟨ret_int hf.out.symm, rfl⟩
    · have hf := Lib.hid (show bord l i = y by unfold bord; rw [if_neg h, hg])
      have r1 : (i : Int).tmod 2 = 1 := by rw [Int.tmod_eq_emod_of_nonneg (by omega)]; omega
      have hi2 := Lib.hid hi
      have hk2 := Lib.hid hk
      clear hg hxy hk h hi
      go_enter Tryz.func138, Tryz.ntmps138
      go_wp2
      go_ret
      exact ⟨ret_int hf.out.symm, rfl⟩

end Go.Proofs.YtbpoedopdnjffaaGreat

namespace Go.Proofs.YtbpoedopdnjffaaGreat
open Go.RowKit Go.Shelf Sp

attribute [local go_sem] Oper.semAt_some

/-- What a round of the loop over the changes keeps: the memory below n₀, and the two boxes of the iterator. -/
def Kpc (n₀ Ba Bb : Nat) (va vb : Value) (W W' : World) : Prop := Below n₀ W W' ∧ (Boxed W Ba 50 va → Boxed W' Ba 50 va) ∧ (Boxed W Bb 50 vb → Boxed W' Bb 50 vb)

theorem Kpc.t {n₀ Ba Bb : Nat} {va vb : Value} {A B C : World} (h : Kpc n₀ Ba Bb va vb A B) (h' : Kpc n₀ Ba Bb va vb B C) : Kpc n₀ Ba Bb va vb A C :=
  ⟨h.1.trans h'.1, fun x => h'.2.1 (h.2.1 x), fun x => h'.2.2 (h.2.2 x)⟩

theorem Boxed.putObj {W : World} {B l : Nat} {t : TypeId} {v : Value} {o : Obj} (h : Boxed W B t v) (o' : Obj) (hl : W.heap[l]? = some o) (ho : o.isCells = false) : Boxed (W.putObj l o') B t v :=
  h.kept (grownBy_putObj' W l o') (fun e => by cases e; rw [show W.heap[B]? = _ from h] at hl; cases hl; cases ho)

theorem Kpc.b {n₀ Ba Bb : Nat} {va vb : Value} {w : World} (hn : n₀ ≤ w.heap.size) (W : World) (l : Nat) (o o' : Obj) (hl : w.heap.size ≤ l) (hW : W.heap[l]? = some o) (ho : o.isCells = false) (hw : o.isWalk = false) : Kpc n₀ Ba Bb va vb W (W.putObj l o') :=
  ⟨belowK_b hn W l o o' hl hW ho hw, fun x => Boxed.putObj x o' hW ho, fun x => Boxed.putObj x o' hW ho⟩

def evv (e : Ev) : Array Value := #[.int .i64 e.1, .agg #[.bool e.2.1, .bool e.2.2]]

theorem border_in (n : Nat) (l : Sps) (i : Nat) (p : Option Addr) (cap : Nat) (w : World) (hn : l.length ≤ 100000) (hi : i < 2 * l.length) (hc : Cells w p l) :
    CallsIn Fence.wide n Tryz.prog 138 #[.slice p l.length cap, .int .i64 i] w fun e w' => e = .returned (.int .i64 (bord l i)) ∧ w' = w :=
  callsIn_wide.2 (border_any l i p cap w hn hi hc)

set_option maxRecDepth 100000 in
set_option maxHeartbeats 4000000 in
theorem changes1_in (n : Nat) (hn : 1 ≤ n) (l Ba Bb n₀ : Nat) (a b : Sps) (pa pb : Option Addr) (ca cb : Nat) (la : a.length ≤ 100000) (lb : b.length ≤ 100000) (va : validB a = true) (vb : validB b = true) (J Jx : List Ev → World → Prop)
    (hY : ∀ pre x W, J pre W → pre.length < (chg a b).length → YieldAt Fence.wide (n - 1) Tryz.prog l (evv x) W fun e W' =>
      (e = .returned (.bool true) ∧ J (pre ++ [x]) W' ∧ Kpc n₀ Ba Bb (.slice pa a.length ca) (.slice pb b.length cb) W W') ∨ (e = .returned (.bool false) ∧ Jx (pre ++ [x]) W'))
    (W : World) (bA : Boxed W Ba 50 (.slice pa a.length ca)) (bB : Boxed W Bb 50 (.slice pb b.length cb))
    (hA : ∀ W', Below n₀ W W' → Cells W' pa a) (hB : ∀ W', Below n₀ W W' → Cells W' pb b) (h0 : J [] W) :
    CallsIn Fence.wide n Tryz.prog 137 #[.func (.yield l) #[] #[], .pointer (some ⟨Ba, 0, none⟩), .pointer (some ⟨Bb, 0, none⟩)] W fun e W' => (∃ v, e = .returned v) ∧
      ((∃ ys, ys = chg a b ∧ J ys W') ∨ (∃ pre, pre <+: chg a b ∧ Jx pre W')) := by
  refine callsIn_of_wp Tryz.func137 rfl trivial ?_ rfl
  simp only [Tryz.ntmps137, List.size_toArray, List.length_cons, List.length_nil, Nat.reduceAdd, Nat.reduceSub, Array.replicate_succ, Array.replicate_zero, List.push_toArray, List.append_toArray, List.nil_append, List.cons_append]
  have HY := Lib.hid hY; clear hY
  have HA := Lib.hid hA; clear hA
  have HB := Lib.hid hB; clear hB
  have cA0 := bA.cell
  have cB0 := bB.cell
  have HBB := Lib.hid (And.intro bA bB); clear bA bB
  have hva := Lib.hid va; clear va
  have hvb := Lib.hid vb; clear vb
  gi_wp2
  gi_loopw [4, 5] (fun vi vj wr => ∃ (i j : Nat) (pre : List Ev), i ≤ 2 * a.length ∧ j ≤ 2 * b.length ∧ vi = .int .i64 i ∧ vj = .int .i64 j ∧ Hid (chg a b = pre ++ evs ((bl a).drop i) ((bl b).drop j) (decide (i % 2 = 1)) (decide (j % 2 = 1))) ∧ J pre wr ∧ Below n₀ W wr ∧ Hid (Boxed wr Ba 50 (.slice pa a.length ca) ∧ Boxed wr Bb 50 (.slice pb b.length cb)))
    (fun vi vj _ => (2 * a.length - (intOf vi).toNat) + (2 * b.length - (intOf vj).toNat))
  case atStart => exact ⟨0, 0, [], by omega, by omega, rfl, rfl, Lib.hid (by simp [chg]), h0, Below.refl _ _, HBB⟩
  case round =>
    obtain ⟨i, j, pre, hi, hj, rfl, rfl, hch, hJs, hnx, hbb⟩ := hrel
    have c1 := hbb.out.1.cell
    have c2 := hbb.out.2.cell
    have rA := Lib.hid (HA.out wr hnx)
    have rB := Lib.hid (HB.out wr hnx)
    obtain ⟨qa, hqa⟩ : ∃ q, q = decide (i % 2 = 1) := ⟨_, rfl⟩
    obtain ⟨qb, hqb⟩ : ∃ q, q = decide (j % 2 = 1) := ⟨_, rfl⟩
    have t1 : (((i : Int) + 1) % 2 == 1) = !qa := by rw [hqa]; by_cases h : i % 2 = 1 <;> simp [h] <;> omega
    have t2 : (((j : Int) + 1) % 2 == 1) = !qb := by rw [hqb]; by_cases h : j % 2 = 1 <;> simp [h] <;> omega
    have t3 : ((i : Int) % 2 == 1) = qa := by rw [hqa]; by_cases h : i % 2 = 1 <;> simp [h] <;> omega
    have t4 : ((j : Int) % 2 == 1) = qb := by rw [hqb]; by_cases h : j % 2 = 1 <;> simp [h] <;> omega
    have Hsa := Lib.hid (show decide ((i + 1) % 2 = 1) = !qa by rw [hqa]; by_cases h : i % 2 = 1 <;> simp [h] <;> omega)
    have Hsb := Lib.hid (show decide ((j + 1) % 2 = 1) = !qb by rw [hqb]; by_cases h : j % 2 = 1 <;> simp [h] <;> omega)
    rw [← hqa, ← hqb] at hch
    have Hqa := Lib.hid hqa
    have Hqb := Lib.hid hqb
    clear hqa hqb
    by_cases hi' : i < 2 * a.length
    · obtain ⟨x, hx⟩ : ∃ x, x = bord a i := ⟨_, rfl⟩
      have ex := Lib.hid (bl_drop a i hi')
      have bx := bord_bd hva.out hi'
      have cA := Lib.hid (fun m => border_in m a i pa ca wr la hi' rA.out)
      rw [← hx] at ex bx cA
      clear hx
      by_cases hj' : j < 2 * b.length
      · obtain ⟨y, hy'⟩ : ∃ y, y = bord b j := ⟨_, rfl⟩
        have ey := Lib.hid (bl_drop b j hj')
        have by' := bord_bd hvb.out hj'
        have cB := Lib.hid (fun m => border_in m b j pb cb wr lb hj' rB.out)
        rw [← hy'] at ey by' cB
        clear hy'
        by_cases hxy : x < y
        · have hst := Lib.hid (show chg a b = pre ++ (x, !qa, qb) :: evs ((bl a).drop (i + 1)) ((bl b).drop (j)) (!qa) (qb) by rw [hch.out, ex.out, ey.out, evs_lt hxy])
          obtain ⟨fn, tmps, assign, body, hy, hR⟩ := HY.out pre (x, !qa, qb) wr hJs (by rw [hst.out]; simp)
          dsimp only [evv] at hy
          gi_wp2_with (first | (refine ⟨trivial, ?_⟩; gi_at_call_has 138 pa; refine (cA.out _).mono ?_; rintro e w' ⟨rfl, rfl⟩) | (refine ⟨trivial, ?_⟩; gi_at_call_has 138 pb; refine (cB.out _).mono ?_; rintro e w' ⟨rfl, rfl⟩))
          refine hR.mono ?_
          rintro e W3 (⟨rfl, hJ3, hk3⟩ | ⟨rfl, hJx3⟩)
          · gi_wp2
            go_roundw
            case rel => exact ⟨i + 1, j, pre ++ [(x, !qa, qb)], by omega, by omega, by go_num, by go_num, Lib.hid (by rw [hst.out, Hsa.out, ← Hqb.out]; simp), hJ3, hnx.trans hk3.1, Lib.hid ⟨hk3.2.1 hbb.out.1, hk3.2.2 hbb.out.2⟩⟩
            case measure => simp [intOf]; omega
          · gi_wp2
            refine bodyPost_ret (results_none rfl _ _ _) rfl ?_
            exact ⟨⟨_, rfl⟩, .inr ⟨pre ++ [(x, !qa, qb)], by rw [hst.out]; exact ⟨_, by simp; rfl⟩, hJx3⟩⟩
        · by_cases hyx : y < x
          · by_cases h65 : x = 65536
            · subst h65
              have hst := Lib.hid (show chg a b = pre ++ (y, qa, !qb) :: evs ((bl a).drop (i)) ((bl b).drop (j + 1)) (qa) (!qb) by rw [hch.out, ex.out, ey.out, evs_gt hyx])
              obtain ⟨fn, tmps, assign, body, hy, hR⟩ := HY.out pre (y, qa, !qb) wr hJs (by rw [hst.out]; simp)
              dsimp only [evv] at hy
              gi_wp2_with (first | (refine ⟨trivial, ?_⟩; gi_at_call_has 138 pa; refine (cA.out _).mono ?_; rintro e w' ⟨rfl, rfl⟩) | (refine ⟨trivial, ?_⟩; gi_at_call_has 138 pb; refine (cB.out _).mono ?_; rintro e w' ⟨rfl, rfl⟩))
              refine hR.mono ?_
              rintro e W3 (⟨rfl, hJ3, hk3⟩ | ⟨rfl, hJx3⟩)
              · gi_wp2
                go_roundw
                case rel => exact ⟨i, j + 1, pre ++ [(y, qa, !qb)], by omega, by omega, by go_num, by go_num, Lib.hid (by rw [hst.out, ← Hqa.out, Hsb.out]; simp), hJ3, hnx.trans hk3.1, Lib.hid ⟨hk3.2.1 hbb.out.1, hk3.2.2 hbb.out.2⟩⟩
                case measure => simp [intOf]; omega
              · gi_wp2
                refine bodyPost_ret (results_none rfl _ _ _) rfl ?_
                exact ⟨⟨_, rfl⟩, .inr ⟨pre ++ [(y, qa, !qb)], by rw [hst.out]; exact ⟨_, by simp; rfl⟩, hJx3⟩⟩
            · have h66 : x < 65536 := by omega
              have hst := Lib.hid (show chg a b = pre ++ (y, qa, !qb) :: evs ((bl a).drop (i)) ((bl b).drop (j + 1)) (qa) (!qb) by rw [hch.out, ex.out, ey.out, evs_gt hyx])
              obtain ⟨fn, tmps, assign, body, hy, hR⟩ := HY.out pre (y, qa, !qb) wr hJs (by rw [hst.out]; simp)
              dsimp only [evv] at hy
              gi_wp2_with (first | (refine ⟨trivial, ?_⟩; gi_at_call_has 138 pa; refine (cA.out _).mono ?_; rintro e w' ⟨rfl, rfl⟩) | (refine ⟨trivial, ?_⟩; gi_at_call_has 138 pb; refine (cB.out _).mono ?_; rintro e w' ⟨rfl, rfl⟩))
              refine hR.mono ?_
              rintro e W3 (⟨rfl, hJ3, hk3⟩ | ⟨rfl, hJx3⟩)
              · gi_wp2
                go_roundw
                case rel => exact ⟨i, j + 1, pre ++ [(y, qa, !qb)], by omega, by omega, by go_num, by go_num, Lib.hid (by rw [hst.out, ← Hqa.out, Hsb.out]; simp), hJ3, hnx.trans hk3.1, Lib.hid ⟨hk3.2.1 hbb.out.1, hk3.2.2 hbb.out.2⟩⟩
                case measure => simp [intOf]; omega
              · gi_wp2
                refine bodyPost_ret (results_none rfl _ _ _) rfl ?_
                exact ⟨⟨_, rfl⟩, .inr ⟨pre ++ [(y, qa, !qb)], by rw [hst.out]; exact ⟨_, by simp; rfl⟩, hJx3⟩⟩
          · obtain rfl : x = y := by omega
            by_cases h65 : x = 65536
            · subst h65
              have hst := Lib.hid (show chg a b = pre ++ (65536, !qa, !qb) :: evs ((bl a).drop (i + 1)) ((bl b).drop (j + 1)) (!qa) (!qb) by rw [hch.out, ex.out, ey.out, evs_eq])
              obtain ⟨fn, tmps, assign, body, hy, hR⟩ := HY.out pre (65536, !qa, !qb) wr hJs (by rw [hst.out]; simp)
              dsimp only [evv] at hy
              gi_wp2_with (first | (refine ⟨trivial, ?_⟩; gi_at_call_has 138 pa; refine (cA.out _).mono ?_; rintro e w' ⟨rfl, rfl⟩) | (refine ⟨trivial, ?_⟩; gi_at_call_has 138 pb; refine (cB.out _).mono ?_; rintro e w' ⟨rfl, rfl⟩))
              refine hR.mono ?_
              rintro e W3 (⟨rfl, hJ3, hk3⟩ | ⟨rfl, hJx3⟩)
              · gi_wp2
                go_roundw
                case rel => exact ⟨i + 1, j + 1, pre ++ [(65536, !qa, !qb)], by omega, by omega, by go_num, by go_num, Lib.hid (by rw [hst.out, Hsa.out, Hsb.out]; simp), hJ3, hnx.trans hk3.1, Lib.hid ⟨hk3.2.1 hbb.out.1, hk3.2.2 hbb.out.2⟩⟩
                case measure => simp [intOf]; omega
              · gi_wp2
                refine bodyPost_ret (results_none rfl _ _ _) rfl ?_
                exact ⟨⟨_, rfl⟩, .inr ⟨pre ++ [(65536, !qa, !qb)], by rw [hst.out]; exact ⟨_, by simp; rfl⟩, hJx3⟩⟩
            · have h66 : x < 65536 := by omega
              have hst := Lib.hid (show chg a b = pre ++ (x, !qa, !qb) :: evs ((bl a).drop (i + 1)) ((bl b).drop (j + 1)) (!qa) (!qb) by rw [hch.out, ex.out, ey.out, evs_eq])
              obtain ⟨fn, tmps, assign, body, hy, hR⟩ := HY.out pre (x, !qa, !qb) wr hJs (by rw [hst.out]; simp)
              dsimp only [evv] at hy
              gi_wp2_with (first | (refine ⟨trivial, ?_⟩; gi_at_call_has 138 pa; refine (cA.out _).mono ?_; rintro e w' ⟨rfl, rfl⟩) | (refine ⟨trivial, ?_⟩; gi_at_call_has 138 pb; refine (cB.out _).mono ?_; rintro e w' ⟨rfl, rfl⟩))
              refine hR.mono ?_
              rintro e W3 (⟨rfl, hJ3, hk3⟩ | ⟨rfl, hJx3⟩)
              · gi_wp2
                go_roundw
                case rel => exact ⟨i + 1, j + 1, pre ++ [(x, !qa, !qb)], by omega, by omega, by go_num, by go_num, Lib.hid (by rw [hst.out, Hsa.out, Hsb.out]; simp), hJ3, hnx.trans hk3.1, Lib.hid ⟨hk3.2.1 hbb.out.1, hk3.2.2 hbb.out.2⟩⟩
                case measure => simp [intOf]; omega
              · gi_wp2
                refine bodyPost_ret (results_none rfl _ _ _) rfl ?_
                exact ⟨⟨_, rfl⟩, .inr ⟨pre ++ [(x, !qa, !qb)], by rw [hst.out]; exact ⟨_, by simp; rfl⟩, hJx3⟩⟩
      · by_cases h65 : x = 65536
        · subst h65
          have hst := Lib.hid (show chg a b = pre ++ (65536, !qa, qb) :: evs ((bl a).drop (i + 1)) ((bl b).drop (j)) (!qa) (qb) by rw [hch.out, ex.out, bl_end b j (by omega), evs_xn])
          obtain ⟨fn, tmps, assign, body, hy, hR⟩ := HY.out pre (65536, !qa, qb) wr hJs (by rw [hst.out]; simp)
          dsimp only [evv] at hy
          gi_wp2_with (first | (refine ⟨trivial, ?_⟩; gi_at_call_has 138 pa; refine (cA.out _).mono ?_; rintro e w' ⟨rfl, rfl⟩))
          refine ⟨trivial, ?_⟩
          gi_wp2_with (first | (refine ⟨trivial, ?_⟩; gi_at_call_has 138 pa; refine (cA.out _).mono ?_; rintro e w' ⟨rfl, rfl⟩))
          refine hR.mono ?_
          rintro e W3 (⟨rfl, hJ3, hk3⟩ | ⟨rfl, hJx3⟩)
          · gi_wp2
            go_roundw
            case rel => exact ⟨i + 1, j, pre ++ [(65536, !qa, qb)], by omega, by omega, by go_num, by go_num, Lib.hid (by rw [hst.out, Hsa.out, ← Hqb.out]; simp), hJ3, hnx.trans hk3.1, Lib.hid ⟨hk3.2.1 hbb.out.1, hk3.2.2 hbb.out.2⟩⟩
            case measure => simp [intOf]; omega
          · gi_wp2
            refine bodyPost_ret (results_none rfl _ _ _) rfl ?_
            exact ⟨⟨_, rfl⟩, .inr ⟨pre ++ [(65536, !qa, qb)], by rw [hst.out]; exact ⟨_, by simp; rfl⟩, hJx3⟩⟩
        · have h66 : x < 65536 := by omega
          have hst := Lib.hid (show chg a b = pre ++ (x, !qa, qb) :: evs ((bl a).drop (i + 1)) ((bl b).drop (j)) (!qa) (qb) by rw [hch.out, ex.out, bl_end b j (by omega), evs_xn])
          obtain ⟨fn, tmps, assign, body, hy, hR⟩ := HY.out pre (x, !qa, qb) wr hJs (by rw [hst.out]; simp)
          dsimp only [evv] at hy
          gi_wp2_with (first | (refine ⟨trivial, ?_⟩; gi_at_call_has 138 pa; refine (cA.out _).mono ?_; rintro e w' ⟨rfl, rfl⟩))
          refine ⟨trivial, ?_⟩
          gi_wp2_with (first | (refine ⟨trivial, ?_⟩; gi_at_call_has 138 pa; refine (cA.out _).mono ?_; rintro e w' ⟨rfl, rfl⟩))
          refine hR.mono ?_
          rintro e W3 (⟨rfl, hJ3, hk3⟩ | ⟨rfl, hJx3⟩)
          · gi_wp2
            go_roundw
            case rel => exact ⟨i + 1, j, pre ++ [(x, !qa, qb)], by omega, by omega, by go_num, by go_num, Lib.hid (by rw [hst.out, Hsa.out, ← Hqb.out]; simp), hJ3, hnx.trans hk3.1, Lib.hid ⟨hk3.2.1 hbb.out.1, hk3.2.2 hbb.out.2⟩⟩
            case measure => simp [intOf]; omega
          · gi_wp2
            refine bodyPost_ret (results_none rfl _ _ _) rfl ?_
            exact ⟨⟨_, rfl⟩, .inr ⟨pre ++ [(x, !qa, qb)], by rw [hst.out]; exact ⟨_, by simp; rfl⟩, hJx3⟩⟩
    · by_cases hj' : j < 2 * b.length
      · obtain ⟨y, hy'⟩ : ∃ y, y = bord b j := ⟨_, rfl⟩
        have ey := Lib.hid (bl_drop b j hj')
        have by' := bord_bd hvb.out hj'
        have cB := Lib.hid (fun m => border_in m b j pb cb wr lb hj' rB.out)
        rw [← hy'] at ey by' cB
        clear hy'
        by_cases h65 : y = 65536
        · subst h65
          have hst := Lib.hid (show chg a b = pre ++ (65536, qa, !qb) :: evs ((bl a).drop (i)) ((bl b).drop (j + 1)) (qa) (!qb) by rw [hch.out, ey.out, bl_end a i (by omega), evs_ny])
          obtain ⟨fn, tmps, assign, body, hy, hR⟩ := HY.out pre (65536, qa, !qb) wr hJs (by rw [hst.out]; simp)
          dsimp only [evv] at hy
          gi_wp2_with (first | (refine ⟨trivial, ?_⟩; gi_at_call_has 138 pb; refine (cB.out _).mono ?_; rintro e w' ⟨rfl, rfl⟩))
          refine ⟨trivial, ?_⟩
          gi_wp2_with (first | (refine ⟨trivial, ?_⟩; gi_at_call_has 138 pb; refine (cB.out _).mono ?_; rintro e w' ⟨rfl, rfl⟩))
          refine hR.mono ?_
          rintro e W3 (⟨rfl, hJ3, hk3⟩ | ⟨rfl, hJx3⟩)
          · gi_wp2
            go_roundw
            case rel => exact ⟨i, j + 1, pre ++ [(65536, qa, !qb)], by omega, by omega, by go_num, by go_num, Lib.hid (by rw [hst.out, ← Hqa.out, Hsb.out]; simp), hJ3, hnx.trans hk3.1, Lib.hid ⟨hk3.2.1 hbb.out.1, hk3.2.2 hbb.out.2⟩⟩
            case measure => simp [intOf]; omega
          · gi_wp2
            refine bodyPost_ret (results_none rfl _ _ _) rfl ?_
            exact ⟨⟨_, rfl⟩, .inr ⟨pre ++ [(65536, qa, !qb)], by rw [hst.out]; exact ⟨_, by simp; rfl⟩, hJx3⟩⟩
        · have h66 : y < 65536 := by omega
          have hst := Lib.hid (show chg a b = pre ++ (y, qa, !qb) :: evs ((bl a).drop (i)) ((bl b).drop (j + 1)) (qa) (!qb) by rw [hch.out, ey.out, bl_end a i (by omega), evs_ny])
          obtain ⟨fn, tmps, assign, body, hy, hR⟩ := HY.out pre (y, qa, !qb) wr hJs (by rw [hst.out]; simp)
          dsimp only [evv] at hy
          gi_wp2_with (first | (refine ⟨trivial, ?_⟩; gi_at_call_has 138 pb; refine (cB.out _).mono ?_; rintro e w' ⟨rfl, rfl⟩))
          refine ⟨trivial, ?_⟩
          gi_wp2_with (first | (refine ⟨trivial, ?_⟩; gi_at_call_has 138 pb; refine (cB.out _).mono ?_; rintro e w' ⟨rfl, rfl⟩))
          refine hR.mono ?_
          rintro e W3 (⟨rfl, hJ3, hk3⟩ | ⟨rfl, hJx3⟩)
          · gi_wp2
            go_roundw
            case rel => exact ⟨i, j + 1, pre ++ [(y, qa, !qb)], by omega, by omega, by go_num, by go_num, Lib.hid (by rw [hst.out, ← Hqa.out, Hsb.out]; simp), hJ3, hnx.trans hk3.1, Lib.hid ⟨hk3.2.1 hbb.out.1, hk3.2.2 hbb.out.2⟩⟩
            case measure => simp [intOf]; omega
          · gi_wp2
            refine bodyPost_ret (results_none rfl _ _ _) rfl ?_
            exact ⟨⟨_, rfl⟩, .inr ⟨pre ++ [(y, qa, !qb)], by rw [hst.out]; exact ⟨_, by simp; rfl⟩, hJx3⟩⟩
      · have he := Lib.hid (show chg a b = pre by rw [hch.out, bl_end a i (by omega), bl_end b j (by omega), evs_nn]; simp)
        gi_wp2
        go_end0
        exact ⟨⟨_, rfl⟩, .inl ⟨pre, he.out.symm, hJs⟩⟩

end Go.Proofs.YtbpoedopdnjffaaGreat

namespace Go.Proofs.YtbpoedopdnjffaaGreat
open Go.RowKit Go.Shelf Sp

def flat (l : Sps) : List Value := l.flatMap fun s => [.int .i64 s.1, .int .i64 s.2]

theorem flat_length (l : Sps) : (flat l).length = l.length * 2 := by
  induction l with
  | nil => rfl
  | cons s l ih => unfold flat at *; rw [List.flatMap_cons, List.length_append, ih]; simp; omega
theorem flat_snoc (l : Sps) (s : Int × Int) : flat (l ++ [s]) = flat l ++ [.int .i64 s.1, .int .i64 s.2] := by
  unfold flat; rw [List.flatMap_append]; simp
theorem flat_cons (s : Int × Int) (l : Sps) : flat (s :: l) = .int .i64 s.1 :: .int .i64 s.2 :: flat l := rfl
theorem flat_get (l : Sps) : ∀ i : Nat, (h : i < l.length) → (flat l)[i * 2]? = some (.int .i64 l[i].1) ∧ (flat l)[i * 2 + 1]? = some (.int .i64 l[i].2) := by
  induction l with
  | nil => intro i h; simp at h
  | cons s l ih =>
    intro i h
    rw [flat_cons]
    cases i with
    | zero => exact ⟨rfl, rfl⟩
    | succ i =>
      have := ih i (by simpa using h)
      rw [show (i + 1) * 2 = i * 2 + 1 + 1 by omega]
      exact this

/-- The slice v is the list l, in memory of its own at base or beyond. -/
def Owns (W : World) (base : Nat) (v : Value) (l : Sps) : Prop := W.ownsRow base 54 2 v l.length (flat l)

theorem Owns.nil (W : World) (base : Nat) : Owns W base (.slice none 0 0) [] := World.ownsRow_nil _ _ _ _

theorem Owns.form {W : World} {base : Nat} {v : Value} {l : Sps} (h : Owns W base v l) : ∃ p cap, v = .slice p l.length cap ∧ Cells W p l := by
  obtain ⟨hl, hv⟩ := h
  rcases hv with ⟨rfl, h0⟩ | ⟨g, cap, cur, rfl, _, hg, hc, _, _, ht⟩
  · have : l = [] := List.eq_nil_of_length_eq_zero h0
    subst this
    exact ⟨none, 0, rfl, .inl rfl⟩
  · refine ⟨_, _, rfl, .inr ⟨g, 0, rfl, fun i hi => ?_⟩⟩
    have hf := flat_get l i hi
    rw [← ht] at hf
    have e1 : (cur.toList.take (l.length * 2))[i * 2]? = cur[i * 2]? := by
      rw [List.getElem?_take, if_pos (by omega), Array.getElem?_toList]
    have e2 : (cur.toList.take (l.length * 2))[i * 2 + 1]? = cur[i * 2 + 1]? := by
      rw [List.getElem?_take, if_pos (by omega), Array.getElem?_toList]
    rw [e1, e2] at hf
    simp [World.cell?, hg, hf.1, hf.2]

/-- A block of two cells. -/
def Boxed2 (W : World) (B : Nat) (t : TypeId) (x y : Value) : Prop := W.heap[B]? = some (.cells #[x, y] t (0, 0))
theorem Boxed2.lt {W : World} {B : Nat} {t : TypeId} {x y : Value} (h : Boxed2 W B t x y) : B < W.heap.size := (Array.getElem?_eq_some_iff.1 h).1
theorem Boxed2.cell0 {W : World} {B : Nat} {t : TypeId} {x y : Value} (h : Boxed2 W B t x y) : W.cell? ⟨B, 0, none⟩ = some x := by simp [World.cell?, show W.heap[B]? = _ from h]
theorem Boxed2.cell1 {W : World} {B : Nat} {t : TypeId} {x y : Value} (h : Boxed2 W B t x y) : W.cell? ⟨B, 1, none⟩ = some y := by simp [World.cell?, show W.heap[B]? = _ from h]
theorem Boxed2.new (W : World) (t : TypeId) (x y : Value) : Boxed2 (W.alloc (.cells #[x, y] t)) W.heap.size t x y := World.alloc_heap_new W _
theorem Boxed2.kept {W W' : World} {row : Option Nat} {B : Nat} {t : TypeId} {x y : Value} (h : Boxed2 W B t x y) (hg : W.grownBy W' row) (hne : some B ≠ row) : Boxed2 W' B t x y := (hg.block B h.lt hne).trans h
theorem boxed2_own {β : Type} (B : Nat) (t : TypeId) (x y : Value) : Own (fun (_ : β) W => Boxed2 W B t x y) := fun _ X Y _ hs hg hrow =>
  Boxed2.kept hs hg (fun e' => by obtain ⟨o, ho, hc⟩ := hrow B e'.symm; rw [show X.heap[B]? = _ from hs] at ho; cases ho; cases hc)

/-- Between two rounds: the set's box at S, 'from' and 'inside' behind it, the iterator's two boxes behind these. -/
structure Inv (w : World) (S : Nat) (kv va vb : Value) (st : Int × Bool × Sps) (W : World) : Prop where
  set : ∃ v, Boxed W S 50 v ∧ W.ownsRow w.heap.size 54 2 v st.2.2.length (flat st.2.2) ∧ True
  fr : Boxed W (S + 1) 3 (.int .i64 st.1)
  ins : Boxed W (S + 2) 4 (.bool st.2.1)
  keep : Boxed W w.heap.size 229 kv
  a : Boxed W (S + 3) 50 va
  b : Boxed W (S + 4) 50 vb
  below : Below w.heap.size w W

theorem inv_own {β : Type} {w : World} {S : Nat} {kv va vb : Value} {f : β → Int × Bool × Sps} {B : Nat} (hB : w.heap.size ≤ B) : OwnFrom B (fun s W => Inv w S kv va vb (f s) W) := fun s W W' row h hg hr =>
  have hr' : ∀ r, row = some r → ∃ o : Obj, W.heap[r]? = some o ∧ o.isCells = false := fun r e => (hr r e).2
  ⟨holdsRow_own w.heap.size S _ _ 2 (fun s => (f s).2.2.length) (fun s => flat (f s).2.2) (fun _ _ => True) s W W' row h.set hg hr',
   boxed_own _ _ (fun s => Value.int .i64 (f s).1) s W W' row h.fr hg hr', boxed_own _ _ (fun s => Value.bool (f s).2.1) s W W' row h.ins hg hr',
   boxed_own _ _ (fun _ => kv) s W W' row h.keep hg hr', boxed_own _ _ (fun _ => va) s W W' row h.a hg hr', boxed_own _ _ (fun _ => vb) s W W' row h.b hg hr',
   ownFrom_below (β := β) (Nat.le_refl _) hB s W W' row h.below hg hr⟩

theorem Inv.alloc {w : World} {S : Nat} {kv va vb : Value} {st : Int × Bool × Sps} {W : World} (h : Inv w S kv va vb st W) (o : Obj) : Inv w S kv va vb st (W.alloc o) := by
  obtain ⟨v, hv, hr, _⟩ := h.set
  exact ⟨⟨v, hv.alloc o, hr.alloc o, trivial⟩, h.fr.alloc o, h.ins.alloc o, h.keep.alloc o, h.a.alloc o, h.b.alloc o, h.below.alloc h.below.size o⟩

theorem Inv.setFrom {w : World} {S : Nat} {kv va vb : Value} {st : Int × Bool × Sps} {W : World} (h : Inv w S kv va vb st W) (hS : w.heap.size < S) (d : Int) : Inv w S kv va vb (d, st.2) (W.setCell ⟨S + 1, 0, none⟩ (.int .i64 d)) := by
  obtain ⟨v, hv, hr, _⟩ := h.set
  exact ⟨⟨v, hv.other (by omega) _, hr.kept (grownBy_setCell' W (S + 1) _) (.inr (h.fr.not_row (by decide) hr).symm), trivial⟩, h.fr.set _, h.ins.other (by omega) _, h.keep.other (by omega) _, h.a.other (by omega) _, h.b.other (by omega) _, h.below.setCell (p := ⟨S + 1, 0, none⟩) (by show _ ≤ S + 1; omega) _⟩

theorem Inv.setIns {w : World} {S : Nat} {kv va vb : Value} {st : Int × Bool × Sps} {W : World} (h : Inv w S kv va vb st W) (hS : w.heap.size < S) (d : Bool) : Inv w S kv va vb (st.1, d, st.2.2) (W.setCell ⟨S + 2, 0, none⟩ (.bool d)) := by
  obtain ⟨v, hv, hr, _⟩ := h.set
  exact ⟨⟨v, hv.other (by omega) _, hr.kept (grownBy_setCell' W (S + 2) _) (.inr (h.ins.not_row (by decide) hr).symm), trivial⟩, h.fr.other (by omega) _, h.ins.set _, h.keep.other (by omega) _, h.a.other (by omega) _, h.b.other (by omega) _, h.below.setCell (p := ⟨S + 2, 0, none⟩) (by show _ ≤ S + 2; omega) _⟩

/-- Behind an append and its store. -/
theorem Inv.appended {w : World} {S : Nat} {kv va vb : Value} {st : Int × Bool × Sps} {W w1 : World} (h : Inv w S kv va vb st W) (hS : w.heap.size < S) {v v' : Value} {d : Int} {tmp : Obj}
    (hv : Boxed W S 50 v) (hr : W.ownsRow w.heap.size 54 2 v st.2.2.length (flat st.2.2))
    (hown : w1.ownsRow w.heap.size 54 2 v' (st.2.2.length + 1) (flat st.2.2 ++ [.int .i64 st.1, .int .i64 d])) (hgrow : (W.alloc tmp).grownBy w1 v.ownBlock) :
    Inv w S kv va vb (st.1, st.2.1, st.2.2 ++ [(st.1, d)]) (w1.setCell ⟨S, 0, none⟩ v') ∧ Boxed w1 S 50 v ∧ KeepsOthers W (w1.setCell ⟨S, 0, none⟩ v') ∧ Below w.heap.size W (w1.setCell ⟨S, 0, none⟩ v') ∧ Boxed w1 (S + 2) 4 (.bool st.2.1) := by
  obtain ⟨x1, x2, x3, x4, x5⟩ := hv.appended (tmp := tmp) (by decide) hr h.below.size (Nat.le_of_lt hS) hown hgrow
  have k : ∀ {B : Nat} {t : TypeId} {u : Value}, Boxed W B t u → t ≠ 54 → Boxed w1 B t u := fun hb ht => (hb.alloc tmp).kept hgrow (hb.not_row ht hr)
  refine ⟨⟨⟨v', x2, ?_, trivial⟩, (k h.fr (by decide)).other (by omega) _, (k h.ins (by decide)).other (by omega) _, (k h.keep (by decide)).other (by omega) _, (k h.a (by decide)).other (by omega) _, (k h.b (by decide)).other (by omega) _, h.below.trans x5⟩, x1, x4, x5, k h.ins (by decide)⟩
  rw [flat_snoc, List.length_append]
  exact x3

end Go.Proofs.YtbpoedopdnjffaaGreat
