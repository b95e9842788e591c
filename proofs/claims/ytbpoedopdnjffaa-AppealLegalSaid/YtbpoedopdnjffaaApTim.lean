/- AppealTime: the law. -/
import Derived.Test.YtbpoedopdnjffaaApLawK
namespace Go.Proofs.Ytbpoedopdnjffaa
open Go.RowKit Go.Shelf Sp

/-- Numbers in memory of their own. -/
def ZOwns (W : World) (base : Nat) (v : Value) (zs : List Int) : Prop := W.ownsRow base 3 1 v zs.length (zs.map (Value.int .i64))
theorem ZOwns.form {W : World} {base : Nat} {v : Value} {es : List Int} (h : ZOwns W base v es) : ∃ p cap, v = .slice p es.length cap ∧ ECells W p es := by
  obtain ⟨hl, hv⟩ := h
  rcases hv with ⟨rfl, h0⟩ | ⟨g, cap, cur, rfl, hb, hg, hc, _, _, ht⟩
  · exact ⟨none, 0, by rw [h0], fun i hi => by omega⟩
  · refine ⟨_, _, rfl, fun i hi => ⟨g, rfl, ?_⟩⟩
    have e1 : (es.map (Value.int .i64))[i]? = some (.int .i64 es[i]) := by simp [hi]
    rw [← ht, List.getElem?_take, if_pos (by omega), Array.getElem?_toList] at e1
    simp [World.cell?, hg, e1]
theorem info_int : (Try.prog.info? 3).map (fun i => (i.zero, i.size, i.bytes)) = some (some (.int .i64 0), 1, 8) := by kernel_rfl
theorem ZOwns.one {W : World} (x : Int) : ZOwns (W.alloc (.cells #[.int .i64 x] 3)) W.heap.size (.slice (some ⟨W.heap.size, 0, none⟩) 1 1) [x] := by
  refine ⟨rfl, .inr ⟨W.heap.size, 1, #[.int .i64 x], rfl, Nat.le_refl _, World.alloc_heap_new W _, Nat.le_refl _, by decide, rfl, rfl⟩⟩
theorem four_cells (w : World) (a b c d : Int) (k : Nat) (hk : w.heap.size = k) : ∀ j x, [Value.int .i64 a, .int .i64 b, .int .i64 c, .int .i64 d][j]? = some x → (w.alloc (.cells #[.int .i64 a, .int .i64 b, .int .i64 c, .int .i64 d] 3)).cell? ((⟨k, 0, none⟩ : Addr).add j) = some x := by
  subst hk
  exact World.news_of_block (World.alloc_heap_new w _)
/-- The days that are looked at. -/
structure Look (base : Nat) (W0 wr : World) (v : Value) (m : Nat) : Prop where
  own : ∃ zs : List Int, zs.length = m ∧ ZOwns wr base v zs ∧ ∀ z ∈ zs, -1 ≤ z ∧ z ≤ 70000
  bel : Below base W0 wr
theorem Look.grow {base : Nat} {W0 wr X w1 : World} {v v' : Value} {zs : List Int} {m : Nat} (hm : zs.length = m) (h : ZOwns wr base v zs) (hz : ∀ z ∈ zs, -1 ≤ z ∧ z ≤ 70000) (hb : Below base W0 wr) (hs : base ≤ wr.heap.size) (hX : Below wr.heap.size wr X) {a b c d : Int}
    (ha : (-1 ≤ a ∧ a ≤ 70000) ∧ (-1 ≤ b ∧ b ≤ 70000) ∧ (-1 ≤ c ∧ c ≤ 70000) ∧ (-1 ≤ d ∧ d ≤ 70000)) (hg : X.grownBy w1 v.ownBlock)
    (ho : w1.ownsRow base 3 1 v' (m + 4) (zs.map (Value.int .i64) ++ [.int .i64 a, .int .i64 b, .int .i64 c, .int .i64 d])) : Look base W0 w1 v' (m + 4) := by
  subst hm
  refine ⟨⟨zs ++ [a, b, c, d], by simp, by unfold ZOwns; simpa using ho, fun z hz2 => ?_⟩, (hb.trans (hX.mono hs)).grown hg (by have := hX.size; omega) (fun g e => (World.ownsRow.lt h g e).1)⟩
  rcases List.mem_append.1 hz2 with h1 | h1
  · exact hz z h1
  · simp at h1
    rcases h1 with rfl | rfl | rfl | rfl
    · exact ha.1
    · exact ha.2.1
    · exact ha.2.2.1
    · exact ha.2.2.2

/-- What a night makes of a case, its held days apart. -/
def nightB (x : Cs) (d : Int) : Cs :=
  if d + 1 ≤ x.due ∨ x.st = 4 ∨ x.st = 5 then x
  else if x.st ≠ 3 ∨ x.level = 3 then { x with st := 4, due := d + 1, hold := false, since := 0 }
  else { x with st := 2, due := d + 1 + x.days, hold := false, since := 0 }
theorem nightP_eq (x : Cs) (d : Int) : nightP x d = { nightB x d with held := if (nightB x d).hold = true then un x.held [(d + 1, d + 2)] else x.held } := by
  unfold nightP nightB
  split
  · split
    · rfl
    · rfl
  · split
    · rfl
    · rfl

end Go.Proofs.Ytbpoedopdnjffaa
