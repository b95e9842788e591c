/- A case in a box of its own. -/
import Derived.Test.YtbpoedopdnjffaaApPlain
import Derived.Test.YtbpoedopdnjffaaSpW5
import Derived.Deep.RegionHeld3
namespace Go.Proofs.Ytbpoedopdnjffaa
open Go.RowKit Go.Shelf Sp

/-- Everything but block g stays. -/
structure But (g : Nat) (w w' : World) : Prop where
  os : w'.os = w.os
  tape : w'.tape = w.tape
  output : w'.output = w.output
  size : w.heap.size ≤ w'.heap.size
  block : ∀ k, k < w.heap.size → k ≠ g → w'.heap[k]? = w.heap[k]?
theorem But.refl (g : Nat) (w : World) : But g w w := ⟨rfl, rfl, rfl, Nat.le_refl _, fun _ _ _ => rfl⟩
theorem But.below {g : Nat} {w w' w2 : World} (h : But g w w') (hb : Below w'.heap.size w' w2) : But g w w2 :=
  ⟨hb.os.trans h.os, hb.tape.trans h.tape, hb.output.trans h.output, Nat.le_trans h.size hb.size, fun k hk hne => (hb.block k (Nat.lt_of_lt_of_le hk h.size)).trans (h.block k hk hne)⟩
theorem But.trans {g : Nat} {w w' w2 : World} (h : But g w w') (h2 : But g w' w2) : But g w w2 :=
  ⟨h2.os.trans h.os, h2.tape.trans h.tape, h2.output.trans h.output, Nat.le_trans h.size h2.size, fun k hk hne => (h2.block k (Nat.lt_of_lt_of_le hk h.size) hne).trans (h.block k hk hne)⟩
theorem But.of_below {g : Nat} {w w' : World} (hb : Below w.heap.size w w') : But g w w' := (But.refl g w).below hb
theorem But.set_ {g : Nat} {w w' : World} (h : But g w w') (i : Nat) (u : Value) : But g w (w'.setCell ⟨g, i, none⟩ u) :=
  ⟨h.os, h.tape, h.output, by simpa [World.setCell] using h.size, fun k hk hne => (Below.heap_setCell w' ⟨g, i, none⟩ u k hne).trans (h.block k hk hne)⟩
theorem But.drew {g : Nat} {w w' : World} (h : But g w w') : But g w w'.drew := ⟨h.os, h.tape, h.output, h.size, h.block⟩
theorem But.grown {g : Nat} {w w' : World} (h : But g w w') : w.grownBy w' (some g) := ⟨h.os, h.tape, h.output, h.size, fun k hk hne => h.block k hk (fun e => hne (by rw [e]))⟩
/-- What was changed but block g, if g is new, is below. -/
theorem But.belowOf {g : Nat} {w w' w0 : World} {base : Nat} (h : But g w w') (hb : Below base w0 w) (hbase : base ≤ w.heap.size) (hg : base ≤ g) : Below base w0 w' :=
  ⟨h.os.trans hb.os, h.tape.trans hb.tape, h.output.trans hb.output, Nat.le_trans hb.size h.size, fun k hk => (h.block k (Nat.lt_of_lt_of_le hk hbase) (by omega)).trans (hb.block k hk)⟩

/-- A case's cells. -/
def csRow (c : Cs) (v : Value) : List Value := [.bool c.el, .int .u8 c.st, .int .i64 c.opened, .int .i64 c.days, .int .i64 c.choice, .int .i64 c.level, .int .i64 c.due, .bool c.hold, .int .i64 c.since, v]
/-- A case in a box. -/
def CsAt (W : World) (B : Nat) (c : Cs) (v : Value) : Prop := W.heap[B]? = some (.cells #[.bool c.el, .int .u8 c.st, .int .i64 c.opened, .int .i64 c.days, .int .i64 c.choice, .int .i64 c.level, .int .i64 c.due, .bool c.hold, .int .i64 c.since, v] 39 (0, 0))
theorem CsAt.lt {W : World} {B : Nat} {c : Cs} {v : Value} (h : CsAt W B c v) : B < W.heap.size := (Array.getElem?_eq_some_iff.1 h).1
theorem CsAt.cell {W : World} {B : Nat} {c : Cs} {v : Value} (h : CsAt W B c v) :
    W.cell? ⟨B, 0, none⟩ = some (.bool c.el) ∧ W.cell? ⟨B, 1, none⟩ = some (.int .u8 c.st) ∧ W.cell? ⟨B, 2, none⟩ = some (.int .i64 c.opened) ∧ W.cell? ⟨B, 3, none⟩ = some (.int .i64 c.days) ∧ W.cell? ⟨B, 4, none⟩ = some (.int .i64 c.choice) ∧
    W.cell? ⟨B, 5, none⟩ = some (.int .i64 c.level) ∧ W.cell? ⟨B, 6, none⟩ = some (.int .i64 c.due) ∧ W.cell? ⟨B, 7, none⟩ = some (.bool c.hold) ∧ W.cell? ⟨B, 8, none⟩ = some (.int .i64 c.since) ∧ W.cell? ⟨B, 9, none⟩ = some v := by
  unfold CsAt at h
  simp only [World.cell?, h]
  exact ⟨rfl, rfl, rfl, rfl, rfl, rfl, rfl, rfl, rfl, rfl⟩
theorem CsAt.frozen {W : World} {B : Nat} {c : Cs} {v : Value} (h : CsAt W B c v) (j : Nat) : W.frozen? ⟨B, j, none⟩ = false := by
  unfold CsAt at h
  simp [World.frozen?, h]
theorem CsAt.of_block {W W' : World} {B : Nat} {c : Cs} {v : Value} (h : CsAt W B c v) (e : W'.heap[B]? = W.heap[B]?) : CsAt W' B c v := e.trans h
theorem CsAt.later {W W' : World} {B : Nat} {c : Cs} {v : Value} (h : CsAt W B c v) (hb : Below W.heap.size W W') : CsAt W' B c v := h.of_block (hb.block B h.lt)
theorem CsAt.set_ {W : World} {B : Nat} {c : Cs} {v : Value} (h : CsAt W B c v) :
    (∀ x : Int, CsAt (W.setCell ⟨B, 1, none⟩ (.int .u8 x)) B { c with st := x } v) ∧ (∀ x : Int, CsAt (W.setCell ⟨B, 4, none⟩ (.int .i64 x)) B { c with choice := x } v) ∧ (∀ x : Int, CsAt (W.setCell ⟨B, 5, none⟩ (.int .i64 x)) B { c with level := x } v) ∧
    (∀ x : Int, CsAt (W.setCell ⟨B, 6, none⟩ (.int .i64 x)) B { c with due := x } v) ∧ (∀ x : Bool, CsAt (W.setCell ⟨B, 7, none⟩ (.bool x)) B { c with hold := x } v) ∧ (∀ x : Int, CsAt (W.setCell ⟨B, 8, none⟩ (.int .i64 x)) B { c with since := x } v) ∧
    (∀ (l : Sps) (u : Value), CsAt (W.setCell ⟨B, 9, none⟩ u) B { c with held := l } u) := by
  unfold CsAt at h ⊢
  simp only [World.setCell, Array.getElem?_modify, h]
  exact ⟨fun _ => rfl, fun _ => rfl, fun _ => rfl, fun _ => rfl, fun _ => rfl, fun _ => rfl, fun _ _ => rfl⟩
theorem CsAt.not_row {W : World} {B : Nat} {c : Cs} {u : Value} {e : TypeId} (h : CsAt W B c u) (hte : 39 ≠ e) {base size k : Nat} {v : Value} {xs : List Value} (hr : W.ownsRow base e size v k xs) : some B ≠ v.ownBlock := by
  rcases hr.2 with ⟨rfl, _⟩ | ⟨g, cap, cur, rfl, _, hgb, _⟩
  · simp [Value.ownBlock]
  · intro e'
    obtain rfl : B = g := by simpa [Value.ownBlock] using e'
    have := (show W.heap[B]? = _ from h).symm.trans hgb
    simp at this
    exact hte this.2
theorem grownBy_set (W : World) (b i : Nat) (v : Value) : W.grownBy (W.setCell ⟨b, i, none⟩ v) (some b) :=
  ⟨rfl, rfl, rfl, by simp, fun k _ hk => Below.heap_setCell W ⟨b, i, none⟩ v k (fun e => hk (by rw [e]))⟩
theorem Owns.setBox {W : World} {B : Nat} {c : Cs} {u v : Value} {base : Nat} {l : Sps} (ho : Owns W base v l) (h : CsAt W B c u) (i : Nat) (x : Value) : Owns (W.setCell ⟨B, i, none⟩ x) base v l :=
  World.ownsRow.kept ho (grownBy_set W B i x) (.inr (h.not_row (by decide) ho).symm)
theorem Owns.later {W W' : World} {base : Nat} {v : Value} {l : Sps} (ho : Owns W base v l) (hb : Below W.heap.size W W') : Owns W' base v l :=
  World.ownsRow.kept ho (row := none) ⟨hb.os, hb.tape, hb.output, hb.size, fun k hk _ => hb.block k hk⟩ (by cases v.ownBlock <;> simp)
theorem Owns.low {W : World} {base : Nat} {v : Value} {l : Sps} (ho : Owns W base v l) : Owns W 0 v l := by
  refine ⟨ho.1, ?_⟩
  rcases ho.2 with h | ⟨g, cap, cur, e, _, rest⟩
  · exact .inl h
  · exact .inr ⟨g, cap, cur, e, Nat.zero_le _, rest⟩

/-- A case in a box, its held days in memory. -/
def CaseAt (W : World) (B : Nat) (c : Cs) : Prop := ∃ v, CsAt W B c v ∧ Owns W 0 v c.held
theorem CaseAt.later {W W' : World} {B : Nat} {c : Cs} (h : CaseAt W B c) (hb : Below W.heap.size W W') : CaseAt W' B c := by
  obtain ⟨v, h1, h2⟩ := h; exact ⟨v, h1.later hb, h2.later hb⟩

set_option maxHeartbeats 400000 in
theorem isDay_any (d : Int) (w : World) : Calls Try.prog 32 #[.int .i64 d] w fun e w' => e = .returned (.bool (decide (0 ≤ d) && decide (d ≤ 65535))) ∧ w = w' := by
  have CW : Hid (∀ a b c W, Calls Try.prog 55 #[.int .i64 a, .int .i64 b, .int .i64 c] W fun e w' => e = .returned (.bool (decide (b ≤ a) && decide (a ≤ c))) ∧ W = w') := Lib.hid fun a b c W => by
    by_cases h : b ≤ a
    · have hf := Lib.hid (show (decide (b ≤ a) && decide (a ≤ c)) = decide (a ≤ c) by simp [h])
      go_enter Try.func55, Try.ntmps55
      go_wp2
      go_ret
      exact ⟨ret_bool hf.out.symm, rfl⟩
    · have hf := Lib.hid (show (decide (b ≤ a) && decide (a ≤ c)) = false by simp [h])
      go_enter Try.func55, Try.ntmps55
      go_wp2
      go_ret
      exact ⟨ret_bool hf.out.symm, rfl⟩
  go_enter Try.func32, Try.ntmps32
  go_wp2_with fail
  refine (CW.out _ _ _ _).mono ?_
  rintro e w1 ⟨rfl, rfl⟩
  go_wp2
  go_ret
  exact ⟨rfl, rfl⟩

set_option maxHeartbeats 400000 in
theorem ends_any (B : Nat) (c : Cs) (v : Value) (w : World) (h : CsAt w B c v) : Calls Try.prog 39 #[.pointer (some ⟨B, 0, none⟩)] w fun e w' => e = .returned (.bool (endsP c)) ∧ w = w' := by
  have c1 := h.cell.2.1
  clear h
  by_cases h1 : c.st = 1
  · have hf := Lib.hid (show endsP c = true by unfold endsP; simp [h1])
    rw [h1] at c1
    go_enter Try.func39, Try.ntmps39
    go_wp2
    go_ret
    exact ⟨ret_bool hf.out.symm, rfl⟩
  · have b1 : (c.st == 1) = false := by simpa using h1
    by_cases h2 : c.st = 2
    · have hf := Lib.hid (show endsP c = true by unfold endsP; simp [h2])
      rw [h2] at c1
      go_enter Try.func39, Try.ntmps39
      go_wp2
      go_ret
      exact ⟨ret_bool hf.out.symm, rfl⟩
    · have b2 : (c.st == 2) = false := by simpa using h2
      have hf := Lib.hid (show endsP c = (c.st == 3) by unfold endsP; simp [b1, b2])
      generalize c.st = x at *
      go_enter Try.func39, Try.ntmps39
      go_wp2
      go_ret
      exact ⟨ret_bool hf.out.symm, rfl⟩

end Go.Proofs.Ytbpoedopdnjffaa
