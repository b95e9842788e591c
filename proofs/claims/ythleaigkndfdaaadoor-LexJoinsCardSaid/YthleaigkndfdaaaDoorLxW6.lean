/- The iterator of tokens: what it keeps, and its walk. Printed by gen_iter.py. -/
import Derived.RangeFuncNested
import Derived.RangeFuncBound
import Derived.RangeFuncCalls
import Derived.RangeFuncLeaves
import Derived.RangeFuncBox
import Derived.Shelf.Abstract
import Derived.Sort.AtCallIn
import Derived.Shelf.RegionOpen
import Derived.OwnWalkIn
import Derived.TacticsInMore
import Derived.LoopNIn
import Derived.LoopIn
import Derived.Maps.AppendAt
import Derived.RegionIn
import Derived.Test.YthleaigkndfdaaaDoorLxW5
namespace Go.Proofs.YthleaigkndfdaaaDoor
open Go.RowKit Go.Shelf

attribute [local go_sem] Oper.semAt_some

/-- The iterator's steps: of what lay, its own two blocks alone turn. -/
structure Steps (sb : Nat) (A B : World) : Prop where
  os : B.os = A.os
  tape : B.tape = A.tape
  output : B.output = A.output
  size : A.heap.size ≤ B.heap.size
  block : ∀ k, k < A.heap.size → k ≠ sb → k ≠ sb + 1 → B.heap[k]? = A.heap[k]?

theorem Steps.refl (sb : Nat) (A : World) : Steps sb A A := ⟨rfl, rfl, rfl, Nat.le_refl _, fun _ _ _ _ => rfl⟩
theorem Steps.trans {sb : Nat} {A B C : World} (h : Steps sb A B) (k : Steps sb B C) : Steps sb A C :=
  ⟨k.os.trans h.os, k.tape.trans h.tape, k.output.trans h.output, Nat.le_trans h.size k.size, fun i hi h1 h2 => (k.block i (Nat.lt_of_lt_of_le hi h.size) h1 h2).trans (h.block i hi h1 h2)⟩
theorem Steps.of_grown {sb : Nat} {A B : World} {row : Option Nat} (h : A.grownBy B row) (hr : ∀ r, row = some r → r = sb ∨ r = sb + 1) : Steps sb A B :=
  ⟨h.os, h.tape, h.output, h.size, fun i hi h1 h2 => h.block i hi (fun e => by rcases hr i e.symm with h | h; exact h1 h; exact h2 h)⟩
theorem Steps.of_below {sb : Nat} {A B : World} (h : Below A.heap.size A B) : Steps sb A B := ⟨h.os, h.tape, h.output, h.size, fun i hi _ _ => h.block i hi⟩
theorem Steps.alloc (sb : Nat) (A : World) (o : Obj) : Steps sb A (A.alloc o) := .of_below ((Below.refl _ _).alloc (Nat.le_refl _) _)
theorem Steps.drewN (sb : Nat) (A : World) (n : Nat) : Steps sb A (A.drewN n) := ⟨rfl, rfl, rfl, Nat.le_refl _, fun _ _ _ _ => rfl⟩
theorem Steps.set (sb : Nat) (A : World) (b i : Nat) (hb : b = sb ∨ b = sb + 1) (u : Value) : Steps sb A (A.setCell ⟨b, i, none⟩ u) :=
  .of_grown (row := some b) (only_set (only_refl _ _) i u) (fun r e => by cases e; exact hb)

theorem no_leads {p : FuncId → Prop} : ∀ f : FuncId, (none : Option FuncId) = some f → p f := fun _ h => by cases h

/-- A round's word: some blocks lie as they lay. -/
structure Kept (keep : Nat → Prop) (A B : World) : Prop where
  size : A.heap.size ≤ B.heap.size
  block : ∀ k, k < A.heap.size → keep k → B.heap[k]? = A.heap[k]?
theorem Kept.refl (keep : Nat → Prop) (A : World) : Kept keep A A := ⟨Nat.le_refl _, fun _ _ _ => rfl⟩
theorem Kept.trans {keep : Nat → Prop} {A B C : World} (h : Kept keep A B) (k : Kept keep B C) : Kept keep A C :=
  ⟨Nat.le_trans h.size k.size, fun i hi hk => (k.block i (Nat.lt_of_lt_of_le hi h.size) hk).trans (h.block i hi hk)⟩

/-- What the scanner's caller needs: the table of lengths, the source's box, the scanner and the place behind the last token. -/
def keeps (Bs sb : Nat) (k : Nat) : Prop := k = 1 ∨ k = Bs ∨ k = sb ∨ k = sb + 1

structure TI (s : ByteArray) (Bs sb off : Nat) (op : Option Nat) (W : World) : Prop where
  sc : Scn W sb (Lx.pl (ls s) off).1 (Lx.pl (ls s) off).2 s off
  bh : ∃ a b : Int, Blk W (sb + 1) 25 #[.int .i64 a, .int .i64 b] ∧ ∀ j, op = some j → a = ((Lx.pl (ls s) j).1 : Int) ∧ b = ((Lx.pl (ls s) j).2 : Int)
  src : Boxed W Bs 9 (.string s)
  ln : Lens W

theorem lens_block {A B : World} (h : Lens A) (hs : A.heap.size ≤ B.heap.size) (hb : B.heap[1]? = A.heap[1]?) : Lens B :=
  ⟨Nat.lt_of_lt_of_le h.1 hs, fun i hi => (World.cell?_of_block (a := ⟨1, i, none⟩) hb).trans (h.2 i hi)⟩

section
variable {s : ByteArray} {Bs sb off : Nat} {op : Option Nat} {W W' : World}
theorem TI.kept (h : TI s Bs sb off op W) (hk : Kept (keeps Bs sb) W W') : TI s Bs sb off op W' := by
  obtain ⟨a, b, h1, h2⟩ := h.bh
  exact ⟨(hk.block sb (Blk.lt h.sc) (.inr (.inr (.inl rfl)))).trans h.sc, ⟨a, b, (hk.block (sb + 1) h1.lt (.inr (.inr (.inr rfl)))).trans h1, h2⟩, (hk.block Bs h.src.lt (.inr (.inl rfl))).trans h.src, lens_block h.ln hk.size (hk.block _ h.ln.1 (.inl rfl))⟩
theorem TI.below (h : TI s Bs sb off op W) (hb : Below W.heap.size W W') : TI s Bs sb off op W' := h.kept ⟨hb.size, fun k hk _ => hb.block k hk⟩
theorem TI.drewN (h : TI s Bs sb off op W) (n : Nat) : TI s Bs sb off op (W.drewN n) := h.kept ⟨Nat.le_refl _, fun _ _ _ => rfl⟩
theorem TI.alloc (h : TI s Bs sb off op W) (o : Obj) : TI s Bs sb off op (W.alloc o) := h.below ((Below.refl _ _).alloc (Nat.le_refl _) _)
/-- The scanner has gone on. -/
theorem TI.turned (h : TI s Bs sb off op W) (hg : W.grownBy W' (some sb)) (hne : Bs ≠ sb) (hL : sb ≠ 1) {off' : Nat} (hs : Scn W' sb (Lx.pl (ls s) off').1 (Lx.pl (ls s) off').2 s off') : TI s Bs sb off' op W' := by
  obtain ⟨a, b, h1, h2⟩ := h.bh
  exact ⟨hs, ⟨a, b, h1.grown hg (fun e => by cases e), h2⟩, h.src.kept hg (fun e => hne (by cases e; rfl)), lens_block h.ln hg.size (hg.block _ h.ln.1 (fun e => hL (by cases e; rfl)))⟩
theorem TI.shut (h : TI s Bs sb off op W) : TI s Bs sb off .none W := by
  obtain ⟨a, b, h1, _⟩ := h.bh
  exact ⟨h.sc, ⟨a, b, h1, fun j e => by cases e⟩, h.src, h.ln⟩
/-- The place behind a token is noted. -/
theorem TI.noted (h : TI s Bs sb off op W) (hne : Bs ≠ sb + 1) (hL : sb + 1 ≠ 1) :
    TI s Bs sb off (some off) ((W.setCell ⟨sb + 1, 0, none⟩ (.int .i64 ((Lx.pl (ls s) off).1 : Int))).setCell ⟨sb + 1, 1, none⟩ (.int .i64 ((Lx.pl (ls s) off).2 : Int))) := by
  obtain ⟨a, b, h1, _⟩ := h.bh
  have hg : W.grownBy ((W.setCell ⟨sb + 1, 0, none⟩ (.int .i64 ((Lx.pl (ls s) off).1 : Int))).setCell ⟨sb + 1, 1, none⟩ (.int .i64 ((Lx.pl (ls s) off).2 : Int))) (some (sb + 1)) := only_set (only_set (only_refl _ _) 0 _) 1 _
  exact ⟨Blk.grown h.sc hg (fun e => by cases e), ⟨_, _, (h1.set_ 0 _).set_ 1 _, fun j e => by cases e; exact ⟨rfl, rfl⟩⟩, h.src.kept hg (fun e => hne (by cases e; rfl)), lens_block h.ln hg.size (hg.block _ h.ln.1 (fun e => hL (by cases e; rfl)))⟩
end

/-- The iterator's two blocks are what they are. -/
def Two (sb : Nat) (W : World) : Prop := (∃ cs, Blk W sb 72 cs) ∧ ∃ cs, Blk W (sb + 1) 25 cs
theorem TI.two {s : ByteArray} {Bs sb off : Nat} {op : Option Nat} {W : World} (h : TI s Bs sb off op W) : Two sb W := by
  obtain ⟨a, b, h1, _⟩ := h.bh
  exact ⟨⟨_, h.sc⟩, ⟨_, h1⟩⟩
theorem Two.size {sb : Nat} {W : World} (h : Two sb W) : sb + 2 ≤ W.heap.size := by obtain ⟨_, _, h2⟩ := h; exact h2.lt
theorem Two.kept {Bs sb : Nat} {A B : World} (h : Two sb A) (hk : Kept (keeps Bs sb) A B) : Two sb B := by
  obtain ⟨⟨c, h1⟩, ⟨d, h2⟩⟩ := h
  exact ⟨⟨c, (hk.block sb h1.lt (.inr (.inr (.inl rfl)))).trans h1⟩, ⟨d, (hk.block (sb + 1) h2.lt (.inr (.inr (.inr rfl)))).trans h2⟩⟩
theorem Two.alloc {sb : Nat} {A : World} (h : Two sb A) (o : Obj) : Two sb (A.alloc o) := by
  obtain ⟨⟨c, h1⟩, ⟨d, h2⟩⟩ := h
  exact ⟨⟨c, h1.alloc o⟩, ⟨d, h2.alloc o⟩⟩
theorem Two.turned {sb : Nat} {A B : World} (h : Two sb A) (hg : A.grownBy B (some sb)) {a b c : Int} {s : ByteArray} (hs : Scn B sb a b s c) : Two sb B := by
  obtain ⟨_, ⟨d, h2⟩⟩ := h
  exact ⟨⟨_, hs⟩, ⟨d, h2.grown hg (fun e => by cases e)⟩⟩

/-- What is handed to a round. -/
def encv (s : ByteArray) (x : Lx.Ev) : Array Value := #[tkval x.1.2.1 (bs x.1.2.2) (Lx.pl (ls s) x.2).1 (Lx.pl (ls s) x.2).2, .int .i64 (x.1.1 : Int)]

/-- All that comes. -/
def evsOf (s : ByteArray) : List Lx.Ev := Lx.ev gd (ls s) 0 0 none

/-- How much is left to read. -/
def leftOf (s : ByteArray) (sb : Nat) (W : World) : Nat := s.size - (intOf ((W.cell? ⟨sb, 3, none⟩).getD undef)).toNat
theorem leftOf_is {s : ByteArray} {Bs sb off : Nat} {op : Option Nat} {W : World} (h : TI s Bs sb off op W) : leftOf s sb W = s.size - off := by
  unfold leftOf; rw [h.sc.c3]; simp [intOf]

theorem pl_bd (s : Lx.Bs) (o : Nat) : (Lx.pl s o).1 ≤ o + 1 ∧ (Lx.pl s o).2 ≤ o + 1 ∧ 1 ≤ (Lx.pl s o).1 ∧ 1 ≤ (Lx.pl s o).2 := by
  have key : ∀ (x : Lx.Bs) (p : Nat × Nat), (Lx.plF p x).1 ≤ p.1 + x.length ∧ (Lx.plF p x).2 ≤ max p.2 1 + x.length ∧ p.1 ≤ (Lx.plF p x).1 ∧ min 1 p.2 ≤ (Lx.plF p x).2 := by
    intro x
    induction x with
    | nil => intro p; exact ⟨Nat.le_refl _, by show p.2 ≤ max p.2 1 + 0; omega, Nat.le_refl _, by show min 1 p.2 ≤ p.2; omega⟩
    | cons c x ih =>
      intro p
      have h := ih (Lx.pstep p c)
      have hp : (Lx.pstep p c).1 ≤ p.1 + 1 ∧ (Lx.pstep p c).2 ≤ max p.2 1 + 1 ∧ p.1 ≤ (Lx.pstep p c).1 ∧ min 1 p.2 ≤ (Lx.pstep p c).2 ∧ 1 ≤ (Lx.pstep p c).2 := by unfold Lx.pstep; split <;> simp <;> omega
      show (Lx.plF (Lx.pstep p c) x).1 ≤ _ ∧ (Lx.plF (Lx.pstep p c) x).2 ≤ _ ∧ _ ≤ (Lx.plF (Lx.pstep p c) x).1 ∧ _ ≤ (Lx.plF (Lx.pstep p c) x).2
      rw [List.length_cons]
      omega
  have h := key (s.take o) (1, 1)
  have hl : (s.take o).length ≤ o := List.length_take_le _ _
  unfold Lx.pl
  simp only [] at h
  omega

end Go.Proofs.YthleaigkndfdaaaDoor
