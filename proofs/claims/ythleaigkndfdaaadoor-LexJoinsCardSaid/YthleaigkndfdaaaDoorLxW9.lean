/- Lex: what its loop keeps. -/
import Derived.Test.YthleaigkndfdaaaDoorLxW8
namespace Go.Proofs.YthleaigkndfdaaaDoor
open Go.RowKit Go.Shelf

/-- A token: kind, text, line, column. -/
abbrev Tok := Nat × ByteArray × Int × Int
def tcell (x : Tok) : List Value := [.int .u8 (x.1 : Int), .string x.2.1, .int .i64 x.2.2.1, .int .i64 x.2.2.2]
def tflat (l : List Tok) : List Value := l.flatMap tcell
theorem tflat_length (l : List Tok) : (tflat l).length = l.length * 4 := by
  induction l with
  | nil => rfl
  | cons x l ih => unfold tflat at *; rw [List.flatMap_cons, List.length_append, ih]; simp [tcell]; omega
theorem tflat_snoc (l : List Tok) (x : Tok) : tflat (l ++ [x]) = tflat l ++ tcell x := by unfold tflat; rw [List.flatMap_append]; simp
def tokOf (s : ByteArray) (x : Lx.Ev) : Tok := (x.1.2.1, bs x.1.2.2, (Lx.pl (ls s) x.2).1, (Lx.pl (ls s) x.2).2)

/-- The slice v is the list l of tokens, in memory of its own. -/
def TOwns (W : World) (base : Nat) (v : Value) (l : List Tok) : Prop := W.ownsRow base 27 4 v l.length (tflat l)
theorem TOwns.nil (W : World) (base : Nat) : TOwns W base (.slice none 0 0) [] := World.ownsRow_nil _ _ _ _

/-- The place of the loop's variables: results at h, h + 1, h + 2, the list at h + 3, the source's box at h + 4. -/
structure LI (s : ByteArray) (w : World) (pre : List Lx.Ev) (W : World) : Prop where
  row : ∃ v, Blk W (w.heap.size + 3) 22 #[v] ∧ TOwns W w.heap.size v (pre.map (tokOf s)) ∧ ∀ g, v.ownBlock = some g → g ≠ w.heap.size + 7 ∧ g ≠ w.heap.size + 8
  r0 : Blk W w.heap.size 22 #[.slice none 0 0]
  r1 : Blk W (w.heap.size + 1) 25 #[.int .i64 0, .int .i64 0]
  r2 : Blk W (w.heap.size + 2) 33 #[.int .i64 0]
  src : Blk W (w.heap.size + 4) 9 #[.string s]
  ok : Lx.okE pre = true
  ln : Lens W
  below : Below w.heap.size w W

/-- Behind the return from the loop. -/
structure LX (s : ByteArray) (w : World) (pre : List Lx.Ev) (W : World) : Prop where
  er : ∃ pre0 x, pre = pre0 ++ [x] ∧ Lx.okE pre0 = true ∧ x.1.1 ≠ 0 ∧ Blk W w.heap.size 22 #[.slice none 0 0] ∧ Blk W (w.heap.size + 1) 25 #[.int .i64 ((Lx.pl (ls s) x.2).1 : Int), .int .i64 ((Lx.pl (ls s) x.2).2 : Int)] ∧
    Blk W (w.heap.size + 2) 33 #[.int .i64 (x.1.1 : Int)]
  below : Below w.heap.size w W

/-- Rows lie on where their block lies on. -/
theorem row_kept {A B : World} {base size n : Nat} {e : TypeId} {v : Value} {xs : List Value} (h : A.ownsRow base e size v n xs) (hk : ∀ g cur, v.ownBlock = some g → A.heap[g]? = some (.cells cur e (0, 0)) → B.heap[g]? = A.heap[g]?) : B.ownsRow base e size v n xs := by
  obtain ⟨hl, hv⟩ := h
  rcases hv with ⟨rfl, h0⟩ | ⟨g, cap, cur, rfl, hb, hg, rest⟩
  · exact ⟨hl, .inl ⟨rfl, h0⟩⟩
  · exact ⟨hl, .inr ⟨g, cap, cur, rfl, hb, (hk g cur (by simp [Value.ownBlock]) hg).trans hg, rest⟩⟩

theorem cells_stay {A B : World} {row : Option Nat} {n : Nat} (hg : A.grownBy B row) (hr : ∀ r, row = some r → n ≤ r ∧ ∃ o : Obj, A.heap[r]? = some o ∧ o.isCells = false) {g : Nat} {cs : Array Value} {t : TypeId} (h : A.heap[g]? = some (.cells cs t (0, 0))) : B.heap[g]? = A.heap[g]? :=
  hg.block g (Array.getElem?_eq_some_iff.1 h).1 (fun e => by obtain ⟨_, o, ho, hc⟩ := hr g e.symm; rw [h] at ho; cases ho; cases hc)

theorem li_own (s : ByteArray) (w : World) : OwnFrom (w.heap.size + 5) (LI s w) := by
  intro pre A B row h hg hr
  have st : ∀ {g : Nat} {cs : Array Value} {t : TypeId}, Blk A g t cs → Blk B g t cs := fun hb => (cells_stay hg hr hb).trans hb
  obtain ⟨v, h1, h2, h3⟩ := h.row
  have hb := h.below.grown hg h.below.size (fun k e => by have := (hr k e).1; omega)
  refine ⟨⟨v, st h1, row_kept h2 (fun g cur _ hc => cells_stay hg hr hc), h3⟩, st h.r0, st h.r1, st h.r2, st h.src, h.ok, ?_, hb⟩
  refine lens_block h.ln hg.size (hg.block _ h.ln.1 (fun e => ?_))
  have hc := h.ln.2 0 (by omega)
  obtain ⟨_, o, ho, hcc⟩ := hr _ e.symm
  simp only [World.cell?, ho] at hc
  cases o <;> simp_all [Obj.isCells]

theorem lx_own (s : ByteArray) (w : World) : OwnFrom (w.heap.size + 5) (LX s w) := by
  intro pre A B row h hg hr
  have st : ∀ {g : Nat} {cs : Array Value} {t : TypeId}, Blk A g t cs → Blk B g t cs := fun hb => (cells_stay hg hr hb).trans hb
  obtain ⟨p0, x, e1, e2, e3, h0, h1, h2⟩ := h.er
  exact ⟨⟨p0, x, e1, e2, e3, st h0, st h1, st h2⟩, h.below.grown hg h.below.size (fun k e => by have := (hr k e).1; omega)⟩

theorem li_steps (s : ByteArray) (w : World) (hw : 1 < w.heap.size) (pre : List Lx.Ev) (A B : World) (h : LI s w pre A) (st : Steps (w.heap.size + 7) A B) : LI s w pre B := by
  have sb : ∀ {g : Nat} {cs : Array Value} {t : TypeId}, Blk A g t cs → g < w.heap.size + 7 → Blk B g t cs := fun hb hg => (st.block _ (Blk.lt hb) (by omega) (by omega)).trans hb
  obtain ⟨v, h1, h2, h3⟩ := h.row
  refine ⟨⟨v, sb h1 (by omega), row_kept h2 (fun g cur hv hc => ?_), h3⟩, sb h.r0 (by omega), sb h.r1 (by omega), sb h.r2 (by omega), sb h.src (by omega), h.ok, ?_, ?_⟩
  · have := h3 g hv
    exact st.block g (Array.getElem?_eq_some_iff.1 hc).1 (by omega) (by omega)
  · exact lens_block h.ln st.size (st.block _ h.ln.1 (by omega) (by omega))
  · exact ⟨st.os.trans h.below.os, st.tape.trans h.below.tape, st.output.trans h.below.output, Nat.le_trans h.below.size st.size, fun i hi => (st.block i (Nat.lt_of_lt_of_le hi h.below.size) (by omega) (by omega)).trans (h.below.block i hi)⟩

end Go.Proofs.YthleaigkndfdaaaDoor
