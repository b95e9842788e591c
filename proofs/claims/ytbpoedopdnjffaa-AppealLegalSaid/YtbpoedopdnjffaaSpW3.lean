/- The loop of choose: what it keeps between two rounds. -/
import Derived.Test.YtbpoedopdnjffaaSpW2
namespace Go.Proofs.Ytbpoedopdnjffaa
open Go.RowKit Go.Shelf Sp

def flat (l : Sps) : List Value := l.flatMap fun s => [.int .i64 s.1, .int .i64 s.2]

theorem flat_length (l : Sps) : (flat l).length = l.length * 2 := by
  induction l with
  | nil => rfl
  | cons s l ih => unfold flat at *; rw [List.flatMap_cons, List.length_append, ih]; simp; omega
theorem flat_snoc (l : Sps) (s : Int × Int) : flat (l ++ [s]) = flat l ++ [.int .i64 s.1, .int .i64 s.2] := by
  unfold flat; rw [List.flatMap_append]; simp
theorem flat_cons (s : Int × Int) (l : Sps) : flat (s :: l) = .int .i64 s.1 :: .int .i64 s.2 :: flat l := rfl
theorem flat_get (l : Sps) : ∀ i : Nat, (h : i < l.length) → (flat l)[i * 2]? = some (.int .i64 l[i].1) ∧ (flat l)[i * 2 + 1]? = some (.int .i64 l[i].2) := by
  induction l with
  | nil => intro i h; simp at h
  | cons s l ih =>
    intro i h
    rw [flat_cons]
    cases i with
    | zero => exact ⟨rfl, rfl⟩
    | succ i =>
      have := ih i (by simpa using h)
      rw [show (i + 1) * 2 = i * 2 + 1 + 1 by omega]
      exact this

/-- The slice v is the list l, in memory of its own at base or beyond. -/
def Owns (W : World) (base : Nat) (v : Value) (l : Sps) : Prop := W.ownsRow base 47 2 v l.length (flat l)

theorem Owns.nil (W : World) (base : Nat) : Owns W base (.slice none 0 0) [] := World.ownsRow_nil _ _ _ _

theorem Owns.form {W : World} {base : Nat} {v : Value} {l : Sps} (h : Owns W base v l) : ∃ p cap, v = .slice p l.length cap ∧ Cells W p l := by
  obtain ⟨hl, hv⟩ := h
  rcases hv with ⟨rfl, h0⟩ | ⟨g, cap, cur, rfl, _, hg, hc, _, _, ht⟩
  · have : l = [] := List.eq_nil_of_length_eq_zero h0
    subst this
    exact ⟨none, 0, rfl, .inl rfl⟩
  · refine ⟨_, _, rfl, .inr ⟨g, 0, rfl, fun i hi => ?_⟩⟩
    have hf := flat_get l i hi
    rw [← ht] at hf
    have e1 : (cur.toList.take (l.length * 2))[i * 2]? = cur[i * 2]? := by
      rw [List.getElem?_take, if_pos (by omega), Array.getElem?_toList]
    have e2 : (cur.toList.take (l.length * 2))[i * 2 + 1]? = cur[i * 2 + 1]? := by
      rw [List.getElem?_take, if_pos (by omega), Array.getElem?_toList]
    rw [e1, e2] at hf
    simp [World.cell?, hg, hf.1, hf.2]

/-- A block of two cells. -/
def Boxed2 (W : World) (B : Nat) (t : TypeId) (x y : Value) : Prop := W.heap[B]? = some (.cells #[x, y] t (0, 0))
theorem Boxed2.lt {W : World} {B : Nat} {t : TypeId} {x y : Value} (h : Boxed2 W B t x y) : B < W.heap.size := (Array.getElem?_eq_some_iff.1 h).1
theorem Boxed2.cell0 {W : World} {B : Nat} {t : TypeId} {x y : Value} (h : Boxed2 W B t x y) : W.cell? ⟨B, 0, none⟩ = some x := by simp [World.cell?, show W.heap[B]? = _ from h]
theorem Boxed2.cell1 {W : World} {B : Nat} {t : TypeId} {x y : Value} (h : Boxed2 W B t x y) : W.cell? ⟨B, 1, none⟩ = some y := by simp [World.cell?, show W.heap[B]? = _ from h]
theorem Boxed2.new (W : World) (t : TypeId) (x y : Value) : Boxed2 (W.alloc (.cells #[x, y] t)) W.heap.size t x y := World.alloc_heap_new W _
theorem Boxed2.kept {W W' : World} {row : Option Nat} {B : Nat} {t : TypeId} {x y : Value} (h : Boxed2 W B t x y) (hg : W.grownBy W' row) (hne : some B ≠ row) : Boxed2 W' B t x y := (hg.block B h.lt hne).trans h
theorem boxed2_own {β : Type} (B : Nat) (t : TypeId) (x y : Value) : Own (fun (_ : β) W => Boxed2 W B t x y) := fun _ X Y _ hs hg hrow =>
  Boxed2.kept hs hg (fun e' => by obtain ⟨o, ho, hc⟩ := hrow B e'.symm; rw [show X.heap[B]? = _ from hs] at ho; cases ho; cases hc)

/-- Between two rounds: the set's box at S, 'from' and 'inside' behind it, the iterator's two boxes behind these. -/
structure Inv (w : World) (S : Nat) (kv va vb : Value) (st : Int × Bool × Sps) (W : World) : Prop where
  set : ∃ v, Boxed W S 37 v ∧ W.ownsRow w.heap.size 47 2 v st.2.2.length (flat st.2.2) ∧ True
  fr : Boxed W (S + 1) 3 (.int .i64 st.1)
  ins : Boxed W (S + 2) 4 (.bool st.2.1)
  keep : Boxed W w.heap.size 72 kv
  a : Boxed W (S + 3) 37 va
  b : Boxed W (S + 4) 37 vb
  below : Below w.heap.size w W

theorem inv_own {β : Type} {w : World} {S : Nat} {kv va vb : Value} {f : β → Int × Bool × Sps} {B : Nat} (hB : w.heap.size ≤ B) : OwnFrom B (fun s W => Inv w S kv va vb (f s) W) := fun s W W' row h hg hr =>
  have hr' : ∀ r, row = some r → ∃ o : Obj, W.heap[r]? = some o ∧ o.isCells = false := fun r e => (hr r e).2
  ⟨holdsRow_own w.heap.size S _ _ 2 (fun s => (f s).2.2.length) (fun s => flat (f s).2.2) (fun _ _ => True) s W W' row h.set hg hr',
   boxed_own _ _ (fun s => Value.int .i64 (f s).1) s W W' row h.fr hg hr', boxed_own _ _ (fun s => Value.bool (f s).2.1) s W W' row h.ins hg hr',
   boxed_own _ _ (fun _ => kv) s W W' row h.keep hg hr', boxed_own _ _ (fun _ => va) s W W' row h.a hg hr', boxed_own _ _ (fun _ => vb) s W W' row h.b hg hr',
   ownFrom_below (β := β) (Nat.le_refl _) hB s W W' row h.below hg hr⟩

theorem Inv.alloc {w : World} {S : Nat} {kv va vb : Value} {st : Int × Bool × Sps} {W : World} (h : Inv w S kv va vb st W) (o : Obj) : Inv w S kv va vb st (W.alloc o) := by
  obtain ⟨v, hv, hr, _⟩ := h.set
  exact ⟨⟨v, hv.alloc o, hr.alloc o, trivial⟩, h.fr.alloc o, h.ins.alloc o, h.keep.alloc o, h.a.alloc o, h.b.alloc o, h.below.alloc h.below.size o⟩

theorem Inv.setFrom {w : World} {S : Nat} {kv va vb : Value} {st : Int × Bool × Sps} {W : World} (h : Inv w S kv va vb st W) (hS : w.heap.size < S) (d : Int) : Inv w S kv va vb (d, st.2) (W.setCell ⟨S + 1, 0, none⟩ (.int .i64 d)) := by
  obtain ⟨v, hv, hr, _⟩ := h.set
  exact ⟨⟨v, hv.other (by omega) _, hr.kept (grownBy_setCell' W (S + 1) _) (.inr (h.fr.not_row (by decide) hr).symm), trivial⟩, h.fr.set _, h.ins.other (by omega) _, h.keep.other (by omega) _, h.a.other (by omega) _, h.b.other (by omega) _, h.below.setCell (p := ⟨S + 1, 0, none⟩) (by show _ ≤ S + 1; omega) _⟩

theorem Inv.setIns {w : World} {S : Nat} {kv va vb : Value} {st : Int × Bool × Sps} {W : World} (h : Inv w S kv va vb st W) (hS : w.heap.size < S) (d : Bool) : Inv w S kv va vb (st.1, d, st.2.2) (W.setCell ⟨S + 2, 0, none⟩ (.bool d)) := by
  obtain ⟨v, hv, hr, _⟩ := h.set
  exact ⟨⟨v, hv.other (by omega) _, hr.kept (grownBy_setCell' W (S + 2) _) (.inr (h.ins.not_row (by decide) hr).symm), trivial⟩, h.fr.other (by omega) _, h.ins.set _, h.keep.other (by omega) _, h.a.other (by omega) _, h.b.other (by omega) _, h.below.setCell (p := ⟨S + 2, 0, none⟩) (by show _ ≤ S + 2; omega) _⟩

/-- Behind an append and its store. -/
theorem Inv.appended {w : World} {S : Nat} {kv va vb : Value} {st : Int × Bool × Sps} {W w1 : World} (h : Inv w S kv va vb st W) (hS : w.heap.size < S) {v v' : Value} {d : Int} {tmp : Obj}
    (hv : Boxed W S 37 v) (hr : W.ownsRow w.heap.size 47 2 v st.2.2.length (flat st.2.2))
    (hown : w1.ownsRow w.heap.size 47 2 v' (st.2.2.length + 1) (flat st.2.2 ++ [.int .i64 st.1, .int .i64 d])) (hgrow : (W.alloc tmp).grownBy w1 v.ownBlock) :
    Inv w S kv va vb (st.1, st.2.1, st.2.2 ++ [(st.1, d)]) (w1.setCell ⟨S, 0, none⟩ v') ∧ Boxed w1 S 37 v ∧ KeepsOthers W (w1.setCell ⟨S, 0, none⟩ v') ∧ Below w.heap.size W (w1.setCell ⟨S, 0, none⟩ v') ∧ Boxed w1 (S + 2) 4 (.bool st.2.1) := by
  obtain ⟨x1, x2, x3, x4, x5⟩ := hv.appended (tmp := tmp) (by decide) hr h.below.size (Nat.le_of_lt hS) hown hgrow
  have k : ∀ {B : Nat} {t : TypeId} {u : Value}, Boxed W B t u → t ≠ 47 → Boxed w1 B t u := fun hb ht => (hb.alloc tmp).kept hgrow (hb.not_row ht hr)
  refine ⟨⟨⟨v', x2, ?_, trivial⟩, (k h.fr (by decide)).other (by omega) _, (k h.ins (by decide)).other (by omega) _, (k h.keep (by decide)).other (by omega) _, (k h.a (by decide)).other (by omega) _, (k h.b (by decide)).other (by omega) _, h.below.trans x5⟩, x1, x4, x5, k h.ins (by decide)⟩
  rw [flat_snoc, List.length_append]
  exact x3

end Go.Proofs.Ytbpoedopdnjffaa
