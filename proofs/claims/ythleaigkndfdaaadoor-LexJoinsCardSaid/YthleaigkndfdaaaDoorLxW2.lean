/- The walks of the scanner's small methods, and of word, dated, padded, number. -/
import Derived.Test.YthleaigkndfdaaaDoorLxW1
import Derived.Laws.OwnMore
import Derived.Deep.Draws
import Derived.Laws.Rows
namespace Go.Proofs.YthleaigkndfdaaaDoor
open Go.RowKit Go.Shelf

/-- Block g is just these cells. -/
def Blk (w : World) (g : Nat) (t : TypeId) (cs : Array Value) : Prop := w.heap[g]? = some (.cells cs t (0, 0))
section
variable {w w' : World} {g : Nat} {t : TypeId} {cs : Array Value}
theorem Blk.lt (h : Blk w g t cs) : g < w.heap.size := (Array.getElem?_eq_some_iff.1 h).1
theorem Blk.cell (h : Blk w g t cs) (i : Nat) : w.cell? ⟨g, i, none⟩ = cs[i]? := cell_of_row w g i cs t (0, 0) h
theorem Blk.frozen (h : Blk w g t cs) (i : Nat) : w.frozen? ⟨g, i, none⟩ = false := by
  unfold Blk at h
  simp [World.frozen?, h]
theorem Blk.new (w : World) (t : TypeId) (cs : Array Value) : Blk (w.alloc (.cells cs t)) w.heap.size t cs := heap_alloc_new w _
theorem Blk.drewN (h : Blk w g t cs) (n : Nat) : Blk (w.drewN n) g t cs := h
theorem Blk.alloc (h : Blk w g t cs) (o : Obj) : Blk (w.alloc o) g t cs := (Below.heap_alloc w o g h.lt).trans h
theorem Blk.set_ (h : Blk w g t cs) (i : Nat) (u : Value) : Blk (w.setCell ⟨g, i, none⟩ u) g t (cs.setIfInBounds i u) := by
  unfold Blk at h ⊢
  simp [World.setCell, Array.getElem?_modify, h]
theorem Blk.far (h : Blk w g t cs) {p : Addr} (hp : g ≠ p.block) (u : Value) : Blk (w.setCell p u) g t cs := (Below.heap_setCell w p u g hp).trans h
theorem Blk.below {B : Nat} (h : Blk w g t cs) (hb : Below B w w') (hg : g < B) : Blk w' g t cs := (hb.block g hg).trans h
theorem Blk.grown {row : Option Nat} (h : Blk w g t cs) (hb : w.grownBy w' row) (hg : some g ≠ row) : Blk w' g t cs := (hb.block g h.lt hg).trans h
theorem Blk.ne_ {g' : Nat} {t' : TypeId} {cs' : Array Value} (h : Blk w g t cs) (h' : Blk w g' t' cs') (hne : t ≠ t') : g ≠ g' := by
  rintro rfl
  unfold Blk at h h'
  rw [h] at h'
  injection h' with h'
  injection h' with _ ht
  exact hne ht
end

/-- Only block g has turned. -/
theorem only_refl (a : World) (row : Option Nat) : a.grownBy a row := World.grownBy.refl a row
theorem only_drewN {a w : World} {row : Option Nat} (h : a.grownBy w row) (n : Nat) : a.grownBy (w.drewN n) row := ⟨h.os, h.tape, h.output, h.size, h.block⟩
theorem only_setCell {a w : World} {g : Nat} (h : a.grownBy w (some g)) {p : Addr} (hp : p.block = g ∨ a.heap.size ≤ p.block) (u : Value) : a.grownBy (w.setCell p u) (some g) :=
  ⟨h.os, h.tape, h.output, by simpa [World.setCell] using h.size, fun i hi hne => (Below.heap_setCell w p u i (by
    rintro rfl
    rcases hp with hp | hp
    · exact hne (by rw [hp])
    · omega)).trans (h.block i hi hne)⟩

theorem only_set {a w : World} {g : Nat} (h : a.grownBy w (some g)) (i : Nat) (u : Value) : a.grownBy (w.setCell ⟨g, i, none⟩ u) (some g) := only_setCell h (.inl rfl) u

/-- The scanner: line, column, source, offset. -/
def scn (ln col : Int) (s : ByteArray) (off : Int) : Array Value := #[.int .i64 ln, .int .i64 col, .string s, .int .i64 off]
def Scn (W : World) (B : Nat) (ln col : Int) (s : ByteArray) (off : Int) : Prop := Blk W B 72 (scn ln col s off)

section
variable {W : World} {B : Nat} {ln col off : Int} {s : ByteArray}
theorem Scn.c0 (h : Scn W B ln col s off) : W.cell? ⟨B, 0, none⟩ = some (.int .i64 ln) := Blk.cell h 0
theorem Scn.c1 (h : Scn W B ln col s off) : W.cell? ⟨B, 1, none⟩ = some (.int .i64 col) := Blk.cell h 1
theorem Scn.c2 (h : Scn W B ln col s off) : W.cell? ⟨B, 2, none⟩ = some (.string s) := Blk.cell h 2
theorem Scn.c3 (h : Scn W B ln col s off) : W.cell? ⟨B, 3, none⟩ = some (.int .i64 off) := Blk.cell h 3
end

set_option maxHeartbeats 1000000 in
theorem rest_any (B : Nat) (ln col : Int) (s : ByteArray) (off : Nat) (w : World) (hb : Scn w B ln col s off) (ho : off ≤ s.size) :
    Calls Tryd.prog 43 #[.pointer (some ⟨B, 0, none⟩)] w fun e w' => e = .returned (.string (s.extract off s.size)) ∧ ∃ n, w' = w.drewN n := by
  have c2 := hb.c2
  have c3 := hb.c3
  clear hb
  have h0 : (0 : Int) ≤ (off : Int) := by omega
  have h1 : (off : Int) ≤ (s.size : Int) := by omega
  go_enter Tryd.func43, Tryd.ntmps43
  go_wp2
  go_quiet (fail)
  go_wp2
  go_ret
  exact ⟨rfl, nq, rfl⟩

set_option maxHeartbeats 1000000 in
theorem skip_any (B : Nat) (ln col : Int) (s : ByteArray) (off n : Int) (w : World) (hb : Scn w B ln col s off) (h0 : 0 ≤ off) (h1 : off ≤ 1000000) (h2 : 0 ≤ n) (h3 : n ≤ 1000000) (h4 : 0 ≤ col) (h5 : col ≤ 1000001) :
    Calls Tryd.prog 42 #[.pointer (some ⟨B, 0, none⟩), .int .i64 n] w fun e w' => e = .returned (.tuple #[]) ∧ Scn w' B ln (col + n) s (off + n) ∧ w.grownBy w' (some B) := by
  have c1 := hb.c1
  have c3 := hb.c3
  have f1 := Blk.frozen hb 1
  have f3 := Blk.frozen hb 3
  have HB := Lib.hid hb
  clear hb
  go_enter Tryd.func42, Tryd.ntmps42
  go_wp2
  go_end0
  exact ⟨rfl, (HB.out.set_ 3 _).set_ 1 _, only_set (only_set (only_refl _ _) 3 _) 1 _⟩

set_option maxHeartbeats 1000000 in
theorem newline_any (B : Nat) (ln col : Int) (s : ByteArray) (off : Int) (w : World) (hb : Scn w B ln col s off) (h0 : 0 ≤ off) (h1 : off ≤ 1000000) (h2 : 0 ≤ ln) (h3 : ln ≤ 1000001) :
    Calls Tryd.prog 41 #[.pointer (some ⟨B, 0, none⟩)] w fun e w' => e = .returned (.tuple #[]) ∧ Scn w' B (ln + 1) 1 s (off + 1) ∧ w.grownBy w' (some B) := by
  have c0 := hb.c0
  have c1 := hb.c1
  have c3 := hb.c3
  have f0 := Blk.frozen hb 0
  have f1 := Blk.frozen hb 1
  have f3 := Blk.frozen hb 3
  have HB := Lib.hid hb
  clear hb
  go_enter Tryd.func41, Tryd.ntmps41
  go_wp2
  go_end0
  exact ⟨rfl, ((HB.out.set_ 3 _).set_ 0 _).set_ 1 _, only_set (only_set (only_set (only_refl _ _) 3 _) 0 _) 1 _⟩

end Go.Proofs.YthleaigkndfdaaaDoor
