/- The walk of token. Printed by gen_token.py. -/
import Derived.Test.YthleaigkndfdaaaDoorLxW4
import Derived.Test.YthleaigkndfdaaaDoorShelf
namespace Go.Proofs.YthleaigkndfdaaaDoor
open Go.RowKit Go.Shelf

/-- A token as a value. -/
def tkval (k : Nat) (t : ByteArray) (ln col : Int) : Value := .agg #[.int .u8 (k : Int), .string t, .int .i64 ln, .int .i64 col]

theorem grow_alloc {a w : World} {row : Option Nat} (h : a.grownBy w row) (o : Obj) : a.grownBy (w.alloc o) row :=
  ⟨h.os, h.tape, h.output, Nat.le_trans h.size (by simp), fun i hi hne => (Below.heap_alloc w o i (Nat.lt_of_lt_of_le hi h.size)).trans (h.block i hi hne)⟩
theorem grow_below {a w w' : World} {row : Option Nat} (h : a.grownBy w row) (hb : Below w.heap.size w w') : a.grownBy w' row :=
  ⟨hb.os.trans h.os, hb.tape.trans h.tape, hb.output.trans h.output, Nat.le_trans h.size hb.size, fun i hi hne => (hb.block i (Nat.lt_of_lt_of_le hi h.size)).trans (h.block i hi hne)⟩
theorem grow_trans {a b c : World} {row : Option Nat} (h : a.grownBy b row) (k : b.grownBy c row) : a.grownBy c row :=
  ⟨k.os.trans h.os, k.tape.trans h.tape, k.output.trans h.output, Nat.le_trans h.size k.size, fun i hi hne => (k.block i (Nat.lt_of_lt_of_le hi h.size) hne).trans (h.block i hi hne)⟩
theorem grow_cell {a b : World} {B : Nat} (h : a.grownBy b (some B)) {p : Addr} {v : Value} (hp : a.cell? p = some v) (hne : p.block ≠ B) : b.cell? p = some v :=
  (World.cell?_of_block (h.block p.block (World.block_lt_of_cell? a _ hp) (fun e => hne (by injection e)))).trans hp

/-- Inside token: the scanner, the result's box, the place's box. -/
structure Inside (w : World) (B : Nat) (ln col : Int) (s : ByteArray) (col' off : Int) (W : World) : Prop where
  s : Scn W B ln col' s off
  t : Blk W w.heap.size 27 #[.int .u8 0, .string { data := #[] }, .int .i64 0, .int .i64 0]
  p : Blk W (w.heap.size + 1) 25 #[.int .i64 ln, .int .i64 col]
  g : w.grownBy W (some B)
  l : Lens W

theorem inside_start (w : World) (B : Nat) (ln col : Int) (s : ByteArray) (off : Int) (n : Nat) (hb : Scn w B ln col s off) (hL : Lens w) :
    Inside w B ln col s col off (((w.alloc (.cells #[.int .u8 0, .string { data := #[] }, .int .i64 0, .int .i64 0] 27)).alloc (.cells #[.int .i64 ln, .int .i64 col] 25)).drewN n) where
  s := ((hb.alloc _).alloc _).drewN _
  t := ((Blk.new w _ _).alloc _).drewN _
  p := by
    have := Blk.new (w.alloc (.cells #[.int .u8 0, .string { data := #[] }, .int .i64 0, .int .i64 0] 27)) 25 #[.int .i64 ln, .int .i64 col]
    rw [World.size_alloc] at this; exact this.drewN _
  g := only_drewN (grow_alloc (grow_alloc (only_refl _ _) _) _) _
  l := ((hL.alloc _).alloc _).drewN _

section
variable {w : World} {B : Nat} {ln col : Int} {s : ByteArray} {col' off : Int} {W W' : World}
theorem Inside.drewN (h : Inside w B ln col s col' off W) (n : Nat) : Inside w B ln col s col' off (W.drewN n) :=
  ⟨h.s.drewN n, h.t.drewN n, h.p.drewN n, only_drewN h.g n, h.l.drewN n⟩
theorem Inside.below (h : Inside w B ln col s col' off W) (hb : Below W.heap.size W W') : Inside w B ln col s col' off W' :=
  ⟨Blk.below h.s hb (Blk.lt h.s), h.t.below hb h.t.lt, h.p.below hb h.p.lt, grow_below h.g hb, h.l.below hb⟩
theorem Inside.turned (h : Inside w B ln col s col' off W) (hB : B < w.heap.size) {col2 off2 : Int} (hs : Scn W' B ln col2 s off2) (hg : W.grownBy W' (some B)) (hl : Lens W') : Inside w B ln col s col2 off2 W' :=
  ⟨hs, h.t.grown hg (fun e => by cases e; omega), h.p.grown hg (fun e => by cases e; omega), grow_trans h.g hg, hl⟩
/-- The result is written into its box. -/
theorem Inside.result (h : Inside w B ln col s col' off W) (hB : B < w.heap.size) (a b c d : Value) (X : World) (hX : X = (((W.setCell ⟨w.heap.size, 0, none⟩ a).setCell ⟨w.heap.size, 1, none⟩ b).setCell ⟨w.heap.size, 2, none⟩ c).setCell ⟨w.heap.size, 3, none⟩ d) :
    Blk X w.heap.size 27 #[a, b, c, d] ∧ Scn X B ln col' s off ∧ w.grownBy X (some B) := by
  subst hX
  refine ⟨(((h.t.set_ 0 a).set_ 1 b).set_ 2 c).set_ 3 d, ?_, ?_⟩
  · exact Blk.far (p := ⟨w.heap.size, 3, none⟩) (Blk.far (p := ⟨w.heap.size, 2, none⟩) (Blk.far (p := ⟨w.heap.size, 1, none⟩) (Blk.far (p := ⟨w.heap.size, 0, none⟩) h.s (by show B ≠ w.heap.size; omega) _) (by show B ≠ w.heap.size; omega) _) (by show B ≠ w.heap.size; omega) _) (by show B ≠ w.heap.size; omega) _
  · exact only_setCell (p := ⟨w.heap.size, 3, none⟩) (only_setCell (p := ⟨w.heap.size, 2, none⟩) (only_setCell (p := ⟨w.heap.size, 1, none⟩) (only_setCell (p := ⟨w.heap.size, 0, none⟩) h.g (.inr (Nat.le_refl _)) _) (.inr (Nat.le_refl _)) _) (.inr (Nat.le_refl _)) _) (.inr (Nat.le_refl _)) _
end

theorem grow_below_lens {W W' : World} {B : Nat} (hl : Lens W) (hne : B ≠ 1) (hg : W.grownBy W' (some B)) : Lens W' :=
  ⟨Nat.lt_of_lt_of_le hl.1 hg.size, fun i hi => grow_cell hg (hl.2 i hi) (fun e => hne e.symm)⟩

set_option maxHeartbeats 4000000 in
theorem token_er (B : Nat) (ln col : Int) (s : ByteArray) (off : Nat) (w : World) (hb : Scn w B ln col s off) (hL : Lens w) (ho : off < s.size) (k : Nat) (tt : ByteArray) (er : Int) (he : (er != 0) = true)
    (hbr : (k = 1 ∧ Lx.isLet s[off] = true ∧ Hid (∀ W, Lens W → Calls Tryd.prog 55 #[.string (s.extract off s.size)] W fun e w' => e = .returned (.tuple #[.string tt, .int .i64 er]) ∧ Below W.heap.size W w')) ∨
      (k = 3 ∧ Lx.isLet s[off] = false ∧ Lx.isDg s[off] = true ∧ Hid (∀ W, Calls Tryd.prog 56 #[.string (s.extract off s.size)] W fun e w' => e = .returned (.bool true) ∧ W = w') ∧ Hid (∀ W, Lens W → Calls Tryd.prog 57 #[.string (s.extract off s.size)] W fun e w' => e = .returned (.tuple #[.string tt, .int .i64 er]) ∧ Below W.heap.size W w')) ∨
      (k = 2 ∧ Lx.isLet s[off] = false ∧ Lx.isDg s[off] = true ∧ Hid (∀ W, Calls Tryd.prog 56 #[.string (s.extract off s.size)] W fun e w' => e = .returned (.bool false) ∧ W = w') ∧ Hid (∀ W, Lens W → Calls Tryd.prog 58 #[.string (s.extract off s.size)] W fun e w' => e = .returned (.tuple #[.string tt, .int .i64 er]) ∧ Below W.heap.size W w'))) :
    Calls Tryd.prog 45 #[.pointer (some ⟨B, 0, none⟩)] w fun e w' => e = .returned (.tuple #[tkval 0 (bs []) ln col, .int .i64 er]) ∧ Scn w' B ln col s off ∧ w.grownBy w' (some B) := by
  have c0 := hb.c0
  have c1 := hb.c1
  have c2 := hb.c2
  have c3 := hb.c3
  have hlt := Blk.lt hb
  have HB := Lib.hid hb
  have HL := Lib.hid hL
  clear hb hL
  have g0 : (0 : Int) ≤ (off : Int) := by omega
  have g1 : (off : Int) < (s.size : Int) := by omega
  have hne : B ≠ w.heap.size := Nat.ne_of_lt hlt
  have hne1 : B ≠ w.heap.size + 1 := by omega
  have CL := Lib.hid (isLetter_any s[off])
  have CD := Lib.hid (isDigit_any s[off])
  rcases hbr with ⟨rfl, hl, CW⟩ | ⟨rfl, hl, hd, CDD, CW⟩ | ⟨rfl, hl, hd, CDD, CW⟩
  all_goals
    rw [hl] at CL
    try rw [hd] at CD
    clear hl
    try clear hd
    go_enter Tryd.func45, Tryd.ntmps45
    go_wp2
    go_quiet (fail)
    obtain ⟨W2, hW2⟩ : ∃ W2, ((w.alloc (.cells #[.int .u8 0, .string { data := #[] }, .int .i64 0, .int .i64 0] 27)).alloc (.cells #[.int .i64 ln, .int .i64 col] 25)).drewN nq = W2 := ⟨_, rfl⟩
    have hI := Lib.hid (inside_start w B ln col s off nq HB.out HL.out)
    rw [hW2] at hI ⊢
    clear hW2 c0 c1 c2 c3
    have hz2 : w.heap.size + 1 < W2.heap.size := hI.out.p.lt
    have CR0 := Lib.hid (rest_any B ln col s off W2 hI.out.s (by omega))
    have CR := Lib.hid (fun n => rest_any B ln col s off (W2.drewN n) (hI.out.s.drewN n) (by omega))
    go_wp2_with (first
      | (go_at_call 33; refine (CL.out _).mono ?_; rintro e w' ⟨rfl, rfl⟩)
      | (go_at_call 49; refine (CD.out _).mono ?_; rintro e w' ⟨rfl, rfl⟩)
      | (go_at_call 43; (first | ((with_reducible refine CR0.out.mono ?_); rintro e w' ⟨rfl, n0, rfl⟩) | ((with_reducible refine (CR.out _).mono ?_); rintro e w' ⟨rfl, n1, rfl⟩)))
      | (go_at_call 56; refine (CDD.out _).mono ?_; rintro e w' ⟨rfl, rfl⟩))
    refine (CW.out _ (hI.out.l.drewN _)).mono ?_
    rintro e W3 ⟨rfl, hb3⟩
    have I3 := Lib.hid ((hI.out.drewN _).below hb3)
    have p0 : W3.cell? ⟨w.heap.size + 1, 0, none⟩ = some (.int .i64 ln) := I3.out.p.cell 0
    have p1 : W3.cell? ⟨w.heap.size + 1, 1, none⟩ = some (.int .i64 col) := I3.out.p.cell 1
    have t0 : W3.cell? ⟨w.heap.size, 0, none⟩ = some (.int .u8 0) := I3.out.t.cell 0
    have t1 : W3.cell? ⟨w.heap.size, 1, none⟩ = some (.string (bs [])) := I3.out.t.cell 1
    have t2 : W3.cell? ⟨w.heap.size, 2, none⟩ = some (.int .i64 0) := I3.out.t.cell 2
    have t3 : W3.cell? ⟨w.heap.size, 3, none⟩ = some (.int .i64 0) := I3.out.t.cell 3
    have f0 : W3.frozen? ⟨w.heap.size, 0, none⟩ = false := I3.out.t.frozen 0
    have f1 : W3.frozen? ⟨w.heap.size, 1, none⟩ = false := I3.out.t.frozen 1
    have f2 : W3.frozen? ⟨w.heap.size, 2, none⟩ = false := I3.out.t.frozen 2
    have f3 : W3.frozen? ⟨w.heap.size, 3, none⟩ = false := I3.out.t.frozen 3
    clear hb3
    go_wp2
    obtain ⟨X, hX⟩ : ∃ X, ((((W3.setCell ⟨w.heap.size, 0, none⟩ (.int .u8 0)).setCell ⟨w.heap.size, 1, none⟩ (.string { data := #[] })).setCell ⟨w.heap.size, 2, none⟩ (.int .i64 ln)).setCell ⟨w.heap.size, 3, none⟩ (.int .i64 col)) = X := ⟨_, rfl⟩
    have R := Lib.hid (I3.out.result hlt (.int .u8 0) (.string { data := #[] }) (.int .i64 ln) (.int .i64 col) X hX.symm)
    rw [hX]
    have d0 : X.cell? ⟨w.heap.size, 0, none⟩ = some (.int .u8 0) := R.out.1.cell 0
    have d1 : X.cell? ⟨w.heap.size, 1, none⟩ = some (.string { data := #[] }) := R.out.1.cell 1
    have d2 : X.cell? ⟨w.heap.size, 2, none⟩ = some (.int .i64 ln) := R.out.1.cell 2
    have d3 : X.cell? ⟨w.heap.size, 3, none⟩ = some (.int .i64 col) := R.out.1.cell 3
    refine bodyPost_ret (v := .tuple #[tkval 0 { data := #[] } ln col, .int .i64 er]) (by simp [results, Tryd.results45, go_sem, tkval, d0, d1, d2, d3]; done) rfl ⟨rfl, R.out.2.1, R.out.2.2⟩

set_option maxHeartbeats 4000000 in
theorem token_ok (B : Nat) (ln col : Int) (s : ByteArray) (off : Nat) (w : World) (hb : Scn w B ln col s off) (hL : Lens w) (ho : off < s.size) (hBl : B ≠ 1) (h0 : 0 ≤ col) (h1 : col ≤ 100001) (hs : s.size ≤ 100000) (k : Nat) (tt : ByteArray) (ht : off + tt.size ≤ s.size) (er : Int) (he : er = 0)
    (hbr : (k = 1 ∧ Lx.isLet s[off] = true ∧ Hid (∀ W, Lens W → Calls Tryd.prog 55 #[.string (s.extract off s.size)] W fun e w' => e = .returned (.tuple #[.string tt, .int .i64 er]) ∧ Below W.heap.size W w')) ∨
      (k = 3 ∧ Lx.isLet s[off] = false ∧ Lx.isDg s[off] = true ∧ Hid (∀ W, Calls Tryd.prog 56 #[.string (s.extract off s.size)] W fun e w' => e = .returned (.bool true) ∧ W = w') ∧ Hid (∀ W, Lens W → Calls Tryd.prog 57 #[.string (s.extract off s.size)] W fun e w' => e = .returned (.tuple #[.string tt, .int .i64 er]) ∧ Below W.heap.size W w')) ∨
      (k = 2 ∧ Lx.isLet s[off] = false ∧ Lx.isDg s[off] = true ∧ Hid (∀ W, Calls Tryd.prog 56 #[.string (s.extract off s.size)] W fun e w' => e = .returned (.bool false) ∧ W = w') ∧ Hid (∀ W, Lens W → Calls Tryd.prog 58 #[.string (s.extract off s.size)] W fun e w' => e = .returned (.tuple #[.string tt, .int .i64 er]) ∧ Below W.heap.size W w'))) :
    Calls Tryd.prog 45 #[.pointer (some ⟨B, 0, none⟩)] w fun e w' => e = .returned (.tuple #[tkval k tt ln col, .int .i64 0]) ∧ Scn w' B ln (col + tt.size) s (off + tt.size) ∧ w.grownBy w' (some B) := by
  subst he
  have c0 := hb.c0
  have c1 := hb.c1
  have c2 := hb.c2
  have c3 := hb.c3
  have hlt := Blk.lt hb
  have HB := Lib.hid hb
  have HL := Lib.hid hL
  clear hb hL
  have g0 : (0 : Int) ≤ (off : Int) := by omega
  have g1 : (off : Int) < (s.size : Int) := by omega
  have hne : B ≠ w.heap.size := Nat.ne_of_lt hlt
  have hne1 : B ≠ w.heap.size + 1 := by omega
  have CL := Lib.hid (isLetter_any s[off])
  have CD := Lib.hid (isDigit_any s[off])
  rcases hbr with ⟨rfl, hl, CW⟩ | ⟨rfl, hl, hd, CDD, CW⟩ | ⟨rfl, hl, hd, CDD, CW⟩
  all_goals
    rw [hl] at CL
    try rw [hd] at CD
    clear hl
    try clear hd
  case inl =>
    go_enter Tryd.func45, Tryd.ntmps45
    go_wp2
    go_quiet (fail)
    obtain ⟨W2, hW2⟩ : ∃ W2, ((w.alloc (.cells #[.int .u8 0, .string { data := #[] }, .int .i64 0, .int .i64 0] 27)).alloc (.cells #[.int .i64 ln, .int .i64 col] 25)).drewN nq = W2 := ⟨_, rfl⟩
    have hI := Lib.hid (inside_start w B ln col s off nq HB.out HL.out)
    rw [hW2] at hI ⊢
    clear hW2 c0 c1 c2 c3
    have hz2 : w.heap.size + 1 < W2.heap.size := hI.out.p.lt
    have CR0 := Lib.hid (rest_any B ln col s off W2 hI.out.s (by omega))
    have CR := Lib.hid (fun n => rest_any B ln col s off (W2.drewN n) (hI.out.s.drewN n) (by omega))
    go_wp2_with (first
      | (go_at_call 33; refine (CL.out _).mono ?_; rintro e w' ⟨rfl, rfl⟩)
      | (go_at_call 49; refine (CD.out _).mono ?_; rintro e w' ⟨rfl, rfl⟩)
      | (go_at_call 43; (first | ((with_reducible refine CR0.out.mono ?_); rintro e w' ⟨rfl, n0, rfl⟩) | ((with_reducible refine (CR.out _).mono ?_); rintro e w' ⟨rfl, n1, rfl⟩)))
      | (go_at_call 56; refine (CDD.out _).mono ?_; rintro e w' ⟨rfl, rfl⟩))
    refine (CW.out _ (hI.out.l.drewN _)).mono ?_
    rintro e W3 ⟨rfl, hb3⟩
    have I3 := Lib.hid ((hI.out.drewN _).below hb3)
    have z3 : w.heap.size + 1 < W3.heap.size := I3.out.p.lt
    clear hb3
    go_wp2_with fail
    refine (skip_any B ln col s off tt.size W3 I3.out.s (by omega) (by omega) (by omega) (by omega) (by omega) (by omega)).mono ?_
    rintro e W4 ⟨rfl, s4, g4⟩
    have I4 := Lib.hid (I3.out.turned hlt s4 g4 (grow_below_lens I3.out.l hBl g4))
    clear s4 g4
    have p0 : W4.cell? ⟨w.heap.size + 1, 0, none⟩ = some (.int .i64 ln) := I4.out.p.cell 0
    have p1 : W4.cell? ⟨w.heap.size + 1, 1, none⟩ = some (.int .i64 col) := I4.out.p.cell 1
    have t0 : W4.cell? ⟨w.heap.size, 0, none⟩ = some (.int .u8 0) := I4.out.t.cell 0
    have t1 : W4.cell? ⟨w.heap.size, 1, none⟩ = some (.string (bs [])) := I4.out.t.cell 1
    have t2 : W4.cell? ⟨w.heap.size, 2, none⟩ = some (.int .i64 0) := I4.out.t.cell 2
    have t3 : W4.cell? ⟨w.heap.size, 3, none⟩ = some (.int .i64 0) := I4.out.t.cell 3
    have f0 : W4.frozen? ⟨w.heap.size, 0, none⟩ = false := I4.out.t.frozen 0
    have f1 : W4.frozen? ⟨w.heap.size, 1, none⟩ = false := I4.out.t.frozen 1
    have f2 : W4.frozen? ⟨w.heap.size, 2, none⟩ = false := I4.out.t.frozen 2
    have f3 : W4.frozen? ⟨w.heap.size, 3, none⟩ = false := I4.out.t.frozen 3
    go_wp2
    obtain ⟨X, hX⟩ : ∃ X, ((((W4.setCell ⟨w.heap.size, 0, none⟩ (.int .u8 1)).setCell ⟨w.heap.size, 1, none⟩ (.string tt)).setCell ⟨w.heap.size, 2, none⟩ (.int .i64 ln)).setCell ⟨w.heap.size, 3, none⟩ (.int .i64 col)) = X := ⟨_, rfl⟩
    have R := Lib.hid (I4.out.result hlt (.int .u8 1) (.string tt) (.int .i64 ln) (.int .i64 col) X hX.symm)
    rw [hX]
    have d0 : X.cell? ⟨w.heap.size, 0, none⟩ = some (.int .u8 1) := R.out.1.cell 0
    have d1 : X.cell? ⟨w.heap.size, 1, none⟩ = some (.string tt) := R.out.1.cell 1
    have d2 : X.cell? ⟨w.heap.size, 2, none⟩ = some (.int .i64 ln) := R.out.1.cell 2
    have d3 : X.cell? ⟨w.heap.size, 3, none⟩ = some (.int .i64 col) := R.out.1.cell 3
    refine bodyPost_ret (v := .tuple #[tkval 1 tt ln col, .int .i64 0]) (by simp [results, Tryd.results45, go_sem, tkval, d0, d1, d2, d3]; done) rfl ⟨rfl, R.out.2.1, R.out.2.2⟩
  case inr.inl =>
    go_enter Tryd.func45, Tryd.ntmps45
    go_wp2
    go_quiet (fail)
    obtain ⟨W2, hW2⟩ : ∃ W2, ((w.alloc (.cells #[.int .u8 0, .string { data := #[] }, .int .i64 0, .int .i64 0] 27)).alloc (.cells #[.int .i64 ln, .int .i64 col] 25)).drewN nq = W2 := ⟨_, rfl⟩
    have hI := Lib.hid (inside_start w B ln col s off nq HB.out HL.out)
    rw [hW2] at hI ⊢
    clear hW2 c0 c1 c2 c3
    have hz2 : w.heap.size + 1 < W2.heap.size := hI.out.p.lt
    have CR0 := Lib.hid (rest_any B ln col s off W2 hI.out.s (by omega))
    have CR := Lib.hid (fun n => rest_any B ln col s off (W2.drewN n) (hI.out.s.drewN n) (by omega))
    go_wp2_with (first
      | (go_at_call 33; refine (CL.out _).mono ?_; rintro e w' ⟨rfl, rfl⟩)
      | (go_at_call 49; refine (CD.out _).mono ?_; rintro e w' ⟨rfl, rfl⟩)
      | (go_at_call 43; (first | ((with_reducible refine CR0.out.mono ?_); rintro e w' ⟨rfl, n0, rfl⟩) | ((with_reducible refine (CR.out _).mono ?_); rintro e w' ⟨rfl, n1, rfl⟩)))
      | (go_at_call 56; refine (CDD.out _).mono ?_; rintro e w' ⟨rfl, rfl⟩))
    refine (CW.out _ (hI.out.l.drewN _)).mono ?_
    rintro e W3 ⟨rfl, hb3⟩
    have I3 := Lib.hid ((hI.out.drewN _).below hb3)
    have z3 : w.heap.size + 1 < W3.heap.size := I3.out.p.lt
    clear hb3
    go_wp2_with fail
    refine (skip_any B ln col s off tt.size W3 I3.out.s (by omega) (by omega) (by omega) (by omega) (by omega) (by omega)).mono ?_
    rintro e W4 ⟨rfl, s4, g4⟩
    have I4 := Lib.hid (I3.out.turned hlt s4 g4 (grow_below_lens I3.out.l hBl g4))
    clear s4 g4
    have p0 : W4.cell? ⟨w.heap.size + 1, 0, none⟩ = some (.int .i64 ln) := I4.out.p.cell 0
    have p1 : W4.cell? ⟨w.heap.size + 1, 1, none⟩ = some (.int .i64 col) := I4.out.p.cell 1
    have t0 : W4.cell? ⟨w.heap.size, 0, none⟩ = some (.int .u8 0) := I4.out.t.cell 0
    have t1 : W4.cell? ⟨w.heap.size, 1, none⟩ = some (.string (bs [])) := I4.out.t.cell 1
    have t2 : W4.cell? ⟨w.heap.size, 2, none⟩ = some (.int .i64 0) := I4.out.t.cell 2
    have t3 : W4.cell? ⟨w.heap.size, 3, none⟩ = some (.int .i64 0) := I4.out.t.cell 3
    have f0 : W4.frozen? ⟨w.heap.size, 0, none⟩ = false := I4.out.t.frozen 0
    have f1 : W4.frozen? ⟨w.heap.size, 1, none⟩ = false := I4.out.t.frozen 1
    have f2 : W4.frozen? ⟨w.heap.size, 2, none⟩ = false := I4.out.t.frozen 2
    have f3 : W4.frozen? ⟨w.heap.size, 3, none⟩ = false := I4.out.t.frozen 3
    go_wp2
    obtain ⟨X, hX⟩ : ∃ X, ((((W4.setCell ⟨w.heap.size, 0, none⟩ (.int .u8 3)).setCell ⟨w.heap.size, 1, none⟩ (.string tt)).setCell ⟨w.heap.size, 2, none⟩ (.int .i64 ln)).setCell ⟨w.heap.size, 3, none⟩ (.int .i64 col)) = X := ⟨_, rfl⟩
    have R := Lib.hid (I4.out.result hlt (.int .u8 3) (.string tt) (.int .i64 ln) (.int .i64 col) X hX.symm)
    rw [hX]
    have d0 : X.cell? ⟨w.heap.size, 0, none⟩ = some (.int .u8 3) := R.out.1.cell 0
    have d1 : X.cell? ⟨w.heap.size, 1, none⟩ = some (.string tt) := R.out.1.cell 1
    have d2 : X.cell? ⟨w.heap.size, 2, none⟩ = some (.int .i64 ln) := R.out.1.cell 2
    have d3 : X.cell? ⟨w.heap.size, 3, none⟩ = some (.int .i64 col) := R.out.1.cell 3
    refine bodyPost_ret (v := .tuple #[tkval 3 tt ln col, .int .i64 0]) (by simp [results, Tryd.results45, go_sem, tkval, d0, d1, d2, d3]; done) rfl ⟨rfl, R.out.2.1, R.out.2.2⟩
  case inr.inr =>
    go_enter Tryd.func45, Tryd.ntmps45
    go_wp2
    go_quiet (fail)
    obtain ⟨W2, hW2⟩ : ∃ W2, ((w.alloc (.cells #[.int .u8 0, .string { data := #[] }, .int .i64 0, .int .i64 0] 27)).alloc (.cells #[.int .i64 ln, .int .i64 col] 25)).drewN nq = W2 := ⟨_, rfl⟩
    have hI := Lib.hid (inside_start w B ln col s off nq HB.out HL.out)
    rw [hW2] at hI ⊢
    clear hW2 c0 c1 c2 c3
    have hz2 : w.heap.size + 1 < W2.heap.size := hI.out.p.lt
    have CR0 := Lib.hid (rest_any B ln col s off W2 hI.out.s (by omega))
    have CR := Lib.hid (fun n => rest_any B ln col s off (W2.drewN n) (hI.out.s.drewN n) (by omega))
    go_wp2_with (first
      | (go_at_call 33; refine (CL.out _).mono ?_; rintro e w' ⟨rfl, rfl⟩)
      | (go_at_call 49; refine (CD.out _).mono ?_; rintro e w' ⟨rfl, rfl⟩)
      | (go_at_call 43; (first | ((with_reducible refine CR0.out.mono ?_); rintro e w' ⟨rfl, n0, rfl⟩) | ((with_reducible refine (CR.out _).mono ?_); rintro e w' ⟨rfl, n1, rfl⟩)))
      | (go_at_call 56; refine (CDD.out _).mono ?_; rintro e w' ⟨rfl, rfl⟩))
    refine (CW.out _ (hI.out.l.drewN _)).mono ?_
    rintro e W3 ⟨rfl, hb3⟩
    have I3 := Lib.hid ((hI.out.drewN _).below hb3)
    have z3 : w.heap.size + 1 < W3.heap.size := I3.out.p.lt
    clear hb3
    go_wp2_with fail
    refine (skip_any B ln col s off tt.size W3 I3.out.s (by omega) (by omega) (by omega) (by omega) (by omega) (by omega)).mono ?_
    rintro e W4 ⟨rfl, s4, g4⟩
    have I4 := Lib.hid (I3.out.turned hlt s4 g4 (grow_below_lens I3.out.l hBl g4))
    clear s4 g4
    have p0 : W4.cell? ⟨w.heap.size + 1, 0, none⟩ = some (.int .i64 ln) := I4.out.p.cell 0
    have p1 : W4.cell? ⟨w.heap.size + 1, 1, none⟩ = some (.int .i64 col) := I4.out.p.cell 1
    have t0 : W4.cell? ⟨w.heap.size, 0, none⟩ = some (.int .u8 0) := I4.out.t.cell 0
    have t1 : W4.cell? ⟨w.heap.size, 1, none⟩ = some (.string (bs [])) := I4.out.t.cell 1
    have t2 : W4.cell? ⟨w.heap.size, 2, none⟩ = some (.int .i64 0) := I4.out.t.cell 2
    have t3 : W4.cell? ⟨w.heap.size, 3, none⟩ = some (.int .i64 0) := I4.out.t.cell 3
    have f0 : W4.frozen? ⟨w.heap.size, 0, none⟩ = false := I4.out.t.frozen 0
    have f1 : W4.frozen? ⟨w.heap.size, 1, none⟩ = false := I4.out.t.frozen 1
    have f2 : W4.frozen? ⟨w.heap.size, 2, none⟩ = false := I4.out.t.frozen 2
    have f3 : W4.frozen? ⟨w.heap.size, 3, none⟩ = false := I4.out.t.frozen 3
    go_wp2
    obtain ⟨X, hX⟩ : ∃ X, ((((W4.setCell ⟨w.heap.size, 0, none⟩ (.int .u8 2)).setCell ⟨w.heap.size, 1, none⟩ (.string tt)).setCell ⟨w.heap.size, 2, none⟩ (.int .i64 ln)).setCell ⟨w.heap.size, 3, none⟩ (.int .i64 col)) = X := ⟨_, rfl⟩
    have R := Lib.hid (I4.out.result hlt (.int .u8 2) (.string tt) (.int .i64 ln) (.int .i64 col) X hX.symm)
    rw [hX]
    have d0 : X.cell? ⟨w.heap.size, 0, none⟩ = some (.int .u8 2) := R.out.1.cell 0
    have d1 : X.cell? ⟨w.heap.size, 1, none⟩ = some (.string tt) := R.out.1.cell 1
    have d2 : X.cell? ⟨w.heap.size, 2, none⟩ = some (.int .i64 ln) := R.out.1.cell 2
    have d3 : X.cell? ⟨w.heap.size, 3, none⟩ = some (.int .i64 col) := R.out.1.cell 3
    refine bodyPost_ret (v := .tuple #[tkval 2 tt ln col, .int .i64 0]) (by simp [results, Tryd.results45, go_sem, tkval, d0, d1, d2, d3]; done) rfl ⟨rfl, R.out.2.1, R.out.2.2⟩

theorem ls_rest (s : ByteArray) (off : Nat) : ls (s.extract off s.size) = (ls s).drop off := by rw [ls_ext, List.take_of_length_le (by rw [ls_len]; exact Nat.le_refl _)]
theorem sign_iff (c : UInt8) : (Lx.isSg c = true → 0 ≤ Lib.indexByte Lx.sgs c) ∧ (Lx.isSg c = false → Lib.indexByte Lx.sgs c < 0) := by
  have key : ∀ l : Lx.Bs, (l.contains c = true → 0 ≤ Lib.indexByte l c) ∧ (l.contains c = false → Lib.indexByte l c = -1) := by
    intro l
    induction l with
    | nil => exact ⟨fun h => by simp at h, fun _ => rfl⟩
    | cons b l ih =>
      have hge := Lib.indexByte_ge l c
      rw [List.contains_cons]
      unfold Lib.indexByte
      by_cases e : b = c
      · subst e; exact ⟨fun _ => by simp, fun h => by simp at h⟩
      · have e1 : (b == c) = false := beq_eq_false_iff_ne.2 e
        have e2 : (c == b) = false := beq_eq_false_iff_ne.2 (fun h => e h.symm)
        rw [e1, e2, Bool.false_or, if_neg (by decide)]
        refine ⟨fun h => ?_, fun h => ?_⟩
        · have := ih.1 h
          rw [if_neg (by intro h'; rw [beq_iff_eq] at h'; omega)]; omega
        · rw [ih.2 h]; rfl
  have := key Lx.sgs
  exact ⟨this.1, fun h => by have := this.2 h; omega⟩
theorem index_signs (c : UInt8) (w : World) : Calls Tryd.prog 59 #[.string { data := #[40, 41, 44, 43, 45, 42, 47, 60, 61] }, .int .u8 c.toNat] w fun e w' => e = .returned (.int .i64 (Lib.indexByte Lx.sgs c)) ∧ w = w' :=
  (Tryd.strings_IndexByte _ _ w).mono fun e w' ⟨he, hw⟩ => ⟨by rw [he]; simp [Lx.sgs], hw.symm⟩
theorem quiet_any {P : Program} {f : FuncId} {args : Array Value} {w : World} {n : Nat} {v : Value}
    (h : Calls P f args (w.drewN n) fun e w' => e = .returned v ∧ ∃ m, w' = (w.drewN n).drewN m) : Calls P f args (w.drewN n) fun e w'' => e = .returned v ∧ ∃ m, w'' = w.drewN m :=
  h.mono fun _ _ ⟨he, m, hm⟩ => ⟨he, n + m, by rw [hm, World.drewN_drewN]⟩

set_option maxHeartbeats 4000000 in
theorem token_sign (B : Nat) (ln col : Int) (s : ByteArray) (off : Nat) (w : World) (hb : Scn w B ln col s off) (hL : Lens w) (ho : off < s.size) (hBl : B ≠ 1) (h0 : 0 ≤ col) (h1 : col ≤ 100001) (hs : s.size ≤ 100000) (hl : Lx.isLet s[off] = false) (hd : Lx.isDg s[off] = false) (hg : Lx.isSg s[off] = true) :
    Calls Tryd.prog 45 #[.pointer (some ⟨B, 0, none⟩)] w fun e w' => e = .returned (.tuple #[tkval 4 (bs [s[off]]) ln col, .int .i64 0]) ∧ Scn w' B ln (col + 1) s (off + 1) ∧ w.grownBy w' (some B) := by
  have c0 := hb.c0
  have c1 := hb.c1
  have c2 := hb.c2
  have c3 := hb.c3
  have hlt := Blk.lt hb
  have HB := Lib.hid hb
  have HL := Lib.hid hL
  clear hb hL
  have g0 : (0 : Int) ≤ (off : Int) := by omega
  have g1 : (off : Int) < (s.size : Int) := by omega
  have hne : B ≠ w.heap.size := Nat.ne_of_lt hlt
  have hne1 : B ≠ w.heap.size + 1 := by omega
  have CL := Lib.hid (isLetter_any s[off])
  have CD := Lib.hid (isDigit_any s[off])
  have CS := Lib.hid (fun W => index_signs s[off] W)
  have hx := sign_iff s[off]
  obtain ⟨ix, hix⟩ : ∃ ix, ix = Lib.indexByte Lx.sgs s[off] := ⟨_, rfl⟩
  rw [← hix] at CS hx
  rw [hl] at CL
  rw [hd] at CD
  clear hl hd hix
  have hpos := hx.1 hg
  clear hx hg
  have htt : (s.extract off s.size).extract 0 1 = bs [s[off]] := by
    have h : (ls s).drop off = s[off] :: (ls s).drop (off + 1) := List.drop_eq_getElem_cons (by simpa using ho)
    rw [ext_pre (s.extract off s.size) 1, ls_rest, h, List.take_succ_cons, List.take_zero]
  have HTT := Lib.hid htt
  have e1 : (1 : Int) ≤ ((s.size - off : Nat) : Int) := by omega
  have e2 : 1 ≤ s.size - off := by omega
  have e3 : off ≤ s.size := by omega
  clear htt
  go_enter Tryd.func45, Tryd.ntmps45
  go_wp2
  go_quiet (fail)
  obtain ⟨W2, hW2⟩ : ∃ W2, ((w.alloc (.cells #[.int .u8 0, .string { data := #[] }, .int .i64 0, .int .i64 0] 27)).alloc (.cells #[.int .i64 ln, .int .i64 col] 25)).drewN nq = W2 := ⟨_, rfl⟩
  have hI := Lib.hid (inside_start w B ln col s off nq HB.out HL.out)
  rw [hW2] at hI ⊢
  clear hW2 c0 c1 c2 c3
  have hz2 : w.heap.size + 1 < W2.heap.size := hI.out.p.lt
  have CR0 := Lib.hid (rest_any B ln col s off W2 hI.out.s (by omega))
  have CR := Lib.hid (fun n => rest_any B ln col s off (W2.drewN n) (hI.out.s.drewN n) (by omega))
  go_wp2_with (first
    | (go_at_call 33; refine (CL.out _).mono ?_; rintro e w' ⟨rfl, rfl⟩)
    | (go_at_call 49; refine (CD.out _).mono ?_; rintro e w' ⟨rfl, rfl⟩)
    | (go_at_call 59; refine (CS.out _).mono ?_; rintro e w' ⟨rfl, rfl⟩))
  go_quiet ((go_at_call 43; exact quiet_any (CR.out _)))
  rw [HTT.out]
  obtain ⟨tt, ht⟩ : ∃ tt, bs [s[off]] = tt := ⟨_, rfl⟩
  have hz : tt.size ≤ 1 := by rw [← ht]; exact Nat.le_refl _
  have hz' : 1 ≤ tt.size := by rw [← ht]; exact Nat.le_refl _
  rw [ht]
  obtain ⟨W3, hW3⟩ : ∃ W3, W2.drewN nq = W3 := ⟨_, rfl⟩
  rw [hW3]
  have I3 : Hid (Inside w B ln col s col off W3) := by rw [← hW3]; exact hI.out.drewN _
  clear hW3
  go_wp2_with fail
  refine (skip_any B ln col s off tt.size W3 I3.out.s (by omega) (by omega) (by omega) (by omega) (by omega) (by omega)).mono ?_
  rintro e W4 ⟨rfl, s4, g4⟩
  rw [show (tt.size : Int) = 1 by omega] at s4
  have I4 := Lib.hid (I3.out.turned hlt s4 g4 (grow_below_lens I3.out.l hBl g4))
  clear s4 g4
  have p0 : W4.cell? ⟨w.heap.size + 1, 0, none⟩ = some (.int .i64 ln) := I4.out.p.cell 0
  have p1 : W4.cell? ⟨w.heap.size + 1, 1, none⟩ = some (.int .i64 col) := I4.out.p.cell 1
  have t0 : W4.cell? ⟨w.heap.size, 0, none⟩ = some (.int .u8 0) := I4.out.t.cell 0
  have t1 : W4.cell? ⟨w.heap.size, 1, none⟩ = some (.string (bs [])) := I4.out.t.cell 1
  have t2 : W4.cell? ⟨w.heap.size, 2, none⟩ = some (.int .i64 0) := I4.out.t.cell 2
  have t3 : W4.cell? ⟨w.heap.size, 3, none⟩ = some (.int .i64 0) := I4.out.t.cell 3
  have f0 : W4.frozen? ⟨w.heap.size, 0, none⟩ = false := I4.out.t.frozen 0
  have f1 : W4.frozen? ⟨w.heap.size, 1, none⟩ = false := I4.out.t.frozen 1
  have f2 : W4.frozen? ⟨w.heap.size, 2, none⟩ = false := I4.out.t.frozen 2
  have f3 : W4.frozen? ⟨w.heap.size, 3, none⟩ = false := I4.out.t.frozen 3
  go_wp2
  obtain ⟨X, hX⟩ : ∃ X, ((((W4.setCell ⟨w.heap.size, 0, none⟩ (.int .u8 4)).setCell ⟨w.heap.size, 1, none⟩ (.string tt)).setCell ⟨w.heap.size, 2, none⟩ (.int .i64 ln)).setCell ⟨w.heap.size, 3, none⟩ (.int .i64 col)) = X := ⟨_, rfl⟩
  have R := Lib.hid (I4.out.result hlt (.int .u8 4) (.string tt) (.int .i64 ln) (.int .i64 col) X hX.symm)
  rw [hX]
  have d0 : X.cell? ⟨w.heap.size, 0, none⟩ = some (.int .u8 4) := R.out.1.cell 0
  have d1 : X.cell? ⟨w.heap.size, 1, none⟩ = some (.string tt) := R.out.1.cell 1
  have d2 : X.cell? ⟨w.heap.size, 2, none⟩ = some (.int .i64 ln) := R.out.1.cell 2
  have d3 : X.cell? ⟨w.heap.size, 3, none⟩ = some (.int .i64 col) := R.out.1.cell 3
  refine bodyPost_ret (v := .tuple #[tkval 4 tt ln col, .int .i64 0]) (by simp [results, Tryd.results45, go_sem, tkval, d0, d1, d2, d3]; done) rfl ⟨by rw [ht], R.out.2.1, R.out.2.2⟩

set_option maxHeartbeats 4000000 in
theorem token_char (B : Nat) (ln col : Int) (s : ByteArray) (off : Nat) (w : World) (hb : Scn w B ln col s off) (hL : Lens w) (ho : off < s.size) (hl : Lx.isLet s[off] = false) (hd : Lx.isDg s[off] = false) (hg : Lx.isSg s[off] = false) :
    Calls Tryd.prog 45 #[.pointer (some ⟨B, 0, none⟩)] w fun e w' => e = .returned (.tuple #[tkval 0 (bs []) ln col, .int .i64 110]) ∧ Scn w' B ln col s off ∧ w.grownBy w' (some B) := by
  have c0 := hb.c0
  have c1 := hb.c1
  have c2 := hb.c2
  have c3 := hb.c3
  have hlt := Blk.lt hb
  have HB := Lib.hid hb
  have HL := Lib.hid hL
  clear hb hL
  have g0 : (0 : Int) ≤ (off : Int) := by omega
  have g1 : (off : Int) < (s.size : Int) := by omega
  have hne : B ≠ w.heap.size := Nat.ne_of_lt hlt
  have hne1 : B ≠ w.heap.size + 1 := by omega
  have CL := Lib.hid (isLetter_any s[off])
  have CD := Lib.hid (isDigit_any s[off])
  have CS := Lib.hid (fun W => index_signs s[off] W)
  have hx := sign_iff s[off]
  obtain ⟨ix, hix⟩ : ∃ ix, ix = Lib.indexByte Lx.sgs s[off] := ⟨_, rfl⟩
  rw [← hix] at CS hx
  rw [hl] at CL
  rw [hd] at CD
  clear hl hd hix
  have hneg := hx.2 hg
  clear hx hg
  go_enter Tryd.func45, Tryd.ntmps45
  go_wp2
  go_quiet (fail)
  obtain ⟨W2, hW2⟩ : ∃ W2, ((w.alloc (.cells #[.int .u8 0, .string { data := #[] }, .int .i64 0, .int .i64 0] 27)).alloc (.cells #[.int .i64 ln, .int .i64 col] 25)).drewN nq = W2 := ⟨_, rfl⟩
  have hI := Lib.hid (inside_start w B ln col s off nq HB.out HL.out)
  rw [hW2] at hI ⊢
  clear hW2 c0 c1 c2 c3
  have hz2 : w.heap.size + 1 < W2.heap.size := hI.out.p.lt
  have CR0 := Lib.hid (rest_any B ln col s off W2 hI.out.s (by omega))
  have CR := Lib.hid (fun n => rest_any B ln col s off (W2.drewN n) (hI.out.s.drewN n) (by omega))
  have p0 : W2.cell? ⟨w.heap.size + 1, 0, none⟩ = some (.int .i64 ln) := hI.out.p.cell 0
  have p1 : W2.cell? ⟨w.heap.size + 1, 1, none⟩ = some (.int .i64 col) := hI.out.p.cell 1
  have t0 : W2.cell? ⟨w.heap.size, 0, none⟩ = some (.int .u8 0) := hI.out.t.cell 0
  have t1 : W2.cell? ⟨w.heap.size, 1, none⟩ = some (.string (bs [])) := hI.out.t.cell 1
  have t2 : W2.cell? ⟨w.heap.size, 2, none⟩ = some (.int .i64 0) := hI.out.t.cell 2
  have t3 : W2.cell? ⟨w.heap.size, 3, none⟩ = some (.int .i64 0) := hI.out.t.cell 3
  have f0 : W2.frozen? ⟨w.heap.size, 0, none⟩ = false := hI.out.t.frozen 0
  have f1 : W2.frozen? ⟨w.heap.size, 1, none⟩ = false := hI.out.t.frozen 1
  have f2 : W2.frozen? ⟨w.heap.size, 2, none⟩ = false := hI.out.t.frozen 2
  have f3 : W2.frozen? ⟨w.heap.size, 3, none⟩ = false := hI.out.t.frozen 3
  go_wp2_with (first
    | (go_at_call 33; refine (CL.out _).mono ?_; rintro e w' ⟨rfl, rfl⟩)
    | (go_at_call 49; refine (CD.out _).mono ?_; rintro e w' ⟨rfl, rfl⟩)
    | (go_at_call 59; refine (CS.out _).mono ?_; rintro e w' ⟨rfl, rfl⟩))
  obtain ⟨X, hX⟩ : ∃ X, ((((W2.setCell ⟨w.heap.size, 0, none⟩ (.int .u8 0)).setCell ⟨w.heap.size, 1, none⟩ (.string { data := #[] })).setCell ⟨w.heap.size, 2, none⟩ (.int .i64 ln)).setCell ⟨w.heap.size, 3, none⟩ (.int .i64 col)) = X := ⟨_, rfl⟩
  have R := Lib.hid (hI.out.result hlt (.int .u8 0) (.string { data := #[] }) (.int .i64 ln) (.int .i64 col) X hX.symm)
  rw [hX]
  have d0 : X.cell? ⟨w.heap.size, 0, none⟩ = some (.int .u8 0) := R.out.1.cell 0
  have d1 : X.cell? ⟨w.heap.size, 1, none⟩ = some (.string { data := #[] }) := R.out.1.cell 1
  have d2 : X.cell? ⟨w.heap.size, 2, none⟩ = some (.int .i64 ln) := R.out.1.cell 2
  have d3 : X.cell? ⟨w.heap.size, 3, none⟩ = some (.int .i64 col) := R.out.1.cell 3
  refine bodyPost_ret (v := .tuple #[tkval 0 { data := #[] } ln col, .int .i64 110]) (by simp [results, Tryd.results45, go_sem, tkval, d0, d1, d2, d3]; done) rfl ⟨rfl, R.out.2.1, R.out.2.2⟩


/-- What token answers: a token or an error, at its place; the scanner behind it. -/
theorem token_any (B : Nat) (ln col : Int) (s : ByteArray) (off : Nat) (w : World) (hb : Scn w B ln col s off) (hL : Lens w) (ho : off < s.size) (hBl : B ≠ 1) (h0 : 0 ≤ col) (h1 : col ≤ 100001) (hs : s.size ≤ 100000) (k : Nat) (t : Lx.Bs) (er : Nat) (hv : Lx.tokv gd ((ls s).drop off) = (er, k, t)) :
    Calls Tryd.prog 45 #[.pointer (some ⟨B, 0, none⟩)] w fun e w' => e = .returned (.tuple #[tkval k (bs t) ln col, .int .i64 (er : Int)]) ∧ Scn w' B ln (col + t.length) s (off + t.length) ∧ w.grownBy w' (some B) := by
  have hd0 : (ls s).drop off = s[off] :: (ls s).drop (off + 1) := List.drop_eq_getElem_cons (by simpa using ho)
  have hz : (s.extract off s.size).size ≤ 1000000 := by simp; omega
  have hz' : (s.extract off s.size).size ≤ 9223372036854775807 := by omega
  have hr := ls_rest s off
  have hv' : Lx.tokc gd s[off] ((ls s).drop off) = (er, k, t) := by
    rw [hd0] at hv ⊢; exact hv
  have hmk : ∀ (j : Nat) (p : Nat × Lx.Bs), (p.1 ≠ 0 → p.2 = []) → Lx.mk j p = (er, k, t) → (p.1 = 0 ∧ er = 0 ∧ k = j ∧ t = p.2) ∨ (p.1 ≠ 0 ∧ er = p.1 ∧ k = 0 ∧ t = [] ∧ p.2 = []) := fun j p hp h => by
    unfold Lx.mk at h
    by_cases e : p.1 = 0
    · rw [if_pos e] at h; simp only [Prod.mk.injEq] at h; exact .inl ⟨e, h.1.symm, h.2.1.symm, h.2.2.symm⟩
    · rw [if_neg e] at h; simp only [Prod.mk.injEq] at h; exact .inr ⟨e, h.1.symm, h.2.1.symm, h.2.2.symm, hp e⟩
  unfold Lx.tokc at hv'
  have hpre := fun (hok : er = 0) => (Lx.tok_text gd (r := (ls s).drop off) (k := k) (t := t) (by rw [hv, hok])).1.length_le
  rw [List.length_drop, ls_len] at hpre
  have fin : ∀ (p : Nat × Lx.Bs) (j : Nat), (p.1 ≠ 0 → p.2 = []) → Lx.mk j p = (er, k, t) →
      (∀ (tt : ByteArray) (e' : Int), tt = bs p.2 → e' = (p.1 : Int) → ((j = 1 ∧ Lx.isLet s[off] = true ∧ Hid (∀ W, Lens W → Calls Tryd.prog 55 #[.string (s.extract off s.size)] W fun e w' => e = .returned (.tuple #[.string tt, .int .i64 e']) ∧ Below W.heap.size W w')) ∨
      (j = 3 ∧ Lx.isLet s[off] = false ∧ Lx.isDg s[off] = true ∧ Hid (∀ W, Calls Tryd.prog 56 #[.string (s.extract off s.size)] W fun e w' => e = .returned (.bool true) ∧ W = w') ∧ Hid (∀ W, Lens W → Calls Tryd.prog 57 #[.string (s.extract off s.size)] W fun e w' => e = .returned (.tuple #[.string tt, .int .i64 e']) ∧ Below W.heap.size W w')) ∨
      (j = 2 ∧ Lx.isLet s[off] = false ∧ Lx.isDg s[off] = true ∧ Hid (∀ W, Calls Tryd.prog 56 #[.string (s.extract off s.size)] W fun e w' => e = .returned (.bool false) ∧ W = w') ∧ Hid (∀ W, Lens W → Calls Tryd.prog 58 #[.string (s.extract off s.size)] W fun e w' => e = .returned (.tuple #[.string tt, .int .i64 e']) ∧ Below W.heap.size W w')))) →
      Calls Tryd.prog 45 #[.pointer (some ⟨B, 0, none⟩)] w fun e w' => e = .returned (.tuple #[tkval k (bs t) ln col, .int .i64 (er : Int)]) ∧ Scn w' B ln (col + t.length) s (off + t.length) ∧ w.grownBy w' (some B) := fun p j hp hm hways => by
    rcases hmk j p hp hm with ⟨hp0, rfl, rfl, rfl⟩ | ⟨hp0, rfl, rfl, rfl, hp2⟩
    · exact token_ok B ln col s off w hb hL ho hBl h0 h1 hs k (bs p.2) (by have := hpre rfl; show off + p.2.length ≤ _; omega) p.1 (by omega) (hways _ _ rfl rfl)
    · have := token_er B ln col s off w hb hL ho j (bs []) p.1 (bne_iff_ne.2 (by omega)) (hways _ _ (by rw [hp2]) rfl)
      simpa using this
  by_cases hl : Lx.isLet s[off] = true
  · rw [if_pos hl] at hv'
    refine fin _ _ (fun h => ?_) hv' (fun tt e' h1 h2 => .inl ⟨rfl, hl, fun W _ => ?_⟩)
    · unfold Lx.wordv at h ⊢
      by_cases c : 24 < (((ls s).drop off).takeWhile Lx.inW).length
      · rw [if_pos c]
      · rw [if_neg c] at h; exact absurd rfl h
    · subst h1 h2
      rw [← hr]
      exact (word_any _ W hz').mono fun e w' ⟨he, hw⟩ => ⟨he, by rw [← hw]; exact Below.refl _ _⟩
  · have hl' : Lx.isLet s[off] = false := by simpa using hl
    rw [if_neg hl] at hv'
    by_cases hdg : Lx.isDg s[off] = true
    · rw [if_pos hdg] at hv'
      by_cases hdd : Lx.datedB ((ls s).drop off) = true
      · rw [if_pos hdd] at hv'
        have h10 := Lx.dated_len hdd
        refine fin _ _ (fun h => ?_) hv' (fun tt e' h1 h2 => .inr (.inl ⟨rfl, hl', hdg, fun W => ?_, fun W hW => ?_⟩))
        · unfold Lx.datev at h ⊢; split
          · rfl
          · split <;> simp_all
        · have := dated_any (s.extract off s.size) W hz'
          rw [hr, hdd] at this; exact this
        · subst h1 h2
          rw [← hr]
          exact date_any _ W hW (by rw [← ls_len, hr]; exact h10) hz'
      · have hdd' : Lx.datedB ((ls s).drop off) = false := by simpa using hdd
        rw [if_neg hdd] at hv'
        refine fin _ _ (fun h => ?_) hv' (fun tt e' h1 h2 => .inr (.inr ⟨rfl, hl', hdg, fun W => ?_, fun W _ => ?_⟩))
        · unfold Lx.numv at h ⊢; split <;> simp_all
        · have := dated_any (s.extract off s.size) W hz'
          rw [hr, hdd'] at this; exact this
        · subst h1 h2
          rw [← hr]
          exact (number_any _ W hz).mono fun e w' ⟨he, hw⟩ => ⟨he, by rw [← hw]; exact Below.refl _ _⟩
    · have hdg' : Lx.isDg s[off] = false := by simpa using hdg
      rw [if_neg hdg] at hv'
      by_cases hg : Lx.isSg s[off] = true
      · rw [if_pos hg] at hv'
        simp only [Prod.mk.injEq] at hv'
        obtain ⟨rfl, rfl, rfl⟩ := hv'
        exact token_sign B ln col s off w hb hL ho hBl h0 h1 hs hl' hdg' hg
      · rw [if_neg hg] at hv'
        simp only [Prod.mk.injEq] at hv'
        obtain ⟨rfl, rfl, rfl⟩ := hv'
        have := token_char B ln col s off w hb hL ho hl' hdg' (by simpa using hg)
        simpa using this

end Go.Proofs.YthleaigkndfdaaaDoor
