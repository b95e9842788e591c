/- The example of the chapter, and what it answers. The example's filings made; awake. awake. -/
import Derived.Test.YtbpoedopdnjffaaGreatZpF
import Derived.Deep.CutRange
namespace Sp
theorem un_nil {l : Sps} (h : validB l = true) : un [] l = l := IsSet.uniq (un_set rfl h) ⟨h, fun d => by simp [mem_nil]⟩
def exL : List Fl := [⟨4, 10, 0, 30, 0, false⟩, ⟨5, 20, 1, 0, 0, true⟩, ⟨6, 50, 1, 1, 0, false⟩, ⟨5, 60, 1, 0, 0, false⟩, ⟨1, 61, 0, 3, 70, false⟩, ⟨2, 65, 2, 4, 0, false⟩, ⟨2, 66, 2, 3, 0, false⟩, ⟨3, 71, 2, 0, 0, false⟩]
theorem ex_errs : errsD exL = [0, 0, 0, 0, 0, 402, 0, 401] := by kernel_rfl
theorem ex_run : runD exL = ⟨8, [⟨false, 3, 10, 30, 0, 2, 425, false, 0, un [] [(20, 50)]⟩, ⟨true, 1, 61, 3, 3, 0, 70, false, 0, []⟩], 66⟩ := by kernel_rfl
theorem ex_run2 : runD (exL.take 2) = ⟨2, [⟨false, 3, 10, 30, 0, 1, 385, true, 20, []⟩], 20⟩ := by kernel_rfl
theorem ex_at1 : atErr (exL.take 2) 30 = 0 ∧ atD (exL.take 2) 30 = [⟨false, 3, 10, 30, 0, 1, 385, true, 20, [(20, 31)]⟩] := by
  have e : atErr (exL.take 2) 30 = 0 := by unfold atErr; rw [ex_run2]; decide
  refine ⟨e, ?_⟩
  unfold atD
  rw [if_pos e, ex_run2]
  have : ([⟨false, 3, 10, 30, 0, 1, 385, true, 20, []⟩] : List Cs).map (fun c => atP c 30) = [⟨false, 3, 10, 30, 0, 1, 385, true, 20, un [] [(20, 31)]⟩] := by kernel_rfl
  rw [un_nil (by decide)] at this
  exact this
theorem ex_at2 : atErr exL 66 = 0 ∧ atD exL 66 = [⟨false, 3, 10, 30, 0, 2, 425, false, 0, [(20, 50)]⟩, ⟨true, 1, 61, 3, 3, 0, 70, false, 0, []⟩] := by
  have e : atErr exL 66 = 0 := by unfold atErr; rw [ex_run]; decide
  refine ⟨e, ?_⟩
  unfold atD
  rw [if_pos e, ex_run, un_nil (by decide)]
  kernel_rfl

end Sp

namespace Go.Proofs.YtbpoedopdnjffaaGreat
open Go.RowKit Go.Shelf Sp

theorem ex_setl : setlD exL 1 = (457, true) ∧ setlD exL 2 = (71, true) := by
  unfold setlD
  rw [ex_run, un_nil (by decide)]
  exact ⟨by kernel_rfl, by kernel_rfl⟩
theorem ex_held : heldD exL 1 49 = true ∧ heldD exL 1 50 = false := by
  unfold heldD
  rw [ex_run, un_nil (by decide)]
  exact ⟨by kernel_rfl, by kernel_rfl⟩
theorem exL_bd : ∀ f ∈ exL, f.Bd := by
  intro f hf
  simp only [exL, List.mem_cons, List.not_mem_nil, or_false] at hf
  rcases hf with rfl | rfl | rfl | rfl | rfl | rfl | rfl | rfl <;> exact ⟨by decide, by decide, by decide, by decide, by decide⟩

theorem elect_f (a b c : Int) (w : World) : Calls Tryz.prog 10 #[.int .i64 a, .int .i64 b, .int .i64 c] w fun e w' => e = .returned (.agg #[.int .u8 1, .int .i64 a, .int .i64 0, .int .i64 b, .int .i64 c, .bool false]) ∧ Below w.heap.size w w' := by
  go_enter Tryz.func10, Tryz.ntmps10
  go_wp2
  refine bodyPost_ret (results_cell_row rfl _ _ w.heap.size 26 #[.int .u8 1, .int .i64 a, .int .i64 0, .int .i64 b, .int .i64 c, .bool false] (0, 0) _ rfl (World.alloc_heap_new w _) Tryz.underlying26 rfl (by kernel_rfl)) rfl ?_
  exact ⟨rfl, (Below.refl _ _).alloc (Nat.le_refl _) _⟩
theorem decide_f (a b : Int) (w : World) : Calls Tryz.prog 7 #[.int .i64 a, .int .i64 b] w fun e w' => e = .returned (.agg #[.int .u8 4, .int .i64 a, .int .i64 0, .int .i64 b, .int .i64 0, .bool false]) ∧ Below w.heap.size w w' := by
  go_enter Tryz.func7, Tryz.ntmps7
  go_wp2
  refine bodyPost_ret (results_cell_row rfl _ _ w.heap.size 26 #[.int .u8 4, .int .i64 a, .int .i64 0, .int .i64 b, .int .i64 0, .bool false] (0, 0) _ rfl (World.alloc_heap_new w _) Tryz.underlying26 rfl (by kernel_rfl)) rfl ?_
  exact ⟨rfl, (Below.refl _ _).alloc (Nat.le_refl _) _⟩
theorem on_f (k a b c : Int) (h : Bool) (w : World) : Calls Tryz.prog 8 #[.int .u8 k, .int .i64 a, .int .i64 b, .int .i64 c, .bool h] w fun e w' => e = .returned (.agg #[.int .u8 k, .int .i64 a, .int .i64 b, .int .i64 c, .int .i64 0, .bool h]) ∧ Below w.heap.size w w' := by
  go_enter Tryz.func8, Tryz.ntmps8
  go_wp2
  refine bodyPost_ret (results_cell_row rfl _ _ w.heap.size 26 #[.int .u8 k, .int .i64 a, .int .i64 b, .int .i64 c, .int .i64 0, .bool h] (0, 0) _ rfl (World.alloc_heap_new w _) Tryz.underlying26 rfl (by kernel_rfl)) rfl ?_
  exact ⟨rfl, (Below.refl _ _).alloc (Nat.le_refl _) _⟩

def exCells : Array Value := #[.int .u8 4, .int .i64 10, .int .i64 0, .int .i64 30, .int .i64 0, .bool false, .int .u8 5, .int .i64 20, .int .i64 1, .int .i64 0, .int .i64 0, .bool true, .int .u8 6, .int .i64 50, .int .i64 1, .int .i64 1, .int .i64 0, .bool false, .int .u8 5, .int .i64 60, .int .i64 1, .int .i64 0, .int .i64 0, .bool false, .int .u8 1, .int .i64 61, .int .i64 0, .int .i64 3, .int .i64 70, .bool false, .int .u8 2, .int .i64 65, .int .i64 2, .int .i64 4, .int .i64 0, .bool false, .int .u8 2, .int .i64 66, .int .i64 2, .int .i64 3, .int .i64 0, .bool false, .int .u8 3, .int .i64 71, .int .i64 2, .int .i64 0, .int .i64 0, .bool false]
theorem ex_owns (W : World) : FOwns (W.alloc (.cells exCells 26)) W.heap.size (.slice (some ⟨W.heap.size, 0, none⟩) 8 8) exL :=
  ⟨rfl, .inr ⟨W.heap.size, 8, exCells, rfl, Nat.le_refl _, World.alloc_heap_new W _, Nat.le_refl _, by unfold maxLen; omega, rfl, rfl⟩⟩

set_option maxHeartbeats 2000000 in
theorem example_any (w : World) : Calls Tryz.prog 19 #[] w fun e w' => ∃ g, e = .returned (.slice (some ⟨g, 0, none⟩) 8 8) ∧ FOwns w' w.heap.size (.slice (some ⟨g, 0, none⟩) 8 8) exL ∧ Below w.heap.size w w' := by
  go_enter Tryz.func19, Tryz.ntmps19
  go_wp2_with fail
  refine (decide_f 10 30 _).mono ?_
  rintro e W1 ⟨rfl, hb1⟩
  have B1 := Lib.hid hb1
  clear hb1
  go_wp2_with fail
  refine (on_f 5 20 1 0 true _).mono ?_
  rintro e W2 ⟨rfl, hb2⟩
  have B2 := Lib.hid (below_next B1.out hb2)
  clear B1 hb2
  go_wp2_with fail
  refine (on_f 6 50 1 1 false _).mono ?_
  rintro e W3 ⟨rfl, hb3⟩
  have B3 := Lib.hid (below_next B2.out hb3)
  clear B2 hb3
  go_wp2_with fail
  refine (on_f 5 60 1 0 false _).mono ?_
  rintro e W4 ⟨rfl, hb4⟩
  have B4 := Lib.hid (below_next B3.out hb4)
  clear B3 hb4
  go_wp2_with fail
  refine (elect_f 61 3 70 _).mono ?_
  rintro e W5 ⟨rfl, hb5⟩
  have B5 := Lib.hid (below_next B4.out hb5)
  clear B4 hb5
  go_wp2_with fail
  refine (on_f 2 65 2 4 false _).mono ?_
  rintro e W6 ⟨rfl, hb6⟩
  have B6 := Lib.hid (below_next B5.out hb6)
  clear B5 hb6
  go_wp2_with fail
  refine (on_f 2 66 2 3 false _).mono ?_
  rintro e W7 ⟨rfl, hb7⟩
  have B7 := Lib.hid (below_next B6.out hb7)
  clear B6 hb7
  go_wp2_with fail
  refine (on_f 3 71 2 0 false _).mono ?_
  rintro e W8 ⟨rfl, hb8⟩
  have B8 := Lib.hid (below_next B7.out hb8)
  clear B7 hb8
  go_wp2
  go_ret
  exact ⟨W8.heap.size, rfl, ownsRow_low (ex_owns W8) B8.out.size, B8.out.alloc B8.out.size _⟩

end Go.Proofs.YtbpoedopdnjffaaGreat

namespace Go.Proofs.YtbpoedopdnjffaaGreat
open Go.RowKit Go.Shelf Sp

theorem ARow.form0 {W : World} {base : Nat} {v : Value} {L : List Cs} (h : ARow W base v L) (h0 : L ≠ []) : ∃ g cap, v = .slice (some ⟨g, 0, none⟩) L.length cap ∧ base ≤ g ∧ ∀ i, (hi : i < L.length) → ∃ q c, CaseCells W g (i * 10) L[i] (.slice q L[i].held.length c) ∧ Cells W q L[i].held := by
  obtain ⟨ps, rfl, h2, h3, h4⟩ := h
  have hc : CRow W base v ps := ⟨h2, fun p hp => (h3 p hp).low⟩
  obtain ⟨p, cap, rfl, hr⟩ := hc.form
  obtain ⟨g, rfl, hb, _, _, hcl⟩ := hr (by rintro rfl; exact h0 rfl)
  refine ⟨g, cap, by rw [List.length_map], hb, fun i hi => ?_⟩
  rw [List.length_map] at hi
  obtain ⟨pu, cu, e, hcu⟩ := (h3 _ (List.getElem_mem hi)).form
  have h1 := (hcl i hi).1
  rw [e] at h1
  rw [List.getElem_map]
  exact ⟨pu, cu, h1, hcu⟩

theorem FCells.take {w : World} {p : Option Addr} {l : List Fl} (h : FCells w p l) (n : Nat) : FCells w p (l.take n) := by
  rcases h with h | ⟨b, off, hv, hc⟩
  · exact .inl (by rw [h, List.take_nil])
  · refine .inr ⟨b, off, hv, fun i hi => ?_⟩
    rw [List.length_take] at hi
    rw [List.getElem_take]
    exact hc i (by omega)

def exWant : Array Value := #[.int .i64 0, .int .i64 0, .int .i64 0, .int .i64 0, .int .i64 0, .int .i64 402, .int .i64 0, .int .i64 401]
theorem want_cell (W : World) (k : Nat) (hk : k < 8) : (W.alloc (.cells exWant 40)).cell? ⟨W.heap.size, k, none⟩ = some (.int .i64 ([0, 0, 0, 0, 0, 402, 0, 401].getD k 0)) := by
  have h := World.alloc_heap_new W (.cells exWant 40)
  simp only [World.cell?, h]
  rcases (show k = 0 ∨ k = 1 ∨ k = 2 ∨ k = 3 ∨ k = 4 ∨ k = 5 ∨ k = 6 ∨ k = 7 by omega) with rfl | rfl | rfl | rfl | rfl | rfl | rfl | rfl <;> rfl

theorem new3_0 (X : World) (o1 o2 o3 : Obj) : ((((X.alloc o1).alloc o2).alloc o3).drew).heap[X.heap.size]? = some o1 := by
  have h1 := World.alloc_heap_new X o1
  have h2 := (((Below.refl _ (X.alloc o1)).alloc (Nat.le_refl _) o2).block X.heap.size (by simp)).trans h1
  exact (((Below.refl _ ((X.alloc o1).alloc o2)).alloc (Nat.le_refl _) o3).block X.heap.size (by simp; omega)).trans h2
theorem new3_1 (X : World) (o1 o2 o3 : Obj) : ((((X.alloc o1).alloc o2).alloc o3).drew).heap[X.heap.size + 1]? = some o2 := by
  have h1 := World.alloc_heap_new (X.alloc o1) o2
  rw [World.size_alloc] at h1
  exact (((Below.refl _ ((X.alloc o1).alloc o2)).alloc (Nat.le_refl _) o3).block (X.heap.size + 1) (by simp)).trans h1
theorem new3_2 (X : World) (o1 o2 o3 : Obj) : ((((X.alloc o1).alloc o2).alloc o3).drew).heap[X.heap.size + 1 + 1]? = some o3 := by
  have h1 := World.alloc_heap_new ((X.alloc o1).alloc o2) o3
  rw [World.size_alloc, World.size_alloc] at h1
  exact h1
theorem new3_b (X : World) (o1 o2 o3 : Obj) : Below X.heap.size X ((((X.alloc o1).alloc o2).alloc o3).drew) := ((((Below.refl _ _).alloc (Nat.le_refl _) _).alloc (by simp) _).alloc (by simp; omega) _).drew
/-- The three cases of awake, in boxes. -/
def AwCut (X : World) (q4 : Option Addr) (d4 : Nat) (q5 : Option Addr) (d5 : Nat) (q6 : Option Addr) (d6 : Nat) (a b c : Value) (wx : World) : Prop :=
  ∃ A B C : Nat, a = .pointer (some ⟨A, 0, none⟩) ∧ b = .pointer (some ⟨B, 0, none⟩) ∧ c = .pointer (some ⟨C, 0, none⟩) ∧
    wx.heap[A]? = some (.cells #[.bool false, .int .u8 3, .int .i64 10, .int .i64 30, .int .i64 0, .int .i64 1, .int .i64 385, .bool true, .int .i64 20, .slice q4 1 d4] 52 (0, 0)) ∧
    wx.heap[B]? = some (.cells #[.bool false, .int .u8 3, .int .i64 10, .int .i64 30, .int .i64 0, .int .i64 2, .int .i64 425, .bool false, .int .i64 0, .slice q5 1 d5] 52 (0, 0)) ∧
    wx.heap[C]? = some (.cells #[.bool true, .int .u8 1, .int .i64 61, .int .i64 3, .int .i64 3, .int .i64 0, .int .i64 70, .bool false, .int .i64 0, .slice q6 0 d6] 52 (0, 0)) ∧
    Below X.heap.size X wx

/-- What awake's last line reads. -/
structure AwS (w : World) (g : Nat) (q4 : Option Addr) (d4 : Nat) (q5 : Option Addr) (d5 : Nat) (q6 : Option Addr) (d6 A B C : Nat) (wx : World) : Prop where
  a : wx.heap[A]? = some (.cells #[.bool false, .int .u8 3, .int .i64 10, .int .i64 30, .int .i64 0, .int .i64 1, .int .i64 385, .bool true, .int .i64 20, .slice q4 1 d4] 52 (0, 0))
  b : wx.heap[B]? = some (.cells #[.bool false, .int .u8 3, .int .i64 10, .int .i64 30, .int .i64 0, .int .i64 2, .int .i64 425, .bool false, .int .i64 0, .slice q5 1 d5] 52 (0, 0))
  c : wx.heap[C]? = some (.cells #[.bool true, .int .u8 1, .int .i64 61, .int .i64 3, .int .i64 3, .int .i64 0, .int .i64 70, .bool false, .int .i64 0, .slice q6 0 d6] 52 (0, 0))
  s4 : Cells wx q4 [(20, 31)]
  s5 : Cells wx q5 [(20, 50)]
  f : FCells wx (some ⟨g, 0, none⟩) exL
  bel : Below w.heap.size w wx
def AwC (q4 : Option Addr) (d4 : Nat) (q5 : Option Addr) (d5 A B C : Nat) (wx : World) : Prop :=
  wx.cell? ⟨A, 1, none⟩ = some (.int .u8 3) ∧ wx.cell? ⟨A, 5, none⟩ = some (.int .i64 1) ∧ wx.cell? ⟨A, 6, none⟩ = some (.int .i64 385) ∧ wx.cell? ⟨A, 9, none⟩ = some (.slice q4 1 d4) ∧
    wx.cell? ⟨B, 1, none⟩ = some (.int .u8 3) ∧ wx.cell? ⟨B, 5, none⟩ = some (.int .i64 2) ∧ wx.cell? ⟨B, 6, none⟩ = some (.int .i64 425) ∧ wx.cell? ⟨B, 9, none⟩ = some (.slice q5 1 d5) ∧
    wx.cell? ⟨C, 1, none⟩ = some (.int .u8 1) ∧ wx.cell? ⟨C, 4, none⟩ = some (.int .i64 3)
theorem AwS.cells {w : World} {g : Nat} {q4 : Option Addr} {d4 : Nat} {q5 : Option Addr} {d5 : Nat} {q6 : Option Addr} {d6 A B C : Nat} {wx : World} (h : AwS w g q4 d4 q5 d5 q6 d6 A B C wx) : AwC q4 d4 q5 d5 A B C wx := by
  obtain ⟨a, b, c, _, _, _, _⟩ := h
  simp only [AwC, World.cell?, a, b, c]
  exact ⟨rfl, rfl, rfl, rfl, rfl, rfl, rfl, rfl, rfl, rfl⟩
theorem AwS.below {w : World} {g : Nat} {q4 : Option Addr} {d4 : Nat} {q5 : Option Addr} {d5 : Nat} {q6 : Option Addr} {d6 A B C : Nat} {wx w1 : World} (h : AwS w g q4 d4 q5 d5 q6 d6 A B C wx) (hb : Below wx.heap.size wx w1) : AwS w g q4 d4 q5 d5 q6 d6 A B C w1 :=
  have lt {k : Nat} {o : Obj} (e : wx.heap[k]? = some o) : k < wx.heap.size := (Array.getElem?_eq_some_iff.1 e).1
  ⟨(hb.block A (lt h.a)).trans h.a, (hb.block B (lt h.b)).trans h.b, (hb.block C (lt h.c)).trans h.c, h.s4.below hb, h.s5.below hb, h.f.below hb, below_next h.bel hb⟩
theorem AwS.drew {w : World} {g : Nat} {q4 : Option Addr} {d4 : Nat} {q5 : Option Addr} {d5 : Nat} {q6 : Option Addr} {d6 A B C : Nat} {wx : World} (h : AwS w g q4 d4 q5 d5 q6 d6 A B C wx) : AwS w g q4 d4 q5 d5 q6 d6 A B C wx.drew :=
  h.below ((Below.refl _ _).drew)
theorem AwS.all {w : World} {g : Nat} {q4 : Option Addr} {d4 : Nat} {q5 : Option Addr} {d5 : Nat} {q6 : Option Addr} {d6 A B C : Nat} {wx : World} (h : AwS w g q4 d4 q5 d5 q6 d6 A B C wx) :
    wx.cell? ⟨A, 1, none⟩ = some (.int .u8 3) ∧ wx.cell? ⟨A, 5, none⟩ = some (.int .i64 1) ∧ wx.cell? ⟨A, 6, none⟩ = some (.int .i64 385) ∧ wx.cell? ⟨A, 9, none⟩ = some (.slice q4 1 d4) ∧
    wx.cell? ⟨B, 1, none⟩ = some (.int .u8 3) ∧ wx.cell? ⟨B, 5, none⟩ = some (.int .i64 2) ∧ wx.cell? ⟨B, 6, none⟩ = some (.int .i64 425) ∧ wx.cell? ⟨B, 9, none⟩ = some (.slice q5 1 d5) ∧
    wx.cell? ⟨C, 1, none⟩ = some (.int .u8 1) ∧ wx.cell? ⟨C, 4, none⟩ = some (.int .i64 3) ∧ Hid (AwS w g q4 d4 q5 d5 q6 d6 A B C wx) := by
  obtain ⟨c1, c2, c3, c4, c5, c6, c7, c8, c9, c10⟩ := h.cells
  exact ⟨c1, c2, c3, c4, c5, c6, c7, c8, c9, c10, Lib.hid h⟩
theorem awS {w : World} {g : Nat} {q4 : Option Addr} {d4 : Nat} {q5 : Option Addr} {d5 : Nat} {q6 : Option Addr} {d6 A B C : Nat} {wx w1 : World} (hb : Below wx.heap.size wx w1) (h : Hid (AwS w g q4 d4 q5 d5 q6 d6 A B C wx)) :
    w1.cell? ⟨A, 1, none⟩ = some (.int .u8 3) ∧ w1.cell? ⟨A, 5, none⟩ = some (.int .i64 1) ∧ w1.cell? ⟨A, 6, none⟩ = some (.int .i64 385) ∧ w1.cell? ⟨A, 9, none⟩ = some (.slice q4 1 d4) ∧
    w1.cell? ⟨B, 1, none⟩ = some (.int .u8 3) ∧ w1.cell? ⟨B, 5, none⟩ = some (.int .i64 2) ∧ w1.cell? ⟨B, 6, none⟩ = some (.int .i64 425) ∧ w1.cell? ⟨B, 9, none⟩ = some (.slice q5 1 d5) ∧
    w1.cell? ⟨C, 1, none⟩ = some (.int .u8 1) ∧ w1.cell? ⟨C, 4, none⟩ = some (.int .i64 3) ∧ Hid (AwS w g q4 d4 q5 d5 q6 d6 A B C w1) := (h.out.below hb).all

theorem awH {w : World} {g : Nat} {q4 : Option Addr} {d4 : Nat} {q5 : Option Addr} {d5 : Nat} {q6 : Option Addr} {d6 A B C : Nat} {wx : World} (h : wx.cell? ⟨A, 1, none⟩ = some (.int .u8 3) ∧ wx.cell? ⟨A, 5, none⟩ = some (.int .i64 1) ∧ wx.cell? ⟨A, 6, none⟩ = some (.int .i64 385) ∧ wx.cell? ⟨A, 9, none⟩ = some (.slice q4 1 d4) ∧
    wx.cell? ⟨B, 1, none⟩ = some (.int .u8 3) ∧ wx.cell? ⟨B, 5, none⟩ = some (.int .i64 2) ∧ wx.cell? ⟨B, 6, none⟩ = some (.int .i64 425) ∧ wx.cell? ⟨B, 9, none⟩ = some (.slice q5 1 d5) ∧
    wx.cell? ⟨C, 1, none⟩ = some (.int .u8 1) ∧ wx.cell? ⟨C, 4, none⟩ = some (.int .i64 3) ∧ Hid (AwS w g q4 d4 q5 d5 q6 d6 A B C wx)) : Hid (AwS w g q4 d4 q5 d5 q6 d6 A B C wx) := h.2.2.2.2.2.2.2.2.2.2
theorem same_is (l : Sps) (pa pb : Option Addr) (n ca cb : Nat) (hn : l.length = n) (w : World) (la : n ≤ 100000) (hA : Cells w pa l) (hB : Cells w pb l) :
    Calls Tryz.prog 22 #[.slice pa n ca, .slice pb n cb] w fun e w' => e = .returned (.bool true) ∧ Below w.heap.size w w' := by
  subst hn
  have h := same_any l l pa pb ca cb w la hA hB
  simpa using h
theorem to_any (a b : Int) (w : World) : Calls Tryz.prog 21 #[.int .i64 a, .int .i64 b] w fun e w' => ∃ k, e = .returned (.slice (some ⟨k, 0, none⟩) 1 1) ∧ Cells w' (some ⟨k, 0, none⟩) [(a, b)] ∧ Below w.heap.size w w' := by
  go_enter Tryz.func21, Tryz.ntmps21
  go_wp2
  go_ret
  exact ⟨_, rfl, cells_new1' w a b _ rfl, (Below.refl _ _).alloc (Nat.le_refl _) _⟩

set_option maxHeartbeats 20000000 in
set_option maxRecDepth 100000 in
theorem awake_any (w : World) : Calls Tryz.prog 6 #[] w fun e w' => e = .returned (.bool true) ∧ Below w.heap.size w w' := by
  go_enter Tryz.func6, Tryz.ntmps6
  go_wp2_with fail
  refine (example_any _).mono ?_
  rintro e W1 ⟨g, rfl, ho, hb1⟩
  obtain ⟨pf, cf, ef, hfc⟩ := ho.form
  injection ef with ef ef2 ef3
  have HF := Lib.hid (show FCells W1 (some ⟨g, 0, none⟩) exL by rw [ef]; exact hfc)
  have B1 := Lib.hid hb1
  clear ho hfc ef ef2 ef3 hb1
  have CR := Lib.hid (show Calls Tryz.prog 12 #[.slice (some ⟨g, 0, none⟩) 8 8] W1 _ from run_any exL _ _ _ HF.out exL_bd (by decide))
  go_wp2_with fail
  refine CR.out.mono ?_
  rintro e W2 ⟨ev, rfl, hE, hb2⟩
  rw [ex_errs] at hE
  obtain ⟨pe, ce, rfl, hEc⟩ := hE.form
  simp only [List.length_cons, List.length_nil, Nat.zero_add, Nat.reduceAdd] at hEc ⊢
  obtain ⟨ge, rfl, _, hgl, _⟩ := hEc 0 (by decide)
  have HEC := Lib.hid (show ∀ k, k < 8 → W2.cell? ⟨ge, k, none⟩ = some (.int .i64 ([0, 0, 0, 0, 0, 402, 0, 401].getD k 0)) from fun k hk => by
    obtain ⟨g', e, _, _, hc⟩ := hEc k hk
    cases e
    rw [hc, List.getD_eq_getElem?_getD, List.getElem?_eq_getElem hk]; rfl)
  have HF2 := Lib.hid (HF.out.below hb2)
  have B2 := Lib.hid (below_next B1.out hb2)
  clear hE hEc hb2 HF B1
  go_wp2
  go_loopw [28] (fun i wr => ∃ k m : Nat, k ≤ 8 ∧ i = .int .i64 k ∧ wr = (W2.alloc (.cells exWant 40)).drewN m) (fun i _ => 8 - (intOf i).toNat)
  case atStart => exact ⟨0, 0, by omega, rfl, rfl⟩
  case round =>
    obtain ⟨k, m, hk, rfl, rfl⟩ := hrel
    by_cases hlt : k < 8
    · have c1 := HEC.out k hlt
      have c2 := want_cell W2 k hlt
      have hne : ge ≠ W2.heap.size := by omega
      obtain ⟨ee, hee⟩ : ∃ ee, ee = ([0, 0, 0, 0, 0, 402, 0, 401] : List Int).getD k 0 := ⟨_, rfl⟩
      rw [← hee] at c1 c2
      clear hee
      have hk0 : (0 : Int) ≤ (k : Int) ∧ (k : Int) < 8 := by omega
      go_wp2
      go_quiet (fail)
      go_wp2
      go_roundw
      case rel => exact ⟨k + 1, m + nq, by omega, by go_num, rfl⟩
      case measure => simp [intOf]; omega
    · obtain rfl : k = 8 := by omega
      have B3 := Lib.hid (show Below w.heap.size w ((W2.alloc (.cells exWant 40)).drewN m) from below_drewN (B2.out.alloc B2.out.size _) m)
      have F3 := Lib.hid (show FCells ((W2.alloc (.cells exWant 40)).drewN m) (some ⟨g, 0, none⟩) exL from HF2.out.alloc _)
      generalize (W2.alloc (.cells exWant 40)).drewN m = X3 at *
      clear HEC HF2 B2
      have CA1 := Lib.hid (show Calls Tryz.prog 14 #[.slice (some ⟨g, 0, none⟩) 2 8, .int .i64 30] X3 _ from atAll_any (exL.take 2) 30 (some ⟨g, 0, none⟩) 8 X3 (F3.out.take 2) (fun f hf => exL_bd f (List.mem_of_mem_take hf)) (by decide))
      go_wp2_with fail
      refine CA1.out.mono ?_
      rintro e W4 ⟨v4, rfl, ho4, hb4⟩
      rw [ex_at1.1]
      rw [ex_at1.2] at ho4
      obtain ⟨g4, c4, rfl, _, hc4⟩ := ho4.form0 (by simp)
      obtain ⟨q4, d4, hx4, hy4⟩ := hc4 0 (by decide)
      have C4 := Lib.hid hx4
      have H4 := Lib.hid hy4
      have F4 := Lib.hid (F3.out.below hb4)
      have B4 := Lib.hid (below_next B3.out hb4)
      clear ho4 hc4 hx4 hy4 hb4 CA1 F3 B3
      have CA2 := Lib.hid (show Calls Tryz.prog 14 #[.slice (some ⟨g, 0, none⟩) 8 8, .int .i64 66] W4 _ from atAll_any exL 66 (some ⟨g, 0, none⟩) 8 W4 F4.out exL_bd (by decide))
      go_wp2_with fail
      refine CA2.out.mono ?_
      rintro e W5 ⟨v5, rfl, ho5, hb5⟩
      rw [ex_at2.1]
      rw [ex_at2.2] at ho5
      obtain ⟨g5, c5, rfl, _, hc5⟩ := ho5.form0 (by simp)
      obtain ⟨q5, d5, hx5, hy5⟩ := hc5 0 (by decide)
      obtain ⟨q6, d6, hx6, hy6⟩ := hc5 1 (by decide)
      have C5 := Lib.hid hx5
      have H5 := Lib.hid hy5
      have C6 := Lib.hid hx6
      have D4 := Lib.hid (C4.out.below hb5)
      have G4 := Lib.hid (H4.out.below hb5)
      have F5 := Lib.hid (F4.out.below hb5)
      have B5 := Lib.hid (below_next B4.out hb5)
      clear ho5 hc5 hx5 hy5 hx6 hy6 hb5 CA2 F4 B4 C4 H4
      have CS1 := Lib.hid (fun W h => show Calls Tryz.prog 20 #[.slice (some ⟨g, 0, none⟩) 8 8, .int .i64 1] W _ from settles_any exL 1 (some ⟨g, 0, none⟩) 8 W h exL_bd (by decide))
      have CS2 := Lib.hid (fun W h => show Calls Tryz.prog 20 #[.slice (some ⟨g, 0, none⟩) 8 8, .int .i64 2] W _ from settles_any exL 2 (some ⟨g, 0, none⟩) 8 W h exL_bd (by decide))
      rw [ex_setl.1] at CS1
      rw [ex_setl.2] at CS2
      go_wp2_with fail
      refine (CS1.out _ F5.out).mono ?_
      rintro e W6 ⟨rfl, hb6⟩
      have E4 := Lib.hid (D4.out.below hb6)
      have I4 := Lib.hid (G4.out.below hb6)
      have E5 := Lib.hid (C5.out.below hb6)
      have I5 := Lib.hid (H5.out.below hb6)
      have E6 := Lib.hid (C6.out.below hb6)
      have F6 := Lib.hid (F5.out.below hb6)
      have B6 := Lib.hid (below_next B5.out hb6)
      clear hb6 D4 G4 C5 H5 C6 F5 B5 CS1
      go_wp2_with fail
      refine (CS2.out _ F6.out).mono ?_
      rintro e W7 ⟨rfl, hb7⟩
      have K4 := Lib.hid (E4.out.below hb7)
      have J4 := Lib.hid (I4.out.below hb7)
      have K5 := Lib.hid (E5.out.below hb7)
      have J5 := Lib.hid (I5.out.below hb7)
      have K6 := Lib.hid (E6.out.below hb7)
      have F7 := Lib.hid (F6.out.below hb7)
      have B7 := Lib.hid (below_next B6.out hb7)
      clear hb7 E4 I4 E5 I5 E6 F6 B6 CS2
      obtain ⟨m0, m1, m2, m3, m4, m5, m6, m7, m8, m9⟩ := K4.out
      obtain ⟨n0, n1, n2, n3, n4, n5, n6, n7, n8, n9⟩ := K5.out
      obtain ⟨l0, l1, l2, l3, l4, l5, l6, l7, l8, l9⟩ := K6.out
      simp only [Nat.zero_mul, Nat.one_mul, Nat.zero_add, Nat.reduceAdd, List.getElem_cons_zero, List.getElem_cons_succ, List.length_cons, List.length_nil] at m0 m1 m2 m3 m4 m5 m6 m7 m8 m9 n0 n1 n2 n3 n4 n5 n6 n7 n8 n9 l0 l1 l2 l3 l4 l5 l6 l7 l8 l9 J4 J5
      have y4 : g4 < W7.heap.size := K4.out.lt
      have y5 : g5 < W7.heap.size := K5.out.lt
      have a3 := fun o1 o2 o3 (i : Nat) => (((((Below.refl W7.heap.size W7).alloc (Nat.le_refl _) o1).alloc (by simp) o2).alloc (by simp; omega) o3).cell (p := ⟨g5, i, none⟩) y5)
      have b3 := fun o1 o2 o3 (i : Nat) => (((((Below.refl W7.heap.size W7).alloc (Nat.le_refl _) o1).alloc (by simp) o2).alloc (by simp; omega) o3).cell (p := ⟨g4, i, none⟩) y4)
      have e40 : g4 ≠ W7.heap.size := by omega
      have e41 : g4 ≠ W7.heap.size + 1 := by omega
      have e42 : g4 ≠ W7.heap.size + 1 + 1 := by omega
      have e50 : g5 ≠ W7.heap.size := by omega
      have e51 : g5 ≠ W7.heap.size + 1 := by omega
      have e52 : g5 ≠ W7.heap.size + 1 + 1 := by omega
      go_upto_region 18 with (fail)
      go_cut [13, 14, 15] from 92 to 100 (fun a b c wx => AwCut W7 q4 d4 q5 d5 q6 d6 a b c wx)
      case first =>
        go_region
        all_goals
          go_wp2_with fail
          go_meet
          exact ⟨_, _, _, rfl, rfl, rfl, by first | exact new3_0 _ _ _ _ | exact new3_1 _ _ _ _ | exact new3_2 _ _ _ _, by first | exact new3_0 _ _ _ _ | exact new3_1 _ _ _ _ | exact new3_2 _ _ _ _, by first | exact new3_0 _ _ _ _ | exact new3_1 _ _ _ _ | exact new3_2 _ _ _ _, new3_b _ _ _ _⟩
      case rest =>
        obtain ⟨A, B, C, rfl, rfl, rfl, hA, hB, hC, hbc⟩ := hcut
        have CH1 := Lib.hid (fun W h => show Calls Tryz.prog 23 #[.slice (some ⟨g, 0, none⟩) 8 8, .int .i64 1, .int .i64 49] W _ from heldAll_any exL 1 49 (some ⟨g, 0, none⟩) 8 W h exL_bd (by decide))
        have CH2 := Lib.hid (fun W h => show Calls Tryz.prog 23 #[.slice (some ⟨g, 0, none⟩) 8 8, .int .i64 1, .int .i64 50] W _ from heldAll_any exL 1 50 (some ⟨g, 0, none⟩) 8 W h exL_bd (by decide))
        rw [ex_held.1] at CH1
        rw [ex_held.2] at CH2
        have S0 := Lib.hid (show AwS w g q4 d4 q5 d5 q6 d6 A B C _ from ⟨hA, hB, hC, J4.below hbc, J5.below hbc, F7.out.below hbc, below_next B7.out hbc⟩)
        clear hA hB hC hbc a3 b3 e40 e41 e42 e50 e51 e52 y4 y5 K4 K5 K6 F7 B7 J4 J5 m0 m1 m2 m3 m4 m5 m6 m7 m8 m9 n0 n1 n2 n3 n4 n5 n6 n7 n8 n9 l0 l1 l2 l3 l4 l5 l6 l7 l8 l9
        have CSa := Lib.hid (fun W (k : Nat) h1 h2 => same_is [(20, 31)] q4 (some ⟨k, 0, none⟩) 1 d4 1 rfl W (by decide) h1 h2)
        have CSb := Lib.hid (fun W (k : Nat) h1 h2 => same_is [(20, 50)] q5 (some ⟨k, 0, none⟩) 1 d5 1 rfl W (by decide) h1 h2)
        go_upto_region 20 with (fail)
        go_region_held3 (fun w' => w'.cell? ⟨A, 1, none⟩ = some (.int .u8 3) ∧ w'.cell? ⟨A, 5, none⟩ = some (.int .i64 1) ∧ w'.cell? ⟨A, 6, none⟩ = some (.int .i64 385) ∧ w'.cell? ⟨A, 9, none⟩ = some (.slice q4 1 d4) ∧
            w'.cell? ⟨B, 1, none⟩ = some (.int .u8 3) ∧ w'.cell? ⟨B, 5, none⟩ = some (.int .i64 2) ∧ w'.cell? ⟨B, 6, none⟩ = some (.int .i64 425) ∧ w'.cell? ⟨B, 9, none⟩ = some (.slice q5 1 d5) ∧
            w'.cell? ⟨C, 1, none⟩ = some (.int .u8 1) ∧ w'.cell? ⟨C, 4, none⟩ = some (.int .i64 3) ∧ Hid (AwS w g q4 d4 q5 d5 q6 d6 A B C w')) (first | (with_reducible exact awS hb1 (awH (by assumption))) | (with_reducible exact awS hb1 (Lib.hid S0.out.drew)) | (with_reducible exact (S0.out.drew).all))
          (first | (go_at_call 21; refine (to_any _ _ _).mono ?_; rintro e w1 ⟨k1, rfl, hk1, hb1⟩)
                 | (go_at_call 22; with_reducible refine (CSa.out _ _ ?_ ?_).mono ?_; exact (awH (by assumption) : Hid (AwS w g q4 d4 q5 d5 q6 d6 A B C _)).out.s4; assumption; rintro e w1 ⟨rfl, hb1⟩)
                 | (go_at_call 22; with_reducible refine (CSb.out _ _ ?_ ?_).mono ?_; exact (awH (by assumption) : Hid (AwS w g q4 d4 q5 d5 q6 d6 A B C _)).out.s5; assumption; rintro e w1 ⟨rfl, hb1⟩)
                 | (go_at_call 23; with_reducible refine (CH1.out _ ?_).mono ?_; exact (awH (by assumption) : Hid (AwS w g q4 d4 q5 d5 q6 d6 A B C _)).out.f; rintro e w1 ⟨rfl, hb1⟩)
                 | (go_at_call 23; with_reducible refine (CH2.out _ ?_).mono ?_; exact (awH (by assumption) : Hid (AwS w g q4 d4 q5 d5 q6 d6 A B C _)).out.f; rintro e w1 ⟨rfl, hb1⟩))
        have HF := Lib.hid (show Below w.heap.size w w1 from (awH (by assumption) : Hid (AwS w g q4 d4 q5 d5 q6 d6 A B C _)).out.bel)
        go_wp2
        go_ret
        exact ⟨rfl, HF.out⟩

end Go.Proofs.YtbpoedopdnjffaaGreat
