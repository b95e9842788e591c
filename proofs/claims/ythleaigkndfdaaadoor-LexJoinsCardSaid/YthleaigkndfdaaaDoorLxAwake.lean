/- The examples of the chapter. Printed by gen_awake.py. -/
import Derived.Test.YthleaigkndfdaaaDoorLxW12
namespace Go.Proofs.YthleaigkndfdaaaDoor
open Go.RowKit Go.Shelf

/-- Lex, its slice written out. -/
theorem lex_form (s : ByteArray) (w : World) (hL : Lens w) (hs : s.size ≤ 9223372036854775807) :
    Calls Tryd.prog 17 #[.string s] w fun e W' => ∃ p cap, e = .returned (.tuple #[.slice p (lexT' s).length cap, .agg #[.int .i64 ((lexP' s).1 : Int), .int .i64 ((lexP' s).2 : Int)], .int .i64 (lexE' s : Int)]) ∧ TCells W' p (lexT' s) ∧ Below w.heap.size w W' :=
  (lex_any s w hL hs).mono fun e W' ⟨v, he, ho, hb⟩ => by
    obtain ⟨p, cap, rfl, hc⟩ := ho.form
    exact ⟨p, cap, he, hc, hb⟩

theorem lex_is (s : ByteArray) (l : List Tok) (n : Nat) (a c e' : Int) (hl : lexT' s = l) (hn : l.length = n) (hp : ((lexP' s).1 : Int) = a ∧ ((lexP' s).2 : Int) = c) (he : (lexE' s : Int) = e') (hs : s.size ≤ 1000000) (w : World) (hL : Lens w) :
    Calls Tryd.prog 17 #[.string s] w fun e W' => ∃ p cap, e = .returned (.tuple #[.slice p n cap, .agg #[.int .i64 a, .int .i64 c], .int .i64 e']) ∧ TCells W' p l ∧ Below w.heap.size w W' := by
  subst hl hn he
  obtain ⟨rfl, rfl⟩ := hp
  exact lex_form s w hL (by omega)

def tok_example : List Tok := [(1, { data := #[99, 108, 97, 117, 115, 101] }, 1, 1), (1, { data := #[97] }, 1, 8), (1, { data := #[98] }, 1, 10), (1, { data := #[102, 114, 111, 109] }, 1, 12), (3, { data := #[50, 48, 48, 48, 45, 48, 50, 45, 50, 57] }, 1, 17), (5, { data := #[] }, 1, 27), (1, { data := #[119, 104, 101, 110] }, 3, 3), (1, { data := #[120] }, 3, 8), (4, { data := #[60] }, 3, 9), (2, { data := #[55, 47, 49, 50] }, 3, 10), (5, { data := #[] }, 3, 14)]
theorem val_example : lexT' { data := #[99, 108, 97, 117, 115, 101, 32, 97, 32, 98, 32, 102, 114, 111, 109, 32, 50, 48, 48, 48, 45, 48, 50, 45, 50, 57, 32, 35, 32, 115, 111, 10, 10, 32, 32, 119, 104, 101, 110, 32, 120, 60, 55, 47, 49, 50] } = tok_example ∧ lexP' { data := #[99, 108, 97, 117, 115, 101, 32, 97, 32, 98, 32, 102, 114, 111, 109, 32, 50, 48, 48, 48, 45, 48, 50, 45, 50, 57, 32, 35, 32, 115, 111, 10, 10, 32, 32, 119, 104, 101, 110, 32, 120, 60, 55, 47, 49, 50] } = (0, 0) ∧ lexE' { data := #[99, 108, 97, 117, 115, 101, 32, 97, 32, 98, 32, 102, 114, 111, 109, 32, 50, 48, 48, 48, 45, 48, 50, 45, 50, 57, 32, 35, 32, 115, 111, 10, 10, 32, 32, 119, 104, 101, 110, 32, 120, 60, 55, 47, 49, 50] } = 0 := by decide +kernel
def tok_f : List Tok := []
theorem val_f : lexT' { data := #[49, 57, 57, 57, 45, 48, 50, 45, 50, 57] } = tok_f ∧ lexP' { data := #[49, 57, 57, 57, 45, 48, 50, 45, 50, 57] } = (1, 1) ∧ lexE' { data := #[49, 57, 57, 57, 45, 48, 50, 45, 50, 57] } = 113 := by decide +kernel
def tok_g : List Tok := []
theorem val_g : lexT' { data := #[49, 50, 97] } = tok_g ∧ lexP' { data := #[49, 50, 97] } = (1, 1) ∧ lexE' { data := #[49, 50, 97] } = 112 := by decide +kernel
def tok_h : List Tok := []
theorem val_h : lexT' { data := #[48, 48, 55] } = tok_h ∧ lexP' { data := #[48, 48, 55] } = (1, 1) ∧ lexE' { data := #[48, 48, 55] } = 112 := by decide +kernel
def tok_i : List Tok := []
theorem val_i : lexT' { data := #[97, 32, 63, 32, 98] } = tok_i ∧ lexP' { data := #[97, 32, 63, 32, 98] } = (1, 3) ∧ lexE' { data := #[97, 32, 63, 32, 98] } = 110 := by decide +kernel
def tok_m : List Tok := [(2, { data := #[55] }, 1, 1), (4, { data := #[47] }, 1, 3), (2, { data := #[49, 50] }, 1, 5), (5, { data := #[] }, 1, 7)]
theorem val_m : lexT' { data := #[55, 32, 47, 32, 49, 50] } = tok_m ∧ lexP' { data := #[55, 32, 47, 32, 49, 50] } = (0, 0) ∧ lexE' { data := #[55, 32, 47, 32, 49, 50] } = 0 := by decide +kernel
def tok_n : List Tok := [(2, { data := #[49, 57, 57, 57] }, 1, 1), (4, { data := #[45] }, 1, 5), (2, { data := #[50] }, 1, 6), (5, { data := #[] }, 1, 7)]
theorem val_n : lexT' { data := #[49, 57, 57, 57, 45, 50] } = tok_n ∧ lexP' { data := #[49, 57, 57, 57, 45, 50] } = (0, 0) ∧ lexE' { data := #[49, 57, 57, 57, 45, 50] } = 0 := by decide +kernel
theorem val_join : bs (jn tok_example).1 = { data := #[99, 108, 97, 117, 115, 101, 32, 97, 32, 98, 32, 102, 114, 111, 109, 32, 50, 48, 48, 48, 45, 48, 50, 45, 50, 57, 10, 119, 104, 101, 110, 32, 120, 32, 60, 32, 55, 47, 49, 50, 10] } := by decide +kernel

theorem boxed_below {W W' : World} {g : Nat} {t : TypeId} {cs : Array Value} (h : Blk W g t cs) (hb : Below W.heap.size W W') : Blk W' g t cs := h.below hb h.lt

set_option maxHeartbeats 4000000 in
set_option maxRecDepth 100000 in
theorem awake_any (w : World) (hL : Lens w) :
    Calls Tryd.prog 13 #[] w fun e w' => e = .returned (.bool true) ∧ Below w.heap.size w w' := by
  have HL0 := Lib.hid hL; clear hL
  have B0 := Lib.hid (Below.refl w.heap.size w)
  have C0 := Lib.hid (fun W h => lex_is { data := #[99, 108, 97, 117, 115, 101, 32, 97, 32, 98, 32, 102, 114, 111, 109, 32, 50, 48, 48, 48, 45, 48, 50, 45, 50, 57, 32, 35, 32, 115, 111, 10, 10, 32, 32, 119, 104, 101, 110, 32, 120, 60, 55, 47, 49, 50] } tok_example 11 0 0 0 val_example.1 rfl ⟨by rw [val_example.2.1]; rfl, by rw [val_example.2.1]; rfl⟩ (by rw [val_example.2.2]; rfl) (by decide) W h)
  have C1 := Lib.hid (fun W h => lex_is { data := #[49, 57, 57, 57, 45, 48, 50, 45, 50, 57] } tok_f 0 1 1 113 val_f.1 rfl ⟨by rw [val_f.2.1]; rfl, by rw [val_f.2.1]; rfl⟩ (by rw [val_f.2.2]; rfl) (by decide) W h)
  have C2 := Lib.hid (fun W h => lex_is { data := #[49, 50, 97] } tok_g 0 1 1 112 val_g.1 rfl ⟨by rw [val_g.2.1]; rfl, by rw [val_g.2.1]; rfl⟩ (by rw [val_g.2.2]; rfl) (by decide) W h)
  have C3 := Lib.hid (fun W h => lex_is { data := #[48, 48, 55] } tok_h 0 1 1 112 val_h.1 rfl ⟨by rw [val_h.2.1]; rfl, by rw [val_h.2.1]; rfl⟩ (by rw [val_h.2.2]; rfl) (by decide) W h)
  have C4 := Lib.hid (fun W h => lex_is { data := #[97, 32, 63, 32, 98] } tok_i 0 1 3 110 val_i.1 rfl ⟨by rw [val_i.2.1]; rfl, by rw [val_i.2.1]; rfl⟩ (by rw [val_i.2.2]; rfl) (by decide) W h)
  have C5 := Lib.hid (fun W h => lex_is { data := #[55, 32, 47, 32, 49, 50] } tok_m 4 0 0 0 val_m.1 rfl ⟨by rw [val_m.2.1]; rfl, by rw [val_m.2.1]; rfl⟩ (by rw [val_m.2.2]; rfl) (by decide) W h)
  have C6 := Lib.hid (fun W h => lex_is { data := #[49, 57, 57, 57, 45, 50] } tok_n 4 0 0 0 val_n.1 rfl ⟨by rw [val_n.2.1]; rfl, by rw [val_n.2.1]; rfl⟩ (by rw [val_n.2.2]; rfl) (by decide) W h)
  go_enter Tryd.func13, Tryd.ntmps13
  go_wp2_with fail
  refine (C0.out _ HL0.out).mono ?_
  rintro e w1 ⟨p1, cap1, rfl, t1, b1⟩
  have T1_1 := Lib.hid t1
  have B1 := Lib.hid (below_next B0.out b1)
  have HL1 := Lib.hid ((HL0.out.below b1).alloc (.cells #[.int .i64 0, .int .i64 0] 25))
  clear t1 b1
  go_wp2_with fail
  refine (C1.out _ HL1.out).mono ?_
  rintro e w2 ⟨p2, cap2, rfl, t2, b2⟩
  have T2_2 := Lib.hid t2
  have B2 := Lib.hid (below_next (B1.out.alloc B1.out.size _) b2)
  have HL2 := Lib.hid ((HL1.out.below b2).alloc (.cells #[.int .i64 1, .int .i64 1] 25))
  have T1_2 := Lib.hid ((T1_1.out.below ((Below.refl _ _).alloc (Nat.le_refl _) _)).below b2)
  have K1_2 := Lib.hid (boxed_below (Blk.new w1 25 #[.int .i64 0, .int .i64 0]) b2)
  clear T1_1
  clear t2 b2
  go_wp2_with fail
  refine (C2.out _ HL2.out).mono ?_
  rintro e w3 ⟨p3, cap3, rfl, t3, b3⟩
  have T3_3 := Lib.hid t3
  have B3 := Lib.hid (below_next (B2.out.alloc B2.out.size _) b3)
  have HL3 := Lib.hid ((HL2.out.below b3).alloc (.cells #[.int .i64 1, .int .i64 1] 25))
  have T1_3 := Lib.hid ((T1_2.out.below ((Below.refl _ _).alloc (Nat.le_refl _) _)).below b3)
  have K1_3 := Lib.hid (boxed_below (K1_2.out.alloc _) b3)
  clear T1_2 K1_2
  have T2_3 := Lib.hid ((T2_2.out.below ((Below.refl _ _).alloc (Nat.le_refl _) _)).below b3)
  have K2_3 := Lib.hid (boxed_below (Blk.new w2 25 #[.int .i64 1, .int .i64 1]) b3)
  clear T2_2
  clear t3 b3
  go_wp2_with fail
  refine (C3.out _ HL3.out).mono ?_
  rintro e w4 ⟨p4, cap4, rfl, t4, b4⟩
  have T4_4 := Lib.hid t4
  have B4 := Lib.hid (below_next (B3.out.alloc B3.out.size _) b4)
  have HL4 := Lib.hid ((HL3.out.below b4).alloc (.cells #[.int .i64 1, .int .i64 1] 25))
  have T1_4 := Lib.hid ((T1_3.out.below ((Below.refl _ _).alloc (Nat.le_refl _) _)).below b4)
  have K1_4 := Lib.hid (boxed_below (K1_3.out.alloc _) b4)
  clear T1_3 K1_3
  have T2_4 := Lib.hid ((T2_3.out.below ((Below.refl _ _).alloc (Nat.le_refl _) _)).below b4)
  have K2_4 := Lib.hid (boxed_below (K2_3.out.alloc _) b4)
  clear T2_3 K2_3
  have T3_4 := Lib.hid ((T3_3.out.below ((Below.refl _ _).alloc (Nat.le_refl _) _)).below b4)
  have K3_4 := Lib.hid (boxed_below (Blk.new w3 25 #[.int .i64 1, .int .i64 1]) b4)
  clear T3_3
  clear t4 b4
  go_wp2_with fail
  refine (C4.out _ HL4.out).mono ?_
  rintro e w5 ⟨p5, cap5, rfl, t5, b5⟩
  have T5_5 := Lib.hid t5
  have B5 := Lib.hid (below_next (B4.out.alloc B4.out.size _) b5)
  have HL5 := Lib.hid ((HL4.out.below b5).alloc (.cells #[.int .i64 1, .int .i64 3] 25))
  have T1_5 := Lib.hid ((T1_4.out.below ((Below.refl _ _).alloc (Nat.le_refl _) _)).below b5)
  have K1_5 := Lib.hid (boxed_below (K1_4.out.alloc _) b5)
  clear T1_4 K1_4
  have T2_5 := Lib.hid ((T2_4.out.below ((Below.refl _ _).alloc (Nat.le_refl _) _)).below b5)
  have K2_5 := Lib.hid (boxed_below (K2_4.out.alloc _) b5)
  clear T2_4 K2_4
  have T3_5 := Lib.hid ((T3_4.out.below ((Below.refl _ _).alloc (Nat.le_refl _) _)).below b5)
  have K3_5 := Lib.hid (boxed_below (K3_4.out.alloc _) b5)
  clear T3_4 K3_4
  have T4_5 := Lib.hid ((T4_4.out.below ((Below.refl _ _).alloc (Nat.le_refl _) _)).below b5)
  have K4_5 := Lib.hid (boxed_below (Blk.new w4 25 #[.int .i64 1, .int .i64 1]) b5)
  clear T4_4
  clear t5 b5
  go_wp2_with fail
  refine (C5.out _ HL5.out).mono ?_
  rintro e w6 ⟨p6, cap6, rfl, t6, b6⟩
  have T6_6 := Lib.hid t6
  have B6 := Lib.hid (below_next (B5.out.alloc B5.out.size _) b6)
  have HL6 := Lib.hid ((HL5.out.below b6).alloc (.cells #[.int .i64 0, .int .i64 0] 25))
  have T1_6 := Lib.hid ((T1_5.out.below ((Below.refl _ _).alloc (Nat.le_refl _) _)).below b6)
  have K1_6 := Lib.hid (boxed_below (K1_5.out.alloc _) b6)
  clear T1_5 K1_5
  have T2_6 := Lib.hid ((T2_5.out.below ((Below.refl _ _).alloc (Nat.le_refl _) _)).below b6)
  have K2_6 := Lib.hid (boxed_below (K2_5.out.alloc _) b6)
  clear T2_5 K2_5
  have T3_6 := Lib.hid ((T3_5.out.below ((Below.refl _ _).alloc (Nat.le_refl _) _)).below b6)
  have K3_6 := Lib.hid (boxed_below (K3_5.out.alloc _) b6)
  clear T3_5 K3_5
  have T4_6 := Lib.hid ((T4_5.out.below ((Below.refl _ _).alloc (Nat.le_refl _) _)).below b6)
  have K4_6 := Lib.hid (boxed_below (K4_5.out.alloc _) b6)
  clear T4_5 K4_5
  have T5_6 := Lib.hid ((T5_5.out.below ((Below.refl _ _).alloc (Nat.le_refl _) _)).below b6)
  have K5_6 := Lib.hid (boxed_below (Blk.new w5 25 #[.int .i64 1, .int .i64 3]) b6)
  clear T5_5
  clear t6 b6
  go_wp2_with fail
  refine (C6.out _ HL6.out).mono ?_
  rintro e w7 ⟨p7, cap7, rfl, t7, b7⟩
  have T7_7 := Lib.hid t7
  have B7 := Lib.hid (below_next (B6.out.alloc B6.out.size _) b7)
  have HL7 := Lib.hid ((HL6.out.below b7).alloc (.cells #[.int .i64 0, .int .i64 0] 25))
  have T1_7 := Lib.hid ((T1_6.out.below ((Below.refl _ _).alloc (Nat.le_refl _) _)).below b7)
  have K1_7 := Lib.hid (boxed_below (K1_6.out.alloc _) b7)
  clear T1_6 K1_6
  have T2_7 := Lib.hid ((T2_6.out.below ((Below.refl _ _).alloc (Nat.le_refl _) _)).below b7)
  have K2_7 := Lib.hid (boxed_below (K2_6.out.alloc _) b7)
  clear T2_6 K2_6
  have T3_7 := Lib.hid ((T3_6.out.below ((Below.refl _ _).alloc (Nat.le_refl _) _)).below b7)
  have K3_7 := Lib.hid (boxed_below (K3_6.out.alloc _) b7)
  clear T3_6 K3_6
  have T4_7 := Lib.hid ((T4_6.out.below ((Below.refl _ _).alloc (Nat.le_refl _) _)).below b7)
  have K4_7 := Lib.hid (boxed_below (K4_6.out.alloc _) b7)
  clear T4_6 K4_6
  have T5_7 := Lib.hid ((T5_6.out.below ((Below.refl _ _).alloc (Nat.le_refl _) _)).below b7)
  have K5_7 := Lib.hid (boxed_below (K5_6.out.alloc _) b7)
  clear T5_6 K5_6
  have T6_7 := Lib.hid ((T6_6.out.below ((Below.refl _ _).alloc (Nat.le_refl _) _)).below b7)
  have K6_7 := Lib.hid (boxed_below (Blk.new w6 25 #[.int .i64 0, .int .i64 0]) b7)
  clear T6_6
  clear t7 b7
  obtain ⟨b1_4, o1_4, rfl, x0, x1, x2, x3⟩ := T1_7.out 4 (by decide)
  have c1_4_0 : (w7.alloc (.cells #[.int .i64 0, .int .i64 0] 25)).cell? ⟨b1_4, o1_4 + 16, none⟩ = some (.int .u8 3) := (World.cell?_alloc_lt w7 _ _ (World.block_lt_of_cell? w7 _ x0)).trans x0
  clear x0 x1 x2 x3
  obtain ⟨b1_9, o1_9, e1_9, x0, x1, x2, x3⟩ := T1_7.out 9 (by decide)
  cases e1_9
  have c1_9_1 : (w7.alloc (.cells #[.int .i64 0, .int .i64 0] 25)).cell? ⟨b1_4, o1_4 + 36 + 1, none⟩ = some (.string { data := #[55, 47, 49, 50] }) := (World.cell?_alloc_lt w7 _ _ (World.block_lt_of_cell? w7 _ x1)).trans x1
  clear x0 x1 x2 x3
  obtain ⟨b1_10, o1_10, e1_10, x0, x1, x2, x3⟩ := T1_7.out 10 (by decide)
  cases e1_10
  have c1_10_0 : (w7.alloc (.cells #[.int .i64 0, .int .i64 0] 25)).cell? ⟨b1_4, o1_4 + 40, none⟩ = some (.int .u8 5) := (World.cell?_alloc_lt w7 _ _ (World.block_lt_of_cell? w7 _ x0)).trans x0
  have c1_10_1 : (w7.alloc (.cells #[.int .i64 0, .int .i64 0] 25)).cell? ⟨b1_4, o1_4 + 40 + 1, none⟩ = some (.string { data := #[] }) := (World.cell?_alloc_lt w7 _ _ (World.block_lt_of_cell? w7 _ x1)).trans x1
  have c1_10_2 : (w7.alloc (.cells #[.int .i64 0, .int .i64 0] 25)).cell? ⟨b1_4, o1_4 + 40 + 2, none⟩ = some (.int .i64 3) := (World.cell?_alloc_lt w7 _ _ (World.block_lt_of_cell? w7 _ x2)).trans x2
  have c1_10_3 : (w7.alloc (.cells #[.int .i64 0, .int .i64 0] 25)).cell? ⟨b1_4, o1_4 + 40 + 3, none⟩ = some (.int .i64 14) := (World.cell?_alloc_lt w7 _ _ (World.block_lt_of_cell? w7 _ x3)).trans x3
  clear x0 x1 x2 x3
  obtain ⟨b7_2, o7_2, rfl, x0, x1, x2, x3⟩ := T7_7.out 2 (by decide)
  have c7_2_1 : (w7.alloc (.cells #[.int .i64 0, .int .i64 0] 25)).cell? ⟨b7_2, o7_2 + 8 + 1, none⟩ = some (.string { data := #[50] }) := (World.cell?_alloc_lt w7 _ _ (World.block_lt_of_cell? w7 _ x1)).trans x1
  clear x0 x1 x2 x3
  have k1_0 : (w7.alloc (.cells #[.int .i64 0, .int .i64 0] 25)).cell? ⟨w1.heap.size, 0, none⟩ = some (.int .i64 0) := (K1_7.out.alloc _).cell 0
  have k1_1 : (w7.alloc (.cells #[.int .i64 0, .int .i64 0] 25)).cell? ⟨w1.heap.size, 1, none⟩ = some (.int .i64 0) := (K1_7.out.alloc _).cell 1
  have k5_0 : (w7.alloc (.cells #[.int .i64 0, .int .i64 0] 25)).cell? ⟨w5.heap.size, 0, none⟩ = some (.int .i64 1) := (K5_7.out.alloc _).cell 0
  have k5_1 : (w7.alloc (.cells #[.int .i64 0, .int .i64 0] 25)).cell? ⟨w5.heap.size, 1, none⟩ = some (.int .i64 3) := (K5_7.out.alloc _).cell 1
  have HT := Lib.hid (T1_7.out.below ((Below.refl _ _).alloc (Nat.le_refl _) (.cells #[.int .i64 0, .int .i64 0] 25)))
  have CJ := Lib.hid (join_any tok_example _ cap1 _ (by decide) HT.out (by decide))
  go_wp2_with fail
  refine CJ.out.mono ?_
  rintro e w8 ⟨rfl, b8⟩
  rw [val_join]
  go_wp2
  go_ret
  exact ⟨rfl, (B7.out.alloc B7.out.size _).trans (b8.mono (B7.out.alloc B7.out.size _).size)⟩

end Go.Proofs.YthleaigkndfdaaaDoor
