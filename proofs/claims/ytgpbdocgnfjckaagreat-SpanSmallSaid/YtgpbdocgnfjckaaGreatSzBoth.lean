/- The reference's Both and Within. -/
import Derived.Test.YtgpbdocgnfjckaaGreatSpRf5
namespace Go.Proofs.YtgpbdocgnfjckaaGreat
open Go.RowKit Go.Shelf Sp

theorem But.cell {g : Nat} {w w' : World} (h : But g w w') {b i : Nat} {u : Value} (hc : w.cell? ⟨b, i, none⟩ = some u) (hne : b ≠ g) : w'.cell? ⟨b, i, none⟩ = some u := by
  have hl := World.block_lt_of_cell? w _ hc
  rw [World.cell?_of_block (w := w) (a := ⟨b, i, none⟩) (h.block b hl hne)]; exact hc
def bF (kp : Bool → Bool → Bool) (a b : Sps) (e : Int) (d : Int) : Bool := if d < e then kp (mem a d) (mem b d) else mem a d
theorem bF_zero (kp : Bool → Bool → Bool) (a b : Sps) (i : Nat) : bF kp a b 0 (i : Int) = mem a i := by unfold bF; rw [if_neg (by omega)]
theorem bF_at (kp : Bool → Bool → Bool) (a b : Sps) (e : Int) : bF kp a b e e = mem a e := by unfold bF; rw [if_neg (by omega)]
theorem bF_step (kp : Bool → Bool → Bool) (a b : Sps) (e : Int) (he : 0 ≤ e) (i : Nat) : (if i = e.toNat then kp (mem a e) (mem b e) else bF kp a b e i) = bF kp a b (e + 1) i := by
  by_cases hi : i = e.toNat
  · rw [if_pos hi]
    unfold bF
    rw [if_pos (by omega), show (i : Int) = e by omega]
  · rw [if_neg hi]
    unfold bF
    by_cases h : (i : Int) < e
    · rw [if_pos h, if_pos (by omega)]
    · rw [if_neg h, if_neg (by omega)]
theorem bF_set {kp : Bool → Bool → Bool} (hk : kp false false = false) {a b : Sps} (ha : validB a = true) (hb : validB b = true) {m : Sps} (hs : IsSet (mk65 fun i => bF kp a b 65536 i) m) : IsSet (fun d => kp (mem a d) (mem b d)) m := by
  refine hs.congr fun d => ?_
  unfold mk65 bF
  by_cases h : 0 ≤ d ∧ d < 65536
  · rw [decide_eq_true h.1, decide_eq_true h.2]
    dsimp only
    rw [Int.toNat_of_nonneg h.1, if_pos h.2]; rfl
  · have e1 : mem a d = false := by rw [← Bool.not_eq_true]; intro h'; have := mem_bd ha d h'; omega
    have e2 : mem b d = false := by rw [← Bool.not_eq_true]; intro h'; have := mem_bd hb d h'; omega
    rw [e1, e2, hk]
    have : (decide (0 ≤ d) && decide (d < 65536)) = false := by
      rw [← Bool.not_eq_true, Bool.and_eq_true, decide_eq_true_eq, decide_eq_true_eq]; exact h
    rw [this]; rfl

set_option maxHeartbeats 4000000 in
set_option maxRecDepth 100000 in
theorem rboth_or (a b : Sps) (pa pb : Option Addr) (ca cb : Nat) (w : World) (la : a.length ≤ 10000) (lb : b.length ≤ 10000) (va : validB a = true) (vb : validB b = true) (hA : Cells w pa a) (hB : Cells w pb b) :
    Calls Tryz.prog 17 #[.int .i64 0, .slice pa a.length ca, .slice pb b.length cb] w fun e w' => ∃ v m, e = .returned (.tuple #[v, .int .i64 0]) ∧ IsSet (fun d => (fun x y => x || y) (mem a d) (mem b d)) m ∧ Owns w' w.heap.size v m ∧ Below w.heap.size w w' := by
  have VA := Lib.hid va
  have VB := Lib.hid vb
  have CA := Lib.hid hA
  have CB := Lib.hid hB
  have CVA := Lib.hid (rvalid_is a true pa ca w va (by omega) hA)
  have CVB := Lib.hid (fun W h => rvalid_is b true pb cb W vb (by omega) h)
  clear va vb hA hB
  go_enter Tryz.func17, Tryz.ntmps17
  go_wp2_with fail
  refine CVA.out.mono ?_
  rintro e W1 ⟨rfl, b1⟩
  have A1 := Lib.hid (CA.out.below b1)
  have D1 := Lib.hid (CB.out.below b1)
  clear CVA CA CB
  go_wp2_with fail
  refine (CVB.out _ D1.out).mono ?_
  rintro e W2 ⟨rfl, hb⟩
  have b2 := below_next b1 hb
  have A2 := Lib.hid (A1.out.below hb)
  have D2 := Lib.hid (D1.out.below hb)
  clear b1 hb A1 D1 CVB
  go_wp2_with fail
  refine (marks_any a pa ca W2 (by omega) A2.out (valid_isS VA.out)).mono ?_
  rintro e W3 ⟨rfl, hm, hb⟩
  have b3 := below_next b2 hb
  have D3 := Lib.hid (D2.out.below hb)
  have X3 := Lib.hid hm
  have g0 : w.heap.size ≤ W2.heap.size := b2.size
  clear b2 hb A2 D2 hm
  go_wp2_with fail
  refine (marks_any b pb cb W3 (by omega) D3.out (valid_isS VB.out)).mono ?_
  rintro e W4 ⟨rfl, hm, hb⟩
  have b4 := Lib.hid (below_next b3 hb)
  have X4 := Lib.hid (X3.out.below hb)
  have Y4 := Lib.hid hm
  have g1 : W2.heap.size ≠ W3.heap.size := by have := X3.out.lt; omega
  clear b3 hb D3 hm X3
  go_wp2
  go_loopw [10] (fun d wr => ∃ e : Int, 0 ≤ e ∧ e ≤ 65536 ∧ d = .int .i64 e ∧ Hid (MkRow 65536 wr W2.heap.size (fun i => bF (fun x y => x || y) a b e i)) ∧ Hid (But W2.heap.size W4 wr)) (fun d _ => (65536 - intOf d).toNat)
  case atStart => exact ⟨0, by omega, by omega, rfl, Lib.hid (X4.out.congr fun i => (bF_zero _ a b i).symm), Lib.hid (But.refl _ _)⟩
  case round =>
    obtain ⟨e, he0, he1, rfl, hX, hN⟩ := hrel
    by_cases hlt : e < 65536
    · have c0 : wr.cell? ⟨W2.heap.size, e.toNat, none⟩ = some (.bool (mem a e)) := by
        have := hX.out.cell e.toNat (by omega)
        rwa [Int.toNat_of_nonneg he0, bF_at] at this
      have c1 : wr.cell? ⟨W3.heap.size, e.toNat, none⟩ = some (.bool (mem b e)) := by
        have := hN.out.cell (Y4.out.cell e.toNat (by omega)) (Ne.symm g1)
        rwa [Int.toNat_of_nonneg he0] at this
      have f0 := hX.out.frozen e.toNat
      have k1 : e < ((65536 : Nat) : Int) := by omega
      have hS := Lib.hid (fun v (h : v = (fun x y => x || y) (mem a e) (mem b e)) => (hX.out.set_ e.toNat v).congr (f' := fun i => bF (fun x y => x || y) a b (e + 1) i) fun i => by
        subst h; exact bF_step _ a b e he0 i)
      have hM := Lib.hid (fun v => hN.out.set_ e.toNat (.bool v))
      generalize mem a e = x at c0 hS
      generalize mem b e = y at c1 hS
      clear hX hN
      cases x <;> cases y
      · have hS2 := Lib.hid (hS.out false rfl)
        have hM2 := Lib.hid (hM.out false)
        clear hS hM
        go_wp2
        go_roundw
        case rel => exact ⟨e + 1, by omega, by omega, by go_num, hS2, hM2⟩
        case measure => simp [intOf]; omega
      · have hS2 := Lib.hid (hS.out true rfl)
        have hM2 := Lib.hid (hM.out true)
        clear hS hM
        go_wp2
        go_roundw
        case rel => exact ⟨e + 1, by omega, by omega, by go_num, hS2, hM2⟩
        case measure => simp [intOf]; omega
      · have hS2 := Lib.hid (hS.out true rfl)
        have hM2 := Lib.hid (hM.out true)
        clear hS hM
        go_wp2
        go_roundw
        case rel => exact ⟨e + 1, by omega, by omega, by go_num, hS2, hM2⟩
        case measure => simp [intOf]; omega
      · have hS2 := Lib.hid (hS.out true rfl)
        have hM2 := Lib.hid (hM.out true)
        clear hS hM
        go_wp2
        go_roundw
        case rel => exact ⟨e + 1, by omega, by omega, by go_num, hS2, hM2⟩
        case measure => simp [intOf]; omega
    · obtain rfl : e = 65536 := by omega
      have B5 := Lib.hid (hN.out.belowOf b4.out g0)
      clear hN
      go_wp2_with fail
      refine (setR_any _ _ wr hX.out).mono ?_
      rintro e W5 ⟨v, m, rfl, hs, _, ho, hb⟩
      have HS := Lib.hid (bF_set (kp := (fun x y => x || y)) rfl VA.out VB.out hs)
      have HO := Lib.hid (ho.mono B5.out.size)
      have B6 := Lib.hid (below_next B5.out hb)
      clear hs ho hb hX
      go_wp2
      go_ret2
      exact ⟨v, m, rfl, HS.out, HO.out, B6.out⟩

set_option maxHeartbeats 4000000 in
set_option maxRecDepth 100000 in
theorem rboth_and (a b : Sps) (pa pb : Option Addr) (ca cb : Nat) (w : World) (la : a.length ≤ 10000) (lb : b.length ≤ 10000) (va : validB a = true) (vb : validB b = true) (hA : Cells w pa a) (hB : Cells w pb b) :
    Calls Tryz.prog 17 #[.int .i64 1, .slice pa a.length ca, .slice pb b.length cb] w fun e w' => ∃ v m, e = .returned (.tuple #[v, .int .i64 0]) ∧ IsSet (fun d => (fun x y => x && y) (mem a d) (mem b d)) m ∧ Owns w' w.heap.size v m ∧ Below w.heap.size w w' := by
  have VA := Lib.hid va
  have VB := Lib.hid vb
  have CA := Lib.hid hA
  have CB := Lib.hid hB
  have CVA := Lib.hid (rvalid_is a true pa ca w va (by omega) hA)
  have CVB := Lib.hid (fun W h => rvalid_is b true pb cb W vb (by omega) h)
  clear va vb hA hB
  go_enter Tryz.func17, Tryz.ntmps17
  go_wp2_with fail
  refine CVA.out.mono ?_
  rintro e W1 ⟨rfl, b1⟩
  have A1 := Lib.hid (CA.out.below b1)
  have D1 := Lib.hid (CB.out.below b1)
  clear CVA CA CB
  go_wp2_with fail
  refine (CVB.out _ D1.out).mono ?_
  rintro e W2 ⟨rfl, hb⟩
  have b2 := below_next b1 hb
  have A2 := Lib.hid (A1.out.below hb)
  have D2 := Lib.hid (D1.out.below hb)
  clear b1 hb A1 D1 CVB
  go_wp2_with fail
  refine (marks_any a pa ca W2 (by omega) A2.out (valid_isS VA.out)).mono ?_
  rintro e W3 ⟨rfl, hm, hb⟩
  have b3 := below_next b2 hb
  have D3 := Lib.hid (D2.out.below hb)
  have X3 := Lib.hid hm
  have g0 : w.heap.size ≤ W2.heap.size := b2.size
  clear b2 hb A2 D2 hm
  go_wp2_with fail
  refine (marks_any b pb cb W3 (by omega) D3.out (valid_isS VB.out)).mono ?_
  rintro e W4 ⟨rfl, hm, hb⟩
  have b4 := Lib.hid (below_next b3 hb)
  have X4 := Lib.hid (X3.out.below hb)
  have Y4 := Lib.hid hm
  have g1 : W2.heap.size ≠ W3.heap.size := by have := X3.out.lt; omega
  clear b3 hb D3 hm X3
  go_wp2
  go_loopw [10] (fun d wr => ∃ e : Int, 0 ≤ e ∧ e ≤ 65536 ∧ d = .int .i64 e ∧ Hid (MkRow 65536 wr W2.heap.size (fun i => bF (fun x y => x && y) a b e i)) ∧ Hid (But W2.heap.size W4 wr)) (fun d _ => (65536 - intOf d).toNat)
  case atStart => exact ⟨0, by omega, by omega, rfl, Lib.hid (X4.out.congr fun i => (bF_zero _ a b i).symm), Lib.hid (But.refl _ _)⟩
  case round =>
    obtain ⟨e, he0, he1, rfl, hX, hN⟩ := hrel
    by_cases hlt : e < 65536
    · have c0 : wr.cell? ⟨W2.heap.size, e.toNat, none⟩ = some (.bool (mem a e)) := by
        have := hX.out.cell e.toNat (by omega)
        rwa [Int.toNat_of_nonneg he0, bF_at] at this
      have c1 : wr.cell? ⟨W3.heap.size, e.toNat, none⟩ = some (.bool (mem b e)) := by
        have := hN.out.cell (Y4.out.cell e.toNat (by omega)) (Ne.symm g1)
        rwa [Int.toNat_of_nonneg he0] at this
      have f0 := hX.out.frozen e.toNat
      have k1 : e < ((65536 : Nat) : Int) := by omega
      have hS := Lib.hid (fun v (h : v = (fun x y => x && y) (mem a e) (mem b e)) => (hX.out.set_ e.toNat v).congr (f' := fun i => bF (fun x y => x && y) a b (e + 1) i) fun i => by
        subst h; exact bF_step _ a b e he0 i)
      have hM := Lib.hid (fun v => hN.out.set_ e.toNat (.bool v))
      generalize mem a e = x at c0 hS
      generalize mem b e = y at c1 hS
      clear hX hN
      cases x <;> cases y
      · have hS2 := Lib.hid (hS.out false rfl)
        have hM2 := Lib.hid (hM.out false)
        clear hS hM
        go_wp2
        go_roundw
        case rel => exact ⟨e + 1, by omega, by omega, by go_num, hS2, hM2⟩
        case measure => simp [intOf]; omega
      · have hS2 := Lib.hid (hS.out false rfl)
        have hM2 := Lib.hid (hM.out false)
        clear hS hM
        go_wp2
        go_roundw
        case rel => exact ⟨e + 1, by omega, by omega, by go_num, hS2, hM2⟩
        case measure => simp [intOf]; omega
      · have hS2 := Lib.hid (hS.out false rfl)
        have hM2 := Lib.hid (hM.out false)
        clear hS hM
        go_wp2
        go_roundw
        case rel => exact ⟨e + 1, by omega, by omega, by go_num, hS2, hM2⟩
        case measure => simp [intOf]; omega
      · have hS2 := Lib.hid (hS.out true rfl)
        have hM2 := Lib.hid (hM.out true)
        clear hS hM
        go_wp2
        go_roundw
        case rel => exact ⟨e + 1, by omega, by omega, by go_num, hS2, hM2⟩
        case measure => simp [intOf]; omega
    · obtain rfl : e = 65536 := by omega
      have B5 := Lib.hid (hN.out.belowOf b4.out g0)
      clear hN
      go_wp2_with fail
      refine (setR_any _ _ wr hX.out).mono ?_
      rintro e W5 ⟨v, m, rfl, hs, _, ho, hb⟩
      have HS := Lib.hid (bF_set (kp := (fun x y => x && y)) rfl VA.out VB.out hs)
      have HO := Lib.hid (ho.mono B5.out.size)
      have B6 := Lib.hid (below_next B5.out hb)
      clear hs ho hb hX
      go_wp2
      go_ret2
      exact ⟨v, m, rfl, HS.out, HO.out, B6.out⟩

set_option maxHeartbeats 4000000 in
set_option maxRecDepth 100000 in
theorem rboth_not (a b : Sps) (pa pb : Option Addr) (ca cb : Nat) (w : World) (la : a.length ≤ 10000) (lb : b.length ≤ 10000) (va : validB a = true) (vb : validB b = true) (hA : Cells w pa a) (hB : Cells w pb b) :
    Calls Tryz.prog 17 #[.int .i64 2, .slice pa a.length ca, .slice pb b.length cb] w fun e w' => ∃ v m, e = .returned (.tuple #[v, .int .i64 0]) ∧ IsSet (fun d => (fun x y => x && !y) (mem a d) (mem b d)) m ∧ Owns w' w.heap.size v m ∧ Below w.heap.size w w' := by
  have VA := Lib.hid va
  have VB := Lib.hid vb
  have CA := Lib.hid hA
  have CB := Lib.hid hB
  have CVA := Lib.hid (rvalid_is a true pa ca w va (by omega) hA)
  have CVB := Lib.hid (fun W h => rvalid_is b true pb cb W vb (by omega) h)
  clear va vb hA hB
  go_enter Tryz.func17, Tryz.ntmps17
  go_wp2_with fail
  refine CVA.out.mono ?_
  rintro e W1 ⟨rfl, b1⟩
  have A1 := Lib.hid (CA.out.below b1)
  have D1 := Lib.hid (CB.out.below b1)
  clear CVA CA CB
  go_wp2_with fail
  refine (CVB.out _ D1.out).mono ?_
  rintro e W2 ⟨rfl, hb⟩
  have b2 := below_next b1 hb
  have A2 := Lib.hid (A1.out.below hb)
  have D2 := Lib.hid (D1.out.below hb)
  clear b1 hb A1 D1 CVB
  go_wp2_with fail
  refine (marks_any a pa ca W2 (by omega) A2.out (valid_isS VA.out)).mono ?_
  rintro e W3 ⟨rfl, hm, hb⟩
  have b3 := below_next b2 hb
  have D3 := Lib.hid (D2.out.below hb)
  have X3 := Lib.hid hm
  have g0 : w.heap.size ≤ W2.heap.size := b2.size
  clear b2 hb A2 D2 hm
  go_wp2_with fail
  refine (marks_any b pb cb W3 (by omega) D3.out (valid_isS VB.out)).mono ?_
  rintro e W4 ⟨rfl, hm, hb⟩
  have b4 := Lib.hid (below_next b3 hb)
  have X4 := Lib.hid (X3.out.below hb)
  have Y4 := Lib.hid hm
  have g1 : W2.heap.size ≠ W3.heap.size := by have := X3.out.lt; omega
  clear b3 hb D3 hm X3
  go_wp2
  go_loopw [10] (fun d wr => ∃ e : Int, 0 ≤ e ∧ e ≤ 65536 ∧ d = .int .i64 e ∧ Hid (MkRow 65536 wr W2.heap.size (fun i => bF (fun x y => x && !y) a b e i)) ∧ Hid (But W2.heap.size W4 wr)) (fun d _ => (65536 - intOf d).toNat)
  case atStart => exact ⟨0, by omega, by omega, rfl, Lib.hid (X4.out.congr fun i => (bF_zero _ a b i).symm), Lib.hid (But.refl _ _)⟩
  case round =>
    obtain ⟨e, he0, he1, rfl, hX, hN⟩ := hrel
    by_cases hlt : e < 65536
    · have c0 : wr.cell? ⟨W2.heap.size, e.toNat, none⟩ = some (.bool (mem a e)) := by
        have := hX.out.cell e.toNat (by omega)
        rwa [Int.toNat_of_nonneg he0, bF_at] at this
      have c1 : wr.cell? ⟨W3.heap.size, e.toNat, none⟩ = some (.bool (mem b e)) := by
        have := hN.out.cell (Y4.out.cell e.toNat (by omega)) (Ne.symm g1)
        rwa [Int.toNat_of_nonneg he0] at this
      have f0 := hX.out.frozen e.toNat
      have k1 : e < ((65536 : Nat) : Int) := by omega
      have hS := Lib.hid (fun v (h : v = (fun x y => x && !y) (mem a e) (mem b e)) => (hX.out.set_ e.toNat v).congr (f' := fun i => bF (fun x y => x && !y) a b (e + 1) i) fun i => by
        subst h; exact bF_step _ a b e he0 i)
      have hM := Lib.hid (fun v => hN.out.set_ e.toNat (.bool v))
      generalize mem a e = x at c0 hS
      generalize mem b e = y at c1 hS
      clear hX hN
      cases x <;> cases y
      · have hS2 := Lib.hid (hS.out false rfl)
        have hM2 := Lib.hid (hM.out false)
        clear hS hM
        go_wp2
        go_roundw
        case rel => exact ⟨e + 1, by omega, by omega, by go_num, hS2, hM2⟩
        case measure => simp [intOf]; omega
      · have hS2 := Lib.hid (hS.out false rfl)
        have hM2 := Lib.hid (hM.out false)
        clear hS hM
        go_wp2
        go_roundw
        case rel => exact ⟨e + 1, by omega, by omega, by go_num, hS2, hM2⟩
        case measure => simp [intOf]; omega
      · have hS2 := Lib.hid (hS.out true rfl)
        have hM2 := Lib.hid (hM.out true)
        clear hS hM
        go_wp2
        go_roundw
        case rel => exact ⟨e + 1, by omega, by omega, by go_num, hS2, hM2⟩
        case measure => simp [intOf]; omega
      · have hS2 := Lib.hid (hS.out false rfl)
        have hM2 := Lib.hid (hM.out false)
        clear hS hM
        go_wp2
        go_roundw
        case rel => exact ⟨e + 1, by omega, by omega, by go_num, hS2, hM2⟩
        case measure => simp [intOf]; omega
    · obtain rfl : e = 65536 := by omega
      have B5 := Lib.hid (hN.out.belowOf b4.out g0)
      clear hN
      go_wp2_with fail
      refine (setR_any _ _ wr hX.out).mono ?_
      rintro e W5 ⟨v, m, rfl, hs, _, ho, hb⟩
      have HS := Lib.hid (bF_set (kp := (fun x y => x && !y)) rfl VA.out VB.out hs)
      have HO := Lib.hid (ho.mono B5.out.size)
      have B6 := Lib.hid (below_next B5.out hb)
      clear hs ho hb hX
      go_wp2
      go_ret2
      exact ⟨v, m, rfl, HS.out, HO.out, B6.out⟩

theorem rboth_bad (op : Int) (a b : Sps) (pa pb : Option Addr) (ca cb : Nat) (w : World) (la : a.length ≤ 10000) (lb : b.length ≤ 10000) (hv : (validB a && validB b) = false) (hA : Cells w pa a) (hB : Cells w pb b) :
    Calls Tryz.prog 17 #[.int .i64 op, .slice pa a.length ca, .slice pb b.length cb] w fun e w' => e = .returned (.tuple #[.slice none 0 0, .int .i64 2]) ∧ Below w.heap.size w w' := by
  cases ha : validB a with
  | false =>
    have CVA := Lib.hid (rvalid_is a false pa ca w ha (by omega) hA)
    clear ha hv hA hB
    go_enter Tryz.func17, Tryz.ntmps17
    go_wp2_with fail
    refine CVA.out.mono ?_
    rintro e W1 ⟨rfl, b1⟩
    go_wp2
    go_ret2
    exact ⟨rfl, b1⟩
  | true =>
    rw [ha, Bool.true_and] at hv
    have CVA := Lib.hid (rvalid_is a true pa ca w ha (by omega) hA)
    have CVB := Lib.hid (fun W h => rvalid_is b false pb cb W hv (by omega) h)
    have CB := Lib.hid hB
    clear ha hv hA hB
    go_enter Tryz.func17, Tryz.ntmps17
    go_wp2_with fail
    refine CVA.out.mono ?_
    rintro e W1 ⟨rfl, b1⟩
    go_wp2_with fail
    refine (CVB.out _ (CB.out.below b1)).mono ?_
    rintro e W2 ⟨rfl, b2⟩
    have B2 := below_next b1 b2
    go_wp2
    go_ret2
    exact ⟨rfl, B2⟩

set_option maxHeartbeats 4000000 in
set_option maxRecDepth 100000 in
theorem rwithin_ok (a b : Sps) (pa pb : Option Addr) (ca cb : Nat) (w : World) (la : a.length ≤ 10000) (lb : b.length ≤ 10000) (va : validB a = true) (vb : validB b = true) (hA : Cells w pa a) (hB : Cells w pb b) :
    Calls Tryz.prog 20 #[.slice pa a.length ca, .slice pb b.length cb] w fun e w' => e = .returned (.bool (withinB a b)) ∧ Below w.heap.size w w' := by
  have VA := Lib.hid va
  have VB := Lib.hid vb
  have CA := Lib.hid hA
  have CB := Lib.hid hB
  have CVA := Lib.hid (rvalid_is a true pa ca w va (by omega) hA)
  have CVB := Lib.hid (fun W h => rvalid_is b true pb cb W vb (by omega) h)
  clear va vb hA hB
  go_enter Tryz.func20, Tryz.ntmps20
  go_wp2_with fail
  refine CVA.out.mono ?_
  rintro e W1 ⟨rfl, b1⟩
  have A1 := Lib.hid (CA.out.below b1)
  have D1 := Lib.hid (CB.out.below b1)
  clear CVA CA CB
  go_wp2_with fail
  refine (CVB.out _ D1.out).mono ?_
  rintro e W2 ⟨rfl, hb⟩
  have b2 := below_next b1 hb
  have A2 := Lib.hid (A1.out.below hb)
  have D2 := Lib.hid (D1.out.below hb)
  clear b1 hb A1 D1 CVB
  go_wp2_with fail
  refine (marks_any a pa ca W2 (by omega) A2.out (valid_isS VA.out)).mono ?_
  rintro e W3 ⟨rfl, hm, hb⟩
  have b3 := below_next b2 hb
  have D3 := Lib.hid (D2.out.below hb)
  have X3 := Lib.hid hm
  clear b2 hb A2 D2 hm
  go_wp2_with fail
  refine (marks_any b pb cb W3 (by omega) D3.out (valid_isS VB.out)).mono ?_
  rintro e W4 ⟨rfl, hm, hb⟩
  have b4 := Lib.hid (below_next b3 hb)
  have X4 := Lib.hid (X3.out.below hb)
  have Y4 := Lib.hid hm
  clear b3 hb D3 hm X3
  go_wp2
  go_loop [7] (fun d => ∃ e : Int, 0 ≤ e ∧ e ≤ 65536 ∧ d = .int .i64 e ∧ Hid (∀ d : Int, d < e → mem a d = true → mem b d = true)) (fun d => (65536 - intOf d).toNat)
  case atStart => exact ⟨0, by omega, by omega, rfl, Lib.hid (fun d hd h => by have := mem_bd VA.out d h; omega)⟩
  case round =>
    obtain ⟨e, he0, he1, rfl, hI⟩ := hrel
    by_cases hlt : e < 65536
    · have c0 : W4.cell? ⟨W2.heap.size, e.toNat, none⟩ = some (.bool (mem a e)) := by
        have := X4.out.cell e.toNat (by omega)
        rwa [Int.toNat_of_nonneg he0] at this
      have c1 : W4.cell? ⟨W3.heap.size, e.toNat, none⟩ = some (.bool (mem b e)) := by
        have := Y4.out.cell e.toNat (by omega)
        rwa [Int.toNat_of_nonneg he0] at this
      have k1 : e < ((65536 : Nat) : Int) := by omega
      have hS := Lib.hid (show (mem a e = true → mem b e = true) → ∀ d : Int, d < e + 1 → mem a d = true → mem b d = true from fun h d hd hm => by
        by_cases hde : d = e
        · subst hde; exact h hm
        · exact hI.out d (by omega) hm)
      have hF := Lib.hid (show mem a e = true → mem b e = false → withinB a b = false from fun h h2 => by
        rw [← Bool.not_eq_true, Sp.within_iff VA.out VB.out]
        intro h3
        rw [h3 e h] at h2; cases h2)
      generalize mem a e = x at c0 hS hF
      generalize mem b e = y at c1 hS hF
      clear hI
      cases x <;> cases y
      · have hS2 := Lib.hid (hS.out (by decide))
        clear hS hF
        go_wp2
        go_round
        case rel => exact ⟨e + 1, by omega, by omega, by go_num, hS2⟩
        case measure => simp [intOf]; omega
      · have hS2 := Lib.hid (hS.out (by decide))
        clear hS hF
        go_wp2
        go_round
        case rel => exact ⟨e + 1, by omega, by omega, by go_num, hS2⟩
        case measure => simp [intOf]; omega
      · have hF2 := Lib.hid (hF.out rfl rfl)
        clear hS hF
        go_wp2
        go_ret
        exact ⟨ret_bool hF2.out.symm, b4.out⟩
      · have hS2 := Lib.hid (hS.out (by decide))
        clear hS hF
        go_wp2
        go_round
        case rel => exact ⟨e + 1, by omega, by omega, by go_num, hS2⟩
        case measure => simp [intOf]; omega
    · have hF2 := Lib.hid (show withinB a b = true by
        rw [Sp.within_iff VA.out VB.out]
        intro d hd
        have := mem_bd VA.out d hd
        exact hI.out d (by omega) hd)
      go_wp2
      go_ret
      exact ⟨ret_bool hF2.out.symm, b4.out⟩

theorem rwithin_bad (a b : Sps) (pa pb : Option Addr) (ca cb : Nat) (w : World) (la : a.length ≤ 10000) (lb : b.length ≤ 10000) (hv : (validB a && validB b) = false) (hA : Cells w pa a) (hB : Cells w pb b) :
    Calls Tryz.prog 20 #[.slice pa a.length ca, .slice pb b.length cb] w fun e w' => e = .returned (.bool false) ∧ Below w.heap.size w w' := by
  cases ha : validB a with
  | false =>
    have CVA := Lib.hid (rvalid_is a false pa ca w ha (by omega) hA)
    clear ha hv hA hB
    go_enter Tryz.func20, Tryz.ntmps20
    go_wp2_with fail
    refine CVA.out.mono ?_
    rintro e W1 ⟨rfl, b1⟩
    go_wp2
    go_ret
    exact ⟨rfl, b1⟩
  | true =>
    rw [ha, Bool.true_and] at hv
    have CVA := Lib.hid (rvalid_is a true pa ca w ha (by omega) hA)
    have CVB := Lib.hid (fun W h => rvalid_is b false pb cb W hv (by omega) h)
    have CB := Lib.hid hB
    clear ha hv hA hB
    go_enter Tryz.func20, Tryz.ntmps20
    go_wp2_with fail
    refine CVA.out.mono ?_
    rintro e W1 ⟨rfl, b1⟩
    go_wp2_with fail
    refine (CVB.out _ (CB.out.below b1)).mono ?_
    rintro e W2 ⟨rfl, b2⟩
    have B2 := below_next b1 b2
    go_wp2
    go_ret
    exact ⟨rfl, B2⟩

end Go.Proofs.YtgpbdocgnfjckaaGreat
