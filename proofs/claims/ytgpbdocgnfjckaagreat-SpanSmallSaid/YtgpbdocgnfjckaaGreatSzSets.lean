/- both: Union, Meet, Minus, Within against the reference. -/
import Derived.Test.YtgpbdocgnfjckaaGreatSzBoth
import Derived.Test.YtgpbdocgnfjckaaGreatSzAp3
import Derived.Test.YtgpbdocgnfjckaaGreatSpRf6
namespace Go.Proofs.YtgpbdocgnfjckaaGreat
open Go.RowKit Go.Shelf Sp

/-- What an operation answers: the set and 0, or nothing and 2. -/
def OpR (kp : Bool → Bool → Bool) (a b m : Sps) : Prop := if (validB a && validB b) = true then IsSet (fun d => kp (mem a d) (mem b d)) m else m = []
def opCode (a b : Sps) : Int := if (validB a && validB b) = true then 0 else 2
theorem OpR.uniq {kp : Bool → Bool → Bool} {a b m m' : Sps} (h : OpR kp a b m) (h' : OpR kp a b m') : m = m' := by
  unfold OpR at h h'
  split at h
  · rw [if_pos (by assumption)] at h'; exact IsSet.uniq h h'
  · rw [if_neg (by assumption)] at h'; rw [h, h']
theorem both_valid {a b : Sps} (h : (validB a && validB b) = true) : validB a = true ∧ validB b = true := by rwa [Bool.and_eq_true] at h
def withinV (a b : Sps) : Bool := if (validB a && validB b) = true then withinB a b else false
theorem not_valid {a b : Sps} (h : ¬ (validB a && validB b) = true) : (validB a && validB b) = false := by rwa [Bool.not_eq_true] at h

theorem union_u (a b : Sps) (cd : Int) (pa pb : Option Addr) (ca cb : Nat) (hcd : opCode a b = cd) (la : a.length ≤ 100) (lb : b.length ≤ 100) (w : World) (hA : Cells w pa a) (hB : Cells w pb b) :
    Calls Tryz.prog 14 #[.slice pa a.length ca, .slice pb b.length cb] w fun e W' => ∃ v m, e = .returned (.tuple #[v, .int .i64 cd]) ∧ OpR (fun x y => x || y) a b m ∧ m.length ≤ 400 ∧ Owns W' w.heap.size v m ∧ Below w.heap.size w W' := by
  subst hcd
  unfold opCode OpR
  by_cases h : (validB a && validB b) = true
  · refine (union_ok a b pa pb ca cb (by omega) (by omega) (both_valid h).1 (both_valid h).2 w hA hB).mono ?_
    rintro e W ⟨v, m, rfl, h1, h2, h3, h4⟩
    exact ⟨v, m, by rw [if_pos h], by rw [if_pos h]; exact h1, by omega, h3, h4⟩
  · refine (union_bad (a := a) (b := b) (la := by omega) (lb := by omega) (hv := not_valid h) (w := w) (hA := hA) (hB := hB) (ca := ca) (cb := cb)).mono ?_
    rintro e W ⟨rfl, h4⟩
    exact ⟨.slice none 0 0, [], by rw [if_neg h], by rw [if_neg h], by simp, Owns.nil _ _, h4⟩
theorem meet_u (a b : Sps) (cd : Int) (pa pb : Option Addr) (ca cb : Nat) (hcd : opCode a b = cd) (la : a.length ≤ 100) (lb : b.length ≤ 100) (w : World) (hA : Cells w pa a) (hB : Cells w pb b) :
    Calls Tryz.prog 15 #[.slice pa a.length ca, .slice pb b.length cb] w fun e W' => ∃ v m, e = .returned (.tuple #[v, .int .i64 cd]) ∧ OpR (fun x y => x && y) a b m ∧ m.length ≤ 400 ∧ Owns W' w.heap.size v m ∧ Below w.heap.size w W' := by
  subst hcd
  unfold opCode OpR
  by_cases h : (validB a && validB b) = true
  · refine (meet_ok a b pa pb ca cb (by omega) (by omega) (both_valid h).1 (both_valid h).2 w hA hB).mono ?_
    rintro e W ⟨v, m, rfl, h1, h2, h3, h4⟩
    exact ⟨v, m, by rw [if_pos h], by rw [if_pos h]; exact h1, by omega, h3, h4⟩
  · refine (meet_bad (a := a) (b := b) (la := by omega) (lb := by omega) (hv := not_valid h) (w := w) (hA := hA) (hB := hB) (ca := ca) (cb := cb)).mono ?_
    rintro e W ⟨rfl, h4⟩
    exact ⟨.slice none 0 0, [], by rw [if_neg h], by rw [if_neg h], by simp, Owns.nil _ _, h4⟩
theorem minus_u (a b : Sps) (cd : Int) (pa pb : Option Addr) (ca cb : Nat) (hcd : opCode a b = cd) (la : a.length ≤ 100) (lb : b.length ≤ 100) (w : World) (hA : Cells w pa a) (hB : Cells w pb b) :
    Calls Tryz.prog 16 #[.slice pa a.length ca, .slice pb b.length cb] w fun e W' => ∃ v m, e = .returned (.tuple #[v, .int .i64 cd]) ∧ OpR (fun x y => x && !y) a b m ∧ m.length ≤ 400 ∧ Owns W' w.heap.size v m ∧ Below w.heap.size w W' := by
  subst hcd
  unfold opCode OpR
  by_cases h : (validB a && validB b) = true
  · refine (minus_ok a b pa pb ca cb (by omega) (by omega) (both_valid h).1 (both_valid h).2 w hA hB).mono ?_
    rintro e W ⟨v, m, rfl, h1, h2, h3, h4⟩
    exact ⟨v, m, by rw [if_pos h], by rw [if_pos h]; exact h1, by omega, h3, h4⟩
  · refine (minus_bad (a := a) (b := b) (la := by omega) (lb := by omega) (hv := not_valid h) (w := w) (hA := hA) (hB := hB) (ca := ca) (cb := cb)).mono ?_
    rintro e W ⟨rfl, h4⟩
    exact ⟨.slice none 0 0, [], by rw [if_neg h], by rw [if_neg h], by simp, Owns.nil _ _, h4⟩
theorem rboth0_u (a b : Sps) (cd : Int) (pa pb : Option Addr) (ca cb : Nat) (hcd : opCode a b = cd) (la : a.length ≤ 100) (lb : b.length ≤ 100) (w : World) (hA : Cells w pa a) (hB : Cells w pb b) :
    Calls Tryz.prog 17 #[.int .i64 0, .slice pa a.length ca, .slice pb b.length cb] w fun e W' => ∃ v m, e = .returned (.tuple #[v, .int .i64 cd]) ∧ OpR (fun x y => x || y) a b m ∧ Owns W' w.heap.size v m ∧ Below w.heap.size w W' := by
  subst hcd
  unfold opCode OpR
  by_cases h : (validB a && validB b) = true
  · refine (rboth_or a b pa pb ca cb w (by omega) (by omega) (both_valid h).1 (both_valid h).2 hA hB).mono ?_
    rintro e W ⟨v, m, rfl, h1, h3, h4⟩
    exact ⟨v, m, by rw [if_pos h], by rw [if_pos h]; exact h1, h3, h4⟩
  · refine (rboth_bad 0 a b pa pb ca cb w (by omega) (by omega) (not_valid h) hA hB).mono ?_
    rintro e W ⟨rfl, h4⟩
    exact ⟨.slice none 0 0, [], by rw [if_neg h], by rw [if_neg h], Owns.nil _ _, h4⟩
theorem rboth1_u (a b : Sps) (cd : Int) (pa pb : Option Addr) (ca cb : Nat) (hcd : opCode a b = cd) (la : a.length ≤ 100) (lb : b.length ≤ 100) (w : World) (hA : Cells w pa a) (hB : Cells w pb b) :
    Calls Tryz.prog 17 #[.int .i64 1, .slice pa a.length ca, .slice pb b.length cb] w fun e W' => ∃ v m, e = .returned (.tuple #[v, .int .i64 cd]) ∧ OpR (fun x y => x && y) a b m ∧ Owns W' w.heap.size v m ∧ Below w.heap.size w W' := by
  subst hcd
  unfold opCode OpR
  by_cases h : (validB a && validB b) = true
  · refine (rboth_and a b pa pb ca cb w (by omega) (by omega) (both_valid h).1 (both_valid h).2 hA hB).mono ?_
    rintro e W ⟨v, m, rfl, h1, h3, h4⟩
    exact ⟨v, m, by rw [if_pos h], by rw [if_pos h]; exact h1, h3, h4⟩
  · refine (rboth_bad 1 a b pa pb ca cb w (by omega) (by omega) (not_valid h) hA hB).mono ?_
    rintro e W ⟨rfl, h4⟩
    exact ⟨.slice none 0 0, [], by rw [if_neg h], by rw [if_neg h], Owns.nil _ _, h4⟩
theorem rboth2_u (a b : Sps) (cd : Int) (pa pb : Option Addr) (ca cb : Nat) (hcd : opCode a b = cd) (la : a.length ≤ 100) (lb : b.length ≤ 100) (w : World) (hA : Cells w pa a) (hB : Cells w pb b) :
    Calls Tryz.prog 17 #[.int .i64 2, .slice pa a.length ca, .slice pb b.length cb] w fun e W' => ∃ v m, e = .returned (.tuple #[v, .int .i64 cd]) ∧ OpR (fun x y => x && !y) a b m ∧ Owns W' w.heap.size v m ∧ Below w.heap.size w W' := by
  subst hcd
  unfold opCode OpR
  by_cases h : (validB a && validB b) = true
  · refine (rboth_not a b pa pb ca cb w (by omega) (by omega) (both_valid h).1 (both_valid h).2 hA hB).mono ?_
    rintro e W ⟨v, m, rfl, h1, h3, h4⟩
    exact ⟨v, m, by rw [if_pos h], by rw [if_pos h]; exact h1, h3, h4⟩
  · refine (rboth_bad 2 a b pa pb ca cb w (by omega) (by omega) (not_valid h) hA hB).mono ?_
    rintro e W ⟨rfl, h4⟩
    exact ⟨.slice none 0 0, [], by rw [if_neg h], by rw [if_neg h], Owns.nil _ _, h4⟩
theorem within_u (a b : Sps) (x : Bool) (pa pb : Option Addr) (ca cb : Nat) (hx : withinV a b = x) (la : a.length ≤ 100) (lb : b.length ≤ 100) (w : World) (hA : Cells w pa a) (hB : Cells w pb b) :
    Calls Tryz.prog 19 #[.slice pa a.length ca, .slice pb b.length cb] w fun e w' => e = .returned (.bool x) ∧ Below w.heap.size w w' := by
  subst hx
  unfold withinV
  by_cases h : (validB a && validB b) = true
  · rw [if_pos h]; exact within_ok a b pa pb ca cb (by omega) (by omega) (both_valid h).1 (both_valid h).2 w hA hB
  · rw [if_neg h]; exact within_bad a b pa pb ca cb (by omega) (by omega) (not_valid h) w hA hB
theorem rwithin_u (a b : Sps) (x : Bool) (pa pb : Option Addr) (ca cb : Nat) (hx : withinV a b = x) (la : a.length ≤ 100) (lb : b.length ≤ 100) (w : World) (hA : Cells w pa a) (hB : Cells w pb b) :
    Calls Tryz.prog 20 #[.slice pa a.length ca, .slice pb b.length cb] w fun e w' => e = .returned (.bool x) ∧ Below w.heap.size w w' := by
  subst hx
  unfold withinV
  by_cases h : (validB a && validB b) = true
  · rw [if_pos h]; exact rwithin_ok a b pa pb ca cb w (by omega) (by omega) (both_valid h).1 (both_valid h).2 hA hB
  · rw [if_neg h]; exact rwithin_bad a b pa pb ca cb w (by omega) (by omega) (not_valid h) hA hB

/-- Three slices in memory of their own, behind one another, share none. -/
theorem three_apart (w : World) (base Bh ch : Nat) (p0 p1 p2 : Option Addr) (m0 m1 m2 : Sps) (c0 c1 c2 s1 s2 : Nat) (hb : base ≤ w.heap.size) (n0 : m0.length ≤ 400) (n1 : m1.length ≤ 400) (n2 : m2.length ≤ 400)
    (o0 : Owns w base (.slice p0 m0.length c0) m0) (o1 : Owns w base (.slice p1 m1.length c1) m1) (o2 : Owns w base (.slice p2 m2.length c2) m2)
    (h0 : ∀ b, (Value.slice p0 m0.length c0).ownBlock = some b → b < s1) (h1 : ∀ b, (Value.slice p1 m1.length c1).ownBlock = some b → s1 ≤ b ∧ b < s2) (h2 : ∀ b, (Value.slice p2 m2.length c2).ownBlock = some b → s2 ≤ b)
    (h12 : s1 ≤ s2) (k0 : w.cell? ⟨Bh, 0, none⟩ = some (.slice p0 m0.length c0)) (k1 : w.cell? ⟨Bh, 1, none⟩ = some (.slice p1 m1.length c1)) (k2 : w.cell? ⟨Bh, 2, none⟩ = some (.slice p2 m2.length c2)) :
    Calls Tryz.prog 23 #[.slice (some ⟨Bh, 0, none⟩) 3 ch] w fun e w' => e = .returned (.bool true) ∧ Below base w w' := by
  refine apartSpans_any w base Bh ch (fun j => match j with | 0 => .slice p0 m0.length c0 | 1 => .slice p1 m1.length c1 | _ => .slice p2 m2.length c2) (fun j => match j with | 0 => m0.length | 1 => m1.length | _ => m2.length) (fun j => match j with | 0 => m0 | 1 => m1 | _ => m2) hb ?_ ?_ ?_ ?_
  · intro j hj
    match j, hj with
    | 0, _ => show m0.length ≤ _; omega
    | 1, _ => show m1.length ≤ _; omega
    | 2, _ => show m2.length ≤ _; omega
  · intro j hj
    match j, hj with
    | 0, _ => exact k0
    | 1, _ => exact k1
    | 2, _ => exact k2
  · intro j hj
    match j, hj with
    | 0, _ => exact o0
    | 1, _ => exact o1
    | 2, _ => exact o2
  · intro i j hi hj hij b hbi hbj
    match i, hi, j, hj with
    | 0, _, 0, _ => exact hij rfl
    | 1, _, 1, _ => exact hij rfl
    | 2, _, 2, _ => exact hij rfl
    | 0, _, 1, _ => have := h0 b hbi; have := h1 b hbj; omega
    | 0, _, 2, _ => have := h0 b hbi; have := h2 b hbj; omega
    | 1, _, 0, _ => have := h1 b hbi; have := h0 b hbj; omega
    | 1, _, 2, _ => have := h1 b hbi; have := h2 b hbj; omega
    | 2, _, 0, _ => have := h2 b hbi; have := h0 b hbj; omega
    | 2, _, 1, _ => have := h2 b hbi; have := h1 b hbj; omega

set_option maxHeartbeats 8000000 in
set_option maxRecDepth 100000 in
theorem both_any (a b : Sps) (pa pb : Option Addr) (ca cb : Nat) (w : World) (la : a.length ≤ 100) (lb : b.length ≤ 100) (hA : Cells w pa a) (hB : Cells w pb b) :
    Calls Tryz.prog 6 #[.slice pa a.length ca, .slice pb b.length cb] w fun e w' => e = .returned (.bool true) ∧ Below w.heap.size w w' := by
  have B0 := Lib.hid (Below.refl w.heap.size w)
  have Ca0 := Lib.hid hA
  have Cb0 := Lib.hid hB
  obtain ⟨cd, hcd⟩ : ∃ cd, opCode a b = cd := ⟨_, rfl⟩
  obtain ⟨xw, hxw⟩ : ∃ xw, withinV a b = xw := ⟨_, rfl⟩
  have HCD := Lib.hid hcd
  have HXW := Lib.hid hxw
  have LA := Lib.hid la
  have LB := Lib.hid lb
  have tcd : (cd == cd) = true := by simp
  have txw : (xw == xw) = true := by simp
  clear hA hB hcd hxw la lb
  go_enter Tryz.func6, Tryz.ntmps6
  go_wp2_with fail
  refine (lent_any a pa ca _ LA.out Ca0.out).mono ?_
  rintro e W1 ⟨gx, kx, rfl, h12x, hgx, ho, hb⟩
  have ci := (show Cells W1 (some ⟨gx, 0, none⟩) (a ++ mks) by obtain ⟨q9, c9, e9, h9⟩ := ho.form; injection e9 with e1 _ _; subst e1; exact h9).left
  have hsx := hb.size
  have hglx : gx < W1.heap.size := (ho.ovr (by rw [List.length_append, mks_len])).lt
  have B1 := Lib.hid (below_next B0.out hb)
  have Ca1 := Lib.hid (Cells.below Ca0.out hb)
  have Cb1 := Lib.hid (Cells.below Cb0.out hb)
  clear hb B0 Ca0 Cb0
  have Cxc1 := Lib.hid ci
  have Cx1 := Lib.hid ho
  clear ci ho
  go_wp2_with fail
  refine (lent_any b pb cb _ LB.out Cb1.out).mono ?_
  rintro e W2 ⟨gy, ky, rfl, h12y, hgy, ho, hb⟩
  have ci := (show Cells W2 (some ⟨gy, 0, none⟩) (b ++ mks) by obtain ⟨q9, c9, e9, h9⟩ := ho.form; injection e9 with e1 _ _; subst e1; exact h9).left
  have hsy := hb.size
  have hgly : gy < W2.heap.size := (ho.ovr (by rw [List.length_append, mks_len])).lt
  have B2 := Lib.hid (below_next B1.out hb)
  have Ca2 := Lib.hid (Cells.below Ca1.out hb)
  have Cb2 := Lib.hid (Cells.below Cb1.out hb)
  have Cxc2 := Lib.hid (Cells.below Cxc1.out hb)
  have Cx2 := Lib.hid (Owns.below Cx1.out hb)
  clear hb B1 Ca1 Cb1 Cxc1 Cx1
  have Cyc2 := Lib.hid ci
  have Cy2 := Lib.hid ho
  clear ci ho
  go_wp2_with fail
  refine (union_u a b cd _ _ kx ky HCD.out LA.out LB.out _ Cxc2.out Cyc2.out).mono ?_
  rintro e W3 ⟨v, m0, rfl, hr, hl0, ho, hb⟩
  have hs0 := hb.size
  have B3 := Lib.hid (below_next B2.out hb)
  have Ca3 := Lib.hid (Cells.below Ca2.out hb)
  have Cb3 := Lib.hid (Cells.below Cb2.out hb)
  have Cxc3 := Lib.hid (Cells.below Cxc2.out hb)
  have Cx3 := Lib.hid (Owns.below Cx2.out hb)
  have Cyc3 := Lib.hid (Cells.below Cyc2.out hb)
  have Cy3 := Lib.hid (Owns.below Cy2.out hb)
  clear hb B2 Ca2 Cb2 Cxc2 Cx2 Cyc2 Cy2
  obtain ⟨pu, cu, rfl, _⟩ := ho.form
  have R0 := Lib.hid hr
  have Fu := Lib.hid (show ∀ b, (Value.slice pu m0.length cu).ownBlock = some b → W2.heap.size ≤ b ∧ b < W3.heap.size from fun b hb => World.ownsRow.lt ho b hb)
  have Cu3 := Lib.hid ho
  clear ho hr
  go_wp2_with fail
  refine (meet_u a b cd _ _ kx ky HCD.out LA.out LB.out _ Cxc3.out Cyc3.out).mono ?_
  rintro e W4 ⟨v, m1, rfl, hr, hl1, ho, hb⟩
  have hs1 := hb.size
  have B4 := Lib.hid (below_next B3.out hb)
  have Ca4 := Lib.hid (Cells.below Ca3.out hb)
  have Cb4 := Lib.hid (Cells.below Cb3.out hb)
  have Cxc4 := Lib.hid (Cells.below Cxc3.out hb)
  have Cx4 := Lib.hid (Owns.below Cx3.out hb)
  have Cyc4 := Lib.hid (Cells.below Cyc3.out hb)
  have Cy4 := Lib.hid (Owns.below Cy3.out hb)
  have Cu4 := Lib.hid (Owns.below Cu3.out hb)
  clear hb B3 Ca3 Cb3 Cxc3 Cx3 Cyc3 Cy3 Cu3
  obtain ⟨pv, cv, rfl, _⟩ := ho.form
  have R1 := Lib.hid hr
  have Fv := Lib.hid (show ∀ b, (Value.slice pv m1.length cv).ownBlock = some b → W3.heap.size ≤ b ∧ b < W4.heap.size from fun b hb => World.ownsRow.lt ho b hb)
  have Cv4 := Lib.hid ho
  clear ho hr
  go_wp2_with fail
  refine (minus_u a b cd _ _ kx ky HCD.out LA.out LB.out _ Cxc4.out Cyc4.out).mono ?_
  rintro e W5 ⟨v, m2, rfl, hr, hl2, ho, hb⟩
  have hs2 := hb.size
  have B5 := Lib.hid (below_next B4.out hb)
  have Ca5 := Lib.hid (Cells.below Ca4.out hb)
  have Cb5 := Lib.hid (Cells.below Cb4.out hb)
  have Cxc5 := Lib.hid (Cells.below Cxc4.out hb)
  have Cx5 := Lib.hid (Owns.below Cx4.out hb)
  have Cyc5 := Lib.hid (Cells.below Cyc4.out hb)
  have Cy5 := Lib.hid (Owns.below Cy4.out hb)
  have Cu5 := Lib.hid (Owns.below Cu4.out hb)
  have Cv5 := Lib.hid (Owns.below Cv4.out hb)
  clear hb B4 Ca4 Cb4 Cxc4 Cx4 Cyc4 Cy4 Cu4 Cv4
  obtain ⟨pz, cz, rfl, _⟩ := ho.form
  have R2 := Lib.hid hr
  have Fz := Lib.hid (show ∀ b, (Value.slice pz m2.length cz).ownBlock = some b → W4.heap.size ≤ b ∧ b < W5.heap.size from fun b hb => World.ownsRow.lt ho b hb)
  have Cz5 := Lib.hid ho
  clear ho hr
  go_wp2_with fail
  refine (rboth0_u a b cd pa pb ca cb HCD.out LA.out LB.out _ Ca5.out Cb5.out).mono ?_
  rintro e W6 ⟨v, m, rfl, hr, ho, hb⟩
  have hs3 := hb.size
  obtain rfl := R0.out.uniq hr
  have B6 := Lib.hid (below_next B5.out hb)
  have Ca6 := Lib.hid (Cells.below Ca5.out hb)
  have Cb6 := Lib.hid (Cells.below Cb5.out hb)
  have Cxc6 := Lib.hid (Cells.below Cxc5.out hb)
  have Cx6 := Lib.hid (Owns.below Cx5.out hb)
  have Cyc6 := Lib.hid (Cells.below Cyc5.out hb)
  have Cy6 := Lib.hid (Owns.below Cy5.out hb)
  have Cu6 := Lib.hid (Owns.below Cu5.out hb)
  have Cv6 := Lib.hid (Owns.below Cv5.out hb)
  have Cz6 := Lib.hid (Owns.below Cz5.out hb)
  clear hb B5 Ca5 Cb5 Cxc5 Cx5 Cyc5 Cy5 Cu5 Cv5 Cz5
  obtain ⟨pp, cp, rfl, _⟩ := ho.form
  have Cp6 := Lib.hid ho
  clear ho hr R0
  go_wp2_with fail
  refine (rboth1_u a b cd pa pb ca cb HCD.out LA.out LB.out _ Ca6.out Cb6.out).mono ?_
  rintro e W7 ⟨v, m, rfl, hr, ho, hb⟩
  have hs4 := hb.size
  obtain rfl := R1.out.uniq hr
  have B7 := Lib.hid (below_next B6.out hb)
  have Ca7 := Lib.hid (Cells.below Ca6.out hb)
  have Cb7 := Lib.hid (Cells.below Cb6.out hb)
  have Cxc7 := Lib.hid (Cells.below Cxc6.out hb)
  have Cx7 := Lib.hid (Owns.below Cx6.out hb)
  have Cyc7 := Lib.hid (Cells.below Cyc6.out hb)
  have Cy7 := Lib.hid (Owns.below Cy6.out hb)
  have Cu7 := Lib.hid (Owns.below Cu6.out hb)
  have Cv7 := Lib.hid (Owns.below Cv6.out hb)
  have Cz7 := Lib.hid (Owns.below Cz6.out hb)
  have Cp7 := Lib.hid (Owns.below Cp6.out hb)
  clear hb B6 Ca6 Cb6 Cxc6 Cx6 Cyc6 Cy6 Cu6 Cv6 Cz6 Cp6
  obtain ⟨pq, cq, rfl, _⟩ := ho.form
  have Cq7 := Lib.hid ho
  clear ho hr R1
  go_wp2_with fail
  refine (rboth2_u a b cd pa pb ca cb HCD.out LA.out LB.out _ Ca7.out Cb7.out).mono ?_
  rintro e W8 ⟨v, m, rfl, hr, ho, hb⟩
  have hs5 := hb.size
  obtain rfl := R2.out.uniq hr
  have B8 := Lib.hid (below_next B7.out hb)
  have Ca8 := Lib.hid (Cells.below Ca7.out hb)
  have Cb8 := Lib.hid (Cells.below Cb7.out hb)
  have Cxc8 := Lib.hid (Cells.below Cxc7.out hb)
  have Cx8 := Lib.hid (Owns.below Cx7.out hb)
  have Cyc8 := Lib.hid (Cells.below Cyc7.out hb)
  have Cy8 := Lib.hid (Owns.below Cy7.out hb)
  have Cu8 := Lib.hid (Owns.below Cu7.out hb)
  have Cv8 := Lib.hid (Owns.below Cv7.out hb)
  have Cz8 := Lib.hid (Owns.below Cz7.out hb)
  have Cp8 := Lib.hid (Owns.below Cp7.out hb)
  have Cq8 := Lib.hid (Owns.below Cq7.out hb)
  clear hb B7 Ca7 Cb7 Cxc7 Cx7 Cyc7 Cy7 Cu7 Cv7 Cz7 Cp7 Cq7
  obtain ⟨pr, cr, rfl, _⟩ := ho.form
  have Cr8 := Lib.hid ho
  clear ho hr R2
  go_wp2_with fail
  refine (kept_any a gx kx a.length pa ca _ w.heap.size rfl LA.out Cx8.out h12x Ca8.out).mono ?_
  rintro e W9 ⟨rfl, hb⟩
  have B9 := Lib.hid (below_next B8.out hb)
  have Ca9 := Lib.hid (Cells.below Ca8.out hb)
  have Cb9 := Lib.hid (Cells.below Cb8.out hb)
  have Cxc9 := Lib.hid (Cells.below Cxc8.out hb)
  have Cx9 := Lib.hid (Owns.below Cx8.out hb)
  have Cyc9 := Lib.hid (Cells.below Cyc8.out hb)
  have Cy9 := Lib.hid (Owns.below Cy8.out hb)
  have Cu9 := Lib.hid (Owns.below Cu8.out hb)
  have Cv9 := Lib.hid (Owns.below Cv8.out hb)
  have Cz9 := Lib.hid (Owns.below Cz8.out hb)
  have Cp9 := Lib.hid (Owns.below Cp8.out hb)
  have Cq9 := Lib.hid (Owns.below Cq8.out hb)
  have Cr9 := Lib.hid (Owns.below Cr8.out hb)
  clear hb B8 Ca8 Cb8 Cxc8 Cx8 Cyc8 Cy8 Cu8 Cv8 Cz8 Cp8 Cq8 Cr8
  go_wp2_with fail
  refine (kept_any b gy ky b.length pb cb _ W1.heap.size rfl LB.out Cy9.out h12y Cb9.out).mono ?_
  rintro e W10 ⟨rfl, hb⟩
  have B10 := Lib.hid (below_next B9.out hb)
  have Ca10 := Lib.hid (Cells.below Ca9.out hb)
  have Cb10 := Lib.hid (Cells.below Cb9.out hb)
  have Cxc10 := Lib.hid (Cells.below Cxc9.out hb)
  have Cx10 := Lib.hid (Owns.below Cx9.out hb)
  have Cyc10 := Lib.hid (Cells.below Cyc9.out hb)
  have Cy10 := Lib.hid (Owns.below Cy9.out hb)
  have Cu10 := Lib.hid (Owns.below Cu9.out hb)
  have Cv10 := Lib.hid (Owns.below Cv9.out hb)
  have Cz10 := Lib.hid (Owns.below Cz9.out hb)
  have Cp10 := Lib.hid (Owns.below Cp9.out hb)
  have Cq10 := Lib.hid (Owns.below Cq9.out hb)
  have Cr10 := Lib.hid (Owns.below Cr9.out hb)
  clear hb B9 Ca9 Cb9 Cxc9 Cx9 Cyc9 Cy9 Cu9 Cv9 Cz9 Cp9 Cq9 Cr9
  go_wp2_with fail
  refine (within_u a b xw _ _ kx ky HXW.out LA.out LB.out _ Cxc10.out Cyc10.out).mono ?_
  rintro e W11 ⟨rfl, hb⟩
  have B11 := Lib.hid (below_next B10.out hb)
  have Ca11 := Lib.hid (Cells.below Ca10.out hb)
  have Cb11 := Lib.hid (Cells.below Cb10.out hb)
  have Cxc11 := Lib.hid (Cells.below Cxc10.out hb)
  have Cx11 := Lib.hid (Owns.below Cx10.out hb)
  have Cyc11 := Lib.hid (Cells.below Cyc10.out hb)
  have Cy11 := Lib.hid (Owns.below Cy10.out hb)
  have Cu11 := Lib.hid (Owns.below Cu10.out hb)
  have Cv11 := Lib.hid (Owns.below Cv10.out hb)
  have Cz11 := Lib.hid (Owns.below Cz10.out hb)
  have Cp11 := Lib.hid (Owns.below Cp10.out hb)
  have Cq11 := Lib.hid (Owns.below Cq10.out hb)
  have Cr11 := Lib.hid (Owns.below Cr10.out hb)
  clear hb B10 Ca10 Cb10 Cxc10 Cx10 Cyc10 Cy10 Cu10 Cv10 Cz10 Cp10 Cq10 Cr10
  go_wp2_with fail
  refine (rwithin_u a b xw pa pb ca cb HXW.out LA.out LB.out _ Ca11.out Cb11.out).mono ?_
  rintro e W12 ⟨rfl, hb⟩
  have B12 := Lib.hid (below_next B11.out hb)
  have Ca12 := Lib.hid (Cells.below Ca11.out hb)
  have Cb12 := Lib.hid (Cells.below Cb11.out hb)
  have Cxc12 := Lib.hid (Cells.below Cxc11.out hb)
  have Cx12 := Lib.hid (Owns.below Cx11.out hb)
  have Cyc12 := Lib.hid (Cells.below Cyc11.out hb)
  have Cy12 := Lib.hid (Owns.below Cy11.out hb)
  have Cu12 := Lib.hid (Owns.below Cu11.out hb)
  have Cv12 := Lib.hid (Owns.below Cv11.out hb)
  have Cz12 := Lib.hid (Owns.below Cz11.out hb)
  have Cp12 := Lib.hid (Owns.below Cp11.out hb)
  have Cq12 := Lib.hid (Owns.below Cq11.out hb)
  have Cr12 := Lib.hid (Owns.below Cr11.out hb)
  clear hb B11 Ca11 Cb11 Cxc11 Cx11 Cyc11 Cy11 Cu11 Cv11 Cz11 Cp11 Cq11 Cr11
  clear Ca12
  clear Cb12
  clear Cxc12
  clear Cyc12
  go_wp2_with fail
  refine (over_any gx kx a.length _ LA.out h12x (Cx12.out.ovr (by rw [List.length_append, mks_len]))).mono ?_
  rintro e W13 ⟨rfl, hbut⟩
  have B13 := Lib.hid (hbut.belowOf B12.out hgx)
  have Cy13 := Lib.hid (hbut.owns Cy12.out (by omega))
  have Cu13 := Lib.hid (hbut.owns Cu12.out (by omega))
  have Cv13 := Lib.hid (hbut.owns Cv12.out (by omega))
  have Cz13 := Lib.hid (hbut.owns Cz12.out (by omega))
  have Cp13 := Lib.hid (hbut.owns Cp12.out (by omega))
  have Cq13 := Lib.hid (hbut.owns Cq12.out (by omega))
  have Cr13 := Lib.hid (hbut.owns Cr12.out (by omega))
  clear hbut B12 Cx12 Cy12 Cu12 Cv12 Cz12 Cp12 Cq12 Cr12
  go_wp2_with fail
  refine (over_any gy ky b.length _ LB.out h12y (Cy13.out.ovr (by rw [List.length_append, mks_len]))).mono ?_
  rintro e W14 ⟨rfl, hbut⟩
  have B14 := Lib.hid (hbut.belowOf B13.out (Nat.le_trans (by omega) hgy))
  have Cu14 := Lib.hid (hbut.owns Cu13.out (by omega))
  have Cv14 := Lib.hid (hbut.owns Cv13.out (by omega))
  have Cz14 := Lib.hid (hbut.owns Cz13.out (by omega))
  have Cp14 := Lib.hid (hbut.owns Cp13.out (by omega))
  have Cq14 := Lib.hid (hbut.owns Cq13.out (by omega))
  have Cr14 := Lib.hid (hbut.owns Cr13.out (by omega))
  clear hbut B13 Cy13 Cu13 Cv13 Cz13 Cp13 Cq13 Cr13
  go_wp2_with fail
  refine (same_yes m0 pu pp cu cp _ (by omega) (cellsOf Cu14.out) (cellsOf Cp14.out)).mono ?_
  rintro e W15 ⟨rfl, hb⟩
  have B15 := Lib.hid (below_next B14.out hb)
  have Cu15 := Lib.hid (Owns.below Cu14.out hb)
  have Cv15 := Lib.hid (Owns.below Cv14.out hb)
  have Cz15 := Lib.hid (Owns.below Cz14.out hb)
  have Cp15 := Lib.hid (Owns.below Cp14.out hb)
  have Cq15 := Lib.hid (Owns.below Cq14.out hb)
  have Cr15 := Lib.hid (Owns.below Cr14.out hb)
  clear hb B14 Cu14 Cv14 Cz14 Cp14 Cq14 Cr14
  go_wp2_with fail
  refine (same_yes m1 pv pq cv cq _ (by omega) (cellsOf Cv15.out) (cellsOf Cq15.out)).mono ?_
  rintro e W16 ⟨rfl, hb⟩
  have B16 := Lib.hid (below_next B15.out hb)
  have Cu16 := Lib.hid (Owns.below Cu15.out hb)
  have Cv16 := Lib.hid (Owns.below Cv15.out hb)
  have Cz16 := Lib.hid (Owns.below Cz15.out hb)
  have Cp16 := Lib.hid (Owns.below Cp15.out hb)
  have Cq16 := Lib.hid (Owns.below Cq15.out hb)
  have Cr16 := Lib.hid (Owns.below Cr15.out hb)
  clear hb B15 Cu15 Cv15 Cz15 Cp15 Cq15 Cr15
  go_wp2_with fail
  refine (same_yes m2 pz pr cz cr _ (by omega) (cellsOf Cz16.out) (cellsOf Cr16.out)).mono ?_
  rintro e W17 ⟨rfl, hb⟩
  have B17 := Lib.hid (below_next B16.out hb)
  have Cu17 := Lib.hid (Owns.below Cu16.out hb)
  have Cv17 := Lib.hid (Owns.below Cv16.out hb)
  have Cz17 := Lib.hid (Owns.below Cz16.out hb)
  have Cp17 := Lib.hid (Owns.below Cp16.out hb)
  have Cq17 := Lib.hid (Owns.below Cq16.out hb)
  have Cr17 := Lib.hid (Owns.below Cr16.out hb)
  clear hb B16 Cu16 Cv16 Cz16 Cp16 Cq16 Cr16
  clear Cp17
  clear Cq17
  clear Cr17
  go_wp2_with fail
  refine (three_apart _ w.heap.size W17.heap.size 3 pu pv pz m0 m1 m2 cu cv cz W3.heap.size W4.heap.size (Nat.le_trans B17.out.size (by simp)) hl0 hl1 hl2 (Owns.alloc (Owns.mono Cu17.out (by omega)) _) (Owns.alloc (Owns.mono Cv17.out (by omega)) _) (Owns.alloc (Owns.mono Cz17.out (by omega)) _) (fun b hb => (Fu.out b hb).2) Fv.out (fun b hb => (Fz.out b hb).1) hs1 (by simp) (by simp) (by simp)).mono ?_
  rintro e W18 ⟨rfl, hb⟩
  have B18 := Lib.hid ((B17.out.alloc B17.out.size _).trans hb)
  clear hb B17
  go_wp2_with fail
  go_ret
  exact ⟨rfl, B18.out⟩

end Go.Proofs.YtgpbdocgnfjckaaGreat
