/- AppealRuns: the walk of runs; the law. -/
import Derived.Test.YtbpoedopdnjffaaGreatZqApart
import Derived.Test.YtbpoedopdnjffaaGreatZpO
import Derived.Test.YtbpoedopdnjffaaGreatZpG
namespace Go.Proofs.YtbpoedopdnjffaaGreat
open Go.RowKit Go.Shelf Sp

theorem FCells.left {w : World} {p : Option Addr} {a b : List Fl} (h : FCells w p (a ++ b)) : FCells w p a := by
  by_cases h0 : a = []
  · exact .inl h0
  · rcases h with h | ⟨b', off, hv, hc⟩
    · simp at h; exact .inl h.1
    · refine .inr ⟨b', off, hv, fun i hi => ?_⟩
      have := hc i (by rw [List.length_append]; omega)
      rwa [List.getElem_append_left hi] at this
theorem FOwns.left {w : World} {base g n c : Nat} {a b : List Fl} (h : FOwns w base (.slice (some ⟨g, 0, none⟩) n c) (a ++ b)) : FCells w (some ⟨g, 0, none⟩) a := by
  obtain ⟨q, d, e, hc⟩ := h.form
  injection e with e1 _ _
  subst e1
  exact hc.left
theorem atD_len (l : List Fl) (d : Int) : (atD l d).length ≤ 100 := by
  have := (runD_ok l).len
  unfold atD
  split
  · rw [List.length_map]; exact this
  · simp
theorem atD_held (l : List Fl) (d : Int) : ∀ c ∈ atD l d, c.held.length ≤ 1000 := by
  intro c hc
  unfold atD at hc
  split at hc
  · obtain ⟨x, hx, rfl⟩ := List.mem_map.1 hc
    have := Nat.le_trans (heldP_len (passP_ok ((runD_ok l).cs x hx) d) (d + 1)) hb_max
    unfold atP
    dsimp only
    omega
  · cases hc
theorem CRow.acells {W : World} {base : Nat} {v : Value} {ps : List (Cs × Value)} {L : List Cs} (h : CRow W base v ps) (hL : ps.map Prod.fst = L) : ∃ p cap, v = .slice p L.length cap ∧ ACells W p L := by
  subst hL
  obtain ⟨p, cap, rfl, hr⟩ := h.form
  refine ⟨p, cap, by rw [List.length_map], ?_⟩
  cases ps with
  | nil => exact .inl rfl
  | cons q qs =>
    obtain ⟨g, rfl, _, _, _, hcl⟩ := hr (by simp)
    refine .inr ⟨g, 0, rfl, fun i hi => ?_⟩
    rw [List.length_map] at hi
    obtain ⟨pu, cu, e, hcu⟩ := (h.2 _ (List.getElem_mem hi)).form
    have h1 := (hcl i hi).1
    rw [e] at h1
    rw [List.getElem_map, Nat.zero_add]
    exact ⟨pu, cu, h1, hcu⟩
/-- A row of cases of one's own, with its parts. -/
structure Row2 (W : World) (base : Nat) (v : Value) (L : List Cs) (p : Option Addr) (c : Nat) (ps : List (Cs × Value)) : Prop where
  e : v = .slice p L.length c
  len : ps.length = L.length
  own : W.ownsRow base 52 10 v ps.length (cflat ps)
  held : ∀ x ∈ ps, Owns W base x.2 x.1.held ∧ x.1 ∈ L
  pw : ps.Pairwise fun x y => x.2.ownBlock = none ∨ x.2.ownBlock ≠ y.2.ownBlock
  cells : ACells W p L
theorem ARow.two {W : World} {base : Nat} {v : Value} {L : List Cs} (h : ARow W base v L) : ∃ p c ps, Row2 W base v L p c ps := by
  obtain ⟨p, c, e, ha⟩ := h.form
  obtain ⟨ps, hps, h2, h3, h4⟩ := h
  exact ⟨p, c, ps, e, by rw [← hps, List.length_map], h2, fun x hx => ⟨h3 x hx, by rw [← hps]; exact List.mem_map_of_mem hx⟩, h4, ha⟩
theorem Row2.later {W W' : World} {base : Nat} {v : Value} {L : List Cs} {p : Option Addr} {c : Nat} {ps : List (Cs × Value)} (h : Row2 W base v L p c ps) (hb : Below W.heap.size W W') : Row2 W' base v L p c ps :=
  ⟨h.e, h.len, ownsRow_later h.own hb, fun x hx => ⟨(h.held x hx).1.later hb, (h.held x hx).2⟩, h.pw, h.cells.below hb⟩

/-- Both rows together. -/
theorem Row2.apart {W0 W : World} {base b2 : Nat} {v v2 : Value} {L : List Cs} {p p2 : Option Addr} {c c2 : Nat} {ps ps2 : List (Cs × Value)} (h : Row2 W base v L p c ps) (h2 : Row2 W b2 v2 L p2 c2 ps2) (hold : Row2 W0 base v L p c ps) (h02 : W0.heap.size ≤ b2) (hb : base ≤ b2) (hL : L.length ≤ 100) (hh : ∀ c ∈ L, c.held.length ≤ 1000)
    (hbW : base ≤ W.heap.size) :
    Calls Tryz.prog 18 #[.slice (some ⟨W.heap.size, 0, none⟩) 2 2] (W.alloc (.cells #[.slice p L.length c, .slice p2 L.length c2] 35)) fun e w' => e = .returned (.bool true) ∧ Below base W w' := by
  have e1 := h.e
  have e2 := h2.e
  subst e1 e2
  obtain ⟨X, hX⟩ : ∃ X, X = W.alloc (.cells #[.slice p L.length c, .slice p2 L.length c2] 35) := ⟨_, rfl⟩
  have hXb : Below W.heap.size W X := by rw [hX]; exact (Below.refl _ _).alloc (Nat.le_refl _) _
  have c0 : X.cell? ⟨W.heap.size, 0, none⟩ = some (.slice p L.length c) := by rw [hX]; simp
  have c1 : X.cell? ⟨W.heap.size, 1, none⟩ = some (.slice p2 L.length c2) := by rw [hX]; simp
  rw [← hX]
  have k1 := h.later hXb
  have k2 := h2.later hXb
  have h3 := h.len
  have h4 := h2.len
  rw [← h3] at c0
  rw [← h4] at c1
  have o1 := k1.own
  have o2 := k2.own
  have z1 := hold.own
  rw [← h3] at o1 z1
  rw [← h4] at o2
  have key := apartC_any X base W.heap.size 2 p p2 c c2 ps ps2 (Nat.le_trans hbW hXb.size) ⟨by omega, by omega⟩ c0 c1 o1 (ownsRow_low o2 hb) (fun b hb1 hb2 => by
      have l1 := (z1.lt b hb1).2
      have l2 := (o2.lt b hb2).1
      omega)
    (fun x hx => by
      rcases List.mem_append.1 hx with hx | hx
      · exact ⟨(k1.held x hx).1, by have := hh _ (k1.held x hx).2; omega⟩
      · exact ⟨(k2.held x hx).1.base hb, by have := hh _ (k2.held x hx).2; omega⟩)
    (List.pairwise_append.2 ⟨k1.pw, k2.pw, fun x hx y hy => by
      cases hk : x.2.ownBlock with
      | none => exact .inl rfl
      | some k =>
        right
        intro e
        have l1 := (World.ownsRow.lt (hold.held x hx).1 k hk).2
        have l2 := (World.ownsRow.lt (k2.held y hy).1 k e.symm).1
        omega⟩)
  exact key.mono fun e w' ⟨he, hb'⟩ => ⟨he, (hXb.mono hbW).trans hb'⟩

/-- Errors in memory. -/
def ECells (w : World) (p : Option Addr) (es : List Int) : Prop := ∀ i, (hi : i < es.length) → ∃ g, p = some ⟨g, 0, none⟩ ∧ w.cell? ⟨g, i, none⟩ = some (.int .i64 es[i])
theorem ECells.below {w w' : World} {p : Option Addr} {es : List Int} (h : ECells w p es) (hb : Below w.heap.size w w') : ECells w' p es := fun i hi => by
  obtain ⟨g, e, hc⟩ := h i hi
  exact ⟨g, e, by rw [World.cell?_of_block (a := ⟨g, i, none⟩) (hb.block g (World.block_lt_of_cell? w _ hc))]; exact hc⟩
theorem EOwns.ecells {W : World} {base : Nat} {v : Value} {es : List Int} (h : EOwns W base v es) : ∃ p cap, v = .slice p es.length cap ∧ ECells W p es := by
  obtain ⟨p, cap, e, hc⟩ := h.form
  exact ⟨p, cap, e, fun i hi => by obtain ⟨g, h1, _, _, h4⟩ := hc i hi; exact ⟨g, h1, h4⟩⟩

set_option maxHeartbeats 8000000 in
set_option maxRecDepth 100000 in
theorem runs_is (l : List Fl) (d : Int) (p : Option Addr) (cap : Nat) (w : World) (hc : FCells w p l) (bd : ∀ f ∈ l, f.Bd) (hl : l.length ≤ 90000) :
    Calls Tryz.prog 5 #[.slice p l.length cap, .int .i64 d] w fun e w' => e = .returned (.bool true) ∧ Below w.heap.size w w' := by
  have HC := Lib.hid hc
  have C1 := Lib.hid (lentF_any l p cap w (by omega) hc)
  have C2 := Lib.hid (fun q c W h => run_any l q c W h bd (by omega))
  have C3 := Lib.hid (fun W h => allR_any l p cap W h (by omega))
  have C4 := Lib.hid (fun q c W h => atAll_any l d q c W h bd (by omega))
  have C5 := Lib.hid (fun W h => atR_any l d p cap W h (by omega))
  obtain ⟨n, hn⟩ : ∃ n, n = l.length := ⟨_, rfl⟩
  have CK := Lib.hid (fun g c W base hg h12 hc => keptF_any l g c n p cap W base hn.symm (by omega) hg h12 hc)
  have LL := Lib.hid (atD_len l d)
  have LH := Lib.hid (atD_held l d)
  unfold AllPost at C3
  unfold AtAll at C4
  unfold AtRPost at C5
  obtain ⟨es, hes⟩ : ∃ es, es = errsD l := ⟨_, rfl⟩
  obtain ⟨er, her⟩ : ∃ er, er = atErr l d := ⟨_, rfl⟩
  obtain ⟨L, hL⟩ : ∃ L, L = atD l d := ⟨_, rfl⟩
  obtain ⟨mx, hmx⟩ : ∃ mx, mx = max 0 (runD l).last := ⟨_, rfl⟩
  have hel : es.length ≤ 90000 := by rw [hes, errsD_length]; exact hl
  rw [← hn] at C1 C2 C3 C4 C5 hl ⊢
  rw [← hes] at C2 C3
  rw [← hmx] at C3
  rw [← her, ← hL] at C4 C5
  rw [← hL] at LL LH
  clear hc bd hes her hL hmx hn
  go_enter Tryz.func5, Tryz.ntmps5
  go_wp2_with fail
  refine C1.out.mono ?_
  rintro e W1 ⟨g, c, rfl, h12, hg, hO, hb⟩
  have B1 := Lib.hid hb
  have F1 := Lib.hid hO.left
  have O1 := Lib.hid hO
  have H12 := Lib.hid h12
  clear hb hO h12 hg C1
  go_wp2_with fail
  refine (C2.out (some ⟨g, 0, none⟩) c W1 F1.out).mono ?_
  rintro e W2 ⟨v1, rfl, hE, hb⟩
  obtain ⟨p1, c1, rfl, hE1⟩ := hE.ecells
  have B2 := Lib.hid (below_next B1.out hb)
  have F2 := Lib.hid (F1.out.below hb)
  have O2 := Lib.hid (O1.out.later hb)
  have E2 := Lib.hid hE1
  clear hE hb hE1 B1 F1 O1 C2
  go_wp2_with fail
  refine (C3.out W2 (HC.out.below B2.out)).mono ?_
  rintro e W3 ⟨p2, n2, c2, qs, v2, rfl, _, _, hE, hb⟩
  obtain ⟨p3, c3, rfl, hE1⟩ := hE.ecells
  have B3 := Lib.hid (below_next B2.out hb)
  have F3 := Lib.hid (F2.out.below hb)
  have O3 := Lib.hid (O2.out.later hb)
  have E3 := Lib.hid (And.intro (E2.out.below hb) hE1)
  clear hE hb hE1 B2 F2 O2 E2 C3
  go_wp2_with fail
  have hbx := (Below.refl W3.heap.size W3).alloc (Nat.le_refl _) (.cells #[.slice p2 n2 c2, .int .i64 mx, .int .i64 mx] 37)
  have BX := Lib.hid (below_next B3.out hbx)
  have FX := Lib.hid (F3.out.below hbx)
  have OX := Lib.hid (O3.out.later hbx)
  have EX := Lib.hid (And.intro (E3.out.1.below hbx) (E3.out.2.below hbx))
  clear hbx B3 F3 O3 E3
  generalize World.alloc W3 _ = X3 at *
  refine (C4.out (some ⟨g, 0, none⟩) c X3 FX.out).mono ?_
  rintro e W4 ⟨v4, rfl, hR, hb⟩
  obtain ⟨pc, cc, ps, hR1⟩ := (hR.low BX.out.size).two
  obtain rfl := hR1.e
  have B4 := Lib.hid (below_next BX.out hb)
  have F4 := Lib.hid (FX.out.below hb)
  have O4 := Lib.hid (OX.out.later hb)
  have E4 := Lib.hid (And.intro (EX.out.1.below hb) (EX.out.2.below hb))
  have R4 := Lib.hid hR1
  clear hR hb hR1 BX FX OX EX
  go_wp2_with fail
  refine (C5.out W4 (HC.out.below B4.out)).mono ?_
  rintro e W5 ⟨p5, n5, c5, qs, rfl, hq, hr5, hb⟩
  obtain ⟨p6, c6, e6, hA⟩ := hr5.acells hq
  injection e6 with e7 e8 e9
  subst e7 e8 e9
  have B5 := Lib.hid (below_next B4.out hb)
  have F5 := Lib.hid (F4.out.below hb)
  have O5 := Lib.hid (O4.out.later hb)
  have E5 := Lib.hid (And.intro (E4.out.1.below hb) (E4.out.2.below hb))
  have R5 := Lib.hid (R4.out.later hb)
  have A5 := Lib.hid hA
  have S5 := Lib.hid hb.size
  have B4' := Lib.hid B4.out.size
  clear hq hr5 hb hA B4 F4 O4 E4 C5
  go_wp2_with fail
  refine (C4.out (some ⟨g, 0, none⟩) c W5 F5.out).mono ?_
  rintro e W6 ⟨v6, rfl, hR, hb⟩
  obtain ⟨pa, ca, ps2, hR2⟩ := hR.two
  obtain rfl := hR2.e
  have B6 := Lib.hid (below_next B5.out hb)
  have O6 := Lib.hid (O5.out.later hb)
  have E6 := Lib.hid (And.intro (E5.out.1.below hb) (E5.out.2.below hb))
  have R6 := Lib.hid (And.intro (R5.out.later hb) hR2)
  have A6 := Lib.hid (A5.out.below hb)
  clear hR hb hR2 B5 F5 O5 E5 R5 A5 C4
  have hne : ((es.length : Int) != (es.length : Int)) = false := by simp
  have hee : (er != er) = false := by simp
  go_wp2_with fail
  refine (sameCases_yes L pc p5 cc c5 W6 (by have := LL.out; omega) LH.out R6.out.1.cells A6.out).mono ?_
  rintro e W7 ⟨rfl, hb⟩
  have B7 := Lib.hid (below_next B6.out hb)
  have O7 := Lib.hid (O6.out.later hb)
  have E7 := Lib.hid (And.intro (E6.out.1.below hb) (E6.out.2.below hb))
  have R7 := Lib.hid (And.intro (R6.out.1.later hb) (R6.out.2.later hb))
  clear hb B6 O6 E6 R6 A6
  go_wp2_with fail
  refine (CK.out g c W7 w.heap.size O7.out H12.out (HC.out.below B7.out)).mono ?_
  rintro e W8 ⟨rfl, hb⟩
  have B8 := Lib.hid (below_next B7.out hb)
  have E8 := Lib.hid (And.intro (E7.out.1.below hb) (E7.out.2.below hb))
  have R8 := Lib.hid (And.intro (R7.out.1.later hb) (R7.out.2.later hb))
  clear hb B7 O7 E7 R7 CK
  go_wp2_with fail
  go_loopw [67] (fun i wr => ∃ k : Nat, k ≤ es.length ∧ i = .int .i64 k ∧ Hid (Below W8.heap.size W8 wr)) (fun i _ => es.length - (intOf i).toNat)
  case atStart => exact ⟨0, by omega, rfl, Lib.hid (Below.refl _ _)⟩
  case round =>
    obtain ⟨k, hk, rfl, hB⟩ := hrel
    by_cases hlt : k < es.length
    · obtain ⟨g1, rfl, q1⟩ := (E8.out.1.below hB.out) k hlt
      obtain ⟨g3, rfl, q3⟩ := (E8.out.2.below hB.out) k hlt
      generalize es[k] = x at q1 q3
      have hx : (x != x) = false := by simp
      have k0 : (0 : Int) ≤ (k : Int) := by omega
      have k1 : (k : Int) < (es.length : Int) := by omega
      go_wp2_with fail
      go_quiet (fail)
      go_wp2
      go_roundw
      case rel => exact ⟨k + 1, by omega, by go_num, Lib.hid (below_drewN hB.out _)⟩
      case measure => simp [intOf]; omega
    · obtain rfl : es.length = k := by omega
      have CA := Lib.hid (Row2.apart (R8.out.1.later hB.out) (R8.out.2.later hB.out) R4.out S5.out (Nat.le_trans B4'.out S5.out) LL.out LH.out (Nat.le_trans B8.out.size hB.out.size))
      have BZ := Lib.hid (B8.out.trans (hB.out.mono B8.out.size))
      clear hB
      go_wp2_with fail
      refine CA.out.mono ?_
      rintro e W9 ⟨rfl, hb⟩
      have B9 := Lib.hid (BZ.out.trans hb)
      clear hb
      go_wp2
      go_ret
      exact ⟨rfl, B9.out⟩

set_option maxHeartbeats 2000000 in
set_option maxRecDepth 100000 in
theorem runs_law (l : List Fl) (d : Int) (p : Option Addr) (cap : Nat) (w : World) (hc : FCells w p l) (bd : ∀ f ∈ l, f.Bd) (hm : l.length ≤ 9223372036854775807) :
    Calls Tryz.prog 3 #[.slice p l.length cap, .int .i64 d] w fun e w' => e = .returned (.bool true) ∧ Below w.heap.size w w' := by
  by_cases h60 : l.length ≤ 60
  · have CA := Lib.hid (runs_is l d p cap w hc bd (by omega))
    have h61 : decide ((60 : Int) < (l.length : Int)) = false := by simp; omega
    clear hc bd hm
    go_enter Tryz.func3, Tryz.ntmps3
    go_wp2_with fail
    refine CA.out.mono ?_
    rintro e W1 ⟨rfl, hb1⟩
    have B1 := Lib.hid hb1
    clear hb1
    go_wp2_with fail
    refine (awake_any _).mono ?_
    rintro e W2 ⟨rfl, hb2⟩
    have B2 := Lib.hid (below_next B1.out hb2)
    clear hb2
    go_wp2
    go_ret
    exact ⟨rfl, B2.out⟩
  · have h61 : decide ((60 : Int) < (l.length : Int)) = true := by simp; omega
    clear hc bd
    go_enter Tryz.func3, Tryz.ntmps3
    go_wp2_with fail
    refine (awake_any _).mono ?_
    rintro e W2 ⟨rfl, hb2⟩
    have B2 := Lib.hid hb2
    clear hb2
    go_wp2
    go_ret
    exact ⟨rfl, B2.out⟩

end Go.Proofs.YtbpoedopdnjffaaGreat
