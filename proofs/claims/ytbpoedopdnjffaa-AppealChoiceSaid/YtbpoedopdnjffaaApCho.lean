/- AppealChoice: the law. -/
import Derived.Test.YtbpoedopdnjffaaApLawK
namespace Go.Proofs.Ytbpoedopdnjffaa
open Go.RowKit Go.Shelf Sp

/-- Two rows of numbers. -/
structure ChI (E1 E2 n : Nat) (f g : Nat → Int) (W5 wr : World) : Prop where
  a : wr.rowIs E1 3 n (fun i => .int .i64 (f i))
  b : wr.rowIs E2 3 n (fun i => .int .i64 (g i))
  bel : Below W5.heap.size W5 wr
  lo : W5.heap.size ≤ E1
  lo2 : E1 < E2
theorem ChI.alloc {E1 E2 n : Nat} {f g : Nat → Int} {W5 wr : World} (h : ChI E1 E2 n f g W5 wr) (o : Obj) : ChI E1 E2 n f g W5 (wr.alloc o) :=
  ⟨h.a.alloc o, h.b.alloc o, h.bel.alloc h.bel.size o, h.lo, h.lo2⟩
theorem ChI.drewN {E1 E2 n : Nat} {f g : Nat → Int} {W5 wr : World} (h : ChI E1 E2 n f g W5 wr) (m : Nat) : ChI E1 E2 n f g W5 (wr.drewN m) :=
  ⟨h.a.of_block (by simp [World.drewN]), h.b.of_block (by simp [World.drewN]), below_drewN h.bel m, h.lo, h.lo2⟩
theorem ChI.setA {E1 E2 n : Nat} {f g : Nat → Int} {W5 wr : World} (h : ChI E1 E2 n f g W5 wr) (j : Nat) (x : Int) : ChI E1 E2 n (fun i => if i = j then x else f i) g W5 (wr.setCell ⟨E1, j, none⟩ (.int .i64 x)) :=
  ⟨(h.a.set j (.int .i64 x)).congr (fun i _ => by split <;> rfl), h.b.setOther (by have := h.lo2; show E2 ≠ E1; omega) _, h.bel.setCell h.lo _, h.lo, h.lo2⟩
theorem ChI.setB {E1 E2 n : Nat} {f g : Nat → Int} {W5 wr : World} (h : ChI E1 E2 n f g W5 wr) (j : Nat) (x : Int) : ChI E1 E2 n f (fun i => if i = j then x else g i) W5 (wr.setCell ⟨E2, j, none⟩ (.int .i64 x)) :=
  ⟨h.a.setOther (by have := h.lo2; show E1 ≠ E2; omega) _, (h.b.set j (.int .i64 x)).congr (fun i _ => by split <;> rfl), h.bel.setCell (by have := h.lo; have := h.lo2; show W5.heap.size ≤ E2; omega) _, h.lo, h.lo2⟩
theorem ChI.congr {E1 E2 n : Nat} {f g f' g' : Nat → Int} {W5 wr : World} (h : ChI E1 E2 n f g W5 wr) (e : ∀ i, i < n → f i = f' i) (e2 : ∀ i, i < n → g i = g' i) : ChI E1 E2 n f' g' W5 wr :=
  ⟨h.a.congr fun i hi => by rw [e i hi], h.b.congr fun i hi => by rw [e2 i hi], h.bel, h.lo, h.lo2⟩
theorem ChI.made (W : World) (n : Nat) : ChI W.heap.size (W.heap.size + 1) n (fun _ => 0) (fun _ => 0) W ((W.alloc (.cells (madeCells #[.int .i64 0] n) 3)).alloc (.cells (madeCells #[.int .i64 0] n) 3)) := by
  have h1 := World.rowIs_made W (.int .i64 0) n 3
  have h2 := World.rowIs_made (W.alloc (.cells (madeCells #[.int .i64 0] n) 3)) (.int .i64 0) n 3
  rw [World.size_alloc] at h2
  exact ⟨h1.alloc _, h2, ((Below.refl _ _).alloc (Nat.le_refl _) _).alloc (by simp) _, Nat.le_refl _, Nat.lt_succ_self _⟩

/-- The first option of an election. -/
def elF (L : List Cs) (i : Nat) : Int := match L[i]? with | some c => if c.el = true then 1 else 0 | none => 0
theorem elF_get {L : List Cs} {i : Nat} (h : i < L.length) : elF L i = if L[i].el = true then 1 else 0 := by unfold elF; rw [List.getElem?_eq_getElem h]
theorem chF_step {T : List Fl} {m : Nat} (h : m < T.length) (k x : Int) : chF k x (T.take (m + 1)) = if T[m].kind = 2 ∧ T[m].case = k then T[m].n else chF k x (T.take m) := by
  rw [List.take_succ_eq_append_getElem h, chF_snoc]
theorem lvF_step {T : List Fl} {m : Nat} (h : m < T.length) (k : Int) : lvF k (T.take (m + 1)) = if T[m].kind = 5 ∧ T[m].case = k then lvF k (T.take m) + 1 else lvF k (T.take m) := by
  rw [List.take_succ_eq_append_getElem h, lvF_snoc]
theorem lvF_bd (k : Int) (T : List Fl) (m : Nat) : 0 ≤ lvF k (T.take m) ∧ lvF k (T.take m) ≤ m := by
  induction m with
  | zero => simp [lvF]
  | succ m ih =>
    by_cases h : m < T.length
    · rw [lvF_step h]; split <;> omega
    · rw [List.take_of_length_le (by omega)] at ih ⊢; omega

/-- What the law asks of each case. -/
theorem cho {F : List Fl} (hB : Bt F) {k : Nat} (hk : k < (runD F).cs.length) : (runD F).cs[k].choice = chF (k + 1) (elF (runD F).cs k) (takenP F) ∧ (runD F).cs[k].level = lvF (k + 1) (takenP F) ∧ (runD F).cs[k].level ≤ 3 ∧ 0 ≤ (runD F).cs[k].level ∧
    ((runD F).cs[k].el = true → (runD F).cs[k].level = 0 ∧ 1 ≤ (runD F).cs[k].choice ∧ (runD F).cs[k].choice ≤ (runD F).cs[k].days) := by
  have H := (hist F).all k hk
  obtain ⟨ok, iv⟩ := hB.cs.1 _ (List.getElem_mem hk)
  rw [elF_get hk]
  refine ⟨H.1, H.2.1, ok.lev.2, ok.lev.1, fun he => ?_⟩
  have := iv.el he
  exact ⟨this.2.1, this.2.2.2.2⟩
/-- The rows behind one more accepted filing. -/
theorem cho_none {L : List Cs} {T : List Fl} {E1 E2 m : Nat} {W5 wr : World} (hm : m < T.length) (h : ChI E1 E2 L.length (fun i => chF (i + 1) (elF L i) (T.take m)) (fun i => lvF (i + 1) (T.take m)) W5 wr)
    (hn : T[m].case = 0 ∨ (T[m].kind ≠ 2 ∧ T[m].kind ≠ 5)) : ChI E1 E2 L.length (fun i => chF (i + 1) (elF L i) (T.take (m + 1))) (fun i => lvF (i + 1) (T.take (m + 1))) W5 wr :=
  h.congr (fun i _ => by rw [chF_step hm, if_neg (by omega)]) (fun i _ => by rw [lvF_step hm, if_neg (by omega)])
theorem cho_two {L : List Cs} {T : List Fl} {E1 E2 m : Nat} {W5 wr : World} (hm : m < T.length) (h : ChI E1 E2 L.length (fun i => chF (i + 1) (elF L i) (T.take m)) (fun i => lvF (i + 1) (T.take m)) W5 wr)
    {j : Nat} (hk : T[m].kind = 2) (hc : T[m].case = (j : Int) + 1) : ChI E1 E2 L.length (fun i => chF (i + 1) (elF L i) (T.take (m + 1))) (fun i => lvF (i + 1) (T.take (m + 1))) W5 (wr.setCell ⟨E1, j, none⟩ (.int .i64 T[m].n)) :=
  (h.setA j T[m].n).congr (fun i _ => by
    rw [chF_step hm]
    by_cases e : i = j
    · subst e; rw [if_pos rfl, if_pos ⟨hk, hc⟩]
    · rw [if_neg e, if_neg (by omega)]) (fun i _ => by rw [lvF_step hm, if_neg (by omega)])
theorem cho_five {L : List Cs} {T : List Fl} {E1 E2 m : Nat} {W5 wr : World} (hm : m < T.length) (h : ChI E1 E2 L.length (fun i => chF (i + 1) (elF L i) (T.take m)) (fun i => lvF (i + 1) (T.take m)) W5 wr)
    {j : Nat} (hk : T[m].kind = 5) (hc : T[m].case = (j : Int) + 1) : ChI E1 E2 L.length (fun i => chF (i + 1) (elF L i) (T.take (m + 1))) (fun i => lvF (i + 1) (T.take (m + 1))) W5 (wr.setCell ⟨E2, j, none⟩ (.int .i64 (lvF (j + 1) (T.take m) + 1))) :=
  (h.setB j (lvF (j + 1) (T.take m) + 1)).congr (fun i _ => by rw [chF_step hm, if_neg (by omega)]) (fun i _ => by
    rw [lvF_step hm]
    by_cases e : i = j
    · subst e; rw [if_pos rfl, if_pos ⟨hk, hc⟩]
    · rw [if_neg e, if_neg (by omega)])

theorem taken_is2 (l : List Fl) (p : Option Addr) (cap : Nat) (w : World) (hc : FCells w p l) (bd : ∀ f ∈ l, f.Bd) (hl : l.length ≤ 100000) :
    Calls Try.prog 21 #[.slice p l.length cap] w fun e w' => ∃ q cq, e = .returned (.slice q (takenP l).length cq) ∧ FCells w' q (takenP l) ∧ (∀ g o, q = some ⟨g, o, none⟩ → w.heap.size ≤ g) ∧ Below w.heap.size w w' :=
  (taken_any l p cap w hc bd hl).mono fun _ _ ⟨v, he, hr, hb⟩ => by
    have hv := hr.2
    obtain ⟨q, cq, rfl, hq⟩ := hr.form
    refine ⟨q, cq, he, hq, fun g o e => ?_, hb⟩
    rcases hv with ⟨e2, _⟩ | ⟨g2, cap2, cur, e2, hb2, _⟩
    · injection e2 with e3
      rw [e3] at e
      cases e
    · injection e2 with e3
      rw [e3] at e
      injection e with e
      injection e with e4
      omega
/-- All blocks but two stay. -/
structure K2 (E1 E2 : Nat) (W wr : World) : Prop where
  size : W.heap.size ≤ wr.heap.size
  block : ∀ k, k < W.heap.size → k ≠ E1 → k ≠ E2 → wr.heap[k]? = W.heap[k]?
theorem K2.refl (E1 E2 : Nat) (W : World) : K2 E1 E2 W W := ⟨Nat.le_refl _, fun _ _ _ _ => rfl⟩
theorem K2.alloc {E1 E2 : Nat} {W wr : World} (h : K2 E1 E2 W wr) (o : Obj) : K2 E1 E2 W (wr.alloc o) :=
  ⟨by have := h.size; simp; omega, fun k hk h1 h2 => (Below.heap_alloc wr o k (Nat.lt_of_lt_of_le hk h.size)).trans (h.block k hk h1 h2)⟩
theorem K2.setA {E1 E2 : Nat} {W wr : World} (h : K2 E1 E2 W wr) (j : Nat) (u : Value) : K2 E1 E2 W (wr.setCell ⟨E1, j, none⟩ u) :=
  ⟨by simpa [World.setCell] using h.size, fun k hk h1 h2 => (Below.heap_setCell wr ⟨E1, j, none⟩ u k h1).trans (h.block k hk h1 h2)⟩
theorem K2.setB {E1 E2 : Nat} {W wr : World} (h : K2 E1 E2 W wr) (j : Nat) (u : Value) : K2 E1 E2 W (wr.setCell ⟨E2, j, none⟩ u) :=
  ⟨by simpa [World.setCell] using h.size, fun k hk h1 h2 => (Below.heap_setCell wr ⟨E2, j, none⟩ u k h2).trans (h.block k hk h1 h2)⟩
theorem FCells.k2 {E1 E2 : Nat} {W wr : World} {q : Option Addr} {l : List Fl} (h : FCells W q l) (hK : K2 E1 E2 W wr) (hq : ∀ g o, q = some ⟨g, o, none⟩ → E2 < g) (h12 : E1 < E2) : FCells wr q l := by
  rcases h with h | ⟨b, off, hv, hc⟩
  · exact .inl h
  · refine .inr ⟨b, off, hv, fun i hi => ?_⟩
    have h1 := hc i hi
    have hb := hq b off hv
    have e := hK.block b (World.block_lt_of_cell? W _ h1.1) (by omega) (by omega)
    simp only [World.cell?] at h1 ⊢
    simpa only [e] using h1

set_option maxHeartbeats 8000000 in
set_option maxRecDepth 100000 in
theorem choice_law (l : List Nt) (p : Option Addr) (cap : Nat) (w : World) (hc : NCells w p l) (bd : ∀ y ∈ l, y.Bd) :
    Calls Try.prog 9 #[.slice p l.length cap] w fun e w' => e = .returned (.bool true) ∧ Below w.heap.size w w' := by
  have NC := Lib.hid hc
  have BT := Lib.hid (builtP_bt bd)
  have CB := Lib.hid (fun W h => built_is l p cap W h bd)
  generalize builtP l = F at *
  have hla := lastP_bt BT.out
  have h30 := BT.out.len
  have ht30 := BT.out.tk.2
  have hLen := BT.out.cs.2
  have CL := Lib.hid (fun q cq W h => last_any F q cq W h BT.out.bd (by omega))
  have CA := Lib.hid (fun (d : Int) (q : Option Addr) (cq : Nat) (W : World) (h : FCells W q F) (h1 : lastP F ≤ d) (h2 : d ≤ 65535) => at_ok F d q cq W h BT.out.bd (by omega) h1 h2)
  have CT := Lib.hid (fun q cq W h => taken_is2 F q cq W h BT.out.bd (by omega))
  have CH := Lib.hid (fun k hk => cho BT.out (k := k) hk)
  have HC := Lib.hid (hist F).case
  generalize lastP F = la at *
  generalize (runD F).cs = L at *
  generalize takenP F = T at *
  clear hc bd
  obtain ⟨n, hn⟩ : ∃ n, n = L.length := ⟨_, rfl⟩
  have hmk : ∀ W : World, (Instr.makeSlice 43 (.int .i64 (n : Int)) (.int .i64 (n : Int))).run Try.prog W = .ok (.slice (some ⟨W.heap.size, 0, none⟩) n n) (W.alloc (.cells (madeCells #[.int .i64 0] n) 3)) := fun W => run_make_row' (P := Try.prog) 43 3 (.int .i64 0) 8 Try.underlying43 (by kernel_rfl) rfl .i64 .i64 n (by omega) (by omega) W
  rw [hn] at hmk
  clear hn n
  go_enter Try.func9, Try.ntmps9
  go_wp2_with fail
  refine (awake_any _).mono ?_
  rintro e W1 ⟨rfl, hb⟩
  have B1 := Lib.hid hb
  have N1 := Lib.hid (NC.out.below hb)
  clear hb NC
  go_wp2_with fail
  refine (CB.out _ N1.out).mono ?_
  rintro e W2 ⟨q, cq, rfl, hq, hb⟩
  have B2 := Lib.hid (below_next B1.out hb)
  have F2 := Lib.hid hq
  clear hb hq B1 N1 CB
  go_wp2_with fail
  refine (CL.out q cq _ F2.out).mono ?_
  rintro e W3 ⟨rfl, hb⟩
  have B3 := Lib.hid (below_next B2.out hb)
  have F3 := Lib.hid (F2.out.below hb)
  clear hb B2 F2
  go_wp2_with fail
  refine (CA.out la q cq _ F3.out (Int.le_refl _) (by omega)).mono ?_
  rintro e W5 ⟨qa, ca, rfl, ha, hb⟩
  have B5 := Lib.hid (below_next B3.out hb)
  have F5 := Lib.hid (F3.out.below hb)
  have C5 := Lib.hid ha
  clear hb ha B3 F3
  go_wp2
  have I0 := Lib.hid (ChI.made W5 L.length)
  generalize (W5.alloc (.cells (madeCells #[.int .i64 0] L.length) 3)).alloc (.cells (madeCells #[.int .i64 0] L.length) 3) = W6 at *
  obtain ⟨E1, hE1⟩ : ∃ E1, E1 = W5.heap.size := ⟨_, rfl⟩
  obtain ⟨E2, hE2⟩ : ∃ E2, E2 = W5.heap.size + 1 := ⟨_, rfl⟩
  rw [← hE2] at I0 ⊢
  have I1 := Lib.hid (show ChI E1 E2 L.length (fun _ => 0) (fun _ => 0) W5 W6 by rw [hE1]; exact I0.out)
  rw [← hE1]
  clear I0 hE1 hE2 hmk
  go_loopw [35] (fun i wr => ∃ k : Nat, k ≤ L.length ∧ i = .int .i64 k ∧ Hid (ChI E1 E2 L.length (fun i => if i < k then elF L i else 0) (fun _ => 0) W5 wr)) (fun i _ => L.length - (intOf i).toNat)
  case atStart => exact ⟨0, by omega, rfl, Lib.hid (I1.out.congr (fun i _ => by simp) (fun _ _ => rfl))⟩
  case round =>
    obtain ⟨k, hk, rfl, hI⟩ := hrel
    by_cases hlt : k < L.length
    · obtain ⟨b4, o4, q4, c4, rfl, hx4, _⟩ := (C5.out.below hI.out.bel).at k hlt
      obtain ⟨g0, g1, g2, g3, g4, g5, g6, g7, g8, g9⟩ := hx4
      have e1 := (atP_same L[k] la).1
      have HE := Lib.hid (elF_get hlt)
      rw [e1] at g0
      generalize L[k].el = el at *
      have x1 := fun o => (hI.out.alloc o).a.frozen k
      have x2 := fun o => (hI.out.alloc o).a.cell hlt
      have hE1 : E1 ≠ wr.heap.size := Nat.ne_of_lt hI.out.a.lt
      generalize atP L[k] la = c at *
      clear e1
      cases el with
      | true =>
        have J := Lib.hid (fun o => ((hI.out.alloc o).setA k 1).congr (f' := fun i => if i < k + 1 then elF L i else 0) (g' := fun _ => 0) (fun i hi => by
          by_cases e : i = k
          · subst e; rw [if_pos rfl, if_pos (by omega), HE.out]; rfl
          · rw [if_neg e]
            by_cases e2 : i < k
            · rw [if_pos e2, if_pos (by omega)]
            · rw [if_neg e2, if_neg (by omega)]) (fun _ _ => rfl))
        go_wp2
        go_roundw
        case rel => exact ⟨k + 1, by omega, by go_num, Lib.hid (J.out _)⟩
        case measure => simp [intOf]; omega
      | false =>
        have J := Lib.hid (fun o => (hI.out.alloc o).congr (f' := fun i => if i < k + 1 then elF L i else 0) (g' := fun _ => 0) (fun i hi => by
          by_cases e : i = k
          · subst e; rw [if_neg (by omega), if_pos (by omega), HE.out]; rfl
          · by_cases e2 : i < k
            · rw [if_pos e2, if_pos (by omega)]
            · rw [if_neg e2, if_neg (by omega)]) (fun _ _ => rfl))
        go_wp2
        go_roundw
        case rel => exact ⟨k + 1, by omega, by go_num, Lib.hid (J.out _)⟩
        case measure => simp [intOf]; omega
    · obtain rfl : k = L.length := by omega
      have I7 := Lib.hid (hI.out.congr (f' := fun i => elF L i) (g' := fun _ => 0) (fun i hi => by rw [if_pos hi]) (fun _ _ => rfl))
      have B7 := Lib.hid (below_next B5.out hI.out.bel)
      have F7 := Lib.hid (F5.out.below hI.out.bel)
      have C7 := Lib.hid (C5.out.below hI.out.bel)
      clear hI F5
      go_wp2_with fail
      refine (CT.out q cq _ F7.out).mono ?_
      rintro e W8 ⟨t, ct, rfl, ht, htq, hb⟩
      have I8 := Lib.hid (show ChI E1 E2 L.length (fun i => chF (i + 1) (elF L i) (T.take 0)) (fun i => lvF (i + 1) (T.take 0)) W5 W8 from
        ⟨I7.out.a.of_block (hb.block E1 I7.out.a.lt), I7.out.b.of_block (hb.block E2 I7.out.b.lt), below_next I7.out.bel hb, I7.out.lo, I7.out.lo2⟩)
      have h12 := I7.out.lo2
      have HQ := Lib.hid (show ∀ g o, t = some ⟨g, o, none⟩ → E2 < g from fun g o e => Nat.lt_of_lt_of_le I7.out.b.lt (htq g o e))
      have T8 := Lib.hid ht
      clear hb ht htq I7 B7 F7 C7
      go_wp2
      go_loopw [49] (fun i wr => ∃ m : Nat, m ≤ T.length ∧ i = .int .i64 m ∧ Hid (ChI E1 E2 L.length (fun i => chF (i + 1) (elF L i) (T.take m)) (fun i => lvF (i + 1) (T.take m)) W5 wr) ∧ Hid (K2 E1 E2 W8 wr)) (fun i _ => T.length - (intOf i).toNat)
      case atStart => exact ⟨0, by omega, rfl, I8, Lib.hid (K2.refl _ _ _)⟩
      case round =>
        obtain ⟨m, hm, rfl, hI, hK⟩ := hrel
        by_cases hlt : m < T.length
        · obtain ⟨bt, ot, rfl, r0, r1, r2, r3, r4, r5⟩ := (T8.out.k2 hK.out HQ.out h12).at m hlt
          have hcb := HC.out _ (List.getElem_mem hlt)
          have hbt : bt ≠ wr.heap.size := Nat.ne_of_lt (World.block_lt_of_cell? wr _ r0)
          have hE1 : E1 ≠ wr.heap.size := Nat.ne_of_lt hI.out.a.lt
          have hE2 : E2 ≠ wr.heap.size := Nat.ne_of_lt hI.out.b.lt
          have K1 := Lib.hid (fun o => hK.out.alloc o)
          have J1 := Lib.hid (fun o => hI.out.alloc o)
          by_cases h0 : T[m].case = 0
          · have J := Lib.hid (fun o => cho_none hlt (J1.out o) (.inl h0))
            rw [h0] at r2
            generalize T[m] = f at *
            go_wp2
            go_roundw
            case rel => exact ⟨m + 1, by omega, by go_num, Lib.hid (J.out _), Lib.hid (K1.out _)⟩
            case measure => simp [intOf]; omega
          · obtain ⟨j, hj⟩ : ∃ j : Nat, T[m].case = (j : Int) + 1 := ⟨(T[m].case - 1).toNat, by omega⟩
            have hjl : j < L.length := by omega
            have hj1 : ¬ (j : Int) + 1 < 1 := by omega
            have hj2 : ¬ (L.length : Int) < (j : Int) + 1 := by omega
            have hj3 : (j : Int) + 1 - 1 = (j : Int) := by omega
            have hj4 : (j : Int) < (L.length : Int) := by omega
            have x1 := fun o => (hI.out.alloc o).a.frozen j
            have x2 := fun o => (hI.out.alloc o).a.cell hjl
            have y1 := fun o => (hI.out.alloc o).b.frozen j
            have y2 := fun o => (hI.out.alloc o).b.cell hjl
            have hlv := lvF_bd ((j : Int) + 1) T m
            by_cases h2 : T[m].kind = 2
            · have J := Lib.hid (fun o => cho_two hlt (J1.out o) h2 hj)
              rw [hj] at r2
              rw [h2] at r0
              generalize T[m].n = fn at *
              generalize T[m].day = fd at *
              generalize T[m].til = ft at *
              generalize T[m].hold = fh at *
              clear y1 y2 hlv
              go_wp2
              go_roundw
              case rel => exact ⟨m + 1, by omega, by go_num, Lib.hid (J.out _), Lib.hid ((K1.out _).setA _ _)⟩
              case measure => simp [intOf]; omega
            · by_cases h5 : T[m].kind = 5
              · have J := Lib.hid (fun o => cho_five hlt (J1.out o) h5 hj)
                rw [hj] at r2
                rw [h5] at r0
                generalize lvF ((j : Int) + 1) (T.take m) = lv at *
                generalize T[m].n = fn at *
                generalize T[m].day = fd at *
                generalize T[m].til = ft at *
                generalize T[m].hold = fh at *
                clear x1 x2
                go_wp2
                go_roundw
                case rel => exact ⟨m + 1, by omega, by go_num, Lib.hid (J.out _), Lib.hid ((K1.out _).setB _ _)⟩
                case measure => simp [intOf]; omega
              · have J := Lib.hid (fun o => cho_none hlt (J1.out o) (.inr ⟨h2, h5⟩))
                have k2 : (T[m].kind == 2) = false := by simpa using h2
                have k5 : (T[m].kind == 5) = false := by simpa using h5
                rw [hj] at r2
                clear h0 hj x1 x2 y1 y2 h2 h5
                generalize T[m] = f at *
                go_wp2
                go_roundw
                case rel => exact ⟨m + 1, by omega, by go_num, Lib.hid (J.out _), Lib.hid (K1.out _)⟩
                case measure => simp [intOf]; omega
        · obtain rfl : m = T.length := by omega
          have I9 := Lib.hid (show ChI E1 E2 L.length (fun i => chF (i + 1) (elF L i) T) (fun i => lvF (i + 1) T) W5 wr by have := hI.out; simp only [List.take_length] at this; exact this)
          clear hI hK T8 HQ I8
          go_wp2
          go_loopw [90] (fun i wr => ∃ k : Nat, k ≤ L.length ∧ i = .int .i64 k ∧ Hid (ChI E1 E2 L.length (fun i => chF (i + 1) (elF L i) T) (fun i => lvF (i + 1) T) W5 wr)) (fun i _ => L.length - (intOf i).toNat)
          case atStart => exact ⟨0, by omega, rfl, I9⟩
          case round =>
            obtain ⟨k, hk, rfl, hI⟩ := hrel
            by_cases hlt2 : k < L.length
            · obtain ⟨b4, o4, q4, c4, rfl, hx4, _⟩ := (C5.out.below hI.out.bel).at k hlt2
              obtain ⟨g0, g1, g2, g3, g4, g5, g6, g7, g8, g9⟩ := hx4
              have sm := atP_same L[k] la
              obtain ⟨h1, h2, h3, h4, h5⟩ := CH.out k hlt2
              have x2 := fun o => (hI.out.alloc o).a.cell hlt2
              have y2 := fun o => (hI.out.alloc o).b.cell hlt2
              have hE1 : E1 ≠ wr.heap.size := Nat.ne_of_lt hI.out.a.lt
              have hE2 : E2 ≠ wr.heap.size := Nat.ne_of_lt hI.out.b.lt
              have hb4 : b4 ≠ wr.heap.size := Nat.ne_of_lt (World.block_lt_of_cell? wr _ g0)
              have J := Lib.hid (fun o n => (hI.out.alloc o).drewN n)
              have hk4 : (k : Int) < (L.length : Int) := by omega
              rw [sm.1] at g0
              rw [sm.2.2.1] at g3
              rw [sm.2.2.2.1] at g4
              rw [sm.2.2.2.2.1] at g5
              simp only [← h1] at x2
              simp only [← h2] at y2
              generalize L[k].el = el at *
              generalize L[k].days = dy at *
              generalize L[k].choice = ch at *
              generalize L[k].level = lv at *
              generalize atP L[k] la = c at *
              clear sm h1 h2
              cases el with
              | true =>
                obtain ⟨h6, h7, h8⟩ := h5 rfl
                subst h6
                have hn7 : decide (ch < 1) = false := by simp; omega
                have hn8 : decide (dy < ch) = false := by simp; omega
                clear h5 h3 h4 h7 h8
                go_wp2_with fail
                go_quiet (fail)
                go_wp2
                go_roundw
                case rel => exact ⟨k + 1, by omega, by go_num, Lib.hid (J.out _ _)⟩
                case measure => simp [intOf]; omega
              | false =>
                have hn3 : decide (3 < lv) = false := by simp; omega
                clear h5 h3 h4
                go_wp2_with fail
                go_quiet (fail)
                go_wp2
                go_roundw
                case rel => exact ⟨k + 1, by omega, by go_num, Lib.hid (J.out _ _)⟩
                case measure => simp [intOf]; omega
            · obtain rfl : k = L.length := by omega
              have B9 := Lib.hid (below_next B5.out hI.out.bel)
              go_wp2
              go_ret
              exact ⟨rfl, B9.out⟩

end Go.Proofs.Ytbpoedopdnjffaa
