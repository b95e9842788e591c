/- Run, at, At, Held, Settles. -/
import Derived.Test.YtbpoedopdnjffaaApFile
import Derived.Test.YtbpoedopdnjffaaSpW6
import Derived.Maps.AppendAt
namespace Go.Proofs.Ytbpoedopdnjffaa
open Go.RowKit Go.Shelf Sp

theorem flat_append (a b : Sps) : flat (a ++ b) = flat a ++ flat b := by unfold flat; rw [List.flatMap_append]
/-- Spans that an append may read. -/
def SSrc (W : World) (p : Option Addr) (m : Sps) : Prop :=
  (p = none ∧ m = []) ∨ ∃ ad : Addr, p = some ad ∧ ∀ j u, (flat m)[j]? = some u → W.cell? (ad.add j) = some u
theorem ssrc_of {W : World} {p : Option Addr} {m : Sps} (h : Cells W p m) : SSrc W p m := by
  cases p with
  | none =>
    left
    refine ⟨rfl, ?_⟩
    rcases h with h | ⟨_, _, e, _⟩
    · exact h
    · cases e
  | some ad =>
    refine .inr ⟨ad, rfl, fun j u hu => ?_⟩
    rcases h with rfl | ⟨b, off, e, hc⟩
    · simp [flat] at hu
    · cases e
      have hj : j < m.length * 2 := by rw [← flat_length]; exact (List.getElem?_eq_some_iff.1 hu).1
      have h1 := hc (j / 2) (by omega)
      have h2 := flat_get m (j / 2) (by omega)
      rw [WideShapes.add_plain]
      rcases Nat.mod_two_eq_zero_or_one j with e | e
      · rw [show j = j / 2 * 2 by omega, h2.1] at hu
        cases hu
        rw [show off + j = off + j / 2 * 2 by omega]; exact h1.1
      · rw [show j = j / 2 * 2 + 1 by omega, h2.2] at hu
        cases hu
        rw [show off + j = off + j / 2 * 2 + 1 by omega]; exact h1.2

theorem flat_cell (l : Sps) : ∀ u ∈ flat l, u.oneCell' = true := by
  intro u hu
  unfold flat at hu
  rw [List.mem_flatMap] at hu
  obtain ⟨s, _, hs⟩ := hu
  simp at hs
  rcases hs with rfl | rfl <;> rfl

theorem run_append_none (w : World) (base : Nat) (v : Value) (l : Sps) (hown : Owns w base v l) (c : Nat) :
    (Builtin.append_ #[37, 37] 37 #[v, .slice none 0 c]).run Try.prog w = .ok v w := by
  obtain ⟨i0, hi0, hz0, hz1, hz2⟩ := info_parts info_span
  rcases hown.2 with ⟨rfl, h0⟩ | ⟨g, cap, cur, rfl, _, _, hnc, _⟩
  · simp [Builtin.append_, run_underlying (P := Try.prog) Try.underlying37, sizeOf, typeInfo, hi0, Builtin.lenOf, Builtin.firstCells]
  · simp [Builtin.append_, run_underlying (P := Try.prog) Try.underlying37, sizeOf, typeInfo, hi0, Builtin.lenOf, Builtin.firstCells, hnc, storeCells]

theorem run_append_arg (w : World) (base : Nat) (v : Value) (l : Sps) (hown : Owns w base v l) (p : Option Addr) (c : Nat) (m : Sps) (hs : SSrc w p m) (hN : l.length + m.length ≤ 100000) (hbase : base ≤ w.heap.size) :
    ∃ v' w', (Builtin.append_ #[37, 37] 37 #[v, .slice p m.length c]).run Try.prog w = .ok v' w' ∧ Owns w' base v' (l ++ m) ∧ w.grownBy w' v.ownBlock ∧ (v'.ownBlock = v.ownBlock ∨ v'.ownBlock = some w.heap.size) := by
  obtain ⟨i0, hi0, hz0, hz1, hz2⟩ := info_parts info_span
  rcases hs with ⟨rfl, rfl⟩ | ⟨ad, rfl, hc⟩
  · exact ⟨v, w, run_append_none w base v l hown c, by rw [List.append_nil]; exact hown, World.grownBy.refl w _, .inl rfl⟩
  · obtain ⟨v', w', h1, h2, h3, _, h5⟩ := run_append_own_at (P := Try.prog) w base 37 37 47 i0 _ 2 16 Try.underlying37 hi0 hz0 hz1 hz2 rfl (by omega) v l.length (flat l) hown ad m.length c (flat m) (flat_length m) hc (flat_cell m) (by simp only [maxLen]; omega) (by omega) hbase
    refine ⟨v', w', h1, ?_, h3, h5⟩
    unfold Owns
    rw [flat_append, List.length_append]
    exact h2

theorem wp_append_arg {o : Oper} {a : Act} {K : Act → World → Prop} {Q : Exit → Act → World → Prop} (w : World) (s x : Operand)
    (ho : o.op = .call { callee := .builtin .append, args := #[s, x], argTypes := #[37, 37] }) (hty : o.type = 37)
    (base : Nat) (v : Value) (l : Sps) (hs : a.eval s = v) (hown : Owns w base v l) (p : Option Addr) (n c : Nat) (m : Sps) (hn : m.length = n) (hx : a.eval x = .slice p n c) (hsr : SSrc w p m) (hN : l.length + m.length ≤ 100000) (hbase : base ≤ w.heap.size)
    (h : ∀ v' w', Owns w' base v' (l ++ m) → w.grownBy w' v.ownBlock → (v'.ownBlock = v.ownBlock ∨ v'.ownBlock = some w.heap.size) → K (a.put o.dst v') w') : o.wp Try.prog a w K Q := by
  subst hn
  obtain ⟨v', w', hr, h2, h3, h4⟩ := run_append_arg w base v l hown p c m hsr hN hbase
  unfold Oper.wp execOp
  simp only [ho, hty, resolve, invoke, builtin, Sem.run_bind, Sem.run_pure, Result.andThen_ok, List.map_toArray, List.map_cons, List.map_nil, hs, hx, hr]
  exact h v' w' h2 h3 h4

theorem Owns.below_row {W w1 w : World} {base : Nat} {v : Value} {l : Sps} (h : Owns W base v l) (hb : Below w.heap.size w W) (hbase : w.heap.size ≤ base) (hg : W.grownBy w1 v.ownBlock) : Below w.heap.size w w1 :=
  hb.grown hg hb.size fun j ej => by
    rcases h.2 with ⟨rfl, _⟩ | ⟨g, cap, cur, rfl, hb, _, _⟩
    · simp [Value.ownBlock] at ej
    · obtain rfl : g = j := by simpa [Value.ownBlock] using ej
      omega


theorem EOwns.low {W : World} {base b2 : Nat} {v : Value} {es : List Int} (h : EOwns W base v es) (hb : b2 ≤ base) : EOwns W b2 v es := by
  refine ⟨h.1, ?_⟩
  rcases h.2 with h1 | ⟨g, cap, cur, e, hb', rest⟩
  · exact .inl h1
  · exact .inr ⟨g, cap, cur, e, by omega, rest⟩
theorem docket_new (w : World) : (w.alloc (.cells #[.slice none 0 0, .int .i64 0] 66)).heap[w.heap.size]? = some (.cells #[.slice none 0 0, .int .i64 0] 66 (0, 0)) := World.alloc_heap_new w _
theorem FCells.alloc {w : World} {p : Option Addr} {l : List Fl} (h : FCells w p l) (o : Obj) : FCells (w.alloc o) p l := h.below ((Below.refl _ _).alloc (Nat.le_refl _) o)
/-- file, called upon a docket that has just been made. -/
theorem file_new (l : List Fl) (p : Option Addr) (cap : Nat) (w : World) (hc : FCells w p l) (bd : ∀ f ∈ l, f.Bd) (hl : l.length ≤ 100000) :
    Calls Try.prog 31 #[.pointer (some ⟨w.heap.size, 0, none⟩), .slice p l.length cap] (w.alloc (.cells #[.slice none 0 0, .int .i64 0] 66)) fun e W' => ∃ v, e = .returned v ∧ EOwns W' w.heap.size v (errsD l) ∧ DkAt W' (w.heap.size + 1) w.heap.size (runD l).cs (runD l).last ∧ Below w.heap.size w W' := by
  refine (file_any w.heap.size l p cap _ (docket_new w) (hc.alloc _) bd hl).mono ?_
  rintro e W ⟨v, rfl, ho, hd, hb⟩
  rw [World.size_alloc] at ho hd
  exact ⟨v, rfl, ho.low (Nat.le_succ _), hd, hb.belowOf ((Below.refl _ _).alloc (Nat.le_refl _) _) (by simp) (Nat.le_refl _)⟩

set_option maxHeartbeats 1000000 in
theorem run_any (l : List Fl) (p : Option Addr) (cap : Nat) (w : World) (hc : FCells w p l) (bd : ∀ f ∈ l, f.Bd) (hl : l.length ≤ 100000) :
    Calls Try.prog 14 #[.slice p l.length cap] w fun e W' => ∃ v, e = .returned v ∧ EOwns W' w.heap.size v (errsD l) ∧ Below w.heap.size w W' := by
  have CF := Lib.hid (file_new l p cap w hc bd hl)
  clear hc bd
  go_enter Try.func14, Try.ntmps14
  go_wp2_with fail
  refine CF.out.mono ?_
  rintro e W ⟨v, rfl, ho, _, hb⟩
  go_wp2
  go_ret
  exact ⟨v, rfl, ho, hb⟩

/-- A case is handed back, its held days in memory of its own. -/
def AtPost (c : Cs) (w : World) (e : Ending) (w' : World) : Prop := ∃ u, e = .returned (.agg #[.bool c.el, .int .u8 c.st, .int .i64 c.opened, .int .i64 c.days, .int .i64 c.choice, .int .i64 c.level, .int .i64 c.due, .bool c.hold, .int .i64 c.since, u]) ∧ Owns w' w.heap.size u c.held ∧ Below w.heap.size w w'
theorem res_mid {w W1 : World} {o : Obj} {cs : Array Value} {t : TypeId} {C : Nat} (q : But C ((w.alloc (.cells cs t)).alloc o) W1) (hC : w.heap.size ≠ C) : W1.heap[w.heap.size]? = some (.cells cs t (0, 0)) := by
  have h1 : (w.alloc (.cells cs t)).heap[w.heap.size]? = some (.cells cs t (0, 0)) := World.alloc_heap_new w _
  have h2 := (((Below.refl _ (w.alloc (.cells cs t))).alloc (Nat.le_refl _) o).block w.heap.size (Array.getElem?_eq_some_iff.1 h1).1).trans h1
  exact (q.block _ (Array.getElem?_eq_some_iff.1 h2).1 hC).trans h2

def zeroCase : Array Value := #[.bool false, .int .u8 0, .int .i64 0, .int .i64 0, .int .i64 0, .int .i64 0, .int .i64 0, .bool false, .int .i64 0, .slice none 0 0]
theorem at_mid {W2 w3 : World} {R C : Nat} {c : Cs} (Q : CaseAt W2 C c) (hR : W2.heap[R]? = some (.cells zeroCase 39 (0, 0))) (hg : W2.grownBy w3 (Value.slice none 0 0).ownBlock) :
    (∃ v, CaseCells w3 C 0 c v ∧ CsAt w3 C c v) ∧ w3.frozen? ⟨C, 9, none⟩ = false ∧ w3.heap[R]? = some (.cells zeroCase 39 (0, 0)) ∧ (w3.cell? ⟨R, 0, none⟩ = some (.bool false) ∧ w3.cell? ⟨R, 1, none⟩ = some (.int .u8 0) ∧ w3.cell? ⟨R, 2, none⟩ = some (.int .i64 0) ∧ w3.cell? ⟨R, 3, none⟩ = some (.int .i64 0) ∧ w3.cell? ⟨R, 4, none⟩ = some (.int .i64 0) ∧ w3.cell? ⟨R, 5, none⟩ = some (.int .i64 0) ∧ w3.cell? ⟨R, 6, none⟩ = some (.int .i64 0) ∧ w3.cell? ⟨R, 7, none⟩ = some (.bool false) ∧ w3.cell? ⟨R, 8, none⟩ = some (.int .i64 0) ∧ w3.cell? ⟨R, 9, none⟩ = some (.slice none 0 0)) ∧ ∀ i, w3.frozen? ⟨R, i, none⟩ = false := by
  have hb : Below W2.heap.size W2 w3 := (Below.refl _ _).grown hg (Nat.le_refl _) (fun k hk => by cases hk)
  obtain ⟨v, A, _⟩ := Q.later hb
  have hR3 := (hb.block R (Array.getElem?_eq_some_iff.1 hR).1).trans hR
  refine ⟨⟨v, A.cell, A⟩, A.frozen 9, hR3, ?_, fun i => by simp [World.frozen?, hR3]⟩
  simp only [World.cell?, hR3]
  exact ⟨rfl, rfl, rfl, rfl, rfl, rfl, rfl, rfl, rfl, rfl⟩

/-- The result's cells are written. -/
def atWorld (w3 : World) (R C : Nat) (c : Cs) (u : Value) : World :=
  (((((((((w3.setCell ⟨C, 9, none⟩ u).setCell ⟨R, 0, none⟩ (.bool c.el)).setCell ⟨R, 1, none⟩ (.int .u8 c.st)).setCell ⟨R, 2, none⟩ (.int .i64 c.opened)).setCell ⟨R, 3, none⟩ (.int .i64 c.days)).setCell ⟨R, 4, none⟩ (.int .i64 c.choice)).setCell ⟨R, 5, none⟩ (.int .i64 c.level)).setCell ⟨R, 6, none⟩ (.int .i64 c.due)).setCell ⟨R, 7, none⟩ (.bool c.hold)).setCell ⟨R, 8, none⟩ (.int .i64 c.since) |>.setCell ⟨R, 9, none⟩ u
theorem atWorld_eq (w3 : World) (R C : Nat) (c : Cs) (u : Value) : atWorld w3 R C c u = setCase (w3.setCell ⟨C, 9, none⟩ u) R 0 c u := rfl
theorem at_end {w w3 : World} {R C : Nat} {c' : Cs} {v4 : Value} (hR : w3.heap[R]? = some (.cells zeroCase 39 (0, 0))) (hC : CsAt w3 C c' v4) (hne : R ≠ C) (hb : Below w.heap.size w w3) (h1 : w.heap.size ≤ R) (h2 : w.heap.size ≤ C) (c : Cs) (u : Value) {base : Nat} (ho : Owns w3 base u c.held) :
    (atWorld w3 R C c u).heap[R]? = some (.cells #[.bool c.el, .int .u8 c.st, .int .i64 c.opened, .int .i64 c.days, .int .i64 c.choice, .int .i64 c.level, .int .i64 c.due, .bool c.hold, .int .i64 c.since, u] 39 (0, 0)) ∧
    Below w.heap.size w (atWorld w3 R C c u) ∧ Owns (atWorld w3 R C c u) base u c.held := by
  rw [atWorld_eq]
  have b1 := (But.refl C w3).set_ 9 u
  have hR1 := (b1.block R (Array.getElem?_eq_some_iff.1 hR).1 hne).trans hR
  obtain ⟨cur, hc1, hc2⟩ := setCase_row (i := 0) c u hR1
  have b2 := setCase_but (w3.setCell ⟨C, 9, none⟩ u) R 0 c u
  have hcur : cur = #[.bool c.el, .int .u8 c.st, .int .i64 c.opened, .int .i64 c.days, .int .i64 c.choice, .int .i64 c.level, .int .i64 c.due, .bool c.hold, .int .i64 c.since, u] := by
    apply Array.toList_inj.1
    rw [hc2]; rfl
  rw [hcur] at hc1
  refine ⟨hc1, ⟨b2.os.trans (b1.os.trans hb.os), b2.tape.trans (b1.tape.trans hb.tape), b2.output.trans (b1.output.trans hb.output), Nat.le_trans hb.size (Nat.le_trans b1.size b2.size), fun k hk => ?_⟩, Owns.butCase hR1 b2 (Owns.butCase hC b1 ho)⟩
  have hk3 : k < w3.heap.size := Nat.lt_of_lt_of_le hk hb.size
  exact (b2.block k (Nat.lt_of_lt_of_le hk3 b1.size) (by omega)).trans ((b1.block k hk3 (by omega)).trans (hb.block k hk))

set_option maxHeartbeats 2000000 in
set_option maxRecDepth 100000 in
theorem at_any (base B k : Nat) (L : List Cs) (last d : Int) (w : World) (h : DkAt w base B L last) (hkl : k < L.length) (ok : (L[k]).Ok) (hd : 0 ≤ d ∧ d ≤ 65535) (hL : L.length ≤ 100) :
    Calls Try.prog 33 #[.pointer (some ⟨B, 0, none⟩), .int .i64 ((k : Int) + 1), .int .i64 d] w (AtPost (atP L[k] d) w) := by
  have OK := Lib.hid ok
  obtain ⟨g, cap, u, c0, _, hgB, hbg, hcc, ho, hz⟩ := h.read k hkl
  obtain ⟨pu, cu, rfl, _⟩ := ho.form
  have HO := Lib.hid ho
  obtain ⟨r0, r1, r2, r3, r4, r5, r6, r7, r8, r9⟩ := hcc
  have hBl := h.lt
  have hgl : g < w.heap.size := World.block_lt_of_cell? w _ r0
  have hgw : g ≠ w.heap.size := by omega
  have hBw : B ≠ w.heap.size := by omega
  clear h ho ok
  go_enter Try.func33, Try.ntmps33
  go_wp2_with fail
  refine (pass_any (w.heap.size + 1) L[k] d _ (caseAt_new ?_ ?_) OK.out).mono ?_
  · exact World.ownsRow.alloc HO.out _
  · simp
  rintro e W1 ⟨rfl, q1, q2⟩
  have HB1 := Lib.hid (q2.belowOf (base := w.heap.size) (w0 := w) (((Below.refl _ _).alloc (Nat.le_refl _) _).alloc (by simp) _) (by simp; omega) (by omega))
  have R1 := Lib.hid (res_mid q2 (by omega))
  have ok1 := Lib.hid (passP_ok OK.out d)
  obtain ⟨c', hc'⟩ : ∃ c', c' = passP L[k] d := ⟨_, rfl⟩
  have HC' := Lib.hid hc'
  rw [← hc'] at ok1 q1
  have Q1 := Lib.hid q1
  have hC1 : w.heap.size + 1 < W1.heap.size := by obtain ⟨_, A1, _⟩ := q1; exact A1.lt
  have z1 := HB1.out.size
  have HE := Lib.hid (show atP L[k] d = { c' with held := heldP c' (d + 1) } by unfold atP; rw [← HC'.out])
  obtain ⟨hl, hhl⟩ : ∃ hl, hl = heldP c' (d + 1) := ⟨_, rfl⟩
  have CH := Lib.hid (held_any (w.heap.size + 1) c' (d + 1) W1 Q1.out ok1.out.h)
  rw [← hhl] at CH
  have HL14 := Lib.hid (show hl.length ≤ 14 by rw [hhl]; exact Nat.le_trans (heldP_len ok1.out _) hb_max)
  rw [← hhl] at HE
  clear q1 q2 c0 r0 r1 r2 r3 r4 r5 r6 r7 r8 r9 hz hc' hhl
  go_wp2_with fail
  refine CH.out.mono ?_
  rintro e W2 ⟨u2, rfl, ho2, hb2⟩
  obtain ⟨p2, c2, rfl, hcl2⟩ := ho2.form
  have HS := Lib.hid (ssrc_of hcl2)
  have HB2 := Lib.hid (below_next HB1.out hb2)
  have R2 := Lib.hid ((hb2.block w.heap.size (by omega)).trans R1.out)
  have Q2 := Lib.hid (Q1.out.later hb2)
  have hsz2 := hb2.size
  clear hcl2 ho2 hb2
  go_wp2_with (first | (at_builtin; refine wpList_plain rfl fun KK hKK => ?_; refine wp_append_arg _ _ _ rfl rfl w.heap.size (.slice none 0 0) [] rfl (Owns.nil _ _) p2 hl.length c2 hl rfl rfl HS.out (by have := HL14.out; simp; omega) HB2.out.size ?_; intro v3 w3 hown3 hgrow3 _; obtain ⟨p3, c3, rfl, _⟩ := Owns.form hown3; obtain ⟨⟨v4, ⟨t0, t1, t2, t3, t4, t5, t6, t7, t8, t9⟩, AA⟩, x9, R3, ⟨y0, y1, y2, y3, y4, y5, y6, y7, y8, y9⟩, yf⟩ := at_mid Q2.out R2.out hgrow3; simp only [Nat.zero_add] at t1 t2 t3 t4 t5 t6 t7 t8 t9; have f0 := yf 0; have f1 := yf 1; have f2 := yf 2; have f3 := yf 3; have f4 := yf 4; have f5 := yf 5; have f6 := yf 6; have f7 := yf 7; have f8 := yf 8; have f9 := yf 9; have HR3 := Lib.hid R3; have HA := Lib.hid AA; have HO3 := Lib.hid hown3; have HG3 := Lib.hid hgrow3; clear yf R3 AA hown3 hgrow3; refine hKK _ _ ?_; clear hKK) | fail)
  obtain ⟨e1, e2, e3⟩ := at_end HR3.out HA.out (by omega) (below_next HB2.out ((Below.refl _ _).grown HG3.out (Nat.le_refl _) (fun k hk => by cases hk))) (Nat.le_refl _) (by omega) { c' with held := hl } (.slice p3 hl.length c3) HO3.out
  refine bodyPost_ret (results_cell_row rfl _ _ w.heap.size 39 _ (0, 0) _ rfl e1 Try.underlying39 rfl (by kernel_rfl)) rfl ?_
  rw [HE.out]
  exact ⟨.slice p3 hl.length c3, rfl, e3, e2⟩

end Go.Proofs.Ytbpoedopdnjffaa
