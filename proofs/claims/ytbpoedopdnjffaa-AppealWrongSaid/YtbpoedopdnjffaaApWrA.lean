/- Appends of filings, inside a region that draws its order. -/
import Derived.Test.YtbpoedopdnjffaaApLawK
import Derived.Deep.AppendLies
import Derived.Deep.RegionHeld3
import Derived.Deep.CutRange
namespace Go.Proofs.Ytbpoedopdnjffaa
open Go.RowKit Go.Shelf Sp

theorem built_is3 (l : List Nt) (p : Option Addr) (cap : Nat) (w : World) (hc : NCells w p l) (bd : ∀ x ∈ l, x.Bd) :
    Calls Try.prog 13 #[.slice p l.length cap] w fun e w' => ∃ q cq, e = .returned (.slice q (builtP l).length cq) ∧ FCells w' q (builtP l) ∧ (builtP l).length ≤ cq ∧ Below w.heap.size w w' :=
  (built_any l p cap w hc bd).mono fun _ _ ⟨v, he, hr, hb⟩ => by
    have hv := hr.2
    obtain ⟨q, cq, rfl, hq⟩ := hr.form
    refine ⟨q, cq, he, hq, ?_, hb⟩
    rcases hv with ⟨e2, h0⟩ | ⟨g2, cap2, cur, e2, hb2, _, hcap, _⟩
    · omega
    · injection e2 with _ _ e5
      omega
theorem fl_add (b off j : Nat) : (⟨b, off, none⟩ : Addr).add j = ⟨b, off + j, none⟩ := by unfold Addr.add; split <;> simp_all
theorem FCells.news {w : World} {b off : Nat} {l : List Fl} (h : FCells w (some ⟨b, off, none⟩) l) : ∀ j u, (fflat l)[j]? = some u → w.cell? ((⟨b, off, none⟩ : Addr).add j) = some u := by
  intro j u hj
  rw [fl_add]
  have hjl : j < l.length * 6 := by
    have := (List.getElem?_eq_some_iff.1 hj).1
    rwa [fflat_length] at this
  have hi : j / 6 < l.length := by omega
  obtain ⟨b', off', e, c0, c1, c2, c3, c4, c5⟩ := h.at (j / 6) hi
  cases e
  have e1 := fflat_get l (j / 6) (j % 6) hi (by omega)
  rw [show j / 6 * 6 + j % 6 = j by omega, hj] at e1
  have e2 : off + j = off + j / 6 * 6 + j % 6 := by omega
  rw [e2]
  rcases (show j % 6 = 0 ∨ j % 6 = 1 ∨ j % 6 = 2 ∨ j % 6 = 3 ∨ j % 6 = 4 ∨ j % 6 = 5 by omega) with e3 | e3 | e3 | e3 | e3 | e3 <;> rw [e3] at e1 ⊢ <;> simp [flRow] at e1 <;> subst e1
  · exact c0
  · exact c1
  · exact c2
  · exact c3
  · exact c4
  · exact c5
theorem FCells.drop {w : World} {b off : Nat} {l : List Fl} (h : FCells w (some ⟨b, off, none⟩) l) (k : Nat) : FCells w (some ⟨b, off + k * 6, none⟩) (l.drop k) := by
  by_cases hk : l.drop k = []
  · exact .inl hk
  · refine .inr ⟨b, off + k * 6, rfl, fun i hi => ?_⟩
    rw [List.length_drop] at hi
    obtain ⟨b', off', e, c⟩ := h.at (k + i) (by omega)
    cases e
    rw [List.getElem_drop, show off + k * 6 + i * 6 = off + (k + i) * 6 by omega]
    exact c
theorem FCells.grown {w w' : World} {q : Option Addr} {l : List Fl} {row : Option Nat} (h : FCells w q l) (hg : w.grownBy w' row) (hne : ∀ g o, q = some ⟨g, o, none⟩ → row ≠ some g) : FCells w' q l := by
  rcases h with h | ⟨b, off, hv, hc⟩
  · exact .inl h
  · refine .inr ⟨b, off, hv, fun i hi => ?_⟩
    have h1 := hc i hi
    have e := hg.block b (World.block_lt_of_cell? w _ h1.1) (fun e => hne b off hv e.symm)
    simp only [World.cell?] at h1 ⊢
    simpa only [e] using h1
theorem info_fil2 : ∃ i, Try.prog.info? 30 = some i ∧ i.zero = some (.agg #[.int .u8 0, .int .i64 0, .int .i64 0, .int .i64 0, .int .i64 0, .bool false]) ∧ i.size = 6 ∧ i.bytes = 48 := info_parts info_filing

section
variable {ops : Array Oper} {o : Oper} {a : Act} {w : World} {K : Act → World → Prop} {Q : Exit → Act → World → Prop} {E : Prop}
set_option maxRecDepth 100000 in
/-- One append of filings to a row of one's own, as a step. -/
theorem step_app (hgd : o.guard = none) (s x : Operand) (ho : o.op = .call { callee := .builtin .append, args := #[s, x], argTypes := #[22, 22] })
    (base b cap : Nat) (la : List Fl) (hs : a.eval s = .slice (some ⟨b, 0, none⟩) la.length cap) (hown : FOwns w base (.slice (some ⟨b, 0, none⟩) la.length cap) la)
    (q : Option Addr) (m c : Nat) (lb : List Fl) (hx : a.eval x = .slice q m c) (hm : lb.length = m) (hq : FCells w q lb) (hbd : la.length ≤ 100 ∧ lb.length ≤ 100) (hbase : base ≤ w.heap.size)
    (h : ∀ g cap w', FOwns w' base (.slice (some ⟨g, 0, none⟩) (la.length + m) cap) (la ++ lb) → w.grownBy w' (some b) → K (a.put o.dst (.slice (some ⟨g, 0, none⟩) (la.length + m) cap)) w') :
    if Region.wanted o (yielded ops a.tmps) = true then Oper.wp Try.prog o a w K Q else E := by
  subst hm
  have hw : Region.wanted o (yielded ops a.tmps) = true := by simp [Region.wanted, hgd]
  obtain ⟨i, hi, hz, hsz, hby⟩ := info_fil2
  by_cases h0 : lb = []
  · subst h0
    rw [if_pos hw]
    have hrun : (Builtin.append_ #[22, 22] o.type #[.slice (some ⟨b, 0, none⟩) la.length cap, .slice q 0 c]).run Try.prog w = .ok (.slice (some ⟨b, 0, none⟩) la.length cap) w := by
      have hroom : la.length + 0 ≤ cap := by
        rcases hown.2 with ⟨e, _⟩ | ⟨g, cap2, cur, e, _, _, hc, _⟩
        · cases e
        · injection e with _ _ e3
          omega
      cases q with
      | some ad =>
        have := run_append_room_cells (P := Try.prog) (w := w) 22 o.type 30 i Try.underlying22 hi b 0 la.length cap ad 0 c [] (by simp) (by simp) (by simp) hroom (by simp) (by simp)
        simpa [World.setCells] using this
      | none => simp [Builtin.append_, run_underlying Try.underlying22, sizeOf, typeInfo, hi, Builtin.lenOf, show la.length ≤ cap from by omega, Builtin.firstCells, storeCells, Result.andThen]
    unfold Oper.wp
    simp [execOp, ho, resolve, invoke, builtin, hs, hx, hrun, Result.andThen]
    have := h b cap w (by simpa using hown) ⟨rfl, rfl, rfl, Nat.le_refl _, fun _ _ _ => rfl⟩
    exact this
  · have hl0 : 0 < lb.length := List.length_pos_iff.2 h0
    obtain ⟨b2, off2, e2, hc2⟩ := hq.resolve_left h0
    subst e2
    have hq2 : FCells w (some ⟨b2, off2, none⟩) lb := .inr ⟨b2, off2, rfl, hc2⟩
    refine step_append_lies w hgd s x 22 ho base 30 i _ 6 48 Try.underlying22 hi hz hsz hby rfl (by decide) _ la.length (fflat la) hs hown ⟨b2, off2, none⟩ lb.length c (fflat lb) hx (fflat_length lb) hq2.news ?_ hl0 (by unfold maxLen; omega) (by omega) hbase _ rfl ?_
    · intro u hu
      unfold fflat at hu
      obtain ⟨f, _, hf⟩ := List.mem_flatMap.1 hu
      exact flRow_cell f u hf
    · intro g cap' w' ho' hg _ _
      refine h g cap' w' ?_ hg
      unfold FOwns
      rw [List.length_append, fflat_append]
      exact ho'
theorem wpList_build {P : Program} {rest : List Oper} {t : TypeId} {parts : Array (Nat × Operand)} (ps : Array (Nat × Value)) (v : Value) (hg : o.guard = none) (ho : o.op = .build t parts) (hps : (parts.map fun (i, x) => (i, a.eval x)) = ps)
    (hrun : (Instr.build t ps).run P w = .ok v w) (h : wpList P ops Q rest (a.put o.dst v) w) : wpList P ops Q (o :: rest) a w :=
  wpList_plain hg fun K hK => by
    subst hps
    unfold Oper.wp
    simp only [execOp, ho]
    simp [hrun, Result.andThen]
    exact hK _ _ h
theorem wpList_index {P : Program} {rest : List Oper} {t : TypeId} {x i : Operand} (xv iv v : Value) (hg : o.guard = none) (ho : o.op = .index t x i) (hx : a.eval x = xv) (hi : a.eval i = iv)
    (hrun : (Instr.index t xv iv).run P w = .ok v w) (h : wpList P ops Q rest (a.put o.dst v) w) : wpList P ops Q (o :: rest) a w :=
  wpList_plain hg fun K hK => by
    subst hx hi
    unfold Oper.wp
    simp only [execOp, ho]
    simp [hrun, Result.andThen]
    exact hK _ _ h
end
end Go.Proofs.Ytbpoedopdnjffaa
