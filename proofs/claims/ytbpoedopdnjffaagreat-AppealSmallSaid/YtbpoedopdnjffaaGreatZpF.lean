/- What file's loop keeps from round to round. file: the table of the methods, in whatever order its entries are laid. Run, at, At, Held, Settles. At, Held, Settles. Settles. The kit's SameSpans, SameCase, SameCases; stays, Pick. taken, last; the filings of the example. -/
import Derived.Test.YtbpoedopdnjffaaGreatZpD
import Derived.Test.YtbpoedopdnjffaaGreatZpE
import Derived.Laws.OwnMore
import Derived.Deep.OwnRows
import Derived.Test.YtbpoedopdnjffaaGreatZpC
import Derived.Maps.AppendAt
namespace Go.Proofs.YtbpoedopdnjffaaGreat
open Go.RowKit Go.Shelf Sp

/-- The errors so far, zeros behind them. -/
def ErrRow (W : World) (E : Nat) (es : List Int) (n : Nat) : Prop := ∃ cur, W.heap[E]? = some (.cells cur 40 (0, 0)) ∧ cur.toList = es.map (Value.int .i64) ++ List.replicate (n - es.length) (.int .i64 0)
theorem ErrRow.set_ {W : World} {E n : Nat} {es : List Int} (h : ErrRow W E es n) (hl : es.length < n) (x : Int) : ErrRow (W.setCell ⟨E, es.length, none⟩ (.int .i64 x)) E (es ++ [x]) n := by
  obtain ⟨cur, h1, h2⟩ := h
  refine ⟨_, setCell_row _ h1, ?_⟩
  rw [Array.toList_setIfInBounds, h2, List.set_append_right _ _ (by simp)]
  obtain ⟨m, hm⟩ : ∃ m, n - es.length = m + 1 := ⟨n - es.length - 1, by omega⟩
  rw [hm, List.length_map, Nat.sub_self, List.replicate_succ, List.set_cons_zero, List.map_append, List.length_append, List.length_singleton, show n - (es.length + 1) = m by omega]
  simp
theorem ErrRow.cell {W : World} {E n : Nat} {es : List Int} (h : ErrRow W E es n) : (∀ i, i < n → ∃ v, W.cell? ⟨E, i, none⟩ = some v) ∧ ∀ i, W.frozen? ⟨E, i, none⟩ = false := by
  obtain ⟨cur, h1, h2⟩ := h
  refine ⟨fun i hi => ?_, fun i => by simp [World.frozen?, h1]⟩
  have hs : cur.size = es.length + (n - es.length) := by rw [← Array.length_toList, h2]; simp
  exact ⟨cur[i]'(by omega), by simp [World.cell?, h1, show i < cur.size by omega]⟩
theorem ErrRow.lt {W : World} {E n : Nat} {es : List Int} (h : ErrRow W E es n) : E < W.heap.size := by
  obtain ⟨cur, h1, _⟩ := h; exact (Array.getElem?_eq_some_iff.1 h1).1
theorem ErrRow.of_block {W W' : World} {E n : Nat} {es : List Int} (h : ErrRow W E es n) (e : W'.heap[E]? = W.heap[E]?) : ErrRow W' E es n := by
  obtain ⟨cur, h1, h2⟩ := h; exact ⟨cur, e.trans h1, h2⟩
theorem ErrRow.dfr {W W' : World} {base B E n : Nat} {es : List Int} (h : ErrRow W E es n) (hd : DFr base B W W') (hne : E ≠ B) : ErrRow W' E es n := by
  obtain ⟨cur, h1, h2⟩ := h
  exact ⟨cur, hd.other h1 hne (fun cs z e => by injection e with _ e _; exact absurd e (by decide)), h2⟩

/-- The slice v holds the errors es, in memory of its own. -/
def EOwns (W : World) (base : Nat) (v : Value) (es : List Int) : Prop := W.ownsRow base 40 1 v es.length (es.map (Value.int .i64))
theorem ErrRow.owns {W : World} {E base : Nat} {es : List Int} (h : ErrRow W E es es.length) (hb : base ≤ E) (hm : es.length ≤ maxLen) : EOwns W base (.slice (some ⟨E, 0, none⟩) es.length es.length) es := by
  obtain ⟨cur, h1, h2⟩ := h
  have h3 : cur.toList = es.map (Value.int .i64) := by rw [h2]; simp
  refine ⟨by simp, .inr ⟨E, es.length, cur, rfl, hb, h1, Nat.le_refl _, hm, ?_, ?_⟩⟩
  · rw [← Array.length_toList, h3]; simp
  · rw [h3, List.take_of_length_le (by simp)]

/-- A docket whose last day is written. -/
theorem DkAt.setLast {W : World} {base B : Nat} {L : List Cs} {last : Int} (h : DkAt W base B L last) (d : Int) : DkAt (W.setCell ⟨B, 1, none⟩ (.int .i64 d)) base B L d := by
  obtain ⟨v, ps, hm, hB, hr⟩ := h
  refine ⟨v, ps, hm, by have := setCell_row (i := 1) (.int .i64 d) hB; simpa using this, hr.of_but ((But.refl B W).set_ 1 _) ⟨fun cs z e => ?_, fun cs z e => ?_⟩⟩
  · rw [hB] at e; injection e with e; injection e with _ e _; exact absurd e (by decide)
  · rw [hB] at e; injection e with e; injection e with _ e _; exact absurd e (by decide)
/-- A store into a block of errors leaves a docket alone. -/
theorem DkAt.setErr {W : World} {base B E n : Nat} {L : List Cs} {last : Int} {es : List Int} (h : DkAt W base B L last) (he : ErrRow W E es n) (i : Nat) (x : Value) : DkAt (W.setCell ⟨E, i, none⟩ x) base B L last := by
  obtain ⟨cur, h1, _⟩ := he
  obtain ⟨v, ps, hm, hB, hr⟩ := h
  have hb := (But.refl E W).set_ i x
  have hEB : B ≠ E := by
    rintro rfl
    rw [hB] at h1
    injection h1 with h1
    injection h1 with _ e _
    exact absurd e (by decide)
  refine ⟨v, ps, hm, (hb.block B (Array.getElem?_eq_some_iff.1 hB).1 hEB).trans hB, hr.of_but hb ⟨fun cs z e => ?_, fun cs z e => ?_⟩⟩
  · rw [h1] at e; injection e with e; injection e with _ e _; exact absurd e (by decide)
  · rw [h1] at e; injection e with e; injection e with _ e _; exact absurd e (by decide)
theorem DkAt.ne_err {W : World} {base B E n : Nat} {L : List Cs} {last : Int} {es : List Int} (h : DkAt W base B L last) (he : ErrRow W E es n) : E ≠ B := by
  obtain ⟨cur, h1, _⟩ := he
  obtain ⟨v, ps, hm, hB, hr⟩ := h
  rintro rfl
  rw [hB] at h1
  injection h1 with h1
  injection h1 with _ e _
  exact absurd e (by decide)

/-- Between two rounds. -/
structure FInv (w : World) (B M E : Nat) (es : Array MapEntry) (clock : Nat) (l : List Fl) (k : Nat) (W : World) : Prop where
  dk : DkAt W w.heap.size B (runD (l.take k)).cs (runD (l.take k)).last
  err : ErrRow W E (errsD (l.take k)) l.length
  map : W.heap[M]? = some (.map es clock)
  but : But B w W

theorem FInv.later {w : World} {B M E : Nat} {es : Array MapEntry} {clock : Nat} {l : List Fl} {k : Nat} {W W' : World} (h : FInv w B M E es clock l k W) (hb : Below W.heap.size W W') : FInv w B M E es clock l k W' :=
  ⟨h.dk.later hb, h.err.of_block (hb.block E h.err.lt), (hb.block M (Array.getElem?_eq_some_iff.1 h.map).1).trans h.map, h.but.below hb⟩
theorem FInv.meth {w : World} {B M E : Nat} {es : Array MapEntry} {clock : Nat} {l : List Fl} {k : Nat} {W W' : World} (h : FInv w B M E es clock l k W) (hd : DFr w.heap.size B W W') (hB : B < w.heap.size) :
    ErrRow W' E (errsD (l.take k)) l.length ∧ W'.heap[M]? = some (.map es clock) ∧ But B w W' := by
  refine ⟨h.err.dfr hd (h.dk.ne_err h.err), hd.other h.map ?_ (fun cs z e => by cases e), ⟨hd.os.trans h.but.os, hd.tape.trans h.but.tape, hd.output.trans h.but.output, Nat.le_trans h.but.size hd.size, fun j hj hjB => ?_⟩⟩
  · rintro rfl
    obtain ⟨v, ps, hm, hB', hr⟩ := h.dk
    have := h.map
    rw [hB'] at this
    cases this
  · exact (hd.block j (Nat.lt_of_lt_of_le hj h.but.size) hjB (.inl hj)).trans (h.but.block j hj hjB)
theorem FInv.eslen {w : World} {B M E : Nat} {es : Array MapEntry} {clock : Nat} {l : List Fl} {k : Nat} {W : World} (_ : FInv w B M E es clock l k W) (hk : k < l.length) : (errsD (l.take k)).length = k := by
  rw [errsD_length, List.length_take]; omega
/-- A filing is rejected. -/
theorem FInv.bad {w : World} {B M E : Nat} {es : Array MapEntry} {clock : Nat} {l : List Fl} {k : Nat} {W : World} (h : FInv w B M E es clock l k W) (hk : k < l.length) (hE : w.heap.size ≤ E) (hM : M ≠ E) (e : Int) (he : errD (runD (l.take k)) l[k] = e) (h0 : e ≠ 0) : FInv w B M E es clock l (k + 1) (W.setCell ⟨E, k, none⟩ (.int .i64 e)) := by
  have hl := h.eslen hk
  have hs := List.take_succ_eq_append_getElem hk
  have e1 : runD (l.take (k + 1)) = ⟨(runD (l.take k)).num + 1, (runD (l.take k)).cs, (runD (l.take k)).last⟩ := by
    rw [hs, runD_snoc]; unfold stepD; rw [if_neg (by rw [he]; exact h0)]
  have e2 : errsD (l.take (k + 1)) = errsD (l.take k) ++ [e] := by rw [hs, errsD_snoc, he]
  have hst := h.err.set_ (by rw [hl]; exact hk) e
  rw [hl] at hst
  refine ⟨?_, by rw [e2]; exact hst, (Below.heap_setCell W ⟨E, k, none⟩ _ M hM).trans h.map, ⟨h.but.os, h.but.tape, h.but.output, by simpa using h.but.size, fun j hj hjB => (Below.heap_setCell W ⟨E, k, none⟩ _ j (by show j ≠ E; omega)).trans (h.but.block j hj hjB)⟩⟩
  rw [e1]
  exact h.dk.setErr h.err k _
/-- A filing reached its method. -/
theorem FInv.done {w : World} {B M E : Nat} {es : Array MapEntry} {clock : Nat} {l : List Fl} {k : Nat} {W W' : World} (h : FInv w B M E es clock l k W) (hB : B < w.heap.size) (hk : k < l.length) (hE : w.heap.size ≤ E) (hM : M ≠ E)
    (hd : DFr w.heap.size B W W') (he : errD (runD (l.take k)) l[k] = errL (runD (l.take k)).cs l[k])
    (hdk : DkAt W' w.heap.size B (if errL (runD (l.take k)).cs l[k] = 0 then effL (runD (l.take k)).cs l[k] else (runD (l.take k)).cs) (runD (l.take k)).last) :
    (errL (runD (l.take k)).cs l[k] ≠ 0 → FInv w B M E es clock l (k + 1) (W'.setCell ⟨E, k, none⟩ (.int .i64 (errL (runD (l.take k)).cs l[k])))) ∧
    (errL (runD (l.take k)).cs l[k] = 0 → FInv w B M E es clock l (k + 1) ((W'.setCell ⟨E, k, none⟩ (.int .i64 0)).setCell ⟨B, 1, none⟩ (.int .i64 l[k].day))) := by
  obtain ⟨m1, m2, m3⟩ := h.meth hd hB
  have hl := h.eslen hk
  have hs := List.take_succ_eq_append_getElem hk
  refine ⟨fun h0 => ?_, fun h0 => ?_⟩
  · rw [if_neg h0] at hdk
    exact FInv.bad ⟨hdk, m1, m2, m3⟩ hk hE hM _ he h0
  · rw [if_pos h0] at hdk
    have e1 : runD (l.take (k + 1)) = ⟨(runD (l.take k)).num + 1, effL (runD (l.take k)).cs l[k], l[k].day⟩ := by
      rw [hs, runD_snoc]; unfold stepD; rw [if_pos (by rw [he]; exact h0)]
    have e2 : errsD (l.take (k + 1)) = errsD (l.take k) ++ [0] := by rw [hs, errsD_snoc, he, h0]
    have hst := m1.set_ (by rw [hl]; exact hk) 0
    rw [hl] at hst
    have hEB := hdk.ne_err m1
    have hMB : M ≠ B := by
      rintro rfl
      obtain ⟨v, ps, hm, hB', hr⟩ := hdk
      rw [hB'] at m2
      cases m2
    refine ⟨by rw [e1]; exact (hdk.setErr m1 k _).setLast _, by rw [e2]; exact hst.of_block (Below.heap_setCell _ ⟨B, 1, none⟩ _ E hEB),
      (Below.heap_setCell _ ⟨B, 1, none⟩ _ M hMB).trans ((Below.heap_setCell W' ⟨E, k, none⟩ _ M hM).trans m2), ⟨m3.os, m3.tape, m3.output, by simpa using m3.size, fun j hj hjB => (Below.heap_setCell _ ⟨B, 1, none⟩ _ j hjB).trans ((Below.heap_setCell W' ⟨E, k, none⟩ _ j (by show j ≠ E; omega)).trans (m3.block j hj hjB))⟩⟩

/-- Filings in memory lie elsewhere than a docket. -/
theorem FCells.but {w w' : World} {p : Option Addr} {l : List Fl} (h : FCells w p l) {B : Nat} {v : Value} {d : Int} (hB : w.heap[B]? = some (.cells #[v, .int .i64 d] 60 (0, 0))) (hb : But B w w') : FCells w' p l := by
  rcases h with h | ⟨b, off, hv, hc⟩
  · exact .inl h
  · refine .inr ⟨b, off, hv, fun i hi => ?_⟩
    have h1 := hc i hi
    have hne : b ≠ B := by
      rintro rfl
      have h2 := h1.2.1
      have h3 := h1.2.2.1
      have h5 := h1.2.2.2.2.2
      simp only [World.cell?, hB] at h5 h3 h2
      simp at h5 h3 h2
    have e := hb.block b (World.block_lt_of_cell? w _ h1.1) hne
    simp only [World.cell?] at h1 ⊢
    simpa only [e] using h1

/-- The table of the methods. -/
def meth7 (k : Nat) : Nat := match k with
  | 0 => 41
  | 1 => 42
  | 2 => 43
  | 3 => 44
  | 4 => 45
  | 5 => 46
  | _ => 47

/-- All the methods, by the kind of the filing. -/
theorem meth_any (base B : Nat) (L : List Cs) (last : Int) (f : Fl) (k : Nat) (hk : f.kind = (k : Int) + 1) (hw : f.Wf) (w : World) (h : DkAt w base B L last) (hb : base ≤ w.heap.size) (hL : L.length ≤ 100) (okc : ∀ c ∈ L, c.Ok) :
    Calls Tryz.prog (meth7 k) #[.pointer (some ⟨B, 0, none⟩), flAgg f] w (MPost base B L last f w) := by
  have h7 := hw.kind
  rcases (show k = 0 ∨ k = 1 ∨ k = 2 ∨ k = 3 ∨ k = 4 ∨ k = 5 ∨ k = 6 by omega) with rfl | rfl | rfl | rfl | rfl | rfl | rfl
  · exact elect_any base B L last f (by omega) hw w h hb hL
  · exact choose_any base B L last f (by omega) hw w h hL okc
  · exact lock_any base B L last f (by omega) hw w h hL okc
  · exact decide_any base B L last f (by omega) hw w h hb hL
  · exact appeal_any base B L last f (by omega) hw w h hL okc
  · exact rule_any base B L last f (by omega) hw w h hL okc
  · exact withdraw_any base B L last f (by omega) hw w h hL okc

end Go.Proofs.YtbpoedopdnjffaaGreat

namespace Go.Proofs.YtbpoedopdnjffaaGreat
open Go.RowKit Go.Shelf Sp

section
variable {P : Program} {ops : Array Oper} {o : Oper} {a : Act}
theorem yields_move {x : Operand} {v : Value} (hg : o.guard = none) (ho : o.op = .move x) (hx : a.eval x = v) : Yields P ops o v a := by
  refine .inl ⟨by simp [Region.wanted, hg], fun w => ?_⟩
  subst hx; exact BigFrame.run_move x ho w
theorem yields_assign {x : Operand} {v : Value} (hg : o.guard = none) (ho : o.op = .assign x) (hx : a.eval x = v) : Yields P ops o v a := by
  refine .inl ⟨by simp [Region.wanted, hg], fun w => ?_⟩
  subst hx; exact BigFrame.run_assign x ho w
theorem yields_nil {x : Operand} {p : Addr} (hg : o.guard = none) (ho : o.op = .nilCheck x) (hx : a.eval x = .pointer (some p)) : Yields P ops o (.pointer (some p)) a := by
  refine .inl ⟨by simp [Region.wanted, hg], fun w => ?_⟩
  unfold execOp; rw [ho]; simp only [hx]; simp [go_sem]
theorem yields_field {x : Operand} {B : Nat} (hg : o.guard = none) (ho : o.op = .fieldAddr 60 x 0) (hx : a.eval x = .pointer (some ⟨B, 0, none⟩)) : Yields Tryz.prog ops o (.pointer (some ⟨B, 0, none⟩)) a := by
  refine .inl ⟨by simp [Region.wanted, hg], fun w => ?_⟩
  unfold execOp; rw [ho]; simp only [hx]; simp [go_sem]
theorem yields_func {x : Operand} {f : Fn} {v : Value} (hg : o.guard = none) (ho : o.op = .makeFunc f #[x] #[]) (hx : a.eval x = v) : Yields P ops o (.func f #[v] #[]) a := by
  refine .inl ⟨by simp [Region.wanted, hg], fun w => ?_⟩
  unfold execOp; rw [ho]; simp only [hx, List.map_toArray, List.map_cons, List.map_nil]; simp [go_sem]
theorem wpOp_map {Q : Exit → Act → World → Prop} {K : Act → World → Prop} {i : Nat} {t : TypeId} {w : World} (ho : ops[i]? = some o) (hg : o.guard = none) (hop : o.op = .makeMap t none) (h : K (a.put o.dst (.map (some w.heap.size))) (w.alloc (.map #[] 0))) : wpOp P ops Q i K a w := by
  unfold wpOp
  rw [ho]
  have hw : Region.wanted o (yielded ops a.tmps) = true := by simp [Region.wanted, hg]
  simp only [hw, if_true]
  left
  unfold Oper.wp execOp
  rw [hop]
  simp [run_makeMap, Result.andThen, Oper.upon]
  exact h
end

/-- The frame while the table is laid. -/
def fileFr (B : Nat) (p : Option Addr) (n cap : Nat) (v5 v12 v13 v14 v15 v16 v17 v18 v19 v20 v21 v22 v23 v24 v25 v26 v27 v28 v29 v30 v31 v32 v33 v34 v35 v36 v37 v38 v39 v40 v41 : Value) : Act := { tmps := #[.pointer (some ⟨B, 0, none⟩), .slice p n cap, undef, undef, .slice none 0 0, v5, undef, undef, undef, .pointer (some ⟨B, 0, none⟩), .pointer (some ⟨B, 0, none⟩), .pointer (some ⟨B, 1, none⟩), v12, v13, v14, v15, v16, v17, v18, v19, v20, v21, v22, v23, v24, v25, v26, v27, v28, v29, v30, v31, v32, v33, v34, v35, v36, v37, v38, v39, v40, v41, undef, undef, undef, undef, undef, undef, undef, undef, undef, undef, undef, undef, undef, undef, undef, undef, undef, undef, undef, undef, undef, undef, undef, undef, undef, undef, undef, undef, undef, undef, undef, undef, undef, undef, undef, undef, undef, undef, undef, undef, undef, undef, undef, undef, undef, undef, undef, undef, undef, undef, undef, undef, undef, undef, undef], defers := [] }
def val7 (B k : Nat) : Value := .func (.func (meth7 k)) #[.pointer (some ⟨B, 0, none⟩)] #[]

theorem FCells.at {w : World} {p : Option Addr} {l : List Fl} (h : FCells w p l) (i : Nat) (hi : i < l.length) : ∃ b off, p = some ⟨b, off, none⟩ ∧
    w.cell? ⟨b, off + i * 6, none⟩ = some (.int .u8 l[i].kind) ∧ w.cell? ⟨b, off + i * 6 + 1, none⟩ = some (.int .i64 l[i].day) ∧ w.cell? ⟨b, off + i * 6 + 2, none⟩ = some (.int .i64 l[i].case) ∧
    w.cell? ⟨b, off + i * 6 + 3, none⟩ = some (.int .i64 l[i].n) ∧ w.cell? ⟨b, off + i * 6 + 4, none⟩ = some (.int .i64 l[i].til) ∧ w.cell? ⟨b, off + i * 6 + 5, none⟩ = some (.bool l[i].hold) := by
  rcases h with h | ⟨b, off, hv, hc⟩
  · rw [h] at hi; simp at hi
  · exact ⟨b, off, hv, hc i hi⟩
theorem ek7 (k : Nat) (hk : k < 7) : ∀ args w, (callFunc (meth7 k) args).run Tryz.prog w = .ok (.enter (meth7 k) args) w := by
  rcases (show k = 0 ∨ k = 1 ∨ k = 2 ∨ k = 3 ∨ k = 4 ∨ k = 5 ∨ k = 6 by omega) with rfl | rfl | rfl | rfl | rfl | rfl | rfl
  · exact enters_of Tryz.func41 (by kernel_rfl) rfl
  · exact enters_of Tryz.func42 (by kernel_rfl) rfl
  · exact enters_of Tryz.func43 (by kernel_rfl) rfl
  · exact enters_of Tryz.func44 (by kernel_rfl) rfl
  · exact enters_of Tryz.func45 (by kernel_rfl) rfl
  · exact enters_of Tryz.func46 (by kernel_rfl) rfl
  · exact enters_of Tryz.func47 (by kernel_rfl) rfl
theorem inv_start {w W wm : World} {B n : Nat} {es : Array MapEntry} {clock : Nat} {l : List Fl} (hB : w.heap[B]? = some (.cells #[.slice none 0 0, .int .i64 0] 60 (0, 0))) (hW : w.setCell ⟨B, 1, none⟩ (.int .i64 (-1)) = W) (hM : MapAt W.heap.size W.drew wm es clock) (hn : n = l.length) :
    FInv w B W.heap.size wm.heap.size es clock l 0 (wm.alloc (.cells (madeCells #[.int .i64 0] n) 40)) := by
  subst hW
  have h1 := setCell_row (i := 1) (.int .i64 (-1)) hB
  have hBl : B < w.heap.size := (Array.getElem?_eq_some_iff.1 hB).1
  have h2 := (hM.2.block B (by simpa using hBl)).trans h1
  have hal : Below wm.heap.size wm (wm.alloc (.cells (madeCells #[.int .i64 0] n) 40)) := (Below.refl _ _).alloc (Nat.le_refl _) _
  have h3 := (hal.block B (Array.getElem?_eq_some_iff.1 h2).1).trans h2
  refine ⟨⟨.slice none 0 0, [], rfl, by simpa [runD] using h3, CRow.nil _ _⟩, ⟨_, World.alloc_heap_new wm _, by rw [toList_madeCells_one, hn]; simp [errsD, errsFrom]⟩, (hal.block _ (Array.getElem?_eq_some_iff.1 hM.1).1).trans hM.1, ?_⟩
  exact ((((But.refl B w).set_ 1 _).drew).below hM.2).below hal

set_option maxHeartbeats 4000000 in
set_option maxRecDepth 100000 in
theorem file_any (B : Nat) (l : List Fl) (p : Option Addr) (cap : Nat) (w : World) (hB : w.heap[B]? = some (.cells #[.slice none 0 0, .int .i64 0] 60 (0, 0))) (hc : FCells w p l) (bd : ∀ f ∈ l, f.Bd) (hl : l.length ≤ 100000) :
    Calls Tryz.prog 27 #[.pointer (some ⟨B, 0, none⟩), .slice p l.length cap] w fun e W' => ∃ v, e = .returned v ∧ EOwns W' w.heap.size v (errsD l) ∧ DkAt W' w.heap.size B (runD l).cs (runD l).last ∧ But B w W' := by
  have c1 : w.cell? ⟨B, 1, none⟩ = some (.int .i64 0) := by simp [World.cell?, hB]
  have z1 : w.frozen? ⟨B, 1, none⟩ = false := by simp [World.frozen?, hB]
  have HB := Lib.hid hB
  have HC := Lib.hid hc
  have BD := Lib.hid bd
  have hBl : B < w.heap.size := (Array.getElem?_eq_some_iff.1 hB).1
  obtain ⟨n, hn⟩ : ∃ n, n = l.length := ⟨_, rfl⟩
  rw [← hn] at hl ⊢
  have HN := Lib.hid hn
  have hmk : ∀ W : World, (Instr.makeSlice 33 (.int .i64 (n : Int)) (.int .i64 (n : Int))).run Tryz.prog W = .ok (.slice (some ⟨W.heap.size, 0, none⟩) n n) (W.alloc (.cells (madeCells #[.int .i64 0] n) 40)) := fun W => run_make_row' (P := Tryz.prog) 33 40 (.int .i64 0) 8 Tryz.underlying33 (by kernel_rfl) rfl .i64 .i64 n (by omega) (by omega) W
  clear hB hc bd hn
  go_enter Tryz.func27, Tryz.ntmps27
  go_wp2
  generalize hW : w.setCell ⟨B, 1, none⟩ (.int .i64 (-1)) = W
  refine wp_region_noPanic (wp_region_any rfl ?_)

  change wpAny _ _ _ _ 38 #[false, false, false, false, false, false, false, false, false, false, false, false, false, false, false, false, false, false, false, false, false, false, false, false, false, false, false, false, false, false, false, false, false, false, false, false, false, false] (fileFr B p n cap undef undef undef undef undef undef undef undef undef undef undef undef undef undef undef undef undef undef undef undef undef undef undef undef undef undef undef undef undef undef undef) W.drew
  refine wpAny_take (i := 1) rfl (by kernel_rfl) (by kernel_rfl) (by kernel_rfl) (fun _ _ _ h => h) (yields_move rfl rfl rfl) ?_
  change wpAny _ _ _ _ 37 #[false, true, false, false, false, false, false, false, false, false, false, false, false, false, false, false, false, false, false, false, false, false, false, false, false, false, false, false, false, false, false, false, false, false, false, false, false, false] (fileFr B p n cap undef undef (.pointer (some ⟨B, 0, none⟩)) undef undef undef undef undef undef undef undef undef undef undef undef undef undef undef undef undef undef undef undef undef undef undef undef undef undef undef undef) W.drew
  refine wpAny_take (i := 2) rfl (by kernel_rfl) (by kernel_rfl) (by kernel_rfl) (fun _ _ _ h => h) (yields_nil rfl rfl rfl) ?_
  change wpAny _ _ _ _ 36 #[false, true, true, false, false, false, false, false, false, false, false, false, false, false, false, false, false, false, false, false, false, false, false, false, false, false, false, false, false, false, false, false, false, false, false, false, false, false] (fileFr B p n cap undef undef (.pointer (some ⟨B, 0, none⟩)) (.pointer (some ⟨B, 0, none⟩)) undef undef undef undef undef undef undef undef undef undef undef undef undef undef undef undef undef undef undef undef undef undef undef undef undef undef undef) W.drew
  refine wpAny_take (i := 3) rfl (by kernel_rfl) (by kernel_rfl) (by kernel_rfl) (fun _ _ _ h => h) (yields_field rfl rfl rfl) ?_
  change wpAny _ _ _ _ 35 #[false, true, true, true, false, false, false, false, false, false, false, false, false, false, false, false, false, false, false, false, false, false, false, false, false, false, false, false, false, false, false, false, false, false, false, false, false, false] (fileFr B p n cap undef undef (.pointer (some ⟨B, 0, none⟩)) (.pointer (some ⟨B, 0, none⟩)) (.pointer (some ⟨B, 0, none⟩)) undef undef undef undef undef undef undef undef undef undef undef undef undef undef undef undef undef undef undef undef undef undef undef undef undef undef) W.drew
  refine wpAny_take (i := 4) rfl (by kernel_rfl) (by kernel_rfl) (by kernel_rfl) (fun _ _ _ h => h) (yields_func rfl rfl rfl) ?_
  change wpAny _ _ _ _ 34 #[false, true, true, true, true, false, false, false, false, false, false, false, false, false, false, false, false, false, false, false, false, false, false, false, false, false, false, false, false, false, false, false, false, false, false, false, false, false] (fileFr B p n cap undef undef (.pointer (some ⟨B, 0, none⟩)) (.pointer (some ⟨B, 0, none⟩)) (.pointer (some ⟨B, 0, none⟩)) (val7 B 0) undef undef undef undef undef undef undef undef undef undef undef undef undef undef undef undef undef undef undef undef undef undef undef undef undef) W.drew
  refine wpAny_take (i := 6) rfl (by kernel_rfl) (by kernel_rfl) (by kernel_rfl) (fun _ _ _ h => h) (yields_move rfl rfl rfl) ?_
  change wpAny _ _ _ _ 33 #[false, true, true, true, true, false, true, false, false, false, false, false, false, false, false, false, false, false, false, false, false, false, false, false, false, false, false, false, false, false, false, false, false, false, false, false, false, false] (fileFr B p n cap undef undef (.pointer (some ⟨B, 0, none⟩)) (.pointer (some ⟨B, 0, none⟩)) (.pointer (some ⟨B, 0, none⟩)) (val7 B 0) (.pointer (some ⟨B, 0, none⟩)) undef undef undef undef undef undef undef undef undef undef undef undef undef undef undef undef undef undef undef undef undef undef undef undef) W.drew
  refine wpAny_take (i := 7) rfl (by kernel_rfl) (by kernel_rfl) (by kernel_rfl) (fun _ _ _ h => h) (yields_nil rfl rfl rfl) ?_
  change wpAny _ _ _ _ 32 #[false, true, true, true, true, false, true, true, false, false, false, false, false, false, false, false, false, false, false, false, false, false, false, false, false, false, false, false, false, false, false, false, false, false, false, false, false, false] (fileFr B p n cap undef undef (.pointer (some ⟨B, 0, none⟩)) (.pointer (some ⟨B, 0, none⟩)) (.pointer (some ⟨B, 0, none⟩)) (val7 B 0) (.pointer (some ⟨B, 0, none⟩)) (.pointer (some ⟨B, 0, none⟩)) undef undef undef undef undef undef undef undef undef undef undef undef undef undef undef undef undef undef undef undef undef undef undef) W.drew
  refine wpAny_take (i := 8) rfl (by kernel_rfl) (by kernel_rfl) (by kernel_rfl) (fun _ _ _ h => h) (yields_field rfl rfl rfl) ?_
  change wpAny _ _ _ _ 31 #[false, true, true, true, true, false, true, true, true, false, false, false, false, false, false, false, false, false, false, false, false, false, false, false, false, false, false, false, false, false, false, false, false, false, false, false, false, false] (fileFr B p n cap undef undef (.pointer (some ⟨B, 0, none⟩)) (.pointer (some ⟨B, 0, none⟩)) (.pointer (some ⟨B, 0, none⟩)) (val7 B 0) (.pointer (some ⟨B, 0, none⟩)) (.pointer (some ⟨B, 0, none⟩)) (.pointer (some ⟨B, 0, none⟩)) undef undef undef undef undef undef undef undef undef undef undef undef undef undef undef undef undef undef undef undef undef undef) W.drew
  refine wpAny_take (i := 9) rfl (by kernel_rfl) (by kernel_rfl) (by kernel_rfl) (fun _ _ _ h => h) (yields_func rfl rfl rfl) ?_
  change wpAny _ _ _ _ 30 #[false, true, true, true, true, false, true, true, true, true, false, false, false, false, false, false, false, false, false, false, false, false, false, false, false, false, false, false, false, false, false, false, false, false, false, false, false, false] (fileFr B p n cap undef undef (.pointer (some ⟨B, 0, none⟩)) (.pointer (some ⟨B, 0, none⟩)) (.pointer (some ⟨B, 0, none⟩)) (val7 B 0) (.pointer (some ⟨B, 0, none⟩)) (.pointer (some ⟨B, 0, none⟩)) (.pointer (some ⟨B, 0, none⟩)) (val7 B 1) undef undef undef undef undef undef undef undef undef undef undef undef undef undef undef undef undef undef undef undef undef) W.drew
  refine wpAny_take (i := 11) rfl (by kernel_rfl) (by kernel_rfl) (by kernel_rfl) (fun _ _ _ h => h) (yields_move rfl rfl rfl) ?_
  change wpAny _ _ _ _ 29 #[false, true, true, true, true, false, true, true, true, true, false, true, false, false, false, false, false, false, false, false, false, false, false, false, false, false, false, false, false, false, false, false, false, false, false, false, false, false] (fileFr B p n cap undef undef (.pointer (some ⟨B, 0, none⟩)) (.pointer (some ⟨B, 0, none⟩)) (.pointer (some ⟨B, 0, none⟩)) (val7 B 0) (.pointer (some ⟨B, 0, none⟩)) (.pointer (some ⟨B, 0, none⟩)) (.pointer (some ⟨B, 0, none⟩)) (val7 B 1) (.pointer (some ⟨B, 0, none⟩)) undef undef undef undef undef undef undef undef undef undef undef undef undef undef undef undef undef undef undef undef) W.drew
  refine wpAny_take (i := 12) rfl (by kernel_rfl) (by kernel_rfl) (by kernel_rfl) (fun _ _ _ h => h) (yields_nil rfl rfl rfl) ?_
  change wpAny _ _ _ _ 28 #[false, true, true, true, true, false, true, true, true, true, false, true, true, false, false, false, false, false, false, false, false, false, false, false, false, false, false, false, false, false, false, false, false, false, false, false, false, false] (fileFr B p n cap undef undef (.pointer (some ⟨B, 0, none⟩)) (.pointer (some ⟨B, 0, none⟩)) (.pointer (some ⟨B, 0, none⟩)) (val7 B 0) (.pointer (some ⟨B, 0, none⟩)) (.pointer (some ⟨B, 0, none⟩)) (.pointer (some ⟨B, 0, none⟩)) (val7 B 1) (.pointer (some ⟨B, 0, none⟩)) (.pointer (some ⟨B, 0, none⟩)) undef undef undef undef undef undef undef undef undef undef undef undef undef undef undef undef undef undef undef) W.drew
  refine wpAny_take (i := 13) rfl (by kernel_rfl) (by kernel_rfl) (by kernel_rfl) (fun _ _ _ h => h) (yields_field rfl rfl rfl) ?_
  change wpAny _ _ _ _ 27 #[false, true, true, true, true, false, true, true, true, true, false, true, true, true, false, false, false, false, false, false, false, false, false, false, false, false, false, false, false, false, false, false, false, false, false, false, false, false] (fileFr B p n cap undef undef (.pointer (some ⟨B, 0, none⟩)) (.pointer (some ⟨B, 0, none⟩)) (.pointer (some ⟨B, 0, none⟩)) (val7 B 0) (.pointer (some ⟨B, 0, none⟩)) (.pointer (some ⟨B, 0, none⟩)) (.pointer (some ⟨B, 0, none⟩)) (val7 B 1) (.pointer (some ⟨B, 0, none⟩)) (.pointer (some ⟨B, 0, none⟩)) (.pointer (some ⟨B, 0, none⟩)) undef undef undef undef undef undef undef undef undef undef undef undef undef undef undef undef undef undef) W.drew
  refine wpAny_take (i := 14) rfl (by kernel_rfl) (by kernel_rfl) (by kernel_rfl) (fun _ _ _ h => h) (yields_func rfl rfl rfl) ?_
  change wpAny _ _ _ _ 26 #[false, true, true, true, true, false, true, true, true, true, false, true, true, true, true, false, false, false, false, false, false, false, false, false, false, false, false, false, false, false, false, false, false, false, false, false, false, false] (fileFr B p n cap undef undef (.pointer (some ⟨B, 0, none⟩)) (.pointer (some ⟨B, 0, none⟩)) (.pointer (some ⟨B, 0, none⟩)) (val7 B 0) (.pointer (some ⟨B, 0, none⟩)) (.pointer (some ⟨B, 0, none⟩)) (.pointer (some ⟨B, 0, none⟩)) (val7 B 1) (.pointer (some ⟨B, 0, none⟩)) (.pointer (some ⟨B, 0, none⟩)) (.pointer (some ⟨B, 0, none⟩)) (val7 B 2) undef undef undef undef undef undef undef undef undef undef undef undef undef undef undef undef undef) W.drew
  refine wpAny_take (i := 16) rfl (by kernel_rfl) (by kernel_rfl) (by kernel_rfl) (fun _ _ _ h => h) (yields_move rfl rfl rfl) ?_
  change wpAny _ _ _ _ 25 #[false, true, true, true, true, false, true, true, true, true, false, true, true, true, true, false, true, false, false, false, false, false, false, false, false, false, false, false, false, false, false, false, false, false, false, false, false, false] (fileFr B p n cap undef undef (.pointer (some ⟨B, 0, none⟩)) (.pointer (some ⟨B, 0, none⟩)) (.pointer (some ⟨B, 0, none⟩)) (val7 B 0) (.pointer (some ⟨B, 0, none⟩)) (.pointer (some ⟨B, 0, none⟩)) (.pointer (some ⟨B, 0, none⟩)) (val7 B 1) (.pointer (some ⟨B, 0, none⟩)) (.pointer (some ⟨B, 0, none⟩)) (.pointer (some ⟨B, 0, none⟩)) (val7 B 2) (.pointer (some ⟨B, 0, none⟩)) undef undef undef undef undef undef undef undef undef undef undef undef undef undef undef undef) W.drew
  refine wpAny_take (i := 17) rfl (by kernel_rfl) (by kernel_rfl) (by kernel_rfl) (fun _ _ _ h => h) (yields_nil rfl rfl rfl) ?_
  change wpAny _ _ _ _ 24 #[false, true, true, true, true, false, true, true, true, true, false, true, true, true, true, false, true, true, false, false, false, false, false, false, false, false, false, false, false, false, false, false, false, false, false, false, false, false] (fileFr B p n cap undef undef (.pointer (some ⟨B, 0, none⟩)) (.pointer (some ⟨B, 0, none⟩)) (.pointer (some ⟨B, 0, none⟩)) (val7 B 0) (.pointer (some ⟨B, 0, none⟩)) (.pointer (some ⟨B, 0, none⟩)) (.pointer (some ⟨B, 0, none⟩)) (val7 B 1) (.pointer (some ⟨B, 0, none⟩)) (.pointer (some ⟨B, 0, none⟩)) (.pointer (some ⟨B, 0, none⟩)) (val7 B 2) (.pointer (some ⟨B, 0, none⟩)) (.pointer (some ⟨B, 0, none⟩)) undef undef undef undef undef undef undef undef undef undef undef undef undef undef undef) W.drew
  refine wpAny_take (i := 18) rfl (by kernel_rfl) (by kernel_rfl) (by kernel_rfl) (fun _ _ _ h => h) (yields_field rfl rfl rfl) ?_
  change wpAny _ _ _ _ 23 #[false, true, true, true, true, false, true, true, true, true, false, true, true, true, true, false, true, true, true, false, false, false, false, false, false, false, false, false, false, false, false, false, false, false, false, false, false, false] (fileFr B p n cap undef undef (.pointer (some ⟨B, 0, none⟩)) (.pointer (some ⟨B, 0, none⟩)) (.pointer (some ⟨B, 0, none⟩)) (val7 B 0) (.pointer (some ⟨B, 0, none⟩)) (.pointer (some ⟨B, 0, none⟩)) (.pointer (some ⟨B, 0, none⟩)) (val7 B 1) (.pointer (some ⟨B, 0, none⟩)) (.pointer (some ⟨B, 0, none⟩)) (.pointer (some ⟨B, 0, none⟩)) (val7 B 2) (.pointer (some ⟨B, 0, none⟩)) (.pointer (some ⟨B, 0, none⟩)) (.pointer (some ⟨B, 0, none⟩)) undef undef undef undef undef undef undef undef undef undef undef undef undef undef) W.drew
  refine wpAny_take (i := 19) rfl (by kernel_rfl) (by kernel_rfl) (by kernel_rfl) (fun _ _ _ h => h) (yields_func rfl rfl rfl) ?_
  change wpAny _ _ _ _ 22 #[false, true, true, true, true, false, true, true, true, true, false, true, true, true, true, false, true, true, true, true, false, false, false, false, false, false, false, false, false, false, false, false, false, false, false, false, false, false] (fileFr B p n cap undef undef (.pointer (some ⟨B, 0, none⟩)) (.pointer (some ⟨B, 0, none⟩)) (.pointer (some ⟨B, 0, none⟩)) (val7 B 0) (.pointer (some ⟨B, 0, none⟩)) (.pointer (some ⟨B, 0, none⟩)) (.pointer (some ⟨B, 0, none⟩)) (val7 B 1) (.pointer (some ⟨B, 0, none⟩)) (.pointer (some ⟨B, 0, none⟩)) (.pointer (some ⟨B, 0, none⟩)) (val7 B 2) (.pointer (some ⟨B, 0, none⟩)) (.pointer (some ⟨B, 0, none⟩)) (.pointer (some ⟨B, 0, none⟩)) (val7 B 3) undef undef undef undef undef undef undef undef undef undef undef undef undef) W.drew
  refine wpAny_take (i := 21) rfl (by kernel_rfl) (by kernel_rfl) (by kernel_rfl) (fun _ _ _ h => h) (yields_move rfl rfl rfl) ?_
  change wpAny _ _ _ _ 21 #[false, true, true, true, true, false, true, true, true, true, false, true, true, true, true, false, true, true, true, true, false, true, false, false, false, false, false, false, false, false, false, false, false, false, false, false, false, false] (fileFr B p n cap undef undef (.pointer (some ⟨B, 0, none⟩)) (.pointer (some ⟨B, 0, none⟩)) (.pointer (some ⟨B, 0, none⟩)) (val7 B 0) (.pointer (some ⟨B, 0, none⟩)) (.pointer (some ⟨B, 0, none⟩)) (.pointer (some ⟨B, 0, none⟩)) (val7 B 1) (.pointer (some ⟨B, 0, none⟩)) (.pointer (some ⟨B, 0, none⟩)) (.pointer (some ⟨B, 0, none⟩)) (val7 B 2) (.pointer (some ⟨B, 0, none⟩)) (.pointer (some ⟨B, 0, none⟩)) (.pointer (some ⟨B, 0, none⟩)) (val7 B 3) (.pointer (some ⟨B, 0, none⟩)) undef undef undef undef undef undef undef undef undef undef undef undef) W.drew
  refine wpAny_take (i := 22) rfl (by kernel_rfl) (by kernel_rfl) (by kernel_rfl) (fun _ _ _ h => h) (yields_nil rfl rfl rfl) ?_
  change wpAny _ _ _ _ 20 #[false, true, true, true, true, false, true, true, true, true, false, true, true, true, true, false, true, true, true, true, false, true, true, false, false, false, false, false, false, false, false, false, false, false, false, false, false, false] (fileFr B p n cap undef undef (.pointer (some ⟨B, 0, none⟩)) (.pointer (some ⟨B, 0, none⟩)) (.pointer (some ⟨B, 0, none⟩)) (val7 B 0) (.pointer (some ⟨B, 0, none⟩)) (.pointer (some ⟨B, 0, none⟩)) (.pointer (some ⟨B, 0, none⟩)) (val7 B 1) (.pointer (some ⟨B, 0, none⟩)) (.pointer (some ⟨B, 0, none⟩)) (.pointer (some ⟨B, 0, none⟩)) (val7 B 2) (.pointer (some ⟨B, 0, none⟩)) (.pointer (some ⟨B, 0, none⟩)) (.pointer (some ⟨B, 0, none⟩)) (val7 B 3) (.pointer (some ⟨B, 0, none⟩)) (.pointer (some ⟨B, 0, none⟩)) undef undef undef undef undef undef undef undef undef undef undef) W.drew
  refine wpAny_take (i := 23) rfl (by kernel_rfl) (by kernel_rfl) (by kernel_rfl) (fun _ _ _ h => h) (yields_field rfl rfl rfl) ?_
  change wpAny _ _ _ _ 19 #[false, true, true, true, true, false, true, true, true, true, false, true, true, true, true, false, true, true, true, true, false, true, true, true, false, false, false, false, false, false, false, false, false, false, false, false, false, false] (fileFr B p n cap undef undef (.pointer (some ⟨B, 0, none⟩)) (.pointer (some ⟨B, 0, none⟩)) (.pointer (some ⟨B, 0, none⟩)) (val7 B 0) (.pointer (some ⟨B, 0, none⟩)) (.pointer (some ⟨B, 0, none⟩)) (.pointer (some ⟨B, 0, none⟩)) (val7 B 1) (.pointer (some ⟨B, 0, none⟩)) (.pointer (some ⟨B, 0, none⟩)) (.pointer (some ⟨B, 0, none⟩)) (val7 B 2) (.pointer (some ⟨B, 0, none⟩)) (.pointer (some ⟨B, 0, none⟩)) (.pointer (some ⟨B, 0, none⟩)) (val7 B 3) (.pointer (some ⟨B, 0, none⟩)) (.pointer (some ⟨B, 0, none⟩)) (.pointer (some ⟨B, 0, none⟩)) undef undef undef undef undef undef undef undef undef undef) W.drew
  refine wpAny_take (i := 24) rfl (by kernel_rfl) (by kernel_rfl) (by kernel_rfl) (fun _ _ _ h => h) (yields_func rfl rfl rfl) ?_
  change wpAny _ _ _ _ 18 #[false, true, true, true, true, false, true, true, true, true, false, true, true, true, true, false, true, true, true, true, false, true, true, true, true, false, false, false, false, false, false, false, false, false, false, false, false, false] (fileFr B p n cap undef undef (.pointer (some ⟨B, 0, none⟩)) (.pointer (some ⟨B, 0, none⟩)) (.pointer (some ⟨B, 0, none⟩)) (val7 B 0) (.pointer (some ⟨B, 0, none⟩)) (.pointer (some ⟨B, 0, none⟩)) (.pointer (some ⟨B, 0, none⟩)) (val7 B 1) (.pointer (some ⟨B, 0, none⟩)) (.pointer (some ⟨B, 0, none⟩)) (.pointer (some ⟨B, 0, none⟩)) (val7 B 2) (.pointer (some ⟨B, 0, none⟩)) (.pointer (some ⟨B, 0, none⟩)) (.pointer (some ⟨B, 0, none⟩)) (val7 B 3) (.pointer (some ⟨B, 0, none⟩)) (.pointer (some ⟨B, 0, none⟩)) (.pointer (some ⟨B, 0, none⟩)) (val7 B 4) undef undef undef undef undef undef undef undef undef) W.drew
  refine wpAny_take (i := 26) rfl (by kernel_rfl) (by kernel_rfl) (by kernel_rfl) (fun _ _ _ h => h) (yields_move rfl rfl rfl) ?_
  change wpAny _ _ _ _ 17 #[false, true, true, true, true, false, true, true, true, true, false, true, true, true, true, false, true, true, true, true, false, true, true, true, true, false, true, false, false, false, false, false, false, false, false, false, false, false] (fileFr B p n cap undef undef (.pointer (some ⟨B, 0, none⟩)) (.pointer (some ⟨B, 0, none⟩)) (.pointer (some ⟨B, 0, none⟩)) (val7 B 0) (.pointer (some ⟨B, 0, none⟩)) (.pointer (some ⟨B, 0, none⟩)) (.pointer (some ⟨B, 0, none⟩)) (val7 B 1) (.pointer (some ⟨B, 0, none⟩)) (.pointer (some ⟨B, 0, none⟩)) (.pointer (some ⟨B, 0, none⟩)) (val7 B 2) (.pointer (some ⟨B, 0, none⟩)) (.pointer (some ⟨B, 0, none⟩)) (.pointer (some ⟨B, 0, none⟩)) (val7 B 3) (.pointer (some ⟨B, 0, none⟩)) (.pointer (some ⟨B, 0, none⟩)) (.pointer (some ⟨B, 0, none⟩)) (val7 B 4) (.pointer (some ⟨B, 0, none⟩)) undef undef undef undef undef undef undef undef) W.drew
  refine wpAny_take (i := 27) rfl (by kernel_rfl) (by kernel_rfl) (by kernel_rfl) (fun _ _ _ h => h) (yields_nil rfl rfl rfl) ?_
  change wpAny _ _ _ _ 16 #[false, true, true, true, true, false, true, true, true, true, false, true, true, true, true, false, true, true, true, true, false, true, true, true, true, false, true, true, false, false, false, false, false, false, false, false, false, false] (fileFr B p n cap undef undef (.pointer (some ⟨B, 0, none⟩)) (.pointer (some ⟨B, 0, none⟩)) (.pointer (some ⟨B, 0, none⟩)) (val7 B 0) (.pointer (some ⟨B, 0, none⟩)) (.pointer (some ⟨B, 0, none⟩)) (.pointer (some ⟨B, 0, none⟩)) (val7 B 1) (.pointer (some ⟨B, 0, none⟩)) (.pointer (some ⟨B, 0, none⟩)) (.pointer (some ⟨B, 0, none⟩)) (val7 B 2) (.pointer (some ⟨B, 0, none⟩)) (.pointer (some ⟨B, 0, none⟩)) (.pointer (some ⟨B, 0, none⟩)) (val7 B 3) (.pointer (some ⟨B, 0, none⟩)) (.pointer (some ⟨B, 0, none⟩)) (.pointer (some ⟨B, 0, none⟩)) (val7 B 4) (.pointer (some ⟨B, 0, none⟩)) (.pointer (some ⟨B, 0, none⟩)) undef undef undef undef undef undef undef) W.drew
  refine wpAny_take (i := 28) rfl (by kernel_rfl) (by kernel_rfl) (by kernel_rfl) (fun _ _ _ h => h) (yields_field rfl rfl rfl) ?_
  change wpAny _ _ _ _ 15 #[false, true, true, true, true, false, true, true, true, true, false, true, true, true, true, false, true, true, true, true, false, true, true, true, true, false, true, true, true, false, false, false, false, false, false, false, false, false] (fileFr B p n cap undef undef (.pointer (some ⟨B, 0, none⟩)) (.pointer (some ⟨B, 0, none⟩)) (.pointer (some ⟨B, 0, none⟩)) (val7 B 0) (.pointer (some ⟨B, 0, none⟩)) (.pointer (some ⟨B, 0, none⟩)) (.pointer (some ⟨B, 0, none⟩)) (val7 B 1) (.pointer (some ⟨B, 0, none⟩)) (.pointer (some ⟨B, 0, none⟩)) (.pointer (some ⟨B, 0, none⟩)) (val7 B 2) (.pointer (some ⟨B, 0, none⟩)) (.pointer (some ⟨B, 0, none⟩)) (.pointer (some ⟨B, 0, none⟩)) (val7 B 3) (.pointer (some ⟨B, 0, none⟩)) (.pointer (some ⟨B, 0, none⟩)) (.pointer (some ⟨B, 0, none⟩)) (val7 B 4) (.pointer (some ⟨B, 0, none⟩)) (.pointer (some ⟨B, 0, none⟩)) (.pointer (some ⟨B, 0, none⟩)) undef undef undef undef undef undef) W.drew
  refine wpAny_take (i := 29) rfl (by kernel_rfl) (by kernel_rfl) (by kernel_rfl) (fun _ _ _ h => h) (yields_func rfl rfl rfl) ?_
  change wpAny _ _ _ _ 14 #[false, true, true, true, true, false, true, true, true, true, false, true, true, true, true, false, true, true, true, true, false, true, true, true, true, false, true, true, true, true, false, false, false, false, false, false, false, false] (fileFr B p n cap undef undef (.pointer (some ⟨B, 0, none⟩)) (.pointer (some ⟨B, 0, none⟩)) (.pointer (some ⟨B, 0, none⟩)) (val7 B 0) (.pointer (some ⟨B, 0, none⟩)) (.pointer (some ⟨B, 0, none⟩)) (.pointer (some ⟨B, 0, none⟩)) (val7 B 1) (.pointer (some ⟨B, 0, none⟩)) (.pointer (some ⟨B, 0, none⟩)) (.pointer (some ⟨B, 0, none⟩)) (val7 B 2) (.pointer (some ⟨B, 0, none⟩)) (.pointer (some ⟨B, 0, none⟩)) (.pointer (some ⟨B, 0, none⟩)) (val7 B 3) (.pointer (some ⟨B, 0, none⟩)) (.pointer (some ⟨B, 0, none⟩)) (.pointer (some ⟨B, 0, none⟩)) (val7 B 4) (.pointer (some ⟨B, 0, none⟩)) (.pointer (some ⟨B, 0, none⟩)) (.pointer (some ⟨B, 0, none⟩)) (val7 B 5) undef undef undef undef undef) W.drew
  refine wpAny_take (i := 31) rfl (by kernel_rfl) (by kernel_rfl) (by kernel_rfl) (fun _ _ _ h => h) (yields_move rfl rfl rfl) ?_
  change wpAny _ _ _ _ 13 #[false, true, true, true, true, false, true, true, true, true, false, true, true, true, true, false, true, true, true, true, false, true, true, true, true, false, true, true, true, true, false, true, false, false, false, false, false, false] (fileFr B p n cap undef undef (.pointer (some ⟨B, 0, none⟩)) (.pointer (some ⟨B, 0, none⟩)) (.pointer (some ⟨B, 0, none⟩)) (val7 B 0) (.pointer (some ⟨B, 0, none⟩)) (.pointer (some ⟨B, 0, none⟩)) (.pointer (some ⟨B, 0, none⟩)) (val7 B 1) (.pointer (some ⟨B, 0, none⟩)) (.pointer (some ⟨B, 0, none⟩)) (.pointer (some ⟨B, 0, none⟩)) (val7 B 2) (.pointer (some ⟨B, 0, none⟩)) (.pointer (some ⟨B, 0, none⟩)) (.pointer (some ⟨B, 0, none⟩)) (val7 B 3) (.pointer (some ⟨B, 0, none⟩)) (.pointer (some ⟨B, 0, none⟩)) (.pointer (some ⟨B, 0, none⟩)) (val7 B 4) (.pointer (some ⟨B, 0, none⟩)) (.pointer (some ⟨B, 0, none⟩)) (.pointer (some ⟨B, 0, none⟩)) (val7 B 5) (.pointer (some ⟨B, 0, none⟩)) undef undef undef undef) W.drew
  refine wpAny_take (i := 32) rfl (by kernel_rfl) (by kernel_rfl) (by kernel_rfl) (fun _ _ _ h => h) (yields_nil rfl rfl rfl) ?_
  change wpAny _ _ _ _ 12 #[false, true, true, true, true, false, true, true, true, true, false, true, true, true, true, false, true, true, true, true, false, true, true, true, true, false, true, true, true, true, false, true, true, false, false, false, false, false] (fileFr B p n cap undef undef (.pointer (some ⟨B, 0, none⟩)) (.pointer (some ⟨B, 0, none⟩)) (.pointer (some ⟨B, 0, none⟩)) (val7 B 0) (.pointer (some ⟨B, 0, none⟩)) (.pointer (some ⟨B, 0, none⟩)) (.pointer (some ⟨B, 0, none⟩)) (val7 B 1) (.pointer (some ⟨B, 0, none⟩)) (.pointer (some ⟨B, 0, none⟩)) (.pointer (some ⟨B, 0, none⟩)) (val7 B 2) (.pointer (some ⟨B, 0, none⟩)) (.pointer (some ⟨B, 0, none⟩)) (.pointer (some ⟨B, 0, none⟩)) (val7 B 3) (.pointer (some ⟨B, 0, none⟩)) (.pointer (some ⟨B, 0, none⟩)) (.pointer (some ⟨B, 0, none⟩)) (val7 B 4) (.pointer (some ⟨B, 0, none⟩)) (.pointer (some ⟨B, 0, none⟩)) (.pointer (some ⟨B, 0, none⟩)) (val7 B 5) (.pointer (some ⟨B, 0, none⟩)) (.pointer (some ⟨B, 0, none⟩)) undef undef undef) W.drew
  refine wpAny_take (i := 33) rfl (by kernel_rfl) (by kernel_rfl) (by kernel_rfl) (fun _ _ _ h => h) (yields_field rfl rfl rfl) ?_
  change wpAny _ _ _ _ 11 #[false, true, true, true, true, false, true, true, true, true, false, true, true, true, true, false, true, true, true, true, false, true, true, true, true, false, true, true, true, true, false, true, true, true, false, false, false, false] (fileFr B p n cap undef undef (.pointer (some ⟨B, 0, none⟩)) (.pointer (some ⟨B, 0, none⟩)) (.pointer (some ⟨B, 0, none⟩)) (val7 B 0) (.pointer (some ⟨B, 0, none⟩)) (.pointer (some ⟨B, 0, none⟩)) (.pointer (some ⟨B, 0, none⟩)) (val7 B 1) (.pointer (some ⟨B, 0, none⟩)) (.pointer (some ⟨B, 0, none⟩)) (.pointer (some ⟨B, 0, none⟩)) (val7 B 2) (.pointer (some ⟨B, 0, none⟩)) (.pointer (some ⟨B, 0, none⟩)) (.pointer (some ⟨B, 0, none⟩)) (val7 B 3) (.pointer (some ⟨B, 0, none⟩)) (.pointer (some ⟨B, 0, none⟩)) (.pointer (some ⟨B, 0, none⟩)) (val7 B 4) (.pointer (some ⟨B, 0, none⟩)) (.pointer (some ⟨B, 0, none⟩)) (.pointer (some ⟨B, 0, none⟩)) (val7 B 5) (.pointer (some ⟨B, 0, none⟩)) (.pointer (some ⟨B, 0, none⟩)) (.pointer (some ⟨B, 0, none⟩)) undef undef) W.drew
  refine wpAny_take (i := 34) rfl (by kernel_rfl) (by kernel_rfl) (by kernel_rfl) (fun _ _ _ h => h) (yields_func rfl rfl rfl) ?_
  change wpAny _ _ _ _ 10 #[false, true, true, true, true, false, true, true, true, true, false, true, true, true, true, false, true, true, true, true, false, true, true, true, true, false, true, true, true, true, false, true, true, true, true, false, false, false] (fileFr B p n cap undef undef (.pointer (some ⟨B, 0, none⟩)) (.pointer (some ⟨B, 0, none⟩)) (.pointer (some ⟨B, 0, none⟩)) (val7 B 0) (.pointer (some ⟨B, 0, none⟩)) (.pointer (some ⟨B, 0, none⟩)) (.pointer (some ⟨B, 0, none⟩)) (val7 B 1) (.pointer (some ⟨B, 0, none⟩)) (.pointer (some ⟨B, 0, none⟩)) (.pointer (some ⟨B, 0, none⟩)) (val7 B 2) (.pointer (some ⟨B, 0, none⟩)) (.pointer (some ⟨B, 0, none⟩)) (.pointer (some ⟨B, 0, none⟩)) (val7 B 3) (.pointer (some ⟨B, 0, none⟩)) (.pointer (some ⟨B, 0, none⟩)) (.pointer (some ⟨B, 0, none⟩)) (val7 B 4) (.pointer (some ⟨B, 0, none⟩)) (.pointer (some ⟨B, 0, none⟩)) (.pointer (some ⟨B, 0, none⟩)) (val7 B 5) (.pointer (some ⟨B, 0, none⟩)) (.pointer (some ⟨B, 0, none⟩)) (.pointer (some ⟨B, 0, none⟩)) (val7 B 6) undef) W.drew
  refine wpAny_all (rs := [0]) (by kernel_rfl) (by decide) ?_
  intro i hi
  obtain rfl : i = 0 := by simpa using hi
  refine wpOp_map rfl rfl rfl ?_
  change wpAny _ _ _ _ (7 + 2) (lst7 0) (fileFr B p n cap undef (.map (some W.heap.size)) (.pointer (some ⟨B, 0, none⟩)) (.pointer (some ⟨B, 0, none⟩)) (.pointer (some ⟨B, 0, none⟩)) (val7 B 0) (.pointer (some ⟨B, 0, none⟩)) (.pointer (some ⟨B, 0, none⟩)) (.pointer (some ⟨B, 0, none⟩)) (val7 B 1) (.pointer (some ⟨B, 0, none⟩)) (.pointer (some ⟨B, 0, none⟩)) (.pointer (some ⟨B, 0, none⟩)) (val7 B 2) (.pointer (some ⟨B, 0, none⟩)) (.pointer (some ⟨B, 0, none⟩)) (.pointer (some ⟨B, 0, none⟩)) (val7 B 3) (.pointer (some ⟨B, 0, none⟩)) (.pointer (some ⟨B, 0, none⟩)) (.pointer (some ⟨B, 0, none⟩)) (val7 B 4) (.pointer (some ⟨B, 0, none⟩)) (.pointer (some ⟨B, 0, none⟩)) (.pointer (some ⟨B, 0, none⟩)) (val7 B 5) (.pointer (some ⟨B, 0, none⟩)) (.pointer (some ⟨B, 0, none⟩)) (.pointer (some ⟨B, 0, none⟩)) (val7 B 6) undef) (W.drew.alloc (.map #[] 0))
  refine inserts_any (kd := .u8) Tryz.underlying101 Tryz.underlying5 (fun k => 5 + 5 * k) (val7 B) W.heap.size W.drew _ ?_ lst7 (fun m k hm hk => lst7_set m k hm hk) (fun m hm hne => ready7 (by kernel_rfl) (by kernel_rfl) (by kernel_rfl) m hm hne) 2 ?_ 7 0 _ #[] 0 (by decide) (by decide) (MapAt.made W.drew) (Laid7.nil _ _)
  · intro k hk
    rcases (show k = 0 ∨ k = 1 ∨ k = 2 ∨ k = 3 ∨ k = 4 ∨ k = 5 ∨ k = 6 by omega) with rfl | rfl | rfl | rfl | rfl | rfl | rfl
    all_goals exact ⟨_, _, _, rfl, rfl, rfl, rfl, rfl, rfl⟩
  intro wm es clock hM hL
  change wpAny _ _ _ _ 2 #[true, true, true, true, true, true, true, true, true, true, true, true, true, true, true, true, true, true, true, true, true, true, true, true, true, true, true, true, true, true, true, true, true, true, true, true, false, false] (fileFr B p n cap undef (.map (some W.heap.size)) (.pointer (some ⟨B, 0, none⟩)) (.pointer (some ⟨B, 0, none⟩)) (.pointer (some ⟨B, 0, none⟩)) (val7 B 0) (.pointer (some ⟨B, 0, none⟩)) (.pointer (some ⟨B, 0, none⟩)) (.pointer (some ⟨B, 0, none⟩)) (val7 B 1) (.pointer (some ⟨B, 0, none⟩)) (.pointer (some ⟨B, 0, none⟩)) (.pointer (some ⟨B, 0, none⟩)) (val7 B 2) (.pointer (some ⟨B, 0, none⟩)) (.pointer (some ⟨B, 0, none⟩)) (.pointer (some ⟨B, 0, none⟩)) (val7 B 3) (.pointer (some ⟨B, 0, none⟩)) (.pointer (some ⟨B, 0, none⟩)) (.pointer (some ⟨B, 0, none⟩)) (val7 B 4) (.pointer (some ⟨B, 0, none⟩)) (.pointer (some ⟨B, 0, none⟩)) (.pointer (some ⟨B, 0, none⟩)) (val7 B 5) (.pointer (some ⟨B, 0, none⟩)) (.pointer (some ⟨B, 0, none⟩)) (.pointer (some ⟨B, 0, none⟩)) (val7 B 6) undef) wm
  refine wpAny_take (i := 36) rfl (by kernel_rfl) (by kernel_rfl) (by kernel_rfl) (fun _ _ _ h => h) (yields_move rfl rfl rfl) ?_
  change wpAny _ _ _ _ 1 #[true, true, true, true, true, true, true, true, true, true, true, true, true, true, true, true, true, true, true, true, true, true, true, true, true, true, true, true, true, true, true, true, true, true, true, true, true, false] (fileFr B p n cap undef (.map (some W.heap.size)) (.pointer (some ⟨B, 0, none⟩)) (.pointer (some ⟨B, 0, none⟩)) (.pointer (some ⟨B, 0, none⟩)) (val7 B 0) (.pointer (some ⟨B, 0, none⟩)) (.pointer (some ⟨B, 0, none⟩)) (.pointer (some ⟨B, 0, none⟩)) (val7 B 1) (.pointer (some ⟨B, 0, none⟩)) (.pointer (some ⟨B, 0, none⟩)) (.pointer (some ⟨B, 0, none⟩)) (val7 B 2) (.pointer (some ⟨B, 0, none⟩)) (.pointer (some ⟨B, 0, none⟩)) (.pointer (some ⟨B, 0, none⟩)) (val7 B 3) (.pointer (some ⟨B, 0, none⟩)) (.pointer (some ⟨B, 0, none⟩)) (.pointer (some ⟨B, 0, none⟩)) (val7 B 4) (.pointer (some ⟨B, 0, none⟩)) (.pointer (some ⟨B, 0, none⟩)) (.pointer (some ⟨B, 0, none⟩)) (val7 B 5) (.pointer (some ⟨B, 0, none⟩)) (.pointer (some ⟨B, 0, none⟩)) (.pointer (some ⟨B, 0, none⟩)) (val7 B 6) (.map (some W.heap.size))) wm
  refine wpAny_take (i := 37) rfl (by kernel_rfl) (by kernel_rfl) (by kernel_rfl) (fun _ _ _ h => h) (yields_assign rfl rfl rfl) ?_
  change wpAny _ _ _ _ 0 #[true, true, true, true, true, true, true, true, true, true, true, true, true, true, true, true, true, true, true, true, true, true, true, true, true, true, true, true, true, true, true, true, true, true, true, true, true, true] (fileFr B p n cap (.map (some W.heap.size)) (.map (some W.heap.size)) (.pointer (some ⟨B, 0, none⟩)) (.pointer (some ⟨B, 0, none⟩)) (.pointer (some ⟨B, 0, none⟩)) (val7 B 0) (.pointer (some ⟨B, 0, none⟩)) (.pointer (some ⟨B, 0, none⟩)) (.pointer (some ⟨B, 0, none⟩)) (val7 B 1) (.pointer (some ⟨B, 0, none⟩)) (.pointer (some ⟨B, 0, none⟩)) (.pointer (some ⟨B, 0, none⟩)) (val7 B 2) (.pointer (some ⟨B, 0, none⟩)) (.pointer (some ⟨B, 0, none⟩)) (.pointer (some ⟨B, 0, none⟩)) (val7 B 3) (.pointer (some ⟨B, 0, none⟩)) (.pointer (some ⟨B, 0, none⟩)) (.pointer (some ⟨B, 0, none⟩)) (val7 B 4) (.pointer (some ⟨B, 0, none⟩)) (.pointer (some ⟨B, 0, none⟩)) (.pointer (some ⟨B, 0, none⟩)) (val7 B 5) (.pointer (some ⟨B, 0, none⟩)) (.pointer (some ⟨B, 0, none⟩)) (.pointer (some ⟨B, 0, none⟩)) (val7 B 6) (.map (some W.heap.size))) wm
  refine wpAny_done (by kernel_rfl) (NoPanic.normal ?_) 0
  unfold fileFr
  go_wp2
  have hsz : W.heap.size = w.heap.size := by rw [← hW]; simp
  have W0 : FInv w B W.heap.size wm.heap.size es clock l 0 (wm.alloc (.cells (madeCells #[.int .i64 0] n) 40)) := inv_start HB.out hW hM HN.out
  have I0 := Lib.hid W0
  have HM := Lib.hid (show W.heap.size ≠ wm.heap.size by have := (Array.getElem?_eq_some_iff.1 hM.1).1; omega)
  have HE := Lib.hid (show w.heap.size ≤ wm.heap.size by have := (Array.getElem?_eq_some_iff.1 hM.1).1; omega)
  have HL := Lib.hid hL
  generalize hEE : wm.heap.size = E at *
  generalize hMM : W.heap.size = M at *
  clear W0 hM hL hmk hW hsz
  go_loopw [47] (fun i wr => ∃ k : Nat, k ≤ n ∧ i = .int .i64 k ∧ Hid (FInv w B M E es clock l k wr)) (fun i _ => n - (intOf i).toNat)
  case atStart => exact ⟨0, by omega, rfl, I0⟩
  case round =>
    obtain ⟨k, hk, rfl, hI⟩ := hrel
    by_cases hlt : k < n
    · have hkl : k < l.length := by have := HN.out; omega
      obtain ⟨f, hf⟩ : ∃ f, f = l[k] := ⟨_, rfl⟩
      have HFE := Lib.hid hf
      have hcells := HC.out.but HB.out hI.out.but
      obtain ⟨b, off, rfl, r0, r1, r2, r3, r4, r5⟩ := hcells.at k hkl
      rw [← hf] at r0 r1 r2 r3 r4 r5
      have hbw : b < wr.heap.size := World.block_lt_of_cell? wr _ r0
      have hbne : b ≠ wr.heap.size := Nat.ne_of_lt hbw
      have BF := Lib.hid (show f.Bd by rw [hf]; exact BD.out _ (List.getElem_mem hkl))
      have IA := Lib.hid (hI.out.later (((Below.refl _ wr).alloc (Nat.le_refl _) (.cells #[.int .u8 f.kind, .int .i64 f.day, .int .i64 f.case, .int .i64 f.n, .int .i64 f.til, .bool f.hold] 26))))
      have hEl : E < wr.heap.size := hI.out.err.lt
      have hBr : B < wr.heap.size := hI.out.dk.lt
      have hnum := runD_num (l.take k)
      rw [List.length_take, Nat.min_eq_left (by omega)] at hnum
      have hErr : errD (runD (l.take k)) f = if 1000 ≤ k then 5 else if wf f = true then (if f.day < (runD (l.take k)).last then 400 else errL (runD (l.take k)).cs f) else 2 := by
        unfold errD; rw [hnum]
      have HERR := Lib.hid hErr
      clear hcells hnum hErr hf
      by_cases h1000 : 1000 ≤ k
      · have he := Lib.hid (show errD (runD (l.take k)) l[k] = 5 by rw [← HFE.out, HERR.out, if_pos h1000])
        obtain ⟨ve, hve⟩ := hI.out.err.cell.1 k hkl
        have zve := hI.out.err.cell.2 k
        go_wp2
        go_roundw
        case rel => exact ⟨k + 1, by omega, by go_num, Lib.hid ((hI.out.bad hkl HE.out HM.out 5 he.out (by decide)).later ((Below.refl _ _).alloc (Nat.le_refl _) _))⟩
        case measure => simp [intOf]; omega
      · have b1000 : ((1000 : Int) ≤ (k : Int)) = False := by simp; omega
        cases hwf : wf f with
        | false =>
          have he := Lib.hid (show errD (runD (l.take k)) l[k] = 2 by rw [← HFE.out, HERR.out, if_neg h1000, if_neg (by rw [hwf]; decide)])
          have CF := Lib.hid (fun W => formed_any f W false hwf)
          unfold flAgg at CF
          clear hwf b1000
          go_wp2_with fail
          refine (CF.out _).mono ?_
          rintro e w1 ⟨rfl, hb⟩
          have I1 := Lib.hid (IA.out.later hb)
          obtain ⟨ve, hve⟩ := I1.out.err.cell.1 k hkl
          have zve := I1.out.err.cell.2 k
          clear hb
          go_wp2
          go_roundw
          case rel => exact ⟨k + 1, by omega, by go_num, Lib.hid (I1.out.bad hkl HE.out HM.out 2 he.out (by decide))⟩
          case measure => simp [intOf]; omega
        | true =>
          have WF := Lib.hid ((wf_iff f).1 hwf)
          have CF := Lib.hid (fun W => formed_any f W true hwf)
          unfold flAgg at CF
          obtain ⟨la, hla⟩ : ∃ la, la = (runD (l.take k)).last := ⟨_, rfl⟩
          have HLA := Lib.hid hla
          by_cases hday : f.day < la
          · have he := Lib.hid (show errD (runD (l.take k)) l[k] = 400 by rw [← HFE.out, HERR.out, if_neg h1000, if_pos hwf, ← HLA.out, if_pos hday])
            clear hwf b1000 hla
            go_wp2_with fail
            refine (CF.out _).mono ?_
            rintro e w1 ⟨rfl, hb⟩
            have I1 := Lib.hid (IA.out.later hb)
            have F1 := (flbox_new wr f).of_block (hb.block wr.heap.size (by simp))
            obtain ⟨q0, q1, q2, q3, q4, q5⟩ := F1.cell
            obtain ⟨pc, cc, d0, d1, dz⟩ := I1.out.dk.cell
            rw [← HLA.out] at d1
            obtain ⟨ve, hve⟩ := I1.out.err.cell.1 k hkl
            have zve := I1.out.err.cell.2 k
            have I2 := Lib.hid (fun nq => I1.out.later (below_drewN (Below.refl _ w1) nq))
            clear hb F1
            go_wp2
            go_quiet (fail)
            go_wp2
            go_roundw
            case rel => exact ⟨k + 1, by omega, by go_num, Lib.hid ((I2.out _).bad hkl HE.out HM.out 400 he.out (by decide))⟩
            case measure => simp [intOf]; omega
          · obtain ⟨ee, hee⟩ : ∃ ee, ee = errL (runD (l.take k)).cs f := ⟨_, rfl⟩
            have HEE := Lib.hid hee
            have he := Lib.hid (show errD (runD (l.take k)) l[k] = errL (runD (l.take k)).cs l[k] by rw [← HFE.out, HERR.out, if_neg h1000, if_pos hwf, ← HLA.out, if_neg hday])
            obtain ⟨kk, hkk⟩ : ∃ kk : Nat, f.kind = (kk : Int) + 1 := ⟨(f.kind - 1).toNat, by have := WF.out.kind; omega⟩
            have hk7 : kk < 7 := by have := WF.out.kind; omega
            obtain ⟨jj, hfn⟩ : ∃ j, Instr.findNow (.int .u8) (.int .u8 f.kind) es.toList 0 = some (some (j, val7 B kk)) := by
              have := HL.out.2 kk hk7
              rw [if_pos (bit_all ⟨kk, hk7⟩)] at this
              rw [hkk]; exact this
            obtain ⟨mf, hmf⟩ : ∃ mf, mf = meth7 kk := ⟨_, rfl⟩
            have ek := ek7 kk hk7
            have hv7 : val7 B kk = .func (.func mf) #[.pointer (some ⟨B, 0, none⟩)] #[] := by unfold val7; rw [hmf]
            rw [hv7] at hfn
            rw [← hmf] at ek
            have HFN := Lib.hid hfn
            have HKK := Lib.hid hkk
            have HMF := Lib.hid hmf
            clear hwf b1000 hla hee hfn hkk hv7 hmf
            go_wp2_with fail
            refine (CF.out _).mono ?_
            rintro e w1 ⟨rfl, hb⟩
            have I1 := Lib.hid (IA.out.later hb)
            have F1 := (flbox_new wr f).of_block (hb.block wr.heap.size (by simp))
            obtain ⟨q0, q1, q2, q3, q4, q5⟩ := F1.cell
            have HF1 := Lib.hid F1
            obtain ⟨pc, cc, d0, d1, dz⟩ := I1.out.dk.cell
            rw [← HLA.out] at d1
            have I2 := Lib.hid (fun nq => I1.out.later (below_drewN (Below.refl _ w1) nq))
            have hlk := fun nq => MapAt.lookup (P := Tryz.prog) (w := w1.drewN nq) (I2.out nq).map Tryz.underlying101 Tryz.underlying5 f.kind jj _ HFN.out
            have hsz1 := hb.size
            have CM := Lib.hid (fun nq => show Calls Tryz.prog mf #[.pointer (some ⟨B, 0, none⟩), flAgg f] (w1.drewN nq) (MPost w.heap.size B (runD (l.take k)).cs (runD (l.take k)).last f (w1.drewN nq)) from by
              rw [HMF.out]
              have ok := runD_ok (l.take k)
              exact meth_any w.heap.size B _ _ f kk HKK.out WF.out _ (I2.out nq).dk (I2.out nq).but.size ok.len ok.cs)
            unfold flAgg at CM
            clear hb F1 d0 dz
            by_cases h0 : ee = 0
            · subst h0
              go_wp2
              go_quiet (fail)
              go_wp2_with fail
              refine (CM.out _).mono ?_
              rintro e W2 ⟨rfl, hdk, hfr⟩
              rw [← HEE.out]
              have HDN := Lib.hid ((I2.out _).done hBl hkl HE.out HM.out hfr (by rw [he.out]) (by rw [← HFE.out]; exact hdk))
              rw [← HFE.out, ← HEE.out] at HDN
              have HX := Lib.hid (HDN.out.2 rfl)
              obtain ⟨m1, m2, m3⟩ := (I2.out _).meth hfr hBl
              obtain ⟨ve, hve⟩ := m1.cell.1 k hkl
              have zve := m1.cell.2 k
              obtain ⟨q0, q1, q2, q3, q4, q5⟩ := (show FlBox W2 wr.heap.size f from hfr.other (show (w1.drewN _).heap[wr.heap.size]? = _ from HF1.out) (by omega) (fun cs z e => by injection e with _ e _; exact absurd e (by decide))).cell
              obtain ⟨pc, cc, d0, d1, dz⟩ := hdk.cell
              have zl := dz 1
              have hEB : E ≠ B := hdk.ne_err m1
              have hsz2 := hfr.size
              clear hdk hfr m1 m2 m3 dz d0 hlk ek
              go_wp2
              go_roundw
              case rel => exact ⟨k + 1, by omega, by go_num, HX⟩
              case measure => simp [intOf]; omega
            · have b0 : (ee == 0) = false := by simpa using h0
              have H0 := Lib.hid h0
              clear h0
              go_wp2
              go_quiet (fail)
              go_wp2_with fail
              refine (CM.out _).mono ?_
              rintro e W2 ⟨rfl, hdk, hfr⟩
              rw [← HEE.out]
              have HDN := Lib.hid ((I2.out _).done hBl hkl HE.out HM.out hfr (by rw [he.out]) (by rw [← HFE.out]; exact hdk))
              rw [← HFE.out, ← HEE.out] at HDN
              have HX := Lib.hid (HDN.out.1 H0.out)
              obtain ⟨m1, m2, m3⟩ := (I2.out _).meth hfr hBl
              obtain ⟨ve, hve⟩ := m1.cell.1 k hkl
              have zve := m1.cell.2 k
              have hsz2 := hfr.size
              clear hdk hfr m1 m2 m3 hlk ek
              go_wp2
              go_roundw
              case rel => exact ⟨k + 1, by omega, by go_num, HX⟩
              case measure => simp [intOf]; omega
    · obtain rfl : k = n := by omega
      have hD := Lib.hid (show DkAt wr w.heap.size B (runD l).cs (runD l).last by have := hI.out.dk; rw [HN.out, List.take_length] at this; exact this)
      have hO := Lib.hid (show EOwns wr w.heap.size (.slice (some ⟨E, 0, none⟩) k k) (errsD l) by
        have := hI.out.err
        rw [HN.out, List.take_length] at this
        have h2 : (errsD l).length = l.length := errsD_length l
        rw [← h2] at this
        have h3 := this.owns HE.out (by have := HN.out; unfold maxLen; omega)
        rw [h2, ← HN.out] at h3; exact h3)
      have hBu := Lib.hid hI.out.but
      go_wp2
      go_ret
      exact ⟨_, rfl, hO.out, hD.out, hBu.out⟩

end Go.Proofs.YtbpoedopdnjffaaGreat

namespace Go.Proofs.YtbpoedopdnjffaaGreat
open Go.RowKit Go.Shelf Sp

theorem flat_append (a b : Sps) : flat (a ++ b) = flat a ++ flat b := by unfold flat; rw [List.flatMap_append]
/-- Spans that an append may read. -/
def SSrc (W : World) (p : Option Addr) (m : Sps) : Prop :=
  (p = none ∧ m = []) ∨ ∃ ad : Addr, p = some ad ∧ ∀ j u, (flat m)[j]? = some u → W.cell? (ad.add j) = some u
theorem ssrc_of {W : World} {p : Option Addr} {m : Sps} (h : Cells W p m) : SSrc W p m := by
  cases p with
  | none =>
    left
    refine ⟨rfl, ?_⟩
    rcases h with h | ⟨_, _, e, _⟩
    · exact h
    · cases e
  | some ad =>
    refine .inr ⟨ad, rfl, fun j u hu => ?_⟩
    rcases h with rfl | ⟨b, off, e, hc⟩
    · simp [flat] at hu
    · cases e
      have hj : j < m.length * 2 := by rw [← flat_length]; exact (List.getElem?_eq_some_iff.1 hu).1
      have h1 := hc (j / 2) (by omega)
      have h2 := flat_get m (j / 2) (by omega)
      rw [WideShapes.add_plain]
      rcases Nat.mod_two_eq_zero_or_one j with e | e
      · rw [show j = j / 2 * 2 by omega, h2.1] at hu
        cases hu
        rw [show off + j = off + j / 2 * 2 by omega]; exact h1.1
      · rw [show j = j / 2 * 2 + 1 by omega, h2.2] at hu
        cases hu
        rw [show off + j = off + j / 2 * 2 + 1 by omega]; exact h1.2

theorem flat_cell (l : Sps) : ∀ u ∈ flat l, u.oneCell' = true := by
  intro u hu
  unfold flat at hu
  rw [List.mem_flatMap] at hu
  obtain ⟨s, _, hs⟩ := hu
  simp at hs
  rcases hs with rfl | rfl <;> rfl

theorem run_append_none (w : World) (base : Nat) (v : Value) (l : Sps) (hown : Owns w base v l) (c : Nat) :
    (Builtin.append_ #[50, 50] 50 #[v, .slice none 0 c]).run Tryz.prog w = .ok v w := by
  obtain ⟨i0, hi0, hz0, hz1, hz2⟩ := info_parts info_span
  rcases hown.2 with ⟨rfl, h0⟩ | ⟨g, cap, cur, rfl, _, _, hnc, _⟩
  · simp [Builtin.append_, run_underlying (P := Tryz.prog) Tryz.underlying50, sizeOf, typeInfo, hi0, Builtin.lenOf, Builtin.firstCells]
  · simp [Builtin.append_, run_underlying (P := Tryz.prog) Tryz.underlying50, sizeOf, typeInfo, hi0, Builtin.lenOf, Builtin.firstCells, hnc, storeCells]

theorem run_append_arg (w : World) (base : Nat) (v : Value) (l : Sps) (hown : Owns w base v l) (p : Option Addr) (c : Nat) (m : Sps) (hs : SSrc w p m) (hN : l.length + m.length ≤ 100000) (hbase : base ≤ w.heap.size) :
    ∃ v' w', (Builtin.append_ #[50, 50] 50 #[v, .slice p m.length c]).run Tryz.prog w = .ok v' w' ∧ Owns w' base v' (l ++ m) ∧ w.grownBy w' v.ownBlock ∧ (v'.ownBlock = v.ownBlock ∨ v'.ownBlock = some w.heap.size) := by
  obtain ⟨i0, hi0, hz0, hz1, hz2⟩ := info_parts info_span
  rcases hs with ⟨rfl, rfl⟩ | ⟨ad, rfl, hc⟩
  · exact ⟨v, w, run_append_none w base v l hown c, by rw [List.append_nil]; exact hown, World.grownBy.refl w _, .inl rfl⟩
  · obtain ⟨v', w', h1, h2, h3, _, h5⟩ := run_append_own_at (P := Tryz.prog) w base 50 50 54 i0 _ 2 16 Tryz.underlying50 hi0 hz0 hz1 hz2 rfl (by omega) v l.length (flat l) hown ad m.length c (flat m) (flat_length m) hc (flat_cell m) (by simp only [maxLen]; omega) (by omega) hbase
    refine ⟨v', w', h1, ?_, h3, h5⟩
    unfold Owns
    rw [flat_append, List.length_append]
    exact h2

theorem wp_append_arg {o : Oper} {a : Act} {K : Act → World → Prop} {Q : Exit → Act → World → Prop} (w : World) (s x : Operand)
    (ho : o.op = .call { callee := .builtin .append, args := #[s, x], argTypes := #[50, 50] }) (hty : o.type = 50)
    (base : Nat) (v : Value) (l : Sps) (hs : a.eval s = v) (hown : Owns w base v l) (p : Option Addr) (n c : Nat) (m : Sps) (hn : m.length = n) (hx : a.eval x = .slice p n c) (hsr : SSrc w p m) (hN : l.length + m.length ≤ 100000) (hbase : base ≤ w.heap.size)
    (h : ∀ v' w', Owns w' base v' (l ++ m) → w.grownBy w' v.ownBlock → (v'.ownBlock = v.ownBlock ∨ v'.ownBlock = some w.heap.size) → K (a.put o.dst v') w') : o.wp Tryz.prog a w K Q := by
  subst hn
  obtain ⟨v', w', hr, h2, h3, h4⟩ := run_append_arg w base v l hown p c m hsr hN hbase
  unfold Oper.wp execOp
  simp only [ho, hty, resolve, invoke, builtin, Sem.run_bind, Sem.run_pure, Result.andThen_ok, List.map_toArray, List.map_cons, List.map_nil, hs, hx, hr]
  exact h v' w' h2 h3 h4

theorem Owns.below_row {W w1 w : World} {base : Nat} {v : Value} {l : Sps} (h : Owns W base v l) (hb : Below w.heap.size w W) (hbase : w.heap.size ≤ base) (hg : W.grownBy w1 v.ownBlock) : Below w.heap.size w w1 :=
  hb.grown hg hb.size fun j ej => by
    rcases h.2 with ⟨rfl, _⟩ | ⟨g, cap, cur, rfl, hb, _, _⟩
    · simp [Value.ownBlock] at ej
    · obtain rfl : g = j := by simpa [Value.ownBlock] using ej
      omega


theorem EOwns.low {W : World} {base b2 : Nat} {v : Value} {es : List Int} (h : EOwns W base v es) (hb : b2 ≤ base) : EOwns W b2 v es := by
  refine ⟨h.1, ?_⟩
  rcases h.2 with h1 | ⟨g, cap, cur, e, hb', rest⟩
  · exact .inl h1
  · exact .inr ⟨g, cap, cur, e, by omega, rest⟩
theorem docket_new (w : World) : (w.alloc (.cells #[.slice none 0 0, .int .i64 0] 60)).heap[w.heap.size]? = some (.cells #[.slice none 0 0, .int .i64 0] 60 (0, 0)) := World.alloc_heap_new w _
theorem FCells.alloc {w : World} {p : Option Addr} {l : List Fl} (h : FCells w p l) (o : Obj) : FCells (w.alloc o) p l := h.below ((Below.refl _ _).alloc (Nat.le_refl _) o)
/-- file, called upon a docket that has just been made. -/
theorem file_new (l : List Fl) (p : Option Addr) (cap : Nat) (w : World) (hc : FCells w p l) (bd : ∀ f ∈ l, f.Bd) (hl : l.length ≤ 100000) :
    Calls Tryz.prog 27 #[.pointer (some ⟨w.heap.size, 0, none⟩), .slice p l.length cap] (w.alloc (.cells #[.slice none 0 0, .int .i64 0] 60)) fun e W' => ∃ v, e = .returned v ∧ EOwns W' w.heap.size v (errsD l) ∧ DkAt W' (w.heap.size + 1) w.heap.size (runD l).cs (runD l).last ∧ Below w.heap.size w W' := by
  refine (file_any w.heap.size l p cap _ (docket_new w) (hc.alloc _) bd hl).mono ?_
  rintro e W ⟨v, rfl, ho, hd, hb⟩
  rw [World.size_alloc] at ho hd
  exact ⟨v, rfl, ho.low (Nat.le_succ _), hd, hb.belowOf ((Below.refl _ _).alloc (Nat.le_refl _) _) (by simp) (Nat.le_refl _)⟩

set_option maxHeartbeats 1000000 in
theorem run_any (l : List Fl) (p : Option Addr) (cap : Nat) (w : World) (hc : FCells w p l) (bd : ∀ f ∈ l, f.Bd) (hl : l.length ≤ 100000) :
    Calls Tryz.prog 12 #[.slice p l.length cap] w fun e W' => ∃ v, e = .returned v ∧ EOwns W' w.heap.size v (errsD l) ∧ Below w.heap.size w W' := by
  have CF := Lib.hid (file_new l p cap w hc bd hl)
  clear hc bd
  go_enter Tryz.func12, Tryz.ntmps12
  go_wp2_with fail
  refine CF.out.mono ?_
  rintro e W ⟨v, rfl, ho, _, hb⟩
  go_wp2
  go_ret
  exact ⟨v, rfl, ho, hb⟩

/-- A case is handed back, its held days in memory of its own. -/
def AtPost (c : Cs) (w : World) (e : Ending) (w' : World) : Prop := ∃ u, e = .returned (.agg #[.bool c.el, .int .u8 c.st, .int .i64 c.opened, .int .i64 c.days, .int .i64 c.choice, .int .i64 c.level, .int .i64 c.due, .bool c.hold, .int .i64 c.since, u]) ∧ Owns w' w.heap.size u c.held ∧ Below w.heap.size w w'
theorem res_mid {w W1 : World} {o : Obj} {cs : Array Value} {t : TypeId} {C : Nat} (q : But C ((w.alloc (.cells cs t)).alloc o) W1) (hC : w.heap.size ≠ C) : W1.heap[w.heap.size]? = some (.cells cs t (0, 0)) := by
  have h1 : (w.alloc (.cells cs t)).heap[w.heap.size]? = some (.cells cs t (0, 0)) := World.alloc_heap_new w _
  have h2 := (((Below.refl _ (w.alloc (.cells cs t))).alloc (Nat.le_refl _) o).block w.heap.size (Array.getElem?_eq_some_iff.1 h1).1).trans h1
  exact (q.block _ (Array.getElem?_eq_some_iff.1 h2).1 hC).trans h2

def zeroCase : Array Value := #[.bool false, .int .u8 0, .int .i64 0, .int .i64 0, .int .i64 0, .int .i64 0, .int .i64 0, .bool false, .int .i64 0, .slice none 0 0]
theorem at_mid {W2 w3 : World} {R C : Nat} {c : Cs} (Q : CaseAt W2 C c) (hR : W2.heap[R]? = some (.cells zeroCase 52 (0, 0))) (hg : W2.grownBy w3 (Value.slice none 0 0).ownBlock) :
    (∃ v, CaseCells w3 C 0 c v ∧ CsAt w3 C c v) ∧ w3.frozen? ⟨C, 9, none⟩ = false ∧ w3.heap[R]? = some (.cells zeroCase 52 (0, 0)) ∧ (w3.cell? ⟨R, 0, none⟩ = some (.bool false) ∧ w3.cell? ⟨R, 1, none⟩ = some (.int .u8 0) ∧ w3.cell? ⟨R, 2, none⟩ = some (.int .i64 0) ∧ w3.cell? ⟨R, 3, none⟩ = some (.int .i64 0) ∧ w3.cell? ⟨R, 4, none⟩ = some (.int .i64 0) ∧ w3.cell? ⟨R, 5, none⟩ = some (.int .i64 0) ∧ w3.cell? ⟨R, 6, none⟩ = some (.int .i64 0) ∧ w3.cell? ⟨R, 7, none⟩ = some (.bool false) ∧ w3.cell? ⟨R, 8, none⟩ = some (.int .i64 0) ∧ w3.cell? ⟨R, 9, none⟩ = some (.slice none 0 0)) ∧ ∀ i, w3.frozen? ⟨R, i, none⟩ = false := by
  have hb : Below W2.heap.size W2 w3 := (Below.refl _ _).grown hg (Nat.le_refl _) (fun k hk => by cases hk)
  obtain ⟨v, A, _⟩ := Q.later hb
  have hR3 := (hb.block R (Array.getElem?_eq_some_iff.1 hR).1).trans hR
  refine ⟨⟨v, A.cell, A⟩, A.frozen 9, hR3, ?_, fun i => by simp [World.frozen?, hR3]⟩
  simp only [World.cell?, hR3]
  exact ⟨rfl, rfl, rfl, rfl, rfl, rfl, rfl, rfl, rfl, rfl⟩

/-- The result's cells are written. -/
def atWorld (w3 : World) (R C : Nat) (c : Cs) (u : Value) : World :=
  (((((((((w3.setCell ⟨C, 9, none⟩ u).setCell ⟨R, 0, none⟩ (.bool c.el)).setCell ⟨R, 1, none⟩ (.int .u8 c.st)).setCell ⟨R, 2, none⟩ (.int .i64 c.opened)).setCell ⟨R, 3, none⟩ (.int .i64 c.days)).setCell ⟨R, 4, none⟩ (.int .i64 c.choice)).setCell ⟨R, 5, none⟩ (.int .i64 c.level)).setCell ⟨R, 6, none⟩ (.int .i64 c.due)).setCell ⟨R, 7, none⟩ (.bool c.hold)).setCell ⟨R, 8, none⟩ (.int .i64 c.since) |>.setCell ⟨R, 9, none⟩ u
theorem atWorld_eq (w3 : World) (R C : Nat) (c : Cs) (u : Value) : atWorld w3 R C c u = setCase (w3.setCell ⟨C, 9, none⟩ u) R 0 c u := rfl
theorem at_end {w w3 : World} {R C : Nat} {c' : Cs} {v4 : Value} (hR : w3.heap[R]? = some (.cells zeroCase 52 (0, 0))) (hC : CsAt w3 C c' v4) (hne : R ≠ C) (hb : Below w.heap.size w w3) (h1 : w.heap.size ≤ R) (h2 : w.heap.size ≤ C) (c : Cs) (u : Value) {base : Nat} (ho : Owns w3 base u c.held) :
    (atWorld w3 R C c u).heap[R]? = some (.cells #[.bool c.el, .int .u8 c.st, .int .i64 c.opened, .int .i64 c.days, .int .i64 c.choice, .int .i64 c.level, .int .i64 c.due, .bool c.hold, .int .i64 c.since, u] 52 (0, 0)) ∧
    Below w.heap.size w (atWorld w3 R C c u) ∧ Owns (atWorld w3 R C c u) base u c.held := by
  rw [atWorld_eq]
  have b1 := (But.refl C w3).set_ 9 u
  have hR1 := (b1.block R (Array.getElem?_eq_some_iff.1 hR).1 hne).trans hR
  obtain ⟨cur, hc1, hc2⟩ := setCase_row (i := 0) c u hR1
  have b2 := setCase_but (w3.setCell ⟨C, 9, none⟩ u) R 0 c u
  have hcur : cur = #[.bool c.el, .int .u8 c.st, .int .i64 c.opened, .int .i64 c.days, .int .i64 c.choice, .int .i64 c.level, .int .i64 c.due, .bool c.hold, .int .i64 c.since, u] := by
    apply Array.toList_inj.1
    rw [hc2]; rfl
  rw [hcur] at hc1
  refine ⟨hc1, ⟨b2.os.trans (b1.os.trans hb.os), b2.tape.trans (b1.tape.trans hb.tape), b2.output.trans (b1.output.trans hb.output), Nat.le_trans hb.size (Nat.le_trans b1.size b2.size), fun k hk => ?_⟩, Owns.butCase hR1 b2 (Owns.butCase hC b1 ho)⟩
  have hk3 : k < w3.heap.size := Nat.lt_of_lt_of_le hk hb.size
  exact (b2.block k (Nat.lt_of_lt_of_le hk3 b1.size) (by omega)).trans ((b1.block k hk3 (by omega)).trans (hb.block k hk))

set_option maxHeartbeats 2000000 in
set_option maxRecDepth 100000 in
theorem at_any (base B k : Nat) (L : List Cs) (last d : Int) (w : World) (h : DkAt w base B L last) (hkl : k < L.length) (ok : (L[k]).Ok) (hd : 0 ≤ d ∧ d ≤ 65535) (hL : L.length ≤ 100) :
    Calls Tryz.prog 30 #[.pointer (some ⟨B, 0, none⟩), .int .i64 ((k : Int) + 1), .int .i64 d] w (AtPost (atP L[k] d) w) := by
  have OK := Lib.hid ok
  obtain ⟨g, cap, u, c0, _, hgB, hbg, hcc, ho, hz⟩ := h.read k hkl
  obtain ⟨pu, cu, rfl, _⟩ := ho.form
  have HO := Lib.hid ho
  obtain ⟨r0, r1, r2, r3, r4, r5, r6, r7, r8, r9⟩ := hcc
  have hBl := h.lt
  have hgl : g < w.heap.size := World.block_lt_of_cell? w _ r0
  have hgw : g ≠ w.heap.size := by omega
  have hBw : B ≠ w.heap.size := by omega
  clear h ho ok
  go_enter Tryz.func30, Tryz.ntmps30
  go_wp2_with fail
  refine (pass_any (w.heap.size + 1) L[k] d _ (caseAt_new ?_ ?_) OK.out).mono ?_
  · exact World.ownsRow.alloc HO.out _
  · simp
  rintro e W1 ⟨rfl, q1, q2⟩
  have HB1 := Lib.hid (q2.belowOf (base := w.heap.size) (w0 := w) (((Below.refl _ _).alloc (Nat.le_refl _) _).alloc (by simp) _) (by simp; omega) (by omega))
  have R1 := Lib.hid (res_mid q2 (by omega))
  have ok1 := Lib.hid (passP_ok OK.out d)
  obtain ⟨c', hc'⟩ : ∃ c', c' = passP L[k] d := ⟨_, rfl⟩
  have HC' := Lib.hid hc'
  rw [← hc'] at ok1 q1
  have Q1 := Lib.hid q1
  have hC1 : w.heap.size + 1 < W1.heap.size := by obtain ⟨_, A1, _⟩ := q1; exact A1.lt
  have z1 := HB1.out.size
  have HE := Lib.hid (show atP L[k] d = { c' with held := heldP c' (d + 1) } by unfold atP; rw [← HC'.out])
  obtain ⟨hl, hhl⟩ : ∃ hl, hl = heldP c' (d + 1) := ⟨_, rfl⟩
  have CH := Lib.hid (held_any (w.heap.size + 1) c' (d + 1) W1 Q1.out ok1.out.h)
  rw [← hhl] at CH
  have HL14 := Lib.hid (show hl.length ≤ 14 by rw [hhl]; exact Nat.le_trans (heldP_len ok1.out _) hb_max)
  rw [← hhl] at HE
  clear q1 q2 c0 r0 r1 r2 r3 r4 r5 r6 r7 r8 r9 hz hc' hhl
  go_wp2_with fail
  refine CH.out.mono ?_
  rintro e W2 ⟨u2, rfl, ho2, hb2⟩
  obtain ⟨p2, c2, rfl, hcl2⟩ := ho2.form
  have HS := Lib.hid (ssrc_of hcl2)
  have HB2 := Lib.hid (below_next HB1.out hb2)
  have R2 := Lib.hid ((hb2.block w.heap.size (by omega)).trans R1.out)
  have Q2 := Lib.hid (Q1.out.later hb2)
  have hsz2 := hb2.size
  clear hcl2 ho2 hb2
  go_wp2_with (first | (at_builtin; refine wpList_plain rfl fun KK hKK => ?_; refine wp_append_arg _ _ _ rfl rfl w.heap.size (.slice none 0 0) [] rfl (Owns.nil _ _) p2 hl.length c2 hl rfl rfl HS.out (by have := HL14.out; simp; omega) HB2.out.size ?_; intro v3 w3 hown3 hgrow3 _; obtain ⟨p3, c3, rfl, _⟩ := Owns.form hown3; obtain ⟨⟨v4, ⟨t0, t1, t2, t3, t4, t5, t6, t7, t8, t9⟩, AA⟩, x9, R3, ⟨y0, y1, y2, y3, y4, y5, y6, y7, y8, y9⟩, yf⟩ := at_mid Q2.out R2.out hgrow3; simp only [Nat.zero_add] at t1 t2 t3 t4 t5 t6 t7 t8 t9; have f0 := yf 0; have f1 := yf 1; have f2 := yf 2; have f3 := yf 3; have f4 := yf 4; have f5 := yf 5; have f6 := yf 6; have f7 := yf 7; have f8 := yf 8; have f9 := yf 9; have HR3 := Lib.hid R3; have HA := Lib.hid AA; have HO3 := Lib.hid hown3; have HG3 := Lib.hid hgrow3; clear yf R3 AA hown3 hgrow3; refine hKK _ _ ?_; clear hKK) | fail)
  obtain ⟨e1, e2, e3⟩ := at_end HR3.out HA.out (by omega) (below_next HB2.out ((Below.refl _ _).grown HG3.out (Nat.le_refl _) (fun k hk => by cases hk))) (Nat.le_refl _) (by omega) { c' with held := hl } (.slice p3 hl.length c3) HO3.out
  refine bodyPost_ret (results_cell_row rfl _ _ w.heap.size 52 _ (0, 0) _ rfl e1 Tryz.underlying52 rfl (by kernel_rfl)) rfl ?_
  rw [HE.out]
  exact ⟨.slice p3 hl.length c3, rfl, e3, e2⟩

end Go.Proofs.YtbpoedopdnjffaaGreat

namespace Go.Proofs.YtbpoedopdnjffaaGreat
open Go.RowKit Go.Shelf Sp

/-- The slice v is the cases L, all of it in memory of its own at base or beyond. -/
def AParts (W : World) (base : Nat) (v : Value) (ps : List (Cs × Value)) : Prop :=
  W.ownsRow base 52 10 v ps.length (cflat ps) ∧ (∀ p ∈ ps, Owns W base p.2 p.1.held) ∧ ps.Pairwise fun p q => p.2.ownBlock = none ∨ p.2.ownBlock ≠ q.2.ownBlock
def ARow (W : World) (base : Nat) (v : Value) (L : List Cs) : Prop := ∃ ps, ps.map Prod.fst = L ∧ AParts W base v ps
theorem ARow.nil (W : World) (base : Nat) : ARow W base (.slice none 0 0) [] := ⟨[], rfl, World.ownsRow_nil _ _ _ _, by simp, List.Pairwise.nil⟩
theorem Owns.base {W : World} {b b2 : Nat} {v : Value} {l : Sps} (h : Owns W b v l) (hb : b2 ≤ b) : Owns W b2 v l := by
  refine ⟨h.1, ?_⟩
  rcases h.2 with h1 | ⟨g, cap, cur, e, hb', rest⟩
  · exact .inl h1
  · exact .inr ⟨g, cap, cur, e, by omega, rest⟩
theorem ownsRow_low {W : World} {e : TypeId} {s b b2 : Nat} {v : Value} {n : Nat} {xs : List Value} (h : W.ownsRow b e s v n xs) (hb : b2 ≤ b) : W.ownsRow b2 e s v n xs := by
  refine ⟨h.1, ?_⟩
  rcases h.2 with h1 | ⟨g, cap, cur, e, hb', rest⟩
  · exact .inl h1
  · exact .inr ⟨g, cap, cur, e, by omega, rest⟩
theorem ARow.low {W : World} {base b2 : Nat} {v : Value} {L : List Cs} (h : ARow W base v L) (hb : b2 ≤ base) : ARow W b2 v L := by
  obtain ⟨ps, h1, h2, h3, h4⟩ := h
  exact ⟨ps, h1, ownsRow_low h2 hb, fun p hp => (h3 p hp).base hb, h4⟩
theorem ownsRow_later {W W' : World} {e : TypeId} {s base : Nat} {v : Value} {n : Nat} {xs : List Value} (h : W.ownsRow base e s v n xs) (hb : Below W.heap.size W W') : W'.ownsRow base e s v n xs :=
  World.ownsRow.kept h (row := none) ⟨hb.os, hb.tape, hb.output, hb.size, fun k hk _ => hb.block k hk⟩ (by cases v.ownBlock <;> simp)
theorem ARow.later {W W' : World} {base : Nat} {v : Value} {L : List Cs} (h : ARow W base v L) (hb : Below W.heap.size W W') : ARow W' base v L := by
  obtain ⟨ps, h1, h2, h3, h4⟩ := h
  exact ⟨ps, h1, ownsRow_later h2 hb, fun p hp => (h3 p hp).later hb, h4⟩

/-- Held days stay where a row of cases grows. -/
theorem Owns.grownCase {W w' : World} {ps : List (Cs × Value)} {v : Value} {base : Nat} (hr : W.ownsRow base 52 10 v ps.length (cflat ps)) (hg : W.grownBy w' v.ownBlock) {b0 : Nat} {u : Value} {l : Sps} (ho : Owns W b0 u l) : Owns w' b0 u l := by
  refine World.ownsRow.kept ho hg ?_
  cases hu : u.ownBlock with
  | none => exact .inl rfl
  | some k =>
    right
    intro e
    rcases hr.2 with ⟨rfl, _⟩ | ⟨g, cap, cur, rfl, _, hgb, _⟩
    · simp [Value.ownBlock] at e
    · obtain rfl : k = g := by simpa [Value.ownBlock] using e
      rcases ho.2 with ⟨rfl, _⟩ | ⟨g2, cap2, cur2, rfl, _, hgb2, _⟩
      · simp [Value.ownBlock] at hu
      · obtain rfl : g2 = k := by simpa [Value.ownBlock] using hu
        rw [hgb] at hgb2
        injection hgb2 with hgb2
        injection hgb2 with _ e2 _
        exact absurd e2 (by decide)

theorem AParts.step {wr W2 w' : World} {base : Nat} {v v' : Value} {ps : List (Cs × Value)} (h : AParts wr base v ps) (hb : Below wr.heap.size wr W2) (hbase : base ≤ wr.heap.size) {c : Cs} {u : Value} (ho : Owns W2 wr.heap.size u c.held) (o : Obj)
    (hg : (W2.alloc o).grownBy w' v.ownBlock) (hown : w'.ownsRow base 52 10 v' (ps.length + 1) (cflat ps ++ csRow c u)) : AParts w' base v' (ps ++ [(c, u)]) := by
  obtain ⟨h2, h3, h4⟩ := h
  have hr : (W2.alloc o).ownsRow base 52 10 v ps.length (cflat ps) := (ownsRow_later h2 hb).alloc o
  refine ⟨by rw [List.length_append, List.length_singleton, cflat_append]; simpa [cflat] using hown, fun p hp => ?_, List.pairwise_append.2 ⟨h4, List.pairwise_singleton .., fun p hp q hq => ?_⟩⟩
  · rcases List.mem_append.1 hp with hp | hp
    · exact Owns.grownCase hr hg (World.ownsRow.alloc ((h3 p hp).later hb) o)
    · rw [List.mem_singleton.1 hp]
      exact (Owns.grownCase hr hg (World.ownsRow.alloc ho o)).base hbase
  · rw [List.mem_singleton.1 hq]
    cases hk : p.2.ownBlock with
    | none => exact .inl rfl
    | some k =>
      right
      intro e
      have l1 := (World.ownsRow.lt (h3 p hp) k hk).2
      have l2 := (World.ownsRow.lt ho k e.symm).1
      omega
theorem AParts.below {wr W2 w' W1 : World} {v : Value} {ps : List (Cs × Value)} (h : AParts wr W1.heap.size v ps) (hb1 : Below W1.heap.size W1 wr) (hb : Below wr.heap.size wr W2) (o : Obj) (hg : (W2.alloc o).grownBy w' v.ownBlock) : Below W1.heap.size W1 w' :=
  (((hb1.trans (hb.mono hb1.size)).alloc (Nat.le_trans hb1.size hb.size) o)).grown hg (by have := hb1.size; have := hb.size; simp; omega) fun g e => (World.ownsRow.lt h.1 g e).1

theorem cell_case (w : World) (c : Cs) (u : Value) (k : Nat) (hk : w.heap.size = k) : ∀ j x, (csRow c u)[j]? = some x → (w.alloc (.cells #[.bool c.el, .int .u8 c.st, .int .i64 c.opened, .int .i64 c.days, .int .i64 c.choice, .int .i64 c.level, .int .i64 c.due, .bool c.hold, .int .i64 c.since, u] 52)).cell? ((⟨k, 0, none⟩ : Addr).add j) = some x := by
  subst hk
  exact World.news_of_block (World.alloc_heap_new w _)

theorem atErr_bad {l : List Fl} {d : Int} (h : ¬ (0 ≤ d ∧ d ≤ 65535)) : atErr l d = 2 := by unfold atErr; rw [if_neg h]
theorem atErr_day {l : List Fl} {d : Int} (h : 0 ≤ d ∧ d ≤ 65535) (h2 : d < (runD l).last) : atErr l d = 400 := by unfold atErr; rw [if_pos h, if_pos h2]
theorem atErr_ok {l : List Fl} {d : Int} (h : 0 ≤ d ∧ d ≤ 65535) (h2 : ¬ d < (runD l).last) : atErr l d = 0 := by unfold atErr; rw [if_pos h, if_neg h2]
theorem ret_err {v : Value} {a b : Int} (h : a = b) : Ending.returned (.tuple #[v, .int .i64 a]) = .returned (.tuple #[v, .int .i64 b]) := by rw [h]
/-- What At hands back. -/
def AtAll (l : List Fl) (d : Int) (w : World) (e : Ending) (w' : World) : Prop := ∃ v, e = .returned (.tuple #[v, .int .i64 (atErr l d)]) ∧ ARow w' w.heap.size v (atD l d) ∧ Below w.heap.size w w'

set_option maxHeartbeats 4000000 in
set_option maxRecDepth 100000 in
theorem atAll_any (l : List Fl) (d : Int) (p : Option Addr) (cap : Nat) (w : World) (hc : FCells w p l) (bd : ∀ f ∈ l, f.Bd) (hl : l.length ≤ 100000) :
    Calls Tryz.prog 14 #[.slice p l.length cap, .int .i64 d] w (AtAll l d w) := by
  by_cases hd : 0 ≤ d ∧ d ≤ 65535
  · have CD := Lib.hid (isDay_is d true (by simp [hd.1, hd.2]))
    have CF := Lib.hid (file_new l p cap w hc bd hl)
    have DO := Lib.hid (runD_ok l)
    have hlen := DO.out.len
    obtain ⟨la, hla⟩ : ∃ la, la = (runD l).last := ⟨_, rfl⟩
    obtain ⟨L, hLL⟩ : ∃ L, L = (runD l).cs := ⟨_, rfl⟩
    rw [← hla, ← hLL] at CF
    rw [← hLL] at hlen
    have HLA := Lib.hid hla
    have HLL := Lib.hid hLL
    clear hc bd hla hLL
    by_cases h2 : d < la
    · have HE := Lib.hid (atErr_day hd (by rw [← HLA.out]; exact h2))
      have HX := Lib.hid (show atD l d = [] by unfold atD; rw [HE.out, if_neg (by decide)])
      go_enter Tryz.func14, Tryz.ntmps14
      go_wp2_with fail
      refine (CD.out _).mono ?_
      rintro e w1 ⟨rfl, rfl⟩
      go_wp2_with fail
      refine CF.out.mono ?_
      rintro e W ⟨v, rfl, _, hdk, hb⟩
      obtain ⟨pc, cc, d0, d1, _⟩ := hdk.cell
      clear hdk
      go_wp2
      go_ret2
      exact ⟨_, ret_err HE.out.symm, by rw [HX.out]; exact ARow.nil _ _, hb⟩
    · have HE := Lib.hid (atErr_ok hd (by rw [← HLA.out]; exact h2))
      have HX := Lib.hid (show atD l d = L.map fun c => atP c d by unfold atD; rw [HE.out, if_pos rfl, ← HLL.out])
      obtain ⟨i0, hi0, hz0, hz1, hz2⟩ := info_parts info_case
      go_enter Tryz.func14, Tryz.ntmps14
      go_wp2_with fail
      refine (CD.out _).mono ?_
      rintro e w1 ⟨rfl, rfl⟩
      go_wp2_with fail
      refine CF.out.mono ?_
      rintro e W1 ⟨v, rfl, _, hdk, hb⟩
      have HD := Lib.hid hdk
      obtain ⟨pc, cc, d0, d1, _⟩ := hdk.cell
      have HB := Lib.hid hb
      have hws : w.heap.size < W1.heap.size := hdk.lt
      clear hdk hb
      go_wp2
      go_loopw [22, 7] (fun i u wr => ∃ (k : Nat) (v : Value), k ≤ L.length ∧ i = .int .i64 k ∧ v = u ∧ Hid (ARow wr W1.heap.size v ((L.take k).map fun c => atP c d)) ∧ Hid (Below W1.heap.size W1 wr)) (fun i _ _ => L.length - (intOf i).toNat)
      case atStart => exact ⟨0, _, by omega, rfl, rfl, Lib.hid (ARow.nil _ _), Lib.hid (Below.refl _ _)⟩
      case round =>
        obtain ⟨k, v, hk, rfl, rfl, hI, hb⟩ := hrel
        by_cases hlt : k < L.length
        · have hst := Lib.hid (show (L.take (k + 1)).map (fun c => atP c d) = (L.take k).map (fun c => atP c d) ++ [atP L[k] d] by rw [List.take_succ_eq_append_getElem hlt, List.map_append]; rfl)
          obtain ⟨ps, hm, hA⟩ := hI.out
          have hpl : ps.length = k := by
            have := congrArg List.length hm
            rw [List.length_map, List.length_map, List.length_take] at this; omega
          have HM := Lib.hid hm
          have HA := Lib.hid hA
          have HPL := Lib.hid hpl
          have CA := Lib.hid (at_any (w.heap.size + 1) w.heap.size k L la d wr (HD.out.later hb.out) hlt (DO.out.cs _ (by rw [← HLL.out]; exact List.getElem_mem hlt)) hd hlen)
          have hsz := hb.out.size
          clear hm hA hpl hI
          obtain ⟨c, hc⟩ : ∃ c, c = atP L[k] d := ⟨_, rfl⟩
          rw [← hc] at CA hst
          clear hc
          go_wp2_with fail
          refine CA.out.mono ?_
          rintro e W2 ⟨u, rfl, ho, hb2⟩
          obtain ⟨pu, cu, rfl, _⟩ := ho.form
          have HO := Lib.hid ho
          have HB2 := Lib.hid hb2
          have hsz2 := hb2.size
          clear ho hb2
          have HR := Lib.hid (show W2.ownsRow W1.heap.size 52 10 v k (cflat ps) from by have := ownsRow_later HA.out.1 HB2.out; rw [HPL.out] at this; exact this)
          go_wp2_with (first | (at_builtin; refine wpList_append_own _ rfl _ _ 35 rfl W1.heap.size 52 i0 _ 10 88 Tryz.underlying35 hi0 hz0 hz1 hz2 rfl (by decide) _ _ (cflat ps) rfl (HR.out.alloc _) ⟨W2.heap.size, 0, none⟩ 1 1 (csRow c (.slice pu c.held.length cu)) rfl rfl (cell_case W2 c _ _ rfl) (by simp [csRow, Value.oneCell']) (by unfold maxLen; omega) (by omega) (by simp; omega) ?_; intro v' w1 hown' hgrow _) | fail)
          have H1 := Lib.hid (AParts.step HA.out HB2.out hsz HO.out _ hgrow (by rw [HPL.out]; exact hown'))
          have H2 := Lib.hid (AParts.below HA.out hb.out HB2.out _ hgrow)
          clear hown' hgrow
          go_roundw
          case rel => exact ⟨k + 1, _, by omega, by go_num, rfl, Lib.hid ⟨_, by rw [hst.out, List.map_append, HM.out]; rfl, H1.out⟩, H2⟩
          case measure => simp [intOf]; omega
        · obtain rfl : k = L.length := by omega
          have H1 := Lib.hid (show ARow wr w.heap.size v (atD l d) by rw [HX.out]; have := hI.out; rw [List.take_length] at this; exact this.low (by omega))
          have H2 := Lib.hid (show Below w.heap.size w wr from HB.out.trans (hb.out.mono (by omega)))
          go_wp2
          go_ret2
          exact ⟨v, ret_err HE.out.symm, H1.out, H2.out⟩
  · have hd' : (decide (0 ≤ d) && decide (d ≤ 65535)) = false := by rw [← Bool.not_eq_true]; simpa using hd
    have CD := Lib.hid (isDay_is d false hd')
    have HE := Lib.hid (atErr_bad (l := l) hd)
    have HX := Lib.hid (show atD l d = [] by unfold atD; rw [HE.out, if_neg (by decide)])
    clear hd hd' hc bd hl
    go_enter Tryz.func14, Tryz.ntmps14
    go_wp2_with fail
    refine (CD.out _).mono ?_
    rintro e w1 ⟨rfl, rfl⟩
    go_wp2
    go_ret2
    exact ⟨_, ret_err HE.out.symm, by rw [HX.out]; exact ARow.nil _ _, Below.refl _ _⟩

theorem run_field9 (a0 a1 a2 a3 a4 a5 a6 a7 a8 : Value) (p : Option Addr) (n c : Nat) (W : World) : (Instr.field 52 (.agg #[a0, a1, a2, a3, a4, a5, a6, a7, a8, .slice p n c]) 9).run Tryz.prog W = .ok (.slice p n c) W := by
  kernel_rfl

/-- An index of a case, or none. -/
theorem heldD_no {l : List Fl} {n d : Int} (h : ¬ (1 ≤ n ∧ n ≤ (runD l).cs.length) ∨ ¬ (0 ≤ max d (runD l).last ∧ max d (runD l).last ≤ 65535)) : heldD l n d = false := by
  unfold heldD
  dsimp only
  rcases h with h | h
  · have : (decide (1 ≤ n) && decide (n ≤ ((runD l).cs.length : Int))) = false := by rw [← Bool.not_eq_true]; simpa using h
    rw [this]; simp
  · have : (decide (0 ≤ max d (runD l).last) && decide (max d (runD l).last ≤ 65535)) = false := by rw [← Bool.not_eq_true]; simpa using h
    rw [this]; simp
theorem heldD_yes {l : List Fl} {k : Nat} {d : Int} (hk : k < (runD l).cs.length) (hx : 0 ≤ max d (runD l).last ∧ max d (runD l).last ≤ 65535) : heldD l ((k : Int) + 1) d = mem (atP (runD l).cs[k] (max d (runD l).last)).held d := by
  unfold heldD
  dsimp only
  have e1 : (decide (0 ≤ max d (runD l).last) && decide (max d (runD l).last ≤ 65535)) = true := by simpa using hx
  have e2 : (decide (1 ≤ (k : Int) + 1) && decide ((k : Int) + 1 ≤ ((runD l).cs.length : Int))) = true := by simp; omega
  rw [e1, e2, show ((k : Int) + 1).toNat - 1 = k by omega, List.getD_eq_getElem?_getD, List.getElem?_eq_getElem hk]
  rfl

set_option maxHeartbeats 4000000 in
set_option maxRecDepth 100000 in
theorem heldAll_any (l : List Fl) (n d : Int) (p : Option Addr) (cap : Nat) (w : World) (hc : FCells w p l) (bd : ∀ f ∈ l, f.Bd) (hl : l.length ≤ 100000) :
    Calls Tryz.prog 23 #[.slice p l.length cap, .int .i64 n, .int .i64 d] w fun e w' => e = .returned (.bool (heldD l n d)) ∧ Below w.heap.size w w' := by
  have CF := Lib.hid (file_new l p cap w hc bd hl)
  have DO := Lib.hid (runD_ok l)
  have hlen := DO.out.len
  obtain ⟨la, hla⟩ : ∃ la, la = (runD l).last := ⟨_, rfl⟩
  obtain ⟨L, hLL⟩ : ∃ L, L = (runD l).cs := ⟨_, rfl⟩
  rw [← hla, ← hLL] at CF
  rw [← hLL] at hlen
  have HLA := Lib.hid hla
  have HLL := Lib.hid hLL
  obtain ⟨x, hx⟩ : ∃ x, x = max d la := ⟨_, rfl⟩
  have hmx : (if d < la then la else d) = x := by rw [hx]; split <;> omega
  have HX := Lib.hid hx
  clear hc bd hla hLL hx
  by_cases hxd : 0 ≤ x ∧ x ≤ 65535
  · have CD := Lib.hid (isDay_is x true (by simp [hxd.1, hxd.2]))
    by_cases hn1 : n < 1
    · have HR := Lib.hid (show heldD l n d = false from heldD_no (.inl (by omega)))
      go_enter Tryz.func23, Tryz.ntmps23
      go_wp2_with fail
      refine CF.out.mono ?_
      rintro e W ⟨v, rfl, _, hdk, hb⟩
      obtain ⟨pc, cc, d0, d1, _⟩ := hdk.cell
      clear hdk
      go_wp2_with fail
      refine (CD.out _).mono ?_
      rintro e w1 ⟨rfl, rfl⟩
      go_wp2
      go_ret
      exact ⟨ret_bool HR.out.symm, hb⟩
    · by_cases hn2 : (L.length : Int) < n
      · have HR := Lib.hid (show heldD l n d = false from heldD_no (.inl (by rw [← HLL.out]; omega)))
        go_enter Tryz.func23, Tryz.ntmps23
        go_wp2_with fail
        refine CF.out.mono ?_
        rintro e W ⟨v, rfl, _, hdk, hb⟩
        obtain ⟨pc, cc, d0, d1, _⟩ := hdk.cell
        clear hdk
        go_wp2_with fail
        refine (CD.out _).mono ?_
        rintro e w1 ⟨rfl, rfl⟩
        go_wp2
        go_ret
        exact ⟨ret_bool HR.out.symm, hb⟩
      · obtain ⟨k, rfl⟩ : ∃ k : Nat, n = (k : Int) + 1 := ⟨(n - 1).toNat, by omega⟩
        have hkl : k < L.length := by omega
        have HOK := Lib.hid (show (L[k]).Ok from DO.out.cs _ (by rw [← HLL.out]; exact List.getElem_mem hkl))
        have HR := Lib.hid (show heldD l ((k : Int) + 1) d = mem (atP L[k] x).held d from by
          have e := heldD_yes (l := l) (k := k) (d := d) (by rw [← HLL.out]; exact hkl) (by rw [← HLA.out, ← HX.out]; exact hxd)
          rw [← HLA.out, ← HX.out] at e
          rw [e]
          simp only [HLL.out])
        have CA := Lib.hid (fun W h => at_any (w.heap.size + 1) w.heap.size k L la x W h hkl HOK.out hxd hlen)
        have hfl := run_field9
        have HV := Lib.hid (atP_held_valid HOK.out x)
        have HL14 := Lib.hid (show (atP L[k] x).held.length ≤ 14 from Nat.le_trans (heldP_len (passP_ok HOK.out x) _) hb_max)
        obtain ⟨c, hcc⟩ : ∃ c, c = atP L[k] x := ⟨_, rfl⟩
        rw [← hcc] at HR CA HV HL14
        clear hcc
        go_enter Tryz.func23, Tryz.ntmps23
        go_wp2_with fail
        refine CF.out.mono ?_
        rintro e W ⟨v, rfl, _, hdk, hb⟩
        obtain ⟨pc, cc, d0, d1, _⟩ := hdk.cell
        have HD := Lib.hid hdk
        have HB := Lib.hid hb
        clear hdk hb
        go_wp2_with fail
        refine (CD.out _).mono ?_
        rintro e w1 ⟨rfl, rfl⟩
        go_wp2_with fail
        refine (CA.out _ HD.out).mono ?_
        rintro e W2 ⟨u, rfl, ho, hb2⟩
        obtain ⟨pu, cu, rfl, hcu⟩ := ho.form
        have HS := Lib.hid (has_ok c.held d pu cu W2 (by have := HL14.out; omega) HV.out hcu)
        have HB2 := Lib.hid (below_next HB.out hb2)
        clear ho hcu hb2
        go_wp2_with fail
        refine HS.out.mono ?_
        rintro e W3 ⟨rfl, hb3⟩
        go_wp2
        go_ret
        exact ⟨ret_bool HR.out.symm, below_next HB2.out hb3⟩
  · have hd' : (decide (0 ≤ x) && decide (x ≤ 65535)) = false := by rw [← Bool.not_eq_true]; simpa using hxd
    have CD := Lib.hid (isDay_is x false hd')
    have HR := Lib.hid (show heldD l n d = false from heldD_no (.inr (by rw [← HLA.out, ← HX.out]; exact hxd)))
    clear hd' hxd
    go_enter Tryz.func23, Tryz.ntmps23
    go_wp2_with fail
    refine CF.out.mono ?_
    rintro e W ⟨v, rfl, _, hdk, hb⟩
    obtain ⟨pc, cc, d0, d1, _⟩ := hdk.cell
    clear hdk
    go_wp2_with fail
    refine (CD.out _).mono ?_
    rintro e w1 ⟨rfl, rfl⟩
    go_wp2
    go_ret
    exact ⟨ret_bool HR.out.symm, hb⟩

end Go.Proofs.YtbpoedopdnjffaaGreat

namespace Go.Proofs.YtbpoedopdnjffaaGreat
open Go.RowKit Go.Shelf Sp

theorem ends_go {c : Cs} (h : c.Ok) (he : endsP c = true) : goP c 100000 = true := (goP_iff c 100000).2 ⟨he, by have := h.due; omega⟩
theorem setl_next {c : Cs} (h : c.Ok) (he : endsP c = true) : setlP (nextP c) = setlP c := passP_next h (ends_go h he)
theorem setl_stop {c : Cs} (he : ¬ endsP c = true) : setlP c = c := passP_stop (fun h => he ((goP_iff c _).1 h).1)

/-- The answer of Settles. -/
def setlD (l : List Fl) (n : Int) : Int × Bool := if 1 ≤ n ∧ n ≤ (runD l).cs.length then ((setlP ((runD l).cs.getD (n.toNat - 1) ⟨false, 4, 0, 0, 0, 0, 0, false, 0, []⟩)).due, true) else (0, false)
theorem setlD_no {l : List Fl} {n : Int} (h : ¬ (1 ≤ n ∧ n ≤ (runD l).cs.length)) : setlD l n = (0, false) := if_neg h
theorem setlD_yes {l : List Fl} {k : Nat} (hk : k < (runD l).cs.length) : setlD l ((k : Int) + 1) = ((setlP (runD l).cs[k]).due, true) := by
  unfold setlD
  rw [if_pos (by omega), show ((k : Int) + 1).toNat - 1 = k by omega, List.getD_eq_getElem?_getD, List.getElem?_eq_getElem hk]
  rfl

theorem settle_mid {w W1 W2 : World} {C : Nat} {o : Obj} (hB : Below w.heap.size w W1) (hC : W1.heap.size = C) (q : But C (W1.alloc o) W2) : Below w.heap.size w W2 :=
  q.belowOf (hB.alloc hB.size o) (by simp; have := hB.size; omega) (by have := hB.size; omega)

set_option maxHeartbeats 4000000 in
set_option maxRecDepth 100000 in
theorem settles_any (l : List Fl) (n : Int) (p : Option Addr) (cap : Nat) (w : World) (hc : FCells w p l) (bd : ∀ f ∈ l, f.Bd) (hl : l.length ≤ 100000) :
    Calls Tryz.prog 20 #[.slice p l.length cap, .int .i64 n] w fun e w' => e = .returned (.tuple #[.int .i64 (setlD l n).1, .bool (setlD l n).2]) ∧ Below w.heap.size w w' := by
  have CF := Lib.hid (file_new l p cap w hc bd hl)
  have DO := Lib.hid (runD_ok l)
  have hlen := DO.out.len
  obtain ⟨la, hla⟩ : ∃ la, la = (runD l).last := ⟨_, rfl⟩
  obtain ⟨L, hLL⟩ : ∃ L, L = (runD l).cs := ⟨_, rfl⟩
  rw [← hla, ← hLL] at CF
  rw [← hLL] at hlen
  have HLL := Lib.hid hLL
  clear hc bd hla hLL
  by_cases hn1 : n < 1
  · have HR := Lib.hid (setlD_no (l := l) (n := n) (by omega))
    go_enter Tryz.func20, Tryz.ntmps20
    go_wp2_with fail
    refine CF.out.mono ?_
    rintro e W ⟨v, rfl, _, hdk, hb⟩
    obtain ⟨pc, cc, d0, d1, _⟩ := hdk.cell
    clear hdk
    go_wp2
    go_ret2
    exact ⟨ret_two (by rw [HR.out]; rfl) (by rw [HR.out]; rfl), hb⟩
  · by_cases hn2 : (L.length : Int) < n
    · have HR := Lib.hid (setlD_no (l := l) (n := n) (by rw [← HLL.out]; omega))
      go_enter Tryz.func20, Tryz.ntmps20
      go_wp2_with fail
      refine CF.out.mono ?_
      rintro e W ⟨v, rfl, _, hdk, hb⟩
      obtain ⟨pc, cc, d0, d1, _⟩ := hdk.cell
      clear hdk
      go_wp2
      go_ret2
      exact ⟨ret_two (by rw [HR.out]; rfl) (by rw [HR.out]; rfl), hb⟩
    · obtain ⟨k, rfl⟩ : ∃ k : Nat, n = (k : Int) + 1 := ⟨(n - 1).toNat, by omega⟩
      have hkl : k < L.length := by omega
      have HOK := Lib.hid (show (L[k]).Ok from DO.out.cs _ (by rw [← HLL.out]; exact List.getElem_mem hkl))
      have HR := Lib.hid (show setlD l ((k : Int) + 1) = ((setlP L[k]).due, true) from by
        have e := setlD_yes (l := l) (k := k) (by rw [← HLL.out]; exact hkl)
        rw [e]
        simp only [HLL.out])
      go_enter Tryz.func20, Tryz.ntmps20
      go_wp2_with fail
      refine CF.out.mono ?_
      rintro e W1 ⟨v, rfl, _, hdk, hb⟩
      obtain ⟨g, cap', u, c0, _, hgB, hbg, hcc, ho, hz⟩ := hdk.read k hkl
      obtain ⟨pu, cu, rfl, _⟩ := ho.form
      have HO := Lib.hid ho
      obtain ⟨r0, r1, r2, r3, r4, r5, r6, r7, r8, r9⟩ := hcc
      have hgl : g < W1.heap.size := World.block_lt_of_cell? W1 _ r0
      have hgw : g ≠ W1.heap.size := by omega
      have hsz := hb.size
      have HB := Lib.hid hb
      obtain ⟨C, hC⟩ : ∃ C, C = W1.heap.size := ⟨_, rfl⟩
      have HC := Lib.hid hC
      clear hdk ho hb hz
      go_wp2
      rw [← HC.out]
      have C0 := Lib.hid (caseAt_new (W := W1) (k := C) HO.out HC.out.symm)
      generalize hX : W1.alloc _ = X at *
      have HX := Lib.hid hX
      clear hX hC
      go_loopw [] (fun wr => ∃ c' : Cs, Hid (CaseAt wr C c' ∧ c'.Ok ∧ setlP c' = setlP L[k] ∧ But C X wr)) (fun wr => rankAt wr C)
      case atStart => exact ⟨L[k], Lib.hid ⟨C0.out, HOK.out, rfl, But.refl _ _⟩⟩
      case round =>
        obtain ⟨c', hI⟩ := hrel
        obtain ⟨v', A1, _⟩ := hI.out.1
        have CE := Lib.hid (ends_any C c' v' wr A1)
        obtain ⟨_, _, _, _, _, _, g6, _, _, _⟩ := A1.cell
        clear A1
        by_cases he : endsP c' = true
        · rw [he] at CE
          have CN := Lib.hid (next_any C c' wr hI.out.1 hI.out.2.1)
          have hrk := Lib.hid (rankP_next hI.out.2.1 he)
          have hR0 := Lib.hid (rankAt_of hI.out.1)
          go_wp2_with fail
          refine CE.out.mono ?_
          rintro e w1 ⟨rfl, rfl⟩
          go_wp2_with fail
          refine CN.out.mono ?_
          rintro e W2 ⟨rfl, h4, h5⟩
          have J := Lib.hid (show CaseAt W2 C (nextP c') ∧ (nextP c').Ok ∧ setlP (nextP c') = setlP L[k] ∧ But C X W2 from ⟨h4, (nextP_ok hI.out.2.1 he).1, (setl_next hI.out.2.1 he).trans hI.out.2.2.1, hI.out.2.2.2.trans h5⟩)
          have hR1 := Lib.hid (rankAt_of h4)
          clear h4 h5 hI CE CN
          go_wp2
          go_roundw
          case rel => exact ⟨_, J⟩
          case measure => rw [hR0.out, hR1.out]; exact hrk.out
        · have hs := Lib.hid (setl_stop he)
          have he' : endsP c' = false := by simpa using he
          rw [he'] at CE
          have HD := Lib.hid (show c'.due = (setlD l ((k : Int) + 1)).1 ∧ (setlD l ((k : Int) + 1)).2 = true by rw [HR.out, ← hI.out.2.2.1, hs.out]; exact ⟨rfl, rfl⟩)
          have HF := Lib.hid (settle_mid HB.out HC.out.symm (by rw [HX.out]; exact hI.out.2.2.2))
          clear hs hI he he'
          go_wp2_with fail
          refine CE.out.mono ?_
          rintro e w1 ⟨rfl, rfl⟩
          go_wp2
          go_ret2
          exact ⟨ret_two (congrArg (Value.int .i64) HD.out.1) (congrArg Value.bool HD.out.2.symm), HF.out⟩

end Go.Proofs.YtbpoedopdnjffaaGreat

namespace Go.Proofs.YtbpoedopdnjffaaGreat
open Go.RowKit Go.Shelf Sp

theorem take_eq_succ {a b : Sps} {k : Nat} (ha : k < a.length) (hb : k < b.length) (h : a.take k = b.take k) (he : a[k] = b[k]) : a.take (k + 1) = b.take (k + 1) := by
  rw [take_succ_snoc ha, take_succ_snoc hb, h, he]

set_option maxHeartbeats 1000000 in
theorem same_any (a b : Sps) (pa pb : Option Addr) (ca cb : Nat) (w : World) (la : a.length ≤ 100000) (hA : Cells w pa a) (hB : Cells w pb b) :
    Calls Tryz.prog 22 #[.slice pa a.length ca, .slice pb b.length cb] w fun e w' => e = .returned (.bool (decide (a = b))) ∧ Below w.heap.size w w' := by
  by_cases hab : a.length = b.length
  · have HA := Lib.hid hA
    have HB := Lib.hid hB
    clear hA hB
    have hne : ((a.length : Int) != (b.length : Int)) = false := by simp [hab]
    go_enter Tryz.func22, Tryz.ntmps22
    go_wp2_with fail
    go_loopw [5] (fun i wr => ∃ k : Nat, k ≤ a.length ∧ i = .int .i64 k ∧ Hid (a.take k = b.take k) ∧ ∃ m, wr = w.drewN m) (fun i _ => a.length - (intOf i).toNat)
    case atStart => exact ⟨0, by omega, rfl, Lib.hid (by simp), 0, rfl⟩
    case round =>
      obtain ⟨k, hk, rfl, hm, m, rfl⟩ := hrel
      by_cases hlt : k < a.length
      · obtain ⟨ba, oa, rfl, _, x, y, hxy, c1, c2⟩ := HA.out.at k hlt
        obtain ⟨bb, ob, rfl, _, x', y', hxy', c3, c4⟩ := HB.out.at k (by omega)
        have hlb : k < b.length := by omega
        by_cases he : x = x' ∧ y = y'
        · obtain ⟨rfl, rfl⟩ := he
          have hf := Lib.hid (take_eq_succ hlt hlb hm.out (hxy.trans hxy'.symm))
          clear hxy hxy' hab hne
          go_wp2_with fail
          go_quiet (fail)
          go_wp2
          go_roundw
          case rel => exact ⟨k + 1, by omega, by go_num, hf, m + nq, rfl⟩
          case measure => simp [intOf]; omega
        · have hf := Lib.hid (show decide (a = b) = false by simp; intro h; subst h; rw [hxy] at hxy'; cases hxy'; exact he ⟨rfl, rfl⟩)
          clear hxy hxy' hab hne
          by_cases hx : x = x'
          · subst hx
            have hy : ¬ y = y' := fun h => he ⟨rfl, h⟩
            have hy' : (y == y') = false := by simpa using hy
            clear he
            go_wp2_with fail
            go_quiet (fail)
            go_wp2
            go_ret
            exact ⟨ret_bool hf.out.symm, below_drewN (below_drewN (Below.refl _ _) _) _⟩
          · have hx' : (x == x') = false := by simpa using hx
            clear he
            go_wp2_with fail
            go_quiet (fail)
            go_wp2
            go_ret
            exact ⟨ret_bool hf.out.symm, below_drewN (below_drewN (Below.refl _ _) _) _⟩
      · obtain rfl : k = a.length := by omega
        have hf := Lib.hid (show decide (a = b) = true by have := hm.out; rw [List.take_length, hab, List.take_length] at this; simpa using this)
        go_wp2
        go_ret
        exact ⟨ret_bool hf.out.symm, below_drewN (Below.refl _ _) _⟩
  · have hf := Lib.hid (show decide (a = b) = false by simp; intro h; exact hab (by rw [h]))
    have hne : ((a.length : Int) == (b.length : Int)) = false := by simp; omega
    clear hA hB
    go_enter Tryz.func22, Tryz.ntmps22
    go_wp2
    go_ret
    exact ⟨ret_bool hf.out.symm, Below.refl _ _⟩


/-- A case as a value. -/
def csAgg (c : Cs) (u : Value) : Value := .agg #[.bool c.el, .int .u8 c.st, .int .i64 c.opened, .int .i64 c.days, .int .i64 c.choice, .int .i64 c.level, .int .i64 c.due, .bool c.hold, .int .i64 c.since, u]

set_option maxHeartbeats 4000000 in
set_option maxRecDepth 100000 in
theorem sameCase_yes (c : Cs) (pa pb : Option Addr) (ca cb : Nat) (w : World) (la : c.held.length ≤ 100000) (hA : Cells w pa c.held) (hB : Cells w pb c.held) :
    Calls Tryz.prog 33 #[csAgg c (.slice pa c.held.length ca), csAgg c (.slice pb c.held.length cb)] w fun e w' => e = .returned (.bool true) ∧ Below w.heap.size w w' := by
  have HA := Lib.hid hA
  have HB := Lib.hid hB
  unfold csAgg
  obtain ⟨el, st, op, dy, ch, lv, du, ho, si, he⟩ := c
  dsimp only at la HA HB ⊢
  clear hA hB
  go_enter Tryz.func33, Tryz.ntmps33
  go_wp2_with fail
  refine (same_any he he pa pb ca cb _ la ((HA.out.below ((Below.refl _ _).alloc (Nat.le_refl _) _)).below ((Below.refl _ _).alloc (Nat.le_refl _) _)) ((HB.out.below ((Below.refl _ _).alloc (Nat.le_refl _) _)).below ((Below.refl _ _).alloc (Nat.le_refl _) _))).mono ?_
  rintro e w1 ⟨rfl, hb⟩
  go_wp2
  go_ret
  exact ⟨by simp, (((Below.refl _ _).alloc (Nat.le_refl _) _).alloc (by simp) _).trans (hb.mono (by simp; omega))⟩

/-- Cases in memory, to be read. -/
def ACells (w : World) (p : Option Addr) (L : List Cs) : Prop :=
  L = [] ∨ ∃ b off, p = some ⟨b, off, none⟩ ∧ ∀ i : Nat, (h : i < L.length) → ∃ q c, CaseCells w b (off + i * 10) L[i] (.slice q L[i].held.length c) ∧ Cells w q L[i].held
theorem ACells.below {w w' : World} {p : Option Addr} {L : List Cs} (h : ACells w p L) (hb : Below w.heap.size w w') : ACells w' p L := by
  rcases h with h | ⟨b, off, hv, hc⟩
  · exact .inl h
  · refine .inr ⟨b, off, hv, fun i hi => ?_⟩
    obtain ⟨q, c, h1, h2⟩ := hc i hi
    exact ⟨q, c, h1.below hb, h2.below hb⟩
theorem ACells.at {w : World} {p : Option Addr} {L : List Cs} (h : ACells w p L) (i : Nat) (hi : i < L.length) : ∃ b off q c, p = some ⟨b, off, none⟩ ∧ CaseCells w b (off + i * 10) L[i] (.slice q L[i].held.length c) ∧ Cells w q L[i].held := by
  rcases h with h | ⟨b, off, hv, hc⟩
  · rw [h] at hi; simp at hi
  · obtain ⟨q, c, h1, h2⟩ := hc i hi
    exact ⟨b, off, q, c, hv, h1, h2⟩
theorem ARow.form {W : World} {base : Nat} {v : Value} {L : List Cs} (h : ARow W base v L) : ∃ p cap, v = .slice p L.length cap ∧ ACells W p L := by
  obtain ⟨ps, rfl, h2, h3, h4⟩ := h
  have hc : CRow W base v ps := ⟨h2, fun p hp => (h3 p hp).low⟩
  obtain ⟨p, cap, rfl, hr⟩ := hc.form
  refine ⟨p, cap, by rw [List.length_map], ?_⟩
  cases ps with
  | nil => exact .inl rfl
  | cons q qs =>
    obtain ⟨g, rfl, _, _, _, hcl⟩ := hr (by simp)
    refine .inr ⟨g, 0, rfl, fun i hi => ?_⟩
    rw [List.length_map] at hi
    obtain ⟨pu, cu, e, hcu⟩ := (h3 _ (List.getElem_mem hi)).form
    have h1 := (hcl i hi).1
    rw [e] at h1
    rw [List.getElem_map, Nat.zero_add]
    exact ⟨pu, cu, h1, hcu⟩

set_option maxHeartbeats 4000000 in
set_option maxRecDepth 100000 in
theorem sameCases_yes (L : List Cs) (pa pb : Option Addr) (ca cb : Nat) (w : World) (la : L.length ≤ 100000) (lh : ∀ c ∈ L, c.held.length ≤ 1000) (hA : ACells w pa L) (hB : ACells w pb L) :
    Calls Tryz.prog 16 #[.slice pa L.length ca, .slice pb L.length cb] w fun e w' => e = .returned (.bool true) ∧ Below w.heap.size w w' := by
  have HA := Lib.hid hA
  have HB := Lib.hid hB
  have LH := Lib.hid lh
  clear hA hB lh
  go_enter Tryz.func16, Tryz.ntmps16
  go_wp2_with fail
  go_loopw [5] (fun i wr => ∃ k : Nat, k ≤ L.length ∧ i = .int .i64 k ∧ Below w.heap.size w wr) (fun i _ => L.length - (intOf i).toNat)
  case atStart => exact ⟨0, by omega, rfl, Below.refl _ _⟩
  case round =>
    obtain ⟨k, hk, rfl, hb⟩ := hrel
    by_cases hlt : k < L.length
    · obtain ⟨ba, oa, qa, cqa, rfl, c1, s1⟩ := (HA.out.below hb).at k hlt
      obtain ⟨bb, ob, qb, cqb, rfl, c2, s2⟩ := (HB.out.below hb).at k hlt
      have hlc := LH.out _ (List.getElem_mem hlt)
      obtain ⟨c, hc⟩ : ∃ c, c = L[k] := ⟨_, rfl⟩
      rw [← hc] at c1 c2 s1 s2 hlc
      have CS := Lib.hid (fun p : Later wr => sameCase_yes c qa qb cqa cqb p.W (by omega) (s1.below p.below) (s2.below p.below))
      have HC1 := Lib.hid c1
      have HC2 := Lib.hid c2
      unfold csAgg at CS
      clear hc s1 s2 c1 c2
      go_wp2_with fail
      refine wp_region_laterS (fun W => CaseCells W ba (oa + k * 10) c (.slice qa c.held.length cqa) ∧ CaseCells W bb (ob + k * 10) c (.slice qb c.held.length cqb) ∧ Hid (Below w.heap.size w W)) (by kernel_rfl) (by kernel_rfl) (fun p => ⟨HC1.out.below p.below, HC2.out.below p.below, Lib.hid (p.since hb)⟩) ?_
      intro hS
      unfold CaseCells at hS
      repeat (go_big_quiet_step ((go_at_call 33; exact Later.call (CS.out _))))
      refine wpQuiet_nil ?_
      rintro _ ⟨p, rfl⟩
      have B1 := (hS p).2.2
      clear hS
      go_wp2
      go_roundw
      case rel => exact ⟨k + 1, by omega, by go_num, B1.out⟩
      case measure => simp [intOf]; omega
    · obtain rfl : k = L.length := by omega
      go_wp2
      go_ret
      exact ⟨rfl, hb⟩

theorem tmod_cases (x n : Int) (h : 1 ≤ n) : (x.tmod n < 0 → x % n = x.tmod n + n) ∧ (0 ≤ x.tmod n → x % n = x.tmod n) ∧ -n < x.tmod n ∧ x.tmod n < n := by
  have h1 : x.tmod n = x % n - ((if 0 ≤ x ∨ n ∣ x then 0 else n.natAbs : Nat) : Int) := Int.tmod_eq_emod
  have h2 := Int.emod_nonneg x (show n ≠ 0 by omega)
  have h3 := Int.emod_lt_of_pos x (show 0 < n by omega)
  split at h1 <;> omega

end Go.Proofs.YtbpoedopdnjffaaGreat

namespace Go.Proofs.YtbpoedopdnjffaaGreat
open Go.RowKit Go.Shelf Sp

def flRow (f : Fl) : List Value := [.int .u8 f.kind, .int .i64 f.day, .int .i64 f.case, .int .i64 f.n, .int .i64 f.til, .bool f.hold]
def fflat (l : List Fl) : List Value := l.flatMap flRow
theorem fflat_cons (f : Fl) (l : List Fl) : fflat (f :: l) = flRow f ++ fflat l := rfl
theorem fflat_append (a b : List Fl) : fflat (a ++ b) = fflat a ++ fflat b := by unfold fflat; rw [List.flatMap_append]
theorem fflat_length (l : List Fl) : (fflat l).length = l.length * 6 := by
  induction l with
  | nil => rfl
  | cons f l ih => rw [fflat_cons, List.length_append, ih]; simp [flRow]; omega
theorem fflat_get (l : List Fl) : ∀ i j : Nat, (h : i < l.length) → j < 6 → (fflat l)[i * 6 + j]? = (flRow l[i])[j]? := by
  induction l with
  | nil => intro i j h; simp at h
  | cons f l ih =>
    intro i j h hj
    rw [fflat_cons]
    cases i with
    | zero => rw [Nat.zero_mul, Nat.zero_add, List.getElem?_append_left (by simp [flRow]; omega)]; rfl
    | succ i =>
      have := ih i j (by simpa using h) hj
      rw [show (i + 1) * 6 + j = i * 6 + j + 6 by omega, List.getElem?_append_right (by simp [flRow]), show (flRow f).length = 6 from rfl, Nat.add_sub_cancel]
      exact this
/-- The slice v is the filings l, in memory of its own. -/
def FOwns (W : World) (base : Nat) (v : Value) (l : List Fl) : Prop := W.ownsRow base 26 6 v l.length (fflat l)
theorem fcells_row {W : World} {g : Nat} {cur : Array Value} {t : TypeId} {z : Nat × Nat} {l : List Fl} (hg : W.heap[g]? = some (.cells cur t z)) (ht : cur.toList.take (l.length * 6) = fflat l) : FCells W (some ⟨g, 0, none⟩) l := by
  refine .inr ⟨g, 0, rfl, fun i hi => ?_⟩
  have key : ∀ j, j < 6 → W.cell? ⟨g, i * 6 + j, none⟩ = (flRow l[i])[j]? := fun j hj => by
    have e1 := fflat_get l i j hi hj
    rw [← ht, List.getElem?_take, if_pos (by omega), Array.getElem?_toList] at e1
    rw [← e1]
    simp [World.cell?, hg]
  simp only [Nat.zero_add]
  exact ⟨key 0 (by omega), key 1 (by omega), key 2 (by omega), key 3 (by omega), key 4 (by omega), key 5 (by omega)⟩
theorem FOwns.form {W : World} {base : Nat} {v : Value} {l : List Fl} (h : FOwns W base v l) : ∃ p cap, v = .slice p l.length cap ∧ FCells W p l := by
  obtain ⟨hl, hv⟩ := h
  rcases hv with ⟨rfl, h0⟩ | ⟨g, cap, cur, rfl, _, hg, hc, _, _, ht⟩
  · have : l = [] := List.eq_nil_of_length_eq_zero h0
    subst this
    exact ⟨none, 0, rfl, .inl rfl⟩
  · exact ⟨_, _, rfl, fcells_row hg ht⟩
theorem info_filing : (Tryz.prog.info? 26).map (fun i => (i.zero, i.size, i.bytes)) = some (some (.agg #[.int .u8 0, .int .i64 0, .int .i64 0, .int .i64 0, .int .i64 0, .bool false]), 6, 48) := by kernel_rfl
theorem EOwns.form {W : World} {base : Nat} {v : Value} {es : List Int} (h : EOwns W base v es) : ∃ p cap, v = .slice p es.length cap ∧ ∀ i, (hi : i < es.length) → ∃ g, p = some ⟨g, 0, none⟩ ∧ base ≤ g ∧ g < W.heap.size ∧ W.cell? ⟨g, i, none⟩ = some (.int .i64 es[i]) := by
  obtain ⟨hl, hv⟩ := h
  rcases hv with ⟨rfl, h0⟩ | ⟨g, cap, cur, rfl, hb, hg, hc, _, _, ht⟩
  · exact ⟨none, 0, by rw [h0], fun i hi => by omega⟩
  · refine ⟨_, _, rfl, fun i hi => ⟨g, rfl, hb, (Array.getElem?_eq_some_iff.1 hg).1, ?_⟩⟩
    have e1 : (es.map (Value.int .i64))[i]? = some (.int .i64 es[i]) := by simp [hi]
    rw [← ht, List.getElem?_take, if_pos (by omega), Array.getElem?_toList] at e1
    simp [World.cell?, hg, e1]

/-- The filings that are accepted. -/
def takenFrom (D : Dk) : List Fl → List Fl
  | [] => []
  | f :: l => if errD D f = 0 then f :: takenFrom (stepD D f) l else takenFrom (stepD D f) l
def takenP (l : List Fl) : List Fl := takenFrom ⟨0, [], -1⟩ l
theorem takenFrom_snoc (D : Dk) (l : List Fl) (f : Fl) : takenFrom D (l ++ [f]) = takenFrom D l ++ (if errD (l.foldl stepD D) f = 0 then [f] else []) := by
  induction l generalizing D with
  | nil => simp only [List.nil_append, takenFrom, List.foldl_nil]; rfl
  | cons g l ih => rw [List.cons_append, takenFrom, takenFrom, ih, List.foldl_cons]; split <;> simp
theorem takenP_snoc (l : List Fl) (f : Fl) : takenP (l ++ [f]) = takenP l ++ (if errD (runD l) f = 0 then [f] else []) := takenFrom_snoc _ l f
theorem takenFrom_len (D : Dk) (l : List Fl) : (takenFrom D l).length ≤ l.length := by
  induction l generalizing D with
  | nil => simp [takenFrom]
  | cons f l ih =>
    rw [takenFrom]
    have := ih (stepD D f)
    split <;> simp <;> omega
theorem takenP_len (l : List Fl) : (takenP l).length ≤ l.length := takenFrom_len _ l
theorem takenP_take {l : List Fl} {k : Nat} (h : k < l.length) (h2 : k < (errsD l).length) : takenP (l.take (k + 1)) = takenP (l.take k) ++ (if (errsD l)[k] = 0 then [l[k]] else []) := by
  rw [List.take_succ_eq_append_getElem h, takenP_snoc, errsD_get l k h h2]
theorem takenFrom_mem {D : Dk} {l : List Fl} {f : Fl} (h : f ∈ takenFrom D l) : f ∈ l := by
  induction l generalizing D with
  | nil => cases h
  | cons g l ih =>
    rw [takenFrom] at h
    split at h
    · rcases List.mem_cons.1 h with rfl | h
      · exact List.mem_cons_self ..
      · exact List.mem_cons_of_mem _ (ih h)
    · exact List.mem_cons_of_mem _ (ih h)

theorem fcell_six (w : World) (f : Fl) (k : Nat) (hk : w.heap.size = k) : ∀ j x, (flRow f)[j]? = some x → (w.alloc (.cells #[.int .u8 f.kind, .int .i64 f.day, .int .i64 f.case, .int .i64 f.n, .int .i64 f.til, .bool f.hold] 26)).cell? ((⟨k, 0, none⟩ : Addr).add j) = some x := by
  subst hk
  exact World.news_of_block (World.alloc_heap_new w _)
theorem flRow_cell (f : Fl) : ∀ u ∈ flRow f, u.oneCell' = true := by simp [flRow, Value.oneCell']

/-- The day of the last accepted filing; 0 if there is none. -/
def lastP (l : List Fl) : Int := max 0 (runD l).last
theorem lastP_spec (l : List Fl) : (takenP l = [] ∧ (runD l).last = -1) ∨ ∃ t f, takenP l = t ++ [f] ∧ (runD l).last = f.day ∧ 0 ≤ f.day ∧ f.day ≤ 65535 := by
  generalize hl : l.length = n
  induction n generalizing l with
  | zero => rw [List.eq_nil_of_length_eq_zero hl]; exact .inl ⟨rfl, rfl⟩
  | succ n ih =>
    rcases List.eq_nil_or_concat l with rfl | ⟨l', f, rfl⟩
    · simp at hl
    · rw [List.concat_eq_append] at hl ⊢
      rw [takenP_snoc, runD_snoc]
      have ih' := ih l' (by simpa using hl)
      by_cases h0 : errD (runD l') f = 0
      · right
        rw [if_pos h0]
        refine ⟨takenP l', f, rfl, by unfold stepD; rw [if_pos h0], ?_⟩
        have hw : wf f = true := by
          unfold errD at h0
          split at h0
          · omega
          · split at h0
            · assumption
            · omega
        exact ((wf_iff f).1 hw).day
      · rw [if_neg h0, List.append_nil]
        have e : (stepD (runD l') f).last = (runD l').last := by unfold stepD; rw [if_neg h0]
        rw [e]
        exact ih'

end Go.Proofs.YtbpoedopdnjffaaGreat
