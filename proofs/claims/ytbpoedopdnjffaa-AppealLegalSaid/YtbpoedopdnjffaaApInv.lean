/- What file's loop keeps from round to round. -/
import Derived.Test.YtbpoedopdnjffaaApMap
import Derived.Test.YtbpoedopdnjffaaApForm
import Derived.Laws.OwnMore
import Derived.Deep.OwnRows
namespace Go.Proofs.Ytbpoedopdnjffaa
open Go.RowKit Go.Shelf Sp

/-- The errors so far, zeros behind them. -/
def ErrRow (W : World) (E : Nat) (es : List Int) (n : Nat) : Prop := ∃ cur, W.heap[E]? = some (.cells cur 31 (0, 0)) ∧ cur.toList = es.map (Value.int .i64) ++ List.replicate (n - es.length) (.int .i64 0)
theorem ErrRow.set_ {W : World} {E n : Nat} {es : List Int} (h : ErrRow W E es n) (hl : es.length < n) (x : Int) : ErrRow (W.setCell ⟨E, es.length, none⟩ (.int .i64 x)) E (es ++ [x]) n := by
  obtain ⟨cur, h1, h2⟩ := h
  refine ⟨_, setCell_row _ h1, ?_⟩
  rw [Array.toList_setIfInBounds, h2, List.set_append_right _ _ (by simp)]
  obtain ⟨m, hm⟩ : ∃ m, n - es.length = m + 1 := ⟨n - es.length - 1, by omega⟩
  rw [hm, List.length_map, Nat.sub_self, List.replicate_succ, List.set_cons_zero, List.map_append, List.length_append, List.length_singleton, show n - (es.length + 1) = m by omega]
  simp
theorem ErrRow.cell {W : World} {E n : Nat} {es : List Int} (h : ErrRow W E es n) : (∀ i, i < n → ∃ v, W.cell? ⟨E, i, none⟩ = some v) ∧ ∀ i, W.frozen? ⟨E, i, none⟩ = false := by
  obtain ⟨cur, h1, h2⟩ := h
  refine ⟨fun i hi => ?_, fun i => by simp [World.frozen?, h1]⟩
  have hs : cur.size = es.length + (n - es.length) := by rw [← Array.length_toList, h2]; simp
  exact ⟨cur[i]'(by omega), by simp [World.cell?, h1, show i < cur.size by omega]⟩
theorem ErrRow.lt {W : World} {E n : Nat} {es : List Int} (h : ErrRow W E es n) : E < W.heap.size := by
  obtain ⟨cur, h1, _⟩ := h; exact (Array.getElem?_eq_some_iff.1 h1).1
theorem ErrRow.of_block {W W' : World} {E n : Nat} {es : List Int} (h : ErrRow W E es n) (e : W'.heap[E]? = W.heap[E]?) : ErrRow W' E es n := by
  obtain ⟨cur, h1, h2⟩ := h; exact ⟨cur, e.trans h1, h2⟩
theorem ErrRow.dfr {W W' : World} {base B E n : Nat} {es : List Int} (h : ErrRow W E es n) (hd : DFr base B W W') (hne : E ≠ B) : ErrRow W' E es n := by
  obtain ⟨cur, h1, h2⟩ := h
  exact ⟨cur, hd.other h1 hne (fun cs z e => by injection e with _ e _; exact absurd e (by decide)), h2⟩

/-- The slice v holds the errors es, in memory of its own. -/
def EOwns (W : World) (base : Nat) (v : Value) (es : List Int) : Prop := W.ownsRow base 31 1 v es.length (es.map (Value.int .i64))
theorem ErrRow.owns {W : World} {E base : Nat} {es : List Int} (h : ErrRow W E es es.length) (hb : base ≤ E) (hm : es.length ≤ maxLen) : EOwns W base (.slice (some ⟨E, 0, none⟩) es.length es.length) es := by
  obtain ⟨cur, h1, h2⟩ := h
  have h3 : cur.toList = es.map (Value.int .i64) := by rw [h2]; simp
  refine ⟨by simp, .inr ⟨E, es.length, cur, rfl, hb, h1, Nat.le_refl _, hm, ?_, ?_⟩⟩
  · rw [← Array.length_toList, h3]; simp
  · rw [h3, List.take_of_length_le (by simp)]

/-- A docket whose last day is written. -/
theorem DkAt.setLast {W : World} {base B : Nat} {L : List Cs} {last : Int} (h : DkAt W base B L last) (d : Int) : DkAt (W.setCell ⟨B, 1, none⟩ (.int .i64 d)) base B L d := by
  obtain ⟨v, ps, hm, hB, hr⟩ := h
  refine ⟨v, ps, hm, by have := setCell_row (i := 1) (.int .i64 d) hB; simpa using this, hr.of_but ((But.refl B W).set_ 1 _) ⟨fun cs z e => ?_, fun cs z e => ?_⟩⟩
  · rw [hB] at e; injection e with e; injection e with _ e _; exact absurd e (by decide)
  · rw [hB] at e; injection e with e; injection e with _ e _; exact absurd e (by decide)
/-- A store into a block of errors leaves a docket alone. -/
theorem DkAt.setErr {W : World} {base B E n : Nat} {L : List Cs} {last : Int} {es : List Int} (h : DkAt W base B L last) (he : ErrRow W E es n) (i : Nat) (x : Value) : DkAt (W.setCell ⟨E, i, none⟩ x) base B L last := by
  obtain ⟨cur, h1, _⟩ := he
  obtain ⟨v, ps, hm, hB, hr⟩ := h
  have hb := (But.refl E W).set_ i x
  have hEB : B ≠ E := by
    rintro rfl
    rw [hB] at h1
    injection h1 with h1
    injection h1 with _ e _
    exact absurd e (by decide)
  refine ⟨v, ps, hm, (hb.block B (Array.getElem?_eq_some_iff.1 hB).1 hEB).trans hB, hr.of_but hb ⟨fun cs z e => ?_, fun cs z e => ?_⟩⟩
  · rw [h1] at e; injection e with e; injection e with _ e _; exact absurd e (by decide)
  · rw [h1] at e; injection e with e; injection e with _ e _; exact absurd e (by decide)
theorem DkAt.ne_err {W : World} {base B E n : Nat} {L : List Cs} {last : Int} {es : List Int} (h : DkAt W base B L last) (he : ErrRow W E es n) : E ≠ B := by
  obtain ⟨cur, h1, _⟩ := he
  obtain ⟨v, ps, hm, hB, hr⟩ := h
  rintro rfl
  rw [hB] at h1
  injection h1 with h1
  injection h1 with _ e _
  exact absurd e (by decide)

/-- Between two rounds. -/
structure FInv (w : World) (B M E : Nat) (es : Array MapEntry) (clock : Nat) (l : List Fl) (k : Nat) (W : World) : Prop where
  dk : DkAt W w.heap.size B (runD (l.take k)).cs (runD (l.take k)).last
  err : ErrRow W E (errsD (l.take k)) l.length
  map : W.heap[M]? = some (.map es clock)
  but : But B w W

theorem FInv.later {w : World} {B M E : Nat} {es : Array MapEntry} {clock : Nat} {l : List Fl} {k : Nat} {W W' : World} (h : FInv w B M E es clock l k W) (hb : Below W.heap.size W W') : FInv w B M E es clock l k W' :=
  ⟨h.dk.later hb, h.err.of_block (hb.block E h.err.lt), (hb.block M (Array.getElem?_eq_some_iff.1 h.map).1).trans h.map, h.but.below hb⟩
theorem FInv.meth {w : World} {B M E : Nat} {es : Array MapEntry} {clock : Nat} {l : List Fl} {k : Nat} {W W' : World} (h : FInv w B M E es clock l k W) (hd : DFr w.heap.size B W W') (hB : B < w.heap.size) :
    ErrRow W' E (errsD (l.take k)) l.length ∧ W'.heap[M]? = some (.map es clock) ∧ But B w W' := by
  refine ⟨h.err.dfr hd (h.dk.ne_err h.err), hd.other h.map ?_ (fun cs z e => by cases e), ⟨hd.os.trans h.but.os, hd.tape.trans h.but.tape, hd.output.trans h.but.output, Nat.le_trans h.but.size hd.size, fun j hj hjB => ?_⟩⟩
  · rintro rfl
    obtain ⟨v, ps, hm, hB', hr⟩ := h.dk
    have := h.map
    rw [hB'] at this
    cases this
  · exact (hd.block j (Nat.lt_of_lt_of_le hj h.but.size) hjB (.inl hj)).trans (h.but.block j hj hjB)
theorem FInv.eslen {w : World} {B M E : Nat} {es : Array MapEntry} {clock : Nat} {l : List Fl} {k : Nat} {W : World} (_ : FInv w B M E es clock l k W) (hk : k < l.length) : (errsD (l.take k)).length = k := by
  rw [errsD_length, List.length_take]; omega
/-- A filing is rejected. -/
theorem FInv.bad {w : World} {B M E : Nat} {es : Array MapEntry} {clock : Nat} {l : List Fl} {k : Nat} {W : World} (h : FInv w B M E es clock l k W) (hk : k < l.length) (hE : w.heap.size ≤ E) (hM : M ≠ E) (e : Int) (he : errD (runD (l.take k)) l[k] = e) (h0 : e ≠ 0) : FInv w B M E es clock l (k + 1) (W.setCell ⟨E, k, none⟩ (.int .i64 e)) := by
  have hl := h.eslen hk
  have hs := List.take_succ_eq_append_getElem hk
  have e1 : runD (l.take (k + 1)) = ⟨(runD (l.take k)).num + 1, (runD (l.take k)).cs, (runD (l.take k)).last⟩ := by
    rw [hs, runD_snoc]; unfold stepD; rw [if_neg (by rw [he]; exact h0)]
  have e2 : errsD (l.take (k + 1)) = errsD (l.take k) ++ [e] := by rw [hs, errsD_snoc, he]
  have hst := h.err.set_ (by rw [hl]; exact hk) e
  rw [hl] at hst
  refine ⟨?_, by rw [e2]; exact hst, (Below.heap_setCell W ⟨E, k, none⟩ _ M hM).trans h.map, ⟨h.but.os, h.but.tape, h.but.output, by simpa using h.but.size, fun j hj hjB => (Below.heap_setCell W ⟨E, k, none⟩ _ j (by show j ≠ E; omega)).trans (h.but.block j hj hjB)⟩⟩
  rw [e1]
  exact h.dk.setErr h.err k _
/-- A filing reached its method. -/
theorem FInv.done {w : World} {B M E : Nat} {es : Array MapEntry} {clock : Nat} {l : List Fl} {k : Nat} {W W' : World} (h : FInv w B M E es clock l k W) (hB : B < w.heap.size) (hk : k < l.length) (hE : w.heap.size ≤ E) (hM : M ≠ E)
    (hd : DFr w.heap.size B W W') (he : errD (runD (l.take k)) l[k] = errL (runD (l.take k)).cs l[k])
    (hdk : DkAt W' w.heap.size B (if errL (runD (l.take k)).cs l[k] = 0 then effL (runD (l.take k)).cs l[k] else (runD (l.take k)).cs) (runD (l.take k)).last) :
    (errL (runD (l.take k)).cs l[k] ≠ 0 → FInv w B M E es clock l (k + 1) (W'.setCell ⟨E, k, none⟩ (.int .i64 (errL (runD (l.take k)).cs l[k])))) ∧
    (errL (runD (l.take k)).cs l[k] = 0 → FInv w B M E es clock l (k + 1) ((W'.setCell ⟨E, k, none⟩ (.int .i64 0)).setCell ⟨B, 1, none⟩ (.int .i64 l[k].day))) := by
  obtain ⟨m1, m2, m3⟩ := h.meth hd hB
  have hl := h.eslen hk
  have hs := List.take_succ_eq_append_getElem hk
  refine ⟨fun h0 => ?_, fun h0 => ?_⟩
  · rw [if_neg h0] at hdk
    exact FInv.bad ⟨hdk, m1, m2, m3⟩ hk hE hM _ he h0
  · rw [if_pos h0] at hdk
    have e1 : runD (l.take (k + 1)) = ⟨(runD (l.take k)).num + 1, effL (runD (l.take k)).cs l[k], l[k].day⟩ := by
      rw [hs, runD_snoc]; unfold stepD; rw [if_pos (by rw [he]; exact h0)]
    have e2 : errsD (l.take (k + 1)) = errsD (l.take k) ++ [0] := by rw [hs, errsD_snoc, he, h0]
    have hst := m1.set_ (by rw [hl]; exact hk) 0
    rw [hl] at hst
    have hEB := hdk.ne_err m1
    have hMB : M ≠ B := by
      rintro rfl
      obtain ⟨v, ps, hm, hB', hr⟩ := hdk
      rw [hB'] at m2
      cases m2
    refine ⟨by rw [e1]; exact (hdk.setErr m1 k _).setLast _, by rw [e2]; exact hst.of_block (Below.heap_setCell _ ⟨B, 1, none⟩ _ E hEB),
      (Below.heap_setCell _ ⟨B, 1, none⟩ _ M hMB).trans ((Below.heap_setCell W' ⟨E, k, none⟩ _ M hM).trans m2), ⟨m3.os, m3.tape, m3.output, by simpa using m3.size, fun j hj hjB => (Below.heap_setCell _ ⟨B, 1, none⟩ _ j hjB).trans ((Below.heap_setCell W' ⟨E, k, none⟩ _ j (by show j ≠ E; omega)).trans (m3.block j hj hjB))⟩⟩

/-- Filings in memory lie elsewhere than a docket. -/
theorem FCells.but {w w' : World} {p : Option Addr} {l : List Fl} (h : FCells w p l) {B : Nat} {v : Value} {d : Int} (hB : w.heap[B]? = some (.cells #[v, .int .i64 d] 66 (0, 0))) (hb : But B w w') : FCells w' p l := by
  rcases h with h | ⟨b, off, hv, hc⟩
  · exact .inl h
  · refine .inr ⟨b, off, hv, fun i hi => ?_⟩
    have h1 := hc i hi
    have hne : b ≠ B := by
      rintro rfl
      have h2 := h1.2.1
      have h3 := h1.2.2.1
      have h5 := h1.2.2.2.2.2
      simp only [World.cell?, hB] at h5 h3 h2
      simp at h5 h3 h2
    have e := hb.block b (World.block_lt_of_cell? w _ h1.1) hne
    simp only [World.cell?] at h1 ⊢
    simpa only [e] using h1

/-- The table of the methods. -/
def meth7 (k : Nat) : Nat := match k with
  | 0 => 47
  | 1 => 48
  | 2 => 49
  | 3 => 50
  | 4 => 51
  | 5 => 52
  | _ => 53

/-- All the methods, by the kind of the filing. -/
theorem meth_any (base B : Nat) (L : List Cs) (last : Int) (f : Fl) (k : Nat) (hk : f.kind = (k : Int) + 1) (hw : f.Wf) (w : World) (h : DkAt w base B L last) (hb : base ≤ w.heap.size) (hL : L.length ≤ 100) (okc : ∀ c ∈ L, c.Ok) :
    Calls Try.prog (meth7 k) #[.pointer (some ⟨B, 0, none⟩), flAgg f] w (MPost base B L last f w) := by
  have h7 := hw.kind
  rcases (show k = 0 ∨ k = 1 ∨ k = 2 ∨ k = 3 ∨ k = 4 ∨ k = 5 ∨ k = 6 by omega) with rfl | rfl | rfl | rfl | rfl | rfl | rfl
  · exact elect_any base B L last f (by omega) hw w h hb hL
  · exact choose_any base B L last f (by omega) hw w h hL okc
  · exact lock_any base B L last f (by omega) hw w h hL okc
  · exact decide_any base B L last f (by omega) hw w h hb hL
  · exact appeal_any base B L last f (by omega) hw w h hL okc
  · exact rule_any base B L last f (by omega) hw w h hL okc
  · exact withdraw_any base B L last f (by omega) hw w h hL okc

end Go.Proofs.Ytbpoedopdnjffaa
