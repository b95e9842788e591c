/- Rows of cases, a docket in a box, what a docket's methods leave alone. -/
import Derived.Test.YtbpoedopdnjffaaApTime
import Derived.Test.YtbpoedopdnjffaaApPlain3
namespace Go.Proofs.Ytbpoedopdnjffaa
open Go.RowKit Go.Shelf Sp

/-- All but block B and blocks of cases that lie at base or beyond stays. -/
structure DFr (base B : Nat) (w w' : World) : Prop where
  os : w'.os = w.os
  tape : w'.tape = w.tape
  output : w'.output = w.output
  size : w.heap.size ≤ w'.heap.size
  block : ∀ k, k < w.heap.size → k ≠ B → (k < base ∨ ∀ cs z, w.heap[k]? ≠ some (.cells cs 39 z)) → w'.heap[k]? = w.heap[k]?
theorem DFr.refl (base B : Nat) (w : World) : DFr base B w w := ⟨rfl, rfl, rfl, Nat.le_refl _, fun _ _ _ _ => rfl⟩
theorem DFr.trans {base B : Nat} {w w1 w2 : World} (h : DFr base B w w1) (h2 : DFr base B w1 w2) : DFr base B w w2 :=
  ⟨h2.os.trans h.os, h2.tape.trans h.tape, h2.output.trans h.output, Nat.le_trans h.size h2.size, fun k hk hne hc => by
    have e := h.block k hk hne hc
    refine (h2.block k (Nat.lt_of_lt_of_le hk h.size) hne ?_).trans e
    rcases hc with hc | hc
    · exact .inl hc
    · exact .inr fun cs z => by rw [e]; exact hc cs z⟩
theorem DFr.of_below {base B : Nat} {w w' : World} (h : Below w.heap.size w w') : DFr base B w w' := ⟨h.os, h.tape, h.output, h.size, fun k hk _ _ => h.block k hk⟩
theorem DFr.below {base B : Nat} {w w' w2 : World} (h : DFr base B w w') (hb : Below w'.heap.size w' w2) : DFr base B w w2 := h.trans (.of_below hb)
theorem DFr.of_but {base B g : Nat} {w w' : World} (h : But g w w') (hg : w.heap.size ≤ g) : DFr base B w w' := ⟨h.os, h.tape, h.output, h.size, fun k hk _ _ => h.block k hk (by omega)⟩
/-- From the world in which block B was made: a frame below it. -/
theorem DFr.belowOf {base B : Nat} {w0 w w' : World} (h : DFr base B w w') (hb : Below base w0 w) (hs : base ≤ w.heap.size) (hB : base ≤ B) : Below base w0 w' :=
  ⟨h.os.trans hb.os, h.tape.trans hb.tape, h.output.trans hb.output, Nat.le_trans hb.size h.size, fun k hk => (h.block k (by omega) (by omega) (.inl hk)).trans (hb.block k hk)⟩
theorem Below.dfr {base B : Nat} {w w' : World} (h : Below base w w') (hs : ∀ k, base ≤ k → k < w.heap.size → k ≠ B → ∃ cs z, w.heap[k]? = some (.cells cs 39 z)) : DFr base B w w' :=
  ⟨h.os, h.tape, h.output, h.size, fun k hk hne hc => by
    rcases hc with hc | hc
    · exact h.block k hc
    · by_cases hl : k < base
      · exact h.block k hl
      · obtain ⟨cs, z, e⟩ := hs k (by omega) hk hne
        exact absurd e (hc cs z)⟩

/-- A block that is not one of cases stays. -/
theorem DFr.other {base B : Nat} {w w' : World} (h : DFr base B w w') {k : Nat} {o : Obj} (ho : w.heap[k]? = some o) (hne : k ≠ B) (ht : ∀ cs z, o ≠ .cells cs 39 z) : w'.heap[k]? = some o := by
  rw [h.block k (Array.getElem?_eq_some_iff.1 ho).1 hne (.inr fun cs z e => ht cs z (by rw [ho] at e; exact Option.some.inj e))]; exact ho

/-- Held days lie in blocks of spans. -/
theorem Owns.dfr {base B : Nat} {w w' : World} (h : DFr base B w w') {b0 : Nat} {v : Value} {l : Sps} (ho : Owns w b0 v l) (hB : ∀ cs z, w.heap[B]? ≠ some (.cells cs 47 z)) : Owns w' b0 v l := by
  refine ⟨ho.1, ?_⟩
  rcases ho.2 with h1 | ⟨g, cap, cur, e, hb, hg, rest⟩
  · exact .inl h1
  · refine .inr ⟨g, cap, cur, e, hb, h.other hg (fun e' => hB cur (0, 0) (by rw [← e']; exact hg)) (fun cs z e' => ?_), rest⟩
    injection e' with _ e2 _
    exact absurd e2 (by decide)

def cflat (ps : List (Cs × Value)) : List Value := ps.flatMap fun p => csRow p.1 p.2
theorem cflat_cons (p : Cs × Value) (ps : List (Cs × Value)) : cflat (p :: ps) = csRow p.1 p.2 ++ cflat ps := rfl
theorem cflat_append (a b : List (Cs × Value)) : cflat (a ++ b) = cflat a ++ cflat b := by unfold cflat; rw [List.flatMap_append]
theorem cflat_length (ps : List (Cs × Value)) : (cflat ps).length = ps.length * 10 := by
  induction ps with
  | nil => rfl
  | cons p ps ih => rw [cflat_cons, List.length_append, ih]; simp [csRow]; omega
theorem csRow_length (c : Cs) (v : Value) : (csRow c v).length = 10 := rfl
theorem cflat_get (ps : List (Cs × Value)) : ∀ i j : Nat, (h : i < ps.length) → j < 10 → (cflat ps)[i * 10 + j]? = (csRow ps[i].1 ps[i].2)[j]? := by
  induction ps with
  | nil => intro i j h; simp at h
  | cons p ps ih =>
    intro i j h hj
    rw [cflat_cons]
    cases i with
    | zero => rw [Nat.zero_mul, Nat.zero_add, List.getElem?_append_left (by rw [csRow_length]; exact hj)]; rfl
    | succ i =>
      have := ih i j (by simpa using h) hj
      rw [show (i + 1) * 10 + j = i * 10 + j + 10 by omega, List.getElem?_append_right (by rw [csRow_length]; omega), csRow_length, Nat.add_sub_cancel]
      exact this

/-- The slice v is the cases ps, each with the slice of its held days, in memory at base or beyond. -/
def CRow (W : World) (base : Nat) (v : Value) (ps : List (Cs × Value)) : Prop :=
  W.ownsRow base 39 10 v ps.length (cflat ps) ∧ ∀ p ∈ ps, Owns W 0 p.2 p.1.held
theorem CRow.nil (W : World) (base : Nat) : CRow W base (.slice none 0 0) [] := ⟨World.ownsRow_nil _ _ _ _, by simp⟩
/-- Ten cells of a case. -/
def CaseCells (W : World) (b i : Nat) (c : Cs) (v : Value) : Prop :=
  W.cell? ⟨b, i, none⟩ = some (.bool c.el) ∧ W.cell? ⟨b, i + 1, none⟩ = some (.int .u8 c.st) ∧ W.cell? ⟨b, i + 2, none⟩ = some (.int .i64 c.opened) ∧ W.cell? ⟨b, i + 3, none⟩ = some (.int .i64 c.days) ∧ W.cell? ⟨b, i + 4, none⟩ = some (.int .i64 c.choice) ∧
    W.cell? ⟨b, i + 5, none⟩ = some (.int .i64 c.level) ∧ W.cell? ⟨b, i + 6, none⟩ = some (.int .i64 c.due) ∧ W.cell? ⟨b, i + 7, none⟩ = some (.bool c.hold) ∧ W.cell? ⟨b, i + 8, none⟩ = some (.int .i64 c.since) ∧ W.cell? ⟨b, i + 9, none⟩ = some v
theorem CaseCells.lt {W : World} {b i : Nat} {c : Cs} {v : Value} (h : CaseCells W b i c v) : b < W.heap.size := World.block_lt_of_cell? W _ h.1
theorem CaseCells.of_block {W W' : World} {b i : Nat} {c : Cs} {v : Value} (h : CaseCells W b i c v) (e : W'.heap[b]? = W.heap[b]?) : CaseCells W' b i c v := by
  unfold CaseCells World.cell? at *
  simpa only [e] using h
theorem CaseCells.below {W W' : World} {b i : Nat} {c : Cs} {v : Value} (h : CaseCells W b i c v) (hb : Below W.heap.size W W') : CaseCells W' b i c v := h.of_block (hb.block b h.lt)

theorem CRow.form {W : World} {base : Nat} {v : Value} {ps : List (Cs × Value)} (h : CRow W base v ps) :
    ∃ p cap, v = .slice p ps.length cap ∧ (ps ≠ [] → ∃ g, p = some ⟨g, 0, none⟩ ∧ base ≤ g ∧ v.ownBlock = some g ∧ (∃ cur, W.heap[g]? = some (.cells cur 39 (0, 0))) ∧ ∀ i, (hi : i < ps.length) → CaseCells W g (i * 10) ps[i].1 ps[i].2 ∧ ∀ j, W.frozen? ⟨g, j, none⟩ = false) := by
  rcases h.1.2 with ⟨rfl, h0⟩ | ⟨g, cap, cur, rfl, hb, hg, hn, hm, hs, ht⟩
  · have : ps = [] := List.eq_nil_of_length_eq_zero h0
    subst this
    exact ⟨none, 0, rfl, fun h => absurd rfl h⟩
  · refine ⟨_, _, rfl, fun _ => ⟨g, rfl, hb, rfl, ⟨cur, hg⟩, fun i hi => ⟨?_, fun j => by simp [World.frozen?, hg]⟩⟩⟩
    have key : ∀ j, j < 10 → W.cell? ⟨g, i * 10 + j, none⟩ = (csRow ps[i].1 ps[i].2)[j]? := fun j hj => by
      have e1 := cflat_get ps i j hi hj
      rw [← ht, List.getElem?_take, if_pos (by omega), Array.getElem?_toList] at e1
      rw [← e1]
      have hlt : i * 10 + j < cur.size := by rw [hs]; omega
      simp [World.cell?, hg]
    exact ⟨key 0 (by omega), key 1 (by omega), key 2 (by omega), key 3 (by omega), key 4 (by omega), key 5 (by omega), key 6 (by omega), key 7 (by omega), key 8 (by omega), key 9 (by omega)⟩

/-- A docket in a box: block B. -/
def DkAt (W : World) (base B : Nat) (L : List Cs) (last : Int) : Prop :=
  ∃ v ps, ps.map Prod.fst = L ∧ W.heap[B]? = some (.cells #[v, .int .i64 last] 66 (0, 0)) ∧ CRow W base v ps

theorem DkAt.lt {W : World} {base B : Nat} {L : List Cs} {last : Int} (h : DkAt W base B L last) : B < W.heap.size := by
  obtain ⟨v, ps, _, hB, _⟩ := h; exact (Array.getElem?_eq_some_iff.1 hB).1
theorem CRow.of_but {W W' : World} {base B : Nat} {v : Value} {ps : List (Cs × Value)} (h : CRow W base v ps) (hf : But B W W') (hB : (∀ cs z, W.heap[B]? ≠ some (.cells cs 39 z)) ∧ ∀ cs z, W.heap[B]? ≠ some (.cells cs 47 z)) : CRow W' base v ps := by
  refine ⟨⟨h.1.1, ?_⟩, fun p hp => ⟨(h.2 p hp).1, ?_⟩⟩
  · rcases h.1.2 with h1 | ⟨g, cap, cur, e, hb, hg, rest⟩
    · exact .inl h1
    · exact .inr ⟨g, cap, cur, e, hb, (hf.block g (Array.getElem?_eq_some_iff.1 hg).1 (fun e' => hB.1 cur (0, 0) (by rw [← e']; exact hg))).trans hg, rest⟩
  · rcases (h.2 p hp).2 with h1 | ⟨g, cap, cur, e, hb, hg, rest⟩
    · exact .inl h1
    · exact .inr ⟨g, cap, cur, e, hb, (hf.block g (Array.getElem?_eq_some_iff.1 hg).1 (fun e' => hB.2 cur (0, 0) (by rw [← e']; exact hg))).trans hg, rest⟩
theorem CRow.later {W W' : World} {base : Nat} {v : Value} {ps : List (Cs × Value)} (h : CRow W base v ps) (hb : Below W.heap.size W W') : CRow W' base v ps := by
  refine ⟨World.ownsRow.kept h.1 (row := none) ⟨hb.os, hb.tape, hb.output, hb.size, fun k hk _ => hb.block k hk⟩ (by cases v.ownBlock <;> simp), fun p hp => (h.2 p hp).later hb⟩
theorem DkAt.later {W W' : World} {base B : Nat} {L : List Cs} {last : Int} (h : DkAt W base B L last) (hb : Below W.heap.size W W') : DkAt W' base B L last := by
  have hl := h.lt
  obtain ⟨v, ps, e, hB, hc⟩ := h
  exact ⟨v, ps, e, (hb.block B hl).trans hB, hc.later hb⟩

/-- Filings in memory. -/
def FCells (w : World) (p : Option Addr) (l : List Fl) : Prop :=
  l = [] ∨ ∃ b off, p = some ⟨b, off, none⟩ ∧ ∀ i : Nat, (h : i < l.length) →
    w.cell? ⟨b, off + i * 6, none⟩ = some (.int .u8 l[i].kind) ∧ w.cell? ⟨b, off + i * 6 + 1, none⟩ = some (.int .i64 l[i].day) ∧ w.cell? ⟨b, off + i * 6 + 2, none⟩ = some (.int .i64 l[i].case) ∧
    w.cell? ⟨b, off + i * 6 + 3, none⟩ = some (.int .i64 l[i].n) ∧ w.cell? ⟨b, off + i * 6 + 4, none⟩ = some (.int .i64 l[i].til) ∧ w.cell? ⟨b, off + i * 6 + 5, none⟩ = some (.bool l[i].hold)
theorem FCells.below {w w' : World} {p : Option Addr} {l : List Fl} (h : FCells w p l) (hb : Below w.heap.size w w') : FCells w' p l := by
  rcases h with h | ⟨b, off, hv, hc⟩
  · exact .inl h
  · refine .inr ⟨b, off, hv, fun i hi => ?_⟩
    have h1 := hc i hi
    have e := hb.block b (World.block_lt_of_cell? w _ h1.1)
    simp only [World.cell?] at h1 ⊢
    simpa only [e] using h1
/-- A filing's block. -/
def FlBox (W : World) (F : Nat) (f : Fl) : Prop := W.heap[F]? = some (.cells #[.int .u8 f.kind, .int .i64 f.day, .int .i64 f.case, .int .i64 f.n, .int .i64 f.til, .bool f.hold] 30 (0, 0))
theorem FlBox.cell {W : World} {F : Nat} {f : Fl} (h : FlBox W F f) : W.cell? ⟨F, 0, none⟩ = some (.int .u8 f.kind) ∧ W.cell? ⟨F, 1, none⟩ = some (.int .i64 f.day) ∧ W.cell? ⟨F, 2, none⟩ = some (.int .i64 f.case) ∧ W.cell? ⟨F, 3, none⟩ = some (.int .i64 f.n) ∧ W.cell? ⟨F, 4, none⟩ = some (.int .i64 f.til) ∧ W.cell? ⟨F, 5, none⟩ = some (.bool f.hold) := by
  unfold FlBox at h
  simp only [World.cell?, h]
  exact ⟨rfl, rfl, rfl, rfl, rfl, rfl⟩
theorem FlBox.lt {W : World} {F : Nat} {f : Fl} (h : FlBox W F f) : F < W.heap.size := (Array.getElem?_eq_some_iff.1 h).1
theorem FlBox.of_block {W W' : World} {F : Nat} {f : Fl} (h : FlBox W F f) (e : W'.heap[F]? = W.heap[F]?) : FlBox W' F f := e.trans h
def flAgg (f : Fl) : Value := .agg #[.int .u8 f.kind, .int .i64 f.day, .int .i64 f.case, .int .i64 f.n, .int .i64 f.til, .bool f.hold]

end Go.Proofs.Ytbpoedopdnjffaa
