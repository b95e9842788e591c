/- Three appends in a region that draws its order: what stays. -/
import Derived.Test.YtbpoedopdnjffaaApWrA
namespace Go.Proofs.Ytbpoedopdnjffaa
open Go.RowKit Go.Shelf Sp

/-- What the region of AppealWrong reads. -/
structure GW (N : Nat) (f : Fl) (q : Option Addr) (F : List Fl) (W0 w9 : World) : Prop where
  box : w9.heap[N]? = some (.cells #[.int .u8 f.kind, .int .i64 f.day, .int .i64 f.case, .int .i64 f.n, .int .i64 f.til, .bool f.hold] 30 (0, 0))
  fl : FCells w9 q F
  bel : Below W0.heap.size W0 w9
  lo : W0.heap.size ≤ N
  lq : ∀ g o, q = some ⟨g, o, none⟩ → g < W0.heap.size
theorem GW.drew {N : Nat} {f : Fl} {q : Option Addr} {F : List Fl} {W0 w9 : World} (h : GW N f q F W0 w9) : GW N f q F W0 w9.drew := ⟨h.box, h.fl, h.bel.drew, h.lo, h.lq⟩
theorem GW.alloc {N : Nat} {f : Fl} {q : Option Addr} {F : List Fl} {W0 w9 : World} (h : GW N f q F W0 w9) (o : Obj) : GW N f q F W0 (w9.alloc o) :=
  ⟨(Below.heap_alloc w9 o N (Array.getElem?_eq_some_iff.1 h.box).1).trans h.box, h.fl.alloc o, h.bel.alloc h.bel.size o, h.lo, h.lq⟩
theorem GW.grown {N : Nat} {f : Fl} {q : Option Addr} {F : List Fl} {W0 w9 w' : World} (h : GW N f q F W0 w9) {b : Nat} (hg : w9.grownBy w' (some b)) (hb : N < b) : GW N f q F W0 w' :=
  ⟨(hg.block N (Array.getElem?_eq_some_iff.1 h.box).1 (by intro e; cases e; omega)).trans h.box, h.fl.grown hg (fun g o e e2 => by have := h.lq g o e; have := h.lo; cases e2; omega),
    h.bel.grown hg h.bel.size (fun g e => by cases e; have := h.lo; omega), h.lo, h.lq⟩
theorem GW.all {N : Nat} {f : Fl} {q : Option Addr} {F : List Fl} {W0 w9 : World} (h : GW N f q F W0 w9) : w9.cell? ⟨N, 0, none⟩ = some (.int .u8 f.kind) ∧ w9.cell? ⟨N, 1, none⟩ = some (.int .i64 f.day) ∧ w9.cell? ⟨N, 2, none⟩ = some (.int .i64 f.case) ∧ w9.cell? ⟨N, 3, none⟩ = some (.int .i64 f.n) ∧ w9.cell? ⟨N, 4, none⟩ = some (.int .i64 f.til) ∧ w9.cell? ⟨N, 5, none⟩ = some (.bool f.hold) ∧ Hid (GW N f q F W0 w9) := by
  have b := h.box
  refine ⟨?_, ?_, ?_, ?_, ?_, ?_, Lib.hid h⟩ <;> (simp only [World.cell?, b]; rfl)
theorem gwH {N : Nat} {f : Fl} {q : Option Addr} {F : List Fl} {W0 w9 : World} (h : w9.cell? ⟨N, 0, none⟩ = some (.int .u8 f.kind) ∧ w9.cell? ⟨N, 1, none⟩ = some (.int .i64 f.day) ∧ w9.cell? ⟨N, 2, none⟩ = some (.int .i64 f.case) ∧ w9.cell? ⟨N, 3, none⟩ = some (.int .i64 f.n) ∧ w9.cell? ⟨N, 4, none⟩ = some (.int .i64 f.til) ∧ w9.cell? ⟨N, 5, none⟩ = some (.bool f.hold) ∧ Hid (GW N f q F W0 w9)) : GW N f q F W0 w9 := h.2.2.2.2.2.2.out

theorem own_empty {w : World} {base b : Nat} (h : w.heap[b]? = some (.cells #[] 30 (0, 0))) (hb : base ≤ b) : FOwns w base (.slice (some ⟨b, 0, none⟩) 0 0) [] :=
  ⟨rfl, .inr ⟨b, 0, #[], rfl, hb, h, Nat.le_refl _, Nat.zero_le _, rfl, rfl⟩⟩
theorem one_cells {w : World} {b : Nat} {f : Fl} (h : w.heap[b]? = some (.cells #[.int .u8 f.kind, .int .i64 f.day, .int .i64 f.case, .int .i64 f.n, .int .i64 f.til, .bool f.hold] 30 (0, 0))) : FCells w (some ⟨b, 0, none⟩) [f] :=
  fcells_row (l := [f]) h rfl
theorem a1_0 (X : World) (o1 : Obj) : (X.alloc o1).heap[X.heap.size]? = some o1 := World.alloc_heap_new X o1
theorem a2_0 (X : World) (o1 o2 : Obj) : ((X.alloc o1).alloc o2).heap[X.heap.size]? = some o1 :=
  (((Below.refl _ (X.alloc o1)).alloc (Nat.le_refl _) o2).block X.heap.size (by simp)).trans (World.alloc_heap_new X o1)
theorem a2_1 (X : World) (o1 o2 : Obj) : ((X.alloc o1).alloc o2).heap[X.heap.size + 1]? = some o2 := by
  have h1 := World.alloc_heap_new (X.alloc o1) o2
  rw [World.size_alloc] at h1
  exact h1
theorem GW.lt {N : Nat} {f : Fl} {q : Option Addr} {F : List Fl} {W0 w9 : World} (h : GW N f q F W0 w9) : N < w9.heap.size := (Array.getElem?_eq_some_iff.1 h.box).1
theorem drop_if {w : World} {bq k cq : Nat} {F : List Fl} (h : FCells w (some ⟨bq, 0, none⟩) F) (hl : F.length ≤ cq) : FCells w (if cq = k then some ⟨bq, 0, none⟩ else some ⟨bq, k * 6, none⟩) (F.drop k) := by
  split
  · exact .inl (List.drop_eq_nil_of_le (by omega))
  · have := h.drop k
    rwa [Nat.zero_add] at this
theorem a3_1 (X : World) (o0 o1 o2 : Obj) : (((X.alloc o0).alloc o1).alloc o2).heap[X.heap.size + 1]? = some o1 :=
  (((Below.refl _ ((X.alloc o0).alloc o1)).alloc (Nat.le_refl _) o2).block (X.heap.size + 1) (by simp)).trans (a2_1 X o0 o1)
theorem a3_2 (X : World) (o0 o1 o2 : Obj) : (((X.alloc o0).alloc o1).alloc o2).heap[X.heap.size + 1 + 1]? = some o2 := by
  have h1 := World.alloc_heap_new ((X.alloc o0).alloc o1) o2
  rw [World.size_alloc, World.size_alloc] at h1
  exact h1
theorem own_lt {w : World} {base g o n c : Nat} {l : List Fl} (h : FOwns w (base + 1) (.slice (some ⟨g, o, none⟩) n c) l) : base < g := (World.ownsRow.lt h g rfl).1
theorem fown_cells {w : World} {base n c : Nat} {p : Option Addr} {l : List Fl} (h : FOwns w base (.slice p n c) l) : FCells w p l := by
  obtain ⟨p', c', e, hc⟩ := h.form
  injection e with e1
  rw [e1]
  exact hc
section
variable {ops : Array Oper} {o : Oper} {a : Act} {w : World} {K : Act → World → Prop} {Q : Exit → Act → World → Prop} {E : Prop}
theorem step_app2 (hgd : o.guard = none) (s x : Operand) (ho : o.op = .call { callee := .builtin .append, args := #[s, x], argTypes := #[22, 22] })
    (base b cap n : Nat) (la : List Fl) (hla : la.length = n) (hs : a.eval s = .slice (some ⟨b, 0, none⟩) n cap) (hown : FOwns w base (.slice (some ⟨b, 0, none⟩) n cap) la)
    (q : Option Addr) (m c : Nat) (lb : List Fl) (hx : a.eval x = .slice q m c) (hm : lb.length = m) (hq : FCells w q lb) (hbd : n ≤ 100 ∧ m ≤ 100) (hbase : base ≤ w.heap.size) (r : Nat) (lr : List Fl) (hr : n + m = r) (hlr : la ++ lb = lr)
    (h : ∀ g cap w', FOwns w' base (.slice (some ⟨g, 0, none⟩) r cap) lr → w.grownBy w' (some b) → K (a.put o.dst (.slice (some ⟨g, 0, none⟩) r cap)) w') :
    if Region.wanted o (yielded ops a.tmps) = true then Oper.wp Try.prog o a w K Q else E := by
  subst hla hr hlr
  exact step_app hgd s x ho base b cap la hs hown q m c lb hx hm hq ⟨hbd.1, by omega⟩ hbase h
end
theorem built_is4 (l : List Nt) (p : Option Addr) (cap : Nat) (w : World) (hc : NCells w p l) (bd : ∀ x ∈ l, x.Bd) :
    Calls Try.prog 13 #[.slice p l.length cap] w fun e w' => ∃ q cq, e = .returned (.slice q (builtP l).length cq) ∧ FCells w' q (builtP l) ∧ (builtP l).length ≤ cq ∧ ((q = none ∧ builtP l = [] ∧ cq = 0) ∨ ∃ g, q = some ⟨g, 0, none⟩ ∧ g < w'.heap.size) ∧ Below w.heap.size w w' :=
  (built_any l p cap w hc bd).mono fun _ _ ⟨v, he, hr, hb⟩ => by
    have hv := hr.2
    obtain ⟨q, cq, rfl, hq⟩ := hr.form
    rcases hv with ⟨e2, h0⟩ | ⟨g2, cap2, cur, e2, hb2, hg2, hcap, _⟩
    · injection e2 with e3 e4 e5
      exact ⟨q, cq, he, hq, by omega, .inl ⟨e3, List.eq_nil_of_length_eq_zero h0, e5⟩, hb⟩
    · injection e2 with e3 e4 e5
      exact ⟨q, cq, he, hq, by omega, .inr ⟨g2, e3, (Array.getElem?_eq_some_iff.1 hg2).1⟩, hb⟩
/-- A docket with one filing that is not well-formed. -/
structure WrP (F M : List Fl) (k : Nat) : Prop where
  len : (errsD M).length = F.length + 1
  bad : ∀ h, (errsD M)[k]'h = 2
  low : ∀ j, (h : j < F.length) → j < k → ∀ h2, (errsD M)[j]'h2 = (errsD F)[j]'(by rw [errsD_length]; exact h)
  high : ∀ j, (h : j < F.length) → k ≤ j → ∀ h2, (errsD M)[j + 1]'h2 = (errsD F)[j]'(by rw [errsD_length]; exact h)
  at_ : ∀ d, atErr M d = atErr F d
  atd : ∀ d, atD M d = atD F d
theorem wrong_plain {F : List Fl} {f : Fl} {k : Nat} (hf : wf f = false) (hk : k ≤ F.length) (hl : F.length ≤ 30) : WrP F (F.take k ++ [f] ++ F.drop k) k := by
  have e0 : F.take k ++ [f] ++ F.drop k = F.take k ++ f :: F.drop k := by simp
  have hlk : (F.take k).length = k := by rw [List.length_take]; omega
  have hb := runD_bad (a := F.take k) (b := F.drop k) (f := f) hf (by rw [List.take_append_drop]; omega)
  rw [List.take_append_drop, hlk] at hb
  have hE : errsD (F.take k ++ [f] ++ F.drop k) = (errsD F).take k ++ 2 :: (errsD F).drop k := by rw [e0]; exact hb.2
  have hR : runD (F.take k ++ [f] ++ F.drop k) = ⟨F.length + 1, (runD F).cs, (runD F).last⟩ := by rw [e0]; exact hb.1
  have hel := errsD_length F
  have hat : ∀ d, atErr (F.take k ++ [f] ++ F.drop k) d = atErr F d := fun d => by unfold atErr; rw [hR]
  have htk : ((errsD F).take k).length = k := by rw [List.length_take]; omega
  refine ⟨by rw [errsD_length, List.length_append, List.length_append, hlk, List.length_drop, List.length_singleton]; omega, fun h => ?_, fun j h hj h2 => ?_, fun j h hj h2 => ?_, hat, fun d => by unfold atD; rw [hat, hR]⟩
  · simp only [hE]
    rw [List.getElem_append_right (by omega)]
    simp [htk]
  · simp only [hE]
    rw [List.getElem_append_left (by omega), List.getElem_take]
  · simp only [hE]
    rw [List.getElem_append_right (by omega)]
    simp only [htk, show j + 1 - k = (j - k) + 1 by omega, List.getElem_cons_succ, List.getElem_drop]
    congr 1
    omega
end Go.Proofs.Ytbpoedopdnjffaa
