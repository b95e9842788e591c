/- An argument that is a slice of spans, opened. -/
import Derived.Test.YtgpbdocgnfjckaaGreatSpRow
namespace Go.Proofs.YtgpbdocgnfjckaaGreat
open Go.ChangeShapes Go.WideShapes Go.ChangeAt Go.RowKit Go.Deep Sp

section
variable {H : Type} {enc : TypeId × Value → H}

set_option maxRecDepth 100000
theorem spans_of {W : World} {v : Value} {d : DataW H} {ps : List MemPlace} {base : Nat} (hok : Value.okWide Tryz.prog W .any base 22 v) (h : DataW.Trod enc Tryz.prog W 0 (fun _ => true) true 22 v d ps) :
    ∃ (p : Option Addr) (l : Sps) (cap : Nat), v = .slice p l.length cap ∧ Cells W p l ∧ l.length ≤ maxLen := by
  obtain ⟨a0, len, cap, rfl⟩ := okWide_slice Tryz.underlying22 hok
  obtain ⟨fuel, hf⟩ := h
  rcases open_slice Tryz.underlying22 hf with ⟨hcs, _⟩ | ⟨a, len', cap', m, n, D, Pl, hcs, _, hl, hmx, hmm, _, hx⟩
  · simp [Value.cells] at hcs
    obtain ⟨rfl, rfl, rfl⟩ := hcs
    exact ⟨none, [], 0, rfl, .inl rfl, by simp [maxLen]⟩
  · simp [Value.cells] at hcs
    obtain ⟨rfl, rfl, rfl⟩ := hcs
    have hlm : len ≤ m := by rw [hmm]; split <;> omega
    have ce : Tryz.prog.cellsOf 30 = 2 := by kernel_rfl
    have ci : Tryz.prog.cellsOf 3 = 1 := by kernel_rfl
    obtain ⟨b, off, sp⟩ := a
    have hspot : 0 < len → sp = none := fun h0 => by
      obtain ⟨cs', h1, _⟩ := hx 0 (by omega)
      rw [ce] at h1
      obtain ⟨_, hlen, hcell⟩ := World.cells?_some h1
      have h9 := hcell 0 (by omega)
      match cs', hlen with
      | [v0, v1], _ => simpa [Addr.add] using World.cell?_spot h9
    have each : ∀ i, i < len → ∃ x : Int × Int, sp = none ∧ W.cell? ⟨b, off + i * 2, none⟩ = some (.int .i64 x.1) ∧ W.cell? ⟨b, off + i * 2 + 1, none⟩ = some (.int .i64 x.2) := by
      intro i hi
      obtain ⟨cs', h1, h2⟩ := hx i (by omega)
      rw [ce] at h1
      obtain ⟨_, hlen, hcell⟩ := World.cells?_some h1
      obtain ⟨y0, y1, k, _, _, g0, g1⟩ := trod_struct2 Tryz.underlying30 h2
      match cs', hlen with
      | [v0, v1], _ =>
        dsimp only at g0 g1
        rw [ci] at g0 g1
        obtain ⟨n0, e0, _, _⟩ := DataW.trod_int Tryz.underlying3 g0
        obtain ⟨n1, e1, _, _⟩ := DataW.trod_int Tryz.underlying3 g1
        have c0 := hcell 0 (by omega)
        have c1 := hcell 1 (by omega)
        simp at e0 e1 c0 c1
        subst e0 e1
        have hsp := hspot (by omega)
        subst hsp
        simp only [add_plain, Nat.add_zero] at c0 c1
        exact ⟨(n0, n1), rfl, c0, c1⟩
    obtain ⟨q, hq⟩ := choose_lt each
    refine ⟨some ⟨b, off, sp⟩, (List.range len).map q, cap, by simp, ?_, by simp; omega⟩
    rcases Nat.eq_zero_or_pos len with h0 | h0
    · left; subst h0; rfl
    · have hsp := hspot h0
      subst hsp
      refine .inr ⟨b, off, rfl, fun i hi => ?_⟩
      simp at hi
      obtain ⟨_, h0, h1⟩ := hq i hi
      simp only [List.getElem_map, List.getElem_range]
      exact ⟨h0, h1⟩

end

end Go.Proofs.YtgpbdocgnfjckaaGreat
