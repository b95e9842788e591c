/- KeptSpans and OverSpans. -/
import Derived.Test.YtgpbdocgnfjckaaGreatSpLent
namespace Go.Proofs.YtgpbdocgnfjckaaGreat
open Go.RowKit Go.Shelf Sp

set_option maxHeartbeats 2000000 in
set_option maxRecDepth 100000 in
theorem kept_any (l : Sps) (g c n : Nat) (p : Option Addr) (cap : Nat) (w : World) (base : Nat) (hn : l.length = n) (hl : n ≤ 100) (hg : Owns w base (.slice (some ⟨g, 0, none⟩) (n + 12) c) (l ++ mks)) (h12 : n + 12 ≤ c) (hc : Cells w p l) :
    Calls Tryz.prog 18 #[.slice (some ⟨g, 0, none⟩) n c, .slice p n cap] w fun e w' => e = .returned (.bool true) ∧ Below w.heap.size w w' := by
  subst hn
  have HC := Lib.hid hc
  have HG : Hid (Cells w (some ⟨g, 0, none⟩) (l ++ mks)) := by
    obtain ⟨q, d, e, h⟩ := hg.form
    injection e with e1 _ _
    subst e1
    exact Lib.hid h
  have hlen := Lib.hid (show (l ++ mks).length = l.length + 12 by rw [List.length_append, mks_len])
  clear hc hg
  have s0 : (0 : Int) ≤ (l.length : Int) + 12 := by omega
  have s1 : (l.length : Int) + 12 ≤ (c : Int) := by omega
  go_enter Tryz.func18, Tryz.ntmps18
  go_wp2
  go_loopw [6] (fun i wr => ∃ k : Nat, k ≤ l.length + 12 ∧ i = .int .i64 k ∧ Below w.heap.size w wr) (fun i _ => l.length + 12 - (intOf i).toNat)
  case atStart => exact ⟨0, by omega, rfl, Below.refl _ _⟩
  case round =>
    obtain ⟨k, hk, rfl, hb⟩ := hrel
    by_cases hlt : k < l.length + 12
    · obtain ⟨b, off, he, hb1, x, y, hxy, c1, c2⟩ := HG.out.at k (by have := hlen.out; omega)
      cases he
      rw [Nat.zero_add] at c1 c2
      replace c1 := (hb.cell (p := ⟨g, k * 2, none⟩) hb1).trans c1
      replace c2 := (hb.cell (p := ⟨g, k * 2 + 1, none⟩) hb1).trans c2
      have k0 : (0 : Int) ≤ (k : Int) := by omega
      have k1 : (k : Int) < (l.length : Int) + 12 := by omega
      by_cases hkl : k < l.length
      · obtain ⟨b', off', rfl, hb2, x', y', hxy', d1, d2⟩ := HC.out.at k hkl
        have hx : x' = x ∧ y' = y := by
          rw [List.getElem_append_left hkl, hxy'] at hxy
          cases hxy; exact ⟨rfl, rfl⟩
        obtain ⟨rfl, rfl⟩ := hx
        replace d1 := (hb.cell (p := ⟨b', off' + k * 2, none⟩) hb2).trans d1
        replace d2 := (hb.cell (p := ⟨b', off' + k * 2 + 1, none⟩) hb2).trans d2
        have k2 : (k : Int) < (l.length : Int) := by omega
        have k3 : decide ((l.length : Int) ≤ (k : Int)) = false := decide_eq_false (by omega)
        have k4 : decide (l.length ≤ k) = false := decide_eq_false (by omega)
        clear hxy hxy'
        go_wp2_with fail
        refine wp_region_laterS (fun W => W.cell? ⟨g, k * 2, none⟩ = some (.int .i64 x') ∧ W.cell? ⟨g, k * 2 + 1, none⟩ = some (.int .i64 y') ∧ W.cell? ⟨b', off' + k * 2, none⟩ = some (.int .i64 x') ∧ W.cell? ⟨b', off' + k * 2 + 1, none⟩ = some (.int .i64 y') ∧ Hid (Below w.heap.size w W)) (by kernel_rfl) (by kernel_rfl) (fun p => ⟨p.cell _ _ c1, p.cell _ _ c2, p.cell _ _ d1, p.cell _ _ d2, p.since hb⟩) ?_
        intro hS
        repeat (go_big_quiet_step (fail))
        refine wpQuiet_nil ?_
        rintro _ ⟨q, rfl⟩
        have B1 := (hS q).2.2.2.2
        clear hS
        go_wp2
        go_roundw
        case rel => exact ⟨k + 1, by omega, by go_num, B1.out⟩
        case measure => simp [intOf]; omega
      · have hx : x = mkI 1 ((k : Int) - (l.length : Int)) ∧ y = 0 := by
          rw [List.getElem_append_right (by omega), mks_get] at hxy
          cases hxy
          exact ⟨by rw [show ((k - l.length : Nat) : Int) = (k : Int) - (l.length : Int) by omega], rfl⟩
        obtain ⟨rfl, rfl⟩ := hx
        have CM := Lib.hid (fun W => markSpan_any 1 ((k : Int) - (l.length : Int)) W (by omega) (by omega))
        generalize mkI 1 ((k : Int) - (l.length : Int)) = z at c1 CM
        have k2 : (l.length : Int) ≤ (k : Int) := by omega
        have k3 : decide ((k : Int) < (l.length : Int)) = false := decide_eq_false (by omega)
        have k4 : decide (k < l.length) = false := decide_eq_false (by omega)
        clear hxy
        go_wp2_with fail
        refine wp_region_laterS (fun W => W.cell? ⟨g, k * 2, none⟩ = some (.int .i64 z) ∧ W.cell? ⟨g, k * 2 + 1, none⟩ = some (.int .i64 0) ∧ Hid (Below w.heap.size w W)) (by kernel_rfl) (by kernel_rfl) (fun p => ⟨p.cell _ _ c1, p.cell _ _ c2, p.since hb⟩) ?_
        intro hS
        repeat (go_big_quiet_step ((go_at_call 37; exact Later.call (CM.out _))))
        refine wpQuiet_nil ?_
        rintro _ ⟨q, rfl⟩
        have B1 := (hS q).2.2
        clear hS
        go_wp2
        go_roundw
        case rel => exact ⟨k + 1, by omega, by go_num, B1.out⟩
        case measure => simp [intOf]; omega
    · go_wp2
      go_ret
      exact ⟨rfl, hb⟩

/-- A block of spans that may be written. -/
def OvR (W : World) (g m : Nat) : Prop := ∃ cur : Array Value, W.heap[g]? = some (.cells cur 30 (0, 0)) ∧ m ≤ cur.size
theorem OvR.lt {W : World} {g m : Nat} (h : OvR W g m) : g < W.heap.size := by
  obtain ⟨cur, h, _⟩ := h; exact (Array.getElem?_eq_some_iff.1 h).1
theorem OvR.cell {W : World} {g m : Nat} (h : OvR W g m) (i : Nat) (hi : i < m) : ∃ v, W.cell? ⟨g, i, none⟩ = some v := by
  obtain ⟨cur, h, hs⟩ := h
  have h' : i < cur.size := by omega
  exact ⟨cur[i], by simp [World.cell?, h, h']⟩
theorem OvR.frozen {W : World} {g m : Nat} (h : OvR W g m) (i : Nat) : W.frozen? ⟨g, i, none⟩ = false := by
  obtain ⟨cur, h, _⟩ := h
  simp [World.frozen?, h]
theorem OvR.set_ {W : World} {g m : Nat} (h : OvR W g m) (i : Nat) (u : Value) : OvR (W.setCell ⟨g, i, none⟩ u) g m := by
  obtain ⟨cur, h, hs⟩ := h
  refine ⟨cur.setIfInBounds i u, ?_, by simpa using hs⟩
  simp [World.setCell, Array.getElem?_modify, h]
theorem OvR.later {W W' : World} {g m : Nat} (h : OvR W g m) (hb : Below W.heap.size W W') : OvR W' g m := by
  have hl := h.lt
  obtain ⟨cur, h, hs⟩ := h
  exact ⟨cur, (hb.block g hl).trans h, hs⟩

/-- Everything but block g stays. -/
structure But (g : Nat) (w w' : World) : Prop where
  os : w'.os = w.os
  tape : w'.tape = w.tape
  output : w'.output = w.output
  size : w.heap.size ≤ w'.heap.size
  block : ∀ k, k < w.heap.size → k ≠ g → w'.heap[k]? = w.heap[k]?
theorem But.refl (g : Nat) (w : World) : But g w w := ⟨rfl, rfl, rfl, Nat.le_refl _, fun _ _ _ => rfl⟩
theorem But.below {g : Nat} {w w' w2 : World} (h : But g w w') (hb : Below w'.heap.size w' w2) : But g w w2 :=
  ⟨hb.os.trans h.os, hb.tape.trans h.tape, hb.output.trans h.output, Nat.le_trans h.size hb.size, fun k hk hne => (hb.block k (Nat.lt_of_lt_of_le hk h.size)).trans (h.block k hk hne)⟩
theorem But.set_ {g : Nat} {w w' : World} (h : But g w w') (i : Nat) (u : Value) : But g w (w'.setCell ⟨g, i, none⟩ u) :=
  ⟨h.os, h.tape, h.output, by simpa [World.setCell] using h.size, fun k hk hne => (Below.heap_setCell w' ⟨g, i, none⟩ u k hne).trans (h.block k hk hne)⟩
theorem But.belowOf {g : Nat} {w w' w0 : World} (h : But g w w') (hb : Below w0.heap.size w0 w) (hg : w0.heap.size ≤ g) : Below w0.heap.size w0 w' :=
  ⟨h.os.trans hb.os, h.tape.trans hb.tape, h.output.trans hb.output, Nat.le_trans hb.size h.size, fun k hk => (h.block k (Nat.lt_of_lt_of_le hk hb.size) (by omega)).trans (hb.block k hk)⟩
theorem But.owns {g : Nat} {w w' : World} {base : Nat} {v : Value} {l : Sps} (h : But g w w') (ho : Owns w base v l) (hg : g < base) : Owns w' base v l := by
  obtain ⟨hl, hv⟩ := ho
  rcases hv with ⟨rfl, h0⟩ | ⟨g', cap, cur, rfl, hbs, hgg, rest⟩
  · exact ⟨hl, .inl ⟨rfl, h0⟩⟩
  · exact ⟨hl, .inr ⟨g', cap, cur, rfl, hbs, (h.block g' (Array.getElem?_eq_some_iff.1 hgg).1 (by omega)).trans hgg, rest⟩⟩
theorem Owns.ovr {w : World} {base g n c : Nat} {l : Sps} (h : Owns w base (.slice (some ⟨g, 0, none⟩) n c) l) (hl : l.length = n) : OvR w g (n * 2) := by
  obtain ⟨hf, hv⟩ := h
  rcases hv with ⟨e, _⟩ | ⟨g', cap, cur, e, _, hg, hc, hm, hs, ht⟩
  · cases e
  · cases e
    refine ⟨cur, hg, ?_⟩
    have : (cur.toList.take (l.length * 2)).length = l.length * 2 := by rw [ht, flat_length]
    rw [List.length_take] at this
    simp at this
    omega

set_option maxHeartbeats 2000000 in
set_option maxRecDepth 100000 in
theorem over_any (g c n : Nat) (w : World) (hl : n ≤ 100) (h12 : n + 12 ≤ c) (hg : OvR w g ((n + 12) * 2)) :
    Calls Tryz.prog 21 #[.slice (some ⟨g, 0, none⟩) n c] w fun e w' => e = .returned (.tuple #[]) ∧ But g w w' := by
  have HG := Lib.hid hg
  clear hg
  have s0 : (0 : Int) ≤ (n : Int) + 12 := by omega
  have s1 : (n : Int) + 12 ≤ (c : Int) := by omega
  go_enter Tryz.func21, Tryz.ntmps21
  go_wp2
  rw [show (min (c : Int) ((n : Int) + 12)).toNat = n + 12 by omega]
  go_loopw [3] (fun i wr => ∃ k : Nat, k ≤ n + 12 ∧ i = .int .i64 k ∧ Hid (OvR wr g ((n + 12) * 2) ∧ But g w wr)) (fun i _ => n + 12 - (intOf i).toNat)
  case atStart => exact ⟨0, by omega, rfl, Lib.hid ⟨HG.out, But.refl _ _⟩⟩
  case round =>
    obtain ⟨k, hk, rfl, hI⟩ := hrel
    by_cases hlt : k < n + 12
    · have CM := Lib.hid (fun W => markSpan_any 2 (k : Int) W (by omega) (by omega))
      generalize mkI 2 (k : Int) = z at CM
      have k0 : (0 : Int) ≤ (k : Int) := by omega
      have k1 : (k : Int) < (n : Int) + 12 := by omega
      go_wp2_with fail
      refine (CM.out _).mono ?_
      rintro e W1 ⟨rfl, hb1⟩
      have R1 := Lib.hid (hI.out.1.later hb1)
      have N1 := Lib.hid (hI.out.2.below hb1)
      obtain ⟨v0, q0⟩ := R1.out.cell (k * 2) (by omega)
      obtain ⟨v1, q1⟩ := R1.out.cell (k * 2 + 1) (by omega)
      have f0 := R1.out.frozen (k * 2)
      have f1 := R1.out.frozen (k * 2 + 1)
      clear hb1 hI
      go_wp2_with fail
      go_roundw
      case rel => exact ⟨k + 1, by omega, by go_num, Lib.hid ⟨(R1.out.set_ _ _).set_ _ _, (N1.out.set_ _ _).set_ _ _⟩⟩
      case measure => simp [intOf]; omega
    · go_wp2
      go_end0
      exact ⟨rfl, hI.out.2⟩

end Go.Proofs.YtgpbdocgnfjckaaGreat
