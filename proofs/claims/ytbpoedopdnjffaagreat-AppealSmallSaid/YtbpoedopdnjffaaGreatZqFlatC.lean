/- The kit's flatCases at some slices in memory of their own. -/
import Derived.Test.YtbpoedopdnjffaaGreatZqFlatS
namespace Go.Proofs.YtbpoedopdnjffaaGreat
open Go.RowKit Go.Shelf Sp

def mkCs (z : Int) : Cs := ⟨false, 0, z, 0, 0, 0, 0, false, 0, []⟩
theorem markCase_any (k i : Int) (w : World) (h0 : 0 ≤ k ∧ k ≤ 100000) (h1 : 0 ≤ i ∧ i ≤ 1000000) :
    Calls Tryz.prog 121 #[.int .i64 k, .int .i64 i] w fun e w' => e = .returned (csAgg (mkCs (mkI k i)) (.slice none 0 0)) ∧ Below w.heap.size w w' := by
  have CM := Lib.hid (fun W => mark_any k i W h0 h1)
  go_enter Tryz.func121, Tryz.ntmps121
  go_wp2_with (refine (CM.out _).mono ?_; rintro e w1 ⟨rfl, rfl⟩)
  refine bodyPost_ret (results_cell_row rfl _ _ w.heap.size 52 #[.bool false, .int .u8 0, .int .i64 (mkI k i), .int .i64 0, .int .i64 0, .int .i64 0, .int .i64 0, .bool false, .int .i64 0, .slice none 0 0] (0, 0) _ rfl (World.alloc_heap_new w _) Tryz.underlying52 rfl (by kernel_rfl)) rfl ?_
  exact ⟨rfl, (Below.refl _ _).alloc (Nat.le_refl _) _⟩
theorem sameCase_mark (z : Int) (w : World) : Calls Tryz.prog 33 #[csAgg (mkCs z) (.slice none 0 0), csAgg (mkCs z) (.slice none 0 0)] w fun e w' => e = .returned (.bool true) ∧ Below w.heap.size w w' :=
  sameCase_yes (mkCs z) none none 0 0 w (by simp [mkCs]) (.inl rfl) (.inl rfl)

/-- The first m marks of slice k. -/
def mC (k m : Nat) : List (Cs × Value) := (List.range m).map fun (i : Nat) => (mkCs (mkI k (i : Int)), .slice none 0 0)
theorem mC_len (k m : Nat) : (mC k m).length = m := by simp [mC]
theorem mC_get (k m i : Nat) (h : i < (mC k m).length) : (mC k m)[i] = (mkCs (mkI k (i : Int)), .slice none 0 0) := by simp [mC]
theorem mC_succ (k m : Nat) : mC k (m + 1) = mC k m ++ [(mkCs (mkI k (m : Int)), .slice none 0 0)] := by simp [mC, List.range_succ]
theorem cflat_one (p : Cs × Value) : cflat [p] = csRow p.1 p.2 := by simp [cflat]
theorem csRow_nil (c : Cs) : ∀ u ∈ csRow c (.slice none 0 0), u.oneCell' = true := by simp [csRow, Value.oneCell']
theorem cflat_nil {q : List (Cs × Value)} (h : ∀ x ∈ q, x.2 = .slice none 0 0) : ∀ u ∈ cflat q, u.oneCell' = true := by
  intro u hu
  unfold cflat at hu
  obtain ⟨x, hx, hu⟩ := List.mem_flatMap.1 hu
  rw [h x hx] at hu
  exact csRow_nil _ u hu
theorem nil_set {q : List (Cs × Value)} (h : ∀ x ∈ q, x.2 = .slice none 0 0) (i : Nat) (c : Cs) : ∀ x ∈ q.set i (c, .slice none 0 0), x.2 = .slice none 0 0 := by
  intro x hx
  rcases List.mem_or_eq_of_mem_set hx with hx | rfl
  · exact h x hx
  · rfl
abbrev cpI (N : Nat) (w : World) (base : Nat) (S : Nat → Prop) (V : Nat → Value) (n : Nat → Nat) (W : World) (l : Nat → List (Cs × Value)) : Prop := ApI w base S N 52 10 V n W (fun j => cflat (l j))
def cG (n : Nat → Nat) (j m : Nat) (ys : List Value) := m = n j + 64 ∧ ys = cflat (mC j (n j + 64))
def cM (n : Nat → Nat) (j m : Nat) (ys : List Value) := ∃ t, m = n j + 64 ∧ ys = cflat (mC j (n j) ++ t) ∧ (mC j (n j) ++ t).length = m
abbrev cpG (N : Nat) (w : World) (base : Nat) (V : Nat → Value) (G : Nat) (Q : Nat → Nat → List Value → Prop) (L : Nat) (W : World) (H : Nat → Value) (k : Nat) : Prop := ApG w base N 52 10 V G 35 Q L W H k
theorem take_set_nextC (l : List (Cs × Value)) (i : Nat) (s : Cs × Value) (h : i < l.length) : (l.set i s).take (i + 1) = l.take i ++ [s] := by
  rw [List.take_succ_eq_append_getElem (by rw [List.length_set]; exact h), List.take_set_of_le (Nat.le_refl _), List.getElem_set_self]
theorem cflat_half {l : List (Cs × Value)} {m : Nat} (h : (cflat l).length = m * 10) : l.length = m := by rw [cflat_length] at h; omega
theorem grown_case {W : World} {base : Nat} {v : Value} {m : Nat} {xs : List Value} (h : W.ownsRow base 52 10 v m xs) (hm : 0 < m) : ∃ g cap, v = .slice (some ⟨g, 0, none⟩) m cap := by
  rcases h.2 with ⟨_, h0⟩ | ⟨g, cap, _, rfl, _⟩
  · omega
  · exact ⟨g, cap, rfl⟩
theorem ApI.lenC {N : Nat} {w : World} {base : Nat} {S : Nat → Prop} {V : Nat → Value} {n : Nat → Nat} {W : World} {l : Nat → List (Cs × Value)} (h : cpI N w base S V n W l) {j : Nat} (hj : j < N) : (l j).length = n j := cflat_half (h.own j hj).1
theorem ApI.formC {N : Nat} {w : World} {base : Nat} {S : Nat → Prop} {V : Nat → Value} {n : Nat → Nat} {W : World} {l : Nat → List (Cs × Value)} (h : cpI N w base S V n W l) {j : Nat} (hj : j < N) : ∃ p cap, V j = .slice p (n j) cap ∧ (0 < n j → ∃ g, p = some ⟨g, 0, none⟩) := by
  rcases (h.own j hj).2 with ⟨e, h0⟩ | ⟨g, cap, cur, e, _⟩
  · exact ⟨none, 0, by rw [e, h0], fun h => by omega⟩
  · exact ⟨_, _, e, fun _ => ⟨g, rfl⟩⟩

/-- Ten cells of a row, written one by one. -/
theorem ownsRow_ten {W : World} {base g n cap : Nat} {e : TypeId} {xs : List Value} (h : W.ownsRow base e 10 (.slice (some ⟨g, 0, none⟩) n cap) n xs) (i : Nat) (c : Cs) (u : Value) :
    (setCase W g i c u).ownsRow base e 10 (.slice (some ⟨g, 0, none⟩) n cap) n (set10 xs i c u) ∧ W.grownBy (setCase W g i c u) (some g) := by
  refine ⟨?_, (setCase_but W g i c u).grown⟩
  unfold setCase set10
  exact ((((((((((h.stored i _).1.stored (i + 1) _).1.stored (i + 2) _).1.stored (i + 3) _).1.stored (i + 4) _).1.stored (i + 5) _).1.stored (i + 6) _).1.stored (i + 7) _).1.stored (i + 8) _).1.stored (i + 9) _).1
theorem spotTenC {W : World} {base g n cap : Nat} {e : TypeId} {xs : List Value} (h : W.ownsRow base e 10 (.slice (some ⟨g, 0, none⟩) n cap) n xs) {i : Nat} (hi : i < n) :
    ∃ u0 u1 u2 u3 u4 u5 u6 u7 u8 u9, W.cell? ⟨g, i * 10, none⟩ = some u0 ∧ W.cell? ⟨g, i * 10 + 1, none⟩ = some u1 ∧ W.cell? ⟨g, i * 10 + 2, none⟩ = some u2 ∧ W.cell? ⟨g, i * 10 + 3, none⟩ = some u3 ∧ W.cell? ⟨g, i * 10 + 4, none⟩ = some u4 ∧
      W.cell? ⟨g, i * 10 + 5, none⟩ = some u5 ∧ W.cell? ⟨g, i * 10 + 6, none⟩ = some u6 ∧ W.cell? ⟨g, i * 10 + 7, none⟩ = some u7 ∧ W.cell? ⟨g, i * 10 + 8, none⟩ = some u8 ∧ W.cell? ⟨g, i * 10 + 9, none⟩ = some u9 ∧ ∀ j, W.frozen? ⟨g, j, none⟩ = false := by
  have fl := h.1
  have key : ∀ j, j < 10 → ∃ u, W.cell? ⟨g, i * 10 + j, none⟩ = some u := fun j hj => by
    have q := h.cellAt (i * 10 + j) (by omega)
    rw [List.getElem?_eq_getElem (by omega)] at q
    exact ⟨_, q⟩
  obtain ⟨u0, k0⟩ := key 0 (by omega)
  obtain ⟨u1, k1⟩ := key 1 (by omega)
  obtain ⟨u2, k2⟩ := key 2 (by omega)
  obtain ⟨u3, k3⟩ := key 3 (by omega)
  obtain ⟨u4, k4⟩ := key 4 (by omega)
  obtain ⟨u5, k5⟩ := key 5 (by omega)
  obtain ⟨u6, k6⟩ := key 6 (by omega)
  obtain ⟨u7, k7⟩ := key 7 (by omega)
  obtain ⟨u8, k8⟩ := key 8 (by omega)
  obtain ⟨u9, k9⟩ := key 9 (by omega)
  exact ⟨u0, u1, u2, u3, u4, u5, u6, u7, u8, u9, k0, k1, k2, k3, k4, k5, k6, k7, k8, k9, fun j => h.frozenAt j⟩
theorem storeTenC {W : World} {base g n cap : Nat} {q : List (Cs × Value)} (h : W.ownsRow base 52 10 (.slice (some ⟨g, 0, none⟩) n cap) n (cflat q)) (hq : q.length = n) (i : Nat) (hi : i < n) (c : Cs) (u : Value) :
    (setCase W g (i * 10) c u).ownsRow base 52 10 (.slice (some ⟨g, 0, none⟩) n cap) n (cflat (q.set i (c, u))) ∧ W.grownBy (setCase W g (i * 10) c u) (some g) := by
  have h1 := ownsRow_ten h (i * 10) c u
  rw [set10_flat q c u i (by omega)] at h1
  exact h1
/-- A store of a whole case into slice k. -/
theorem ApI.storeC {N : Nat} {w : World} {base : Nat} {S : Nat → Prop} {V : Nat → Value} {n : Nat → Nat} {W : World} {l : Nat → List (Cs × Value)} (hC : ApC w base S N V) (h : cpI N w base S V n W l) {k : Nat} (hk : k < N) {g m cap : Nat} (hv : V k = .slice (some ⟨g, 0, none⟩) m cap) (hm : n k = m) (i : Nat) (hi : i < m) (c : Cs) (u : Value) :
    cpI N w base S V n (setCase W g (i * 10) c u) (fun j => if j = k then (l k).set i (c, u) else l j) := by
  have ho := h.own k hk
  have hlen := h.lenC hk
  rw [hv, hm] at ho
  obtain ⟨hs, hg⟩ := storeTenC ho (by rw [hlen, hm]) i hi c u
  have hbk := hC.blk k hk g (by rw [hv]; rfl)
  refine ⟨h.below.grown hg (Nat.le_trans hC.bs h.sz) (fun b hb => by cases hb; exact hbk.1), fun X hX hS => (hg.block X (Nat.lt_of_lt_of_le hX h.sz) (fun e' => by cases e'; exact hbk.2.2 hS)).trans (h.hd X hX hS), fun j hj => ?_⟩
  dsimp only
  by_cases hjk : j = k
  · subst hjk
    rw [if_pos rfl, hv, hm]
    exact hs
  · rw [if_neg hjk]
    refine (h.own j hj).kept hg ?_
    cases hv' : (V j).ownBlock with
    | none => exact .inl rfl
    | some b =>
      refine .inr fun e' => ?_
      cases e'
      exact hC.dis j k hj hk hjk g hv' (by rw [hv]; rfl)
theorem ApI.spotC {N : Nat} {w : World} {base : Nat} {S : Nat → Prop} {V : Nat → Value} {n : Nat → Nat} {W : World} {l : Nat → List (Cs × Value)} (h : cpI N w base S V n W l) {k : Nat} (hk : k < N) {g m cap : Nat} (hv : V k = .slice (some ⟨g, 0, none⟩) m cap) (hm : m = n k) {i : Nat} (hi : i < m) :
    ∃ u0 u1 u2 u3 u4 u5 u6 u7 u8 u9, W.cell? ⟨g, i * 10, none⟩ = some u0 ∧ W.cell? ⟨g, i * 10 + 1, none⟩ = some u1 ∧ W.cell? ⟨g, i * 10 + 2, none⟩ = some u2 ∧ W.cell? ⟨g, i * 10 + 3, none⟩ = some u3 ∧ W.cell? ⟨g, i * 10 + 4, none⟩ = some u4 ∧
      W.cell? ⟨g, i * 10 + 5, none⟩ = some u5 ∧ W.cell? ⟨g, i * 10 + 6, none⟩ = some u6 ∧ W.cell? ⟨g, i * 10 + 7, none⟩ = some u7 ∧ W.cell? ⟨g, i * 10 + 8, none⟩ = some u8 ∧ W.cell? ⟨g, i * 10 + 9, none⟩ = some u9 ∧ ∀ j, W.frozen? ⟨g, j, none⟩ = false := by
  have o := h.own k hk
  rw [hv, ← hm] at o
  exact spotTenC o hi
theorem crow_cells {W : World} {base g n cap : Nat} {ps : List (Cs × Value)} (h : W.ownsRow base 52 10 (.slice (some ⟨g, 0, none⟩) n cap) n (cflat ps)) (i : Nat) (hi : i < ps.length) : CaseCells W g (i * 10) ps[i].1 ps[i].2 := by
  have hl := cflat_half h.1
  have key : ∀ j, j < 10 → W.cell? ⟨g, i * 10 + j, none⟩ = (csRow ps[i].1 ps[i].2)[j]? := fun j hj => by rw [h.cellAt _ (by omega), cflat_get ps i j hi hj]
  exact ⟨key 0 (by omega), key 1 (by omega), key 2 (by omega), key 3 (by omega), key 4 (by omega), key 5 (by omega), key 6 (by omega), key 7 (by omega), key 8 (by omega), key 9 (by omega)⟩
theorem CaseCells.below_ {W W' : World} {b i : Nat} {c : Cs} {v : Value} (h : CaseCells W b i c v) (hb : Below W.heap.size W W') : CaseCells W' b i c v := h.of_block (hb.block b h.lt)
/-- The cells of a slice of marks. -/
theorem cells_markC2 {W : World} {base g m cap k i n : Nat} {t : List (Cs × Value)} (h : W.ownsRow base 52 10 (.slice (some ⟨g, 0, none⟩) m cap) m (cflat (mC k n ++ t))) (hi : i < n) : CaseCells W g (i * 10) (mkCs (mkI (k : Int) (i : Int))) (.slice none 0 0) := by
  have h1 := crow_cells h i (by rw [List.length_append, mC_len]; omega)
  rw [List.getElem_append_left (by rw [mC_len]; exact hi), mC_get] at h1
  exact h1
theorem cells_markC {W : World} {base g m cap k i : Nat} (h : W.ownsRow base 52 10 (.slice (some ⟨g, 0, none⟩) m cap) m (cflat (mC k m))) (hi : i < m) : CaseCells W g (i * 10) (mkCs (mkI (k : Int) (i : Int))) (.slice none 0 0) := by
  have h1 := crow_cells h i (by rw [mC_len]; omega)
  rw [mC_get] at h1
  exact h1
def zeroC : List (Cs × Value) := List.replicate 64 (mkCs 0, .slice none 0 0)
theorem zeroC_len : zeroC.length = 64 := by simp [zeroC]
theorem zeroC_nil : ∀ x ∈ zeroC, x.2 = .slice none 0 0 := by
  intro x hx
  rw [List.eq_of_mem_replicate hx]
theorem zeroC_flat : (madeCells (Value.agg #[.bool false, .int .u8 0, .int .i64 0, .int .i64 0, .int .i64 0, .int .i64 0, .int .i64 0, .bool false, .int .i64 0, .slice none 0 0]).cells (64 * 10)).toList = cflat zeroC := by
  apply List.ext_getElem?
  intro j
  have hl := zeroC_len
  by_cases hj : j < 640
  · have h2 := cflat_get zeroC (j / 10) (j % 10) (by omega) (by omega)
    have hz : zeroC[j / 10]'(by omega) = (mkCs 0, .slice none 0 0) := by unfold zeroC; exact List.getElem_replicate _
    rw [hz, show j / 10 * 10 + j % 10 = j by omega] at h2
    rw [h2]
    have hr : j % 10 < 10 := Nat.mod_lt _ (by decide)
    simp only [madeCells, Value.cells]
    rcases (show j % 10 = 0 ∨ j % 10 = 1 ∨ j % 10 = 2 ∨ j % 10 = 3 ∨ j % 10 = 4 ∨ j % 10 = 5 ∨ j % 10 = 6 ∨ j % 10 = 7 ∨ j % 10 = 8 ∨ j % 10 = 9 by omega) with e | e | e | e | e | e | e | e | e | e <;> simp [hj, e, csRow, mkCs]
  · rw [List.getElem?_eq_none (l := cflat zeroC) (by rw [cflat_length, hl]; omega), List.getElem?_eq_none (by simp [madeCells]; omega)]

set_option maxHeartbeats 4000000 in
set_option maxRecDepth 100000 in
theorem flatCases_any (N : Nat) (hN : N ≤ 1000) (w : World) (base B c3 : Nat) (S : Nat → Prop) (V : Nat → Value) (n : Nat → Nat) (l0 : Nat → List (Cs × Value)) (hSB : S B) (hC : ApC w base S N V) (hn : ∀ j, j < N → n j ≤ 10000) (hV : ∀ j, j < N → w.cell? ⟨B, j, none⟩ = some (V j)) (h0 : cpI N w base S V n w l0) :
    Calls Tryz.prog 77 #[.slice (some ⟨B, 0, none⟩) N c3] w fun e w' => e = .returned (.bool true) ∧ Below base w w' ∧ ∀ X, X < w.heap.size → S X → w'.heap[X]? = w.heap[X]? := by
  have hN0 : (0 : Int) ≤ (N : Int) := by omega
  have hN1 : (N : Int) ≤ 1000 := by omega
  have C := Lib.hid hC
  have SB := Lib.hid hSB
  have HN := Lib.hid hn
  have HV := Lib.hid hV
  have H0 := Lib.hid h0
  obtain ⟨i0, hi0, hz0, hz1, hz2⟩ := info_parts info_case
  have HZ2 := Lib.hid (show i0.bytes * 64 ≤ 281474976710656 by rw [hz2]; omega)
  have hmk : ∀ W : World, (Instr.makeSlice 46 (.int .i64 N) (.int .i64 N)).run Tryz.prog W = .ok (.slice (some ⟨W.heap.size, 0, none⟩) N N) (W.alloc (.cells (madeCells #[.slice none 0 0] N) 35)) := fun W => run_make_row' (P := Tryz.prog) 46 35 (.slice none 0 0) 24 Tryz.underlying46 (by kernel_rfl) rfl .i64 .i64 N (by omega) (by omega) W
  obtain ⟨A, hA⟩ : ∃ A, A = madeCells #[.slice none 0 0] N := ⟨_, rfl⟩
  rw [← hA] at hmk
  have HA := Lib.hid hA
  clear hA hC hn hV h0 hSB
  go_enter Tryz.func77, Tryz.ntmps77
  go_wp2
  go_loopw [3] (fun kv wr => ∃ (k : Nat) (l : Nat → List (Cs × Value)), k ≤ N ∧ kv = .int .i64 k ∧ Hid (cpI N w base S V n wr l ∧ ∀ j, j < k → l j = mC j (n j))) (fun kv _ => N - (intOf kv).toNat)
  case atStart => exact ⟨0, l0, by omega, rfl, Lib.hid ⟨H0.out, fun j hj => by omega⟩⟩
  case round =>
    obtain ⟨k, l, hk, rfl, hI⟩ := hrel
    by_cases hlt : k < N
    · obtain ⟨p, cp, hv, hp⟩ := hI.out.1.formC hlt
      have hnk := HN.out k hlt
      obtain ⟨m, hm⟩ : ∃ m, m = n k := ⟨_, rfl⟩
      rw [← hm] at hv hp hnk
      have hh := HV.out k hlt
      rw [hv] at hh
      have HH := Lib.hid hh
      have HM := Lib.hid hm
      have HVk := Lib.hid hv
      have HP := Lib.hid hp
      clear hh hm hv hp
      have k0 : (0 : Int) ≤ (k : Int) := by omega
      have k1 : (k : Int) < (N : Int) := by omega
      go_wp2
      go_loopw [4] (fun iv W => ∃ (i : Nat) (l : Nat → List (Cs × Value)), i ≤ m ∧ iv = .int .i64 i ∧ Hid (cpI N w base S V n W l ∧ (∀ j, j < k → l j = mC j (n j)) ∧ (l k).take i = mC k i)) (fun iv _ => m - (intOf iv).toNat)
      case atStart => exact ⟨0, l, by omega, rfl, Lib.hid ⟨hI.out.1, hI.out.2, rfl⟩⟩
      case round =>
        obtain ⟨i, l', hi, rfl, hJ⟩ := hrel
        have d0 := hJ.out.1.head SB.out HH.out
        by_cases hlt2 : i < m
        · obtain ⟨g, rfl⟩ := HP.out (by omega)
          have CM := Lib.hid (fun W => markCase_any (k : Int) (i : Int) W (by omega) (by omega))
          have i0' : (0 : Int) ≤ (i : Int) := by omega
          have i1 : (i : Int) < (m : Int) := by omega
          have gB : g ≠ B := fun e => (C.out.blk k hlt g (by rw [HVk.out]; rfl)).2.2 (by rw [e]; exact SB.out)
          have gB' : B ≠ g := Ne.symm gB
          have Bl : B < wr.heap.size := Nat.lt_of_lt_of_le (World.block_lt_of_cell? w _ HH.out) hJ.out.1.sz
          obtain ⟨c, hc⟩ : ∃ c, c = mkCs (mkI (k : Int) (i : Int)) := ⟨_, rfl⟩
          rw [← hc] at CM
          unfold csAgg at CM
          have HZ := Lib.hid hc
          clear hc
          go_wp2_with fail
          go_region_held3 (fun w' => w'.cell? ⟨B, k, none⟩ = some (.slice (some ⟨g, 0, none⟩) m cp))
            (first | go_keep | (exact (hb1.cell (p := ⟨B, k, none⟩) (by simpa using Bl)).trans (by simpa using d0)))
            (first | (go_at_call 121; refine (CM.out _).mono ?_; rintro e W1 ⟨rfl, hb1⟩
                      have J1 : Hid (cpI N w base S V n W1 l') := Lib.hid (ApI.later (W := wr) C.out hJ.out.1 (Below.undrew hb1))
                      obtain ⟨u0, u1, u2, u3, u4, u5, u6, u7, u8, u9, q0, q1, q2, q3, q4, q5, q6, q7, q8, q9, ff⟩ := J1.out.spotC hlt HVk.out HM.out hlt2))
          have J2 := Lib.hid (J1.out.storeC C.out hlt HVk.out HM.out.symm i hlt2 c (.slice none 0 0))
          unfold setCase at J2
          clear J1 hb1 q0 q1 q2 q3 q4 q5 q6 q7 q8 q9 ff
          go_wp2
          go_roundw
          case rel =>
            refine ⟨i + 1, _, by omega, by go_num, Lib.hid ⟨J2.out, fun j hj => ?_, ?_⟩⟩
            · rw [if_neg (by omega)]; exact hJ.out.2.1 j hj
            · rw [if_pos rfl, take_set_nextC _ _ _ (by rw [hJ.out.1.lenC hlt, ← HM.out]; exact hlt2), hJ.out.2.2, mC_succ, ← HZ.out]
          case measure => simp [intOf]; omega
        · go_wp2
          go_roundw
          case rel =>
            refine ⟨k + 1, l', by omega, by go_num, Lib.hid ⟨hJ.out.1, fun j hj => ?_⟩⟩
            by_cases hjk : j = k
            · subst hjk
              have h9 := hJ.out.2.2
              rwa [List.take_of_length_le (by rw [hJ.out.1.lenC hlt, ← HM.out]; omega), show i = m by omega, HM.out] at h9
            · exact hJ.out.2.1 j (by omega)
          case measure => simp [intOf]; omega
    · obtain rfl : N = k := by omega
      have I1 : Hid (cpI N w base S V n wr (fun j => mC j (n j))) := Lib.hid ⟨hI.out.1.below, hI.out.1.hd, fun j hj => by have o := hI.out.1.own j hj; rw [hI.out.2 j hj] at o; exact o⟩
      clear hI
      go_wp2
      obtain ⟨G, hG⟩ : ∃ G, wr.heap.size = G := ⟨_, rfl⟩
      have I2 : Hid (cpI N w base S V n (wr.alloc (.cells A 35)) (fun j => mC j (n j))) := Lib.hid (ApI.alloc C.out I1.out _)
      have G2 : Hid (cpG N w base V G (cG n) (wr.alloc (.cells A 35)).heap.size (wr.alloc (.cells A 35)) (fun _ => .slice none 0 0) 0) := Lib.hid ⟨by rw [← hG, HA.out]; exact World.rowIs_made wr _ N _, fun j hj => by omega, fun j hj => by omega⟩
      have gG : w.heap.size ≤ G := by rw [← hG]; exact I1.out.sz
      rw [hG]
      clear I1 hmk
      go_loopw [6] (fun kv wr => ∃ (k : Nat) (H : Nat → Value), k ≤ N ∧ kv = .int .i64 k ∧ Hid (cpI N w base S V n wr (fun j => mC j (n j)) ∧ cpG N w base V G (cG n) wr.heap.size wr H k)) (fun kv _ => N - (intOf kv).toNat)
      case atStart => exact ⟨0, _, by omega, rfl, Lib.hid ⟨I2.out, G2.out⟩⟩
      case round =>
        clear I2 G2
        obtain ⟨k, H, hk, rfl, hI⟩ := hrel
        by_cases hlt : k < N
        · obtain ⟨p, cp, hv, -⟩ := hI.out.1.formC hlt
          have hnk := HN.out k hlt
          obtain ⟨m, hm⟩ : ∃ m, m = n k := ⟨_, rfl⟩
          rw [← hm] at hv hnk
          have hh := HV.out k hlt
          rw [hv] at hh
          have c0 := hI.out.1.head SB.out hh
          have o0 := hI.out.1.own k hlt
          rw [hv, ← hm] at o0
          have O0 := Lib.hid o0
          have HH := Lib.hid hh
          have HM := Lib.hid hm
          have HVk := Lib.hid hv
          clear hh hm hv o0
          obtain ⟨L, hL⟩ : ∃ L, L = wr.heap.size := ⟨_, rfl⟩
          have HI2 := Lib.hid hI.out.2
          rw [← hL] at HI2
          have sL : w.heap.size ≤ L := by rw [hL]; exact hI.out.1.sz
          have sL2 : L ≤ wr.heap.size := by omega
          have HI1 := Lib.hid hI.out.1
          clear hI hL
          have k0 : (0 : Int) ≤ (k : Int) := by omega
          have k1 : (k : Int) < (N : Int) := by omega
          go_wp2
          go_loopw [8, 7] (fun iv u W => ∃ (i : Nat) (v : Value), i ≤ 64 ∧ iv = .int .i64 i ∧ v = u ∧ L ≤ W.heap.size ∧ Hid (cpI N w base S V n W (fun j => mC j (n j)) ∧ cpG N w base V G (cG n) L W H k ∧ W.ownsRow base 52 10 v (m + i) (cflat (mC k (m + i))) ∧ ∀ b, v.ownBlock = some b → (V k).ownBlock = some b ∨ L ≤ b)) (fun iv _ _ => 64 - (intOf iv).toNat)
          case atStart => exact ⟨0, _, by omega, rfl, rfl, sL2, Lib.hid ⟨HI1.out, HI2.out, by rw [HM.out]; have := O0.out; rw [HM.out] at this; exact this, fun b hb => by rw [HVk.out]; exact .inl hb⟩⟩
          case round =>
            clear HI1 HI2 O0 c0 sL2
            obtain ⟨i, v, hi, rfl, rfl, sW, hJ⟩ := hrel
            have d0 := hJ.out.1.head SB.out HH.out
            by_cases hlt2 : i < 64
            · have CM := Lib.hid (fun W => markCase_any (k : Int) ((m : Int) + (i : Int)) W (by omega) (by omega))
              have i0' : (0 : Int) ≤ (i : Int) := by omega
              have i1 : (i : Int) < 64 := by omega
              have ew : IntKind.i64.wrap ((m : Int) + (i : Int)) = (m : Int) + (i : Int) := IntWalk.i64_in _ (by omega)
              obtain ⟨c, hc⟩ : ∃ c, c = mkCs (mkI (k : Int) ((m : Int) + (i : Int))) := ⟨_, rfl⟩
              rw [← hc] at CM
              unfold csAgg at CM
              have HZ := Lib.hid hc
              clear hc
              go_wp2_with fail
              refine (CM.out _).mono ?_
              rintro e W1 ⟨rfl, hb1⟩
              have I3 : Hid (cpI N w base S V n (W1.alloc (.cells #[.bool c.el, .int .u8 c.st, .int .i64 c.opened, .int .i64 c.days, .int .i64 c.choice, .int .i64 c.level, .int .i64 c.due, .bool c.hold, .int .i64 c.since, .slice none 0 0] 52)) (fun j => mC j (n j))) := Lib.hid (ApI.alloc C.out (ApI.later (W := wr) C.out hJ.out.1 hb1) _)
              have G3 : Hid (cpG N w base V G (cG n) L (W1.alloc (.cells #[.bool c.el, .int .u8 c.st, .int .i64 c.opened, .int .i64 c.days, .int .i64 c.choice, .int .i64 c.level, .int .i64 c.due, .bool c.hold, .int .i64 c.since, .slice none 0 0] 52)) H k) := Lib.hid (ApG.alloc C.out hk sL (ApG.later (W := wr) C.out hk sL hJ.out.2.1 hb1) _)
              have O3 := Lib.hid ((hJ.out.2.2.1.kept (grown_of_below hb1 none) (by cases v.ownBlock <;> simp)).alloc (.cells #[.bool c.el, .int .u8 c.st, .int .i64 c.opened, .int .i64 c.days, .int .i64 c.choice, .int .i64 c.level, .int .i64 c.due, .bool c.hold, .int .i64 c.since, .slice none 0 0] 52))
              have F3 := Lib.hid hJ.out.2.2.2
              have s1 : L ≤ W1.heap.size := Nat.le_trans sW hb1.size
              have bW : base ≤ W1.heap.size := Nat.le_trans C.out.bs (by omega)
              clear hJ hb1 d0
              go_wp2_with (first | (at_builtin; refine wpList_append_keep _ rfl _ _ 35 rfl base 52 i0 (.agg #[.bool false, .int .u8 0, .int .i64 0, .int .i64 0, .int .i64 0, .int .i64 0, .int .i64 0, .bool false, .int .i64 0, .slice none 0 0]) 10 88 Tryz.underlying35 hi0 hz0 hz1 hz2 rfl (by decide) _ _ _ rfl O3.out ⟨W1.heap.size, 0, none⟩ 1 1 (csRow c (.slice none 0 0)) rfl rfl (cell_case W1 c (.slice none 0 0) _ rfl) (csRow_nil c) (by unfold maxLen; omega) (by omega) (by simp; omega) ?_; intro v' w1 hown' hgrow hfrm hkeep) | fail)
              have I4 := Lib.hid (ApI.append C.out I3.out hlt O3.out (fun b hb => (F3.out b hb).imp id fun h => by omega) (by have := HM.out; omega) hgrow hkeep)
              have G4 := Lib.hid (ApG.append C.out hlt sL (by decide) G3.out O3.out F3.out hgrow hkeep)
              have s4 : L ≤ w1.heap.size := by have := hgrow.size; simp at this; omega
              go_roundw
              case rel =>
                refine ⟨i + 1, _, by omega, by go_num, rfl, s4, Lib.hid ⟨I4.out, G4.out, ?_, fun b hb => ?_⟩⟩
                · rw [← Nat.add_assoc, mC_succ, cflat_append]
                  have : ((m + i : Nat) : Int) = (m : Int) + (i : Int) := by omega
                  rw [this, ← HZ.out, cflat_one]
                  exact hown'
                · rcases hfrm b hb with h1 | h1
                  · exact F3.out b h1
                  · right; simp at h1; omega
              case measure => simp [intOf]; omega
            · obtain rfl : i = 64 := by omega
              obtain ⟨g, cg, rfl⟩ := grown_case hJ.out.2.2.1 (by omega)
              have q0 := hJ.out.2.1.row.cell hlt
              have f0 := hJ.out.2.1.row.frozen k
              have I5 := Lib.hid (ApI.put C.out hJ.out.1 gG k (.slice (some ⟨g, 0, none⟩) (m + 64) cg))
              have G5 : Hid (cpG N w base V G (cG n) wr.heap.size (wr.setCell ⟨G, k, none⟩ (.slice (some ⟨g, 0, none⟩) (m + 64) cg)) (fun j => if j = k then .slice (some ⟨g, 0, none⟩) (m + 64) cg else H j) (k + 1)) := Lib.hid (ApG.put hlt (by decide) hJ.out.2.1 sW hJ.out.2.2.1 ⟨by rw [← HM.out], by rw [← HM.out]⟩ (fun b hb => (hJ.out.2.2.2 b hb).imp id fun h => by omega))
              go_wp2
              go_roundw
              case rel => exact ⟨k + 1, (fun j => if j = k then .slice (some ⟨g, 0, none⟩) (m + 64) cg else H j), by omega, by go_num, Lib.hid ⟨I5.out, by rw [World.setCell_size']; exact G5.out⟩⟩
              case measure => simp [intOf]; omega
        · obtain rfl : N = k := by omega
          go_wp2
          have W5 := Lib.hid hI.out
          obtain ⟨w5, hw5⟩ : ∃ w5, w5 = wr := ⟨_, rfl⟩
          rw [← hw5]
          rw [← hw5] at W5
          clear hI hw5
          have HI := Lib.hid (And.intro hi0 (And.intro hz0 (And.intro hz1 hz2)))
          clear hi0 hz0 hz1 hz2
          go_loopw [9] (fun kv wr => ∃ k : Nat, k ≤ N ∧ kv = .int .i64 k ∧ Hid (Below w5.heap.size w5 wr)) (fun kv _ => N - (intOf kv).toNat)
          case atStart => exact ⟨0, by omega, rfl, Lib.hid (Below.refl _ _)⟩
          case round =>
            obtain ⟨k, hk, rfl, hB⟩ := hrel
            by_cases hlt : k < N
            · have hnk := HN.out k hlt
              obtain ⟨m, hm⟩ : ∃ m, m = n k := ⟨_, rfl⟩
              obtain ⟨p, cp, hv, hp⟩ := W5.out.1.formC hlt
              rw [← hm] at hv hp hnk
              have hh := W5.out.1.head SB.out (HV.out k hlt)
              rw [hv] at hh
              obtain ⟨m', ys, ho, hq1, hq2⟩ := W5.out.2.own k hlt
              rw [← hm] at hq1 hq2
              subst hq1 hq2
              obtain ⟨g, cg, hg⟩ := grown_case ho (by omega)
              have hr := W5.out.2.row.cell hlt
              rw [hg] at hr
              rw [hg] at ho
              have HG := Lib.hid (show w5.ownsRow base 52 10 (.slice (some ⟨g, 0, none⟩) (m + 64) cg) (m + 64) (cflat (mC k (m + 64))) from ho)
              have HF := Lib.hid (show w5.ownsRow base 52 10 (.slice p m cp) m (cflat (mC k m)) by have o9 : w5.ownsRow base 52 10 (V k) (n k) (cflat (mC k (n k))) := W5.out.1.own k hlt; rw [hv, ← hm] at o9; exact o9)
              have HP := Lib.hid hp
              have hB1 := Lib.hid (World.block_lt_of_cell? w5 _ hh)
              have hG1 := Lib.hid (World.block_lt_of_cell? w5 _ hr)
              have HNK := Lib.hid hnk
              clear ho hg hp hv hm hnk
              have k0 : (0 : Int) ≤ (k : Int) := by omega
              have k1 : (k : Int) < (N : Int) := by omega
              go_wp2
              go_loopw [10] (fun iv wr => ∃ i : Nat, i ≤ m + 64 ∧ iv = .int .i64 i ∧ Hid (Below w5.heap.size w5 wr)) (fun iv _ => m + 64 - (intOf iv).toNat)
              case atStart => exact ⟨0, by omega, rfl, hB⟩
              case round =>
                clear hB
                obtain ⟨i, hi, rfl, hB⟩ := hrel
                have d0 := (hB.out.cell (p := ⟨B, k, none⟩) hB1.out).trans hh
                have d1 := (hB.out.cell (p := ⟨G, k, none⟩) hG1.out).trans hr
                by_cases hlt2 : i < m + 64
                · have CM := Lib.hid (fun W => markCase_any (k : Int) (i : Int) W (by omega) (by have := HNK.out; omega))
                  have i0' : (0 : Int) ≤ (i : Int) := by omega
                  have i1 : (i : Int) < (m : Int) + 64 := by omega
                  have ew : IntKind.i64.wrap ((i : Int) + 1) = (i : Int) + 1 := IntWalk.i64_in _ (by have := HNK.out; omega)
                  have c1 := (cells_markC HG.out hlt2).below_ hB.out
                  by_cases hlt3 : i < m
                  · obtain ⟨g2, rfl⟩ := HP.out (by omega)
                    have c3 := (cells_markC HF.out hlt3).below_ hB.out
                    have CS := Lib.hid (sameCase_mark (mkI (k : Int) (i : Int)))
                    generalize mkCs (mkI (k : Int) (i : Int)) = c at CM c1 c3 CS
                    unfold csAgg at CM CS
                    have HC1 := Lib.hid c1
                    have HC3 := Lib.hid c3
                    clear c1 c3
                    have i2 : (i : Int) < (m : Int) := by omega
                    go_wp2_with fail
                    refine wp_region_laterS (fun W => W.cell? ⟨B, k, none⟩ = some (.slice (some ⟨g2, 0, none⟩) m cp) ∧ W.cell? ⟨G, k, none⟩ = some (.slice (some ⟨g, 0, none⟩) (m + 64) cg) ∧ CaseCells W g (i * 10) c (.slice none 0 0) ∧ CaseCells W g2 (i * 10) c (.slice none 0 0) ∧ Hid (Below w5.heap.size w5 W)) (by kernel_rfl) (by kernel_rfl) (fun p => ⟨p.cell _ _ d0, p.cell _ _ d1, HC1.out.below p.below, HC3.out.below p.below, p.since hB.out⟩) ?_
                    intro hS
                    unfold CaseCells at hS
                    repeat (go_big_quiet_step ((first | (go_at_call 121; exact Later.call (CM.out _)) | (go_at_call 33; exact Later.call (CS.out _)))))
                    refine wpQuiet_nil ?_
                    rintro _ ⟨q, rfl⟩
                    have B1 := (hS q).2.2.2.2
                    clear hS
                    go_wp2
                    go_roundw
                    case rel => have hnk := HNK.out; exact ⟨i + 1, by omega, by go_num, B1⟩
                    case measure => have hnk := HNK.out; simp [intOf]; omega
                  · have CS := Lib.hid (sameCase_mark (mkI (k : Int) (i : Int)))
                    generalize mkCs (mkI (k : Int) (i : Int)) = c at CM c1 CS
                    unfold csAgg at CM CS
                    have HC1 := Lib.hid c1
                    clear c1
                    have k3 : decide ((i : Int) < (m : Int)) = false := decide_eq_false (by omega)
                    have k4 : decide (i < m) = false := decide_eq_false (by omega)
                    go_wp2_with fail
                    refine wp_region_laterS (fun W => W.cell? ⟨B, k, none⟩ = some (.slice p m cp) ∧ W.cell? ⟨G, k, none⟩ = some (.slice (some ⟨g, 0, none⟩) (m + 64) cg) ∧ CaseCells W g (i * 10) c (.slice none 0 0) ∧ Hid (Below w5.heap.size w5 W)) (by kernel_rfl) (by kernel_rfl) (fun p => ⟨p.cell _ _ d0, p.cell _ _ d1, HC1.out.below p.below, p.since hB.out⟩) ?_
                    intro hS
                    unfold CaseCells at hS
                    repeat (go_big_quiet_step ((first | (go_at_call 121; exact Later.call (CM.out _)) | (go_at_call 33; exact Later.call (CS.out _)))))
                    refine wpQuiet_nil ?_
                    rintro _ ⟨q, rfl⟩
                    have B1 := (hS q).2.2.2
                    clear hS
                    go_wp2
                    go_roundw
                    case rel => have hnk := HNK.out; exact ⟨i + 1, by omega, by go_num, B1⟩
                    case measure => have hnk := HNK.out; simp [intOf]; omega
                · go_wp2
                  go_roundw
                  case rel => exact ⟨k + 1, by omega, by go_num, hB⟩
                  case measure => simp [intOf]; omega
            · obtain rfl : N = k := by omega
              have I6 : Hid (cpI N w base S V n wr (fun j => mC j (n j))) := Lib.hid (ApI.later C.out W5.out.1 hB.out)
              have R6 := Lib.hid (rowIs_grown W5.out.2.row (grown_of_below hB.out none) (by simp))
              clear hB W5
              go_wp2
              have G6 : Hid (cpG N w base V G (cM n) wr.heap.size wr _ 0) := Lib.hid ⟨R6.out, fun j hj => by omega, fun j hj => by omega⟩
              clear R6
              go_loopw [11] (fun kv wr => ∃ (k : Nat) (H : Nat → Value), k ≤ N ∧ kv = .int .i64 k ∧ Hid (cpI N w base S V n wr (fun j => mC j (n j)) ∧ cpG N w base V G (cM n) wr.heap.size wr H k)) (fun kv _ => N - (intOf kv).toNat)
              case atStart => exact ⟨0, _, by omega, rfl, Lib.hid ⟨I6.out, G6.out⟩⟩
              case round =>
                clear I6 G6
                obtain ⟨k, H, hk, rfl, hI⟩ := hrel
                by_cases hlt : k < N
                · obtain ⟨p, cp, hv, -⟩ := hI.out.1.formC hlt
                  obtain ⟨m, hm⟩ : ∃ m, m = n k := ⟨_, rfl⟩
                  rw [← hm] at hv
                  have hh := HV.out k hlt
                  rw [hv] at hh
                  have HH := Lib.hid hh
                  have HM := Lib.hid hm
                  have HVk := Lib.hid hv
                  have HNK := Lib.hid (show m ≤ 10000 by rw [hm]; exact HN.out k hlt)
                  clear hh hm hv
                  obtain ⟨M, hM⟩ : ∃ M, wr.heap.size = M := ⟨_, rfl⟩
                  have HI2 := Lib.hid hI.out.2
                  rw [hM] at HI2
                  have sL : w.heap.size ≤ M := by rw [← hM]; exact hI.out.1.sz
                  have gM : G < M := by rw [← hM]; exact hI.out.2.row.lt
                  have bM : base ≤ wr.heap.size := Nat.le_trans C.out.bs hI.out.1.sz
                  have k0 : (0 : Int) ≤ (k : Int) := by omega
                  have k1 : (k : Int) < (N : Int) := by omega
                  obtain ⟨hi0, hz0, hz1, hz2⟩ := HI.out
                  go_wp2_with (first | (at_make; refine wpList_make_fullS _ rfl _ _ 35 rfl base 52 i0 (.agg #[.bool false, .int .u8 0, .int .i64 0, .int .i64 0, .int .i64 0, .int .i64 0, .int .i64 0, .bool false, .int .i64 0, .slice none 0 0]) 10 Tryz.underlying35 hi0 hz0 hz1 .i64 .i64 64 rfl rfl HZ2.out (by unfold maxLen; omega) bM ?_; intro w1 hown1 hgrow1) | fail)
                  clear hi0 hz0 hz1 hz2
                  have O1 : Hid (w1.ownsRow base 52 10 (.slice (some ⟨M, 0, none⟩) 64 64) 64 (cflat zeroC)) := Lib.hid (by rw [← hM]; rw [zeroC_flat] at hown1; exact hown1)
                  have I1 : Hid (cpI N w base S V n w1 (fun j => mC j (n j))) := Lib.hid (ApI.grown C.out hI.out.1 hgrow1 (fun b hb => by cases hb))
                  have G1 : Hid (cpG N w base V G (cM n) M w1 H k) := Lib.hid (ApG.grown C.out hk sL HI2.out hgrow1 (fun b hb => by cases hb))
                  have s1 : M ≤ w1.heap.size := by rw [← hM]; exact hgrow1.size
                  try rw [hM]
                  clear hown1 hgrow1 hI HI2 hM bM
                  go_loopw [13] (fun iv W => ∃ (i : Nat) (q : List (Cs × Value)), i ≤ 64 ∧ iv = .int .i64 i ∧ M ≤ W.heap.size ∧ Hid (cpI N w base S V n W (fun j => mC j (n j)) ∧ cpG N w base V G (cM n) M W H k ∧ W.ownsRow base 52 10 (.slice (some ⟨M, 0, none⟩) 64 64) 64 (cflat q) ∧ q.length = 64 ∧ ∀ x ∈ q, x.2 = .slice none 0 0)) (fun iv _ => 64 - (intOf iv).toNat)
                  case atStart => exact ⟨0, _, by omega, rfl, s1, Lib.hid ⟨I1.out, G1.out, O1.out, zeroC_len, zeroC_nil⟩⟩
                  case round =>
                    clear I1 G1 O1 s1
                    obtain ⟨i, q, hi, rfl, sW, hJ⟩ := hrel
                    have d0 := hJ.out.1.head SB.out HH.out
                    by_cases hlt2 : i < 64
                    · have CM := Lib.hid (fun W => markCase_any ((k : Int) + (N : Int)) (i : Int) W (by omega) (by omega))
                      have ew2 : IntKind.i64.wrap ((k : Int) + (N : Int)) = (k : Int) + (N : Int) := IntWalk.i64_in _ (by omega)
                      have i0' : (0 : Int) ≤ (i : Int) := by omega
                      have i1 : (i : Int) < 64 := by omega
                      generalize mkCs (mkI ((k : Int) + (N : Int)) (i : Int)) = c at CM
                      unfold csAgg at CM
                      go_wp2_with fail
                      refine (CM.out _).mono ?_
                      rintro e W1 ⟨rfl, hb1⟩
                      have I3 : Hid (cpI N w base S V n W1 (fun j => mC j (n j))) := Lib.hid (ApI.later C.out hJ.out.1 hb1)
                      have G3 : Hid (cpG N w base V G (cM n) M W1 H k) := Lib.hid (ApG.later C.out hk sL hJ.out.2.1 hb1)
                      have O3 : Hid (W1.ownsRow base 52 10 (.slice (some ⟨M, 0, none⟩) 64 64) 64 (cflat q)) := Lib.hid (World.ownsRow.kept hJ.out.2.2.1 (grown_of_below hb1 none) (by simp [Value.ownBlock]))
                      have s3 : M ≤ W1.heap.size := Nat.le_trans sW hb1.size
                      have hq := hJ.out.2.2.2.1
                      obtain ⟨u0, u1, u2, u3, u4, u5, u6, u7, u8, u9, q0, q1, q2, q3, q4, q5, q6, q7, q8, q9, ff⟩ := spotTenC O3.out hlt2
                      have hS := storeTenC O3.out hq i hlt2 c (.slice none 0 0)
                      have hS2 := hS.2
                      unfold setCase at hS hS2
                      have S4 := Lib.hid hS.1
                      have I4 := Lib.hid (ApI.grown C.out I3.out hS.2 (fun b hb => by cases hb; exact sL))
                      have G4 := Lib.hid (ApG.grown C.out hk sL G3.out hS.2 (fun b hb => by cases hb; exact ⟨Nat.le_refl _, by omega⟩))
                      have HQ := Lib.hid hq
                      have HNILq := Lib.hid hJ.out.2.2.2.2
                      clear hS hS2 hb1 hJ I3 G3 O3 hq d0
                      go_wp2_with fail
                      go_roundw
                      case rel => exact ⟨i + 1, _, by omega, by go_num, by simpa using s3, Lib.hid ⟨I4.out, G4.out, S4.out, by rw [List.length_set]; exact HQ.out, nil_set HNILq.out i c⟩⟩
                      case measure => simp [intOf]; omega
                    · obtain rfl : i = 64 := by omega
                      have hq := Lib.hid hJ.out.2.2.2.1
                      have HNILq := Lib.hid hJ.out.2.2.2.2
                      have I3 := Lib.hid hJ.out.1
                      have G3 := Lib.hid hJ.out.2.1
                      have O3 : Hid (wr.ownsRow base 52 10 (.slice (some ⟨M, 0, none⟩) 64 64) 64 (cflat q)) := Lib.hid hJ.out.2.2.1
                      have o1 : wr.ownsRow base 52 10 (V k) (n k) (cflat (mC k (n k))) := I3.out.own k hlt
                      rw [HVk.out, ← HM.out] at o1
                      have O1 := Lib.hid o1
                      have F1 := Lib.hid (show ∀ b, (Value.slice p m cp).ownBlock = some b → (V k).ownBlock = some b by rw [HVk.out]; exact fun b hb => hb)
                      have bM : base ≤ wr.heap.size := Nat.le_trans C.out.bs I3.out.sz
                      have r0 := G3.out.row.cell hlt
                      have fr0 := G3.out.row.frozen k
                      have Gr := Lib.hid G3.out.row
                      clear o1 hJ
                      obtain ⟨hi0, hz0, hz1, hz2⟩ := HI.out
                      go_wp2_with (first | (at_builtin; refine wpList_append_keep _ rfl _ _ 35 rfl base 52 i0 (.agg #[.bool false, .int .u8 0, .int .i64 0, .int .i64 0, .int .i64 0, .int .i64 0, .int .i64 0, .bool false, .int .i64 0, .slice none 0 0]) 10 88 Tryz.underlying35 hi0 hz0 hz1 hz2 rfl (by decide) _ _ _ rfl O1.out ⟨M, 0, none⟩ 64 64 (cflat q) rfl (by rw [cflat_length, hq.out]) (O3.out.cells rfl) (cflat_nil HNILq.out) (by have := HNK.out; unfold maxLen; omega) (by have := HNK.out; omega) bM ?_; intro v' w1 hown' hgrow hfrm hkeep; obtain ⟨g, cg, rfl⟩ := grown_case hown' (by omega); have I4 : Hid (cpI N w base S V n w1 (fun j => mC j (n j))) := Lib.hid (ApI.append C.out I3.out hlt O1.out (fun b hb => .inl (F1.out b hb)) (Nat.le_of_eq HM.out.symm) hgrow hkeep); have G4 : Hid (cpG N w base V G (cM n) M w1 H k) := Lib.hid (ApG.append C.out hlt sL (by decide) G3.out O1.out (fun b hb => .inl (F1.out b hb)) hgrow hkeep); have q0 := G4.out.row.cell hlt; have f0 := G4.out.row.frozen k; have s4 : M ≤ w1.heap.size := Nat.le_trans sW hgrow.size; have O4 := Lib.hid hown'; have R4 := Lib.hid hfrm; clear hown' hgrow hfrm hkeep r0 fr0) | fail)
                      clear hi0 hz0 hz1 hz2
                      have I5 := Lib.hid (ApI.put C.out I4.out gG k (.slice (some ⟨g, 0, none⟩) (m + 64) cg))
                      have G5 : Hid (cpG N w base V G (cM n) w1.heap.size (w1.setCell ⟨G, k, none⟩ (.slice (some ⟨g, 0, none⟩) (m + 64) cg)) (fun j => if j = k then .slice (some ⟨g, 0, none⟩) (m + 64) cg else H j) (k + 1)) := Lib.hid (ApG.put hlt (by decide) G4.out s4 O4.out ⟨q, by rw [← HM.out], by rw [← HM.out, cflat_append], by rw [← HM.out, List.length_append, mC_len, hq.out]⟩ (fun b hb => (R4.out b hb).imp (F1.out b) fun h => Nat.le_trans I3.out.sz h))
                      go_roundw
                      case rel => exact ⟨k + 1, (fun j => if j = k then .slice (some ⟨g, 0, none⟩) (m + 64) cg else H j), by omega, by go_num, Lib.hid ⟨I5.out, by rw [World.setCell_size']; exact G5.out⟩⟩
                      case measure => simp [intOf]; omega
                · obtain rfl : N = k := by omega
                  have W5 := Lib.hid hI.out
                  obtain ⟨w5, hw5⟩ : ∃ w5, w5 = wr := ⟨_, rfl⟩
                  rw [← hw5] at W5
                  clear hI
                  go_wp2
                  rw [← hw5]
                  clear hw5
                  go_loopw [14] (fun kv wr => ∃ k : Nat, k ≤ N ∧ kv = .int .i64 k ∧ Hid (Below w5.heap.size w5 wr)) (fun kv _ => N - (intOf kv).toNat)
                  case atStart => exact ⟨0, by omega, rfl, Lib.hid (Below.refl _ _)⟩
                  case round =>
                    obtain ⟨k, hk, rfl, hB⟩ := hrel
                    by_cases hlt : k < N
                    · have hnk := HN.out k hlt
                      obtain ⟨m, hm⟩ : ∃ m, m = n k := ⟨_, rfl⟩
                      obtain ⟨p, cp, hv, hp⟩ := W5.out.1.formC hlt
                      rw [← hm] at hv hp hnk
                      have hh := W5.out.1.head SB.out (HV.out k hlt)
                      rw [hv] at hh
                      obtain ⟨m', ys, ho, t, hq1, hq2, hq3⟩ := W5.out.2.own k hlt
                      rw [← hm] at hq1 hq2 hq3
                      subst hq1 hq2
                      obtain ⟨g, cg, hg⟩ := grown_case ho (by omega)
                      have hr := W5.out.2.row.cell hlt
                      rw [hg] at hr
                      rw [hg] at ho
                      have HG := Lib.hid (show w5.ownsRow base 52 10 (.slice (some ⟨g, 0, none⟩) (m + 64) cg) (m + 64) (cflat (mC k m ++ t)) from ho)
                      have HF := Lib.hid (show w5.ownsRow base 52 10 (.slice p m cp) m (cflat (mC k m)) by have o9 : w5.ownsRow base 52 10 (V k) (n k) (cflat (mC k (n k))) := W5.out.1.own k hlt; rw [hv, ← hm] at o9; exact o9)
                      have HP := Lib.hid hp
                      have hB1 := Lib.hid (World.block_lt_of_cell? w5 _ hh)
                      have hG1 := Lib.hid (World.block_lt_of_cell? w5 _ hr)
                      have HNK := Lib.hid hnk
                      clear ho hg hp hv hm hnk hq3
                      have k0 : (0 : Int) ≤ (k : Int) := by omega
                      have k1 : (k : Int) < (N : Int) := by omega
                      go_wp2
                      go_loopw [15] (fun iv wr => ∃ i : Nat, i ≤ m ∧ iv = .int .i64 i ∧ Hid (Below w5.heap.size w5 wr)) (fun iv _ => m - (intOf iv).toNat)
                      case atStart => exact ⟨0, by omega, rfl, hB⟩
                      case round =>
                        clear hB
                        obtain ⟨i, hi, rfl, hB⟩ := hrel
                        have d0 := (hB.out.cell (p := ⟨B, k, none⟩) hB1.out).trans hh
                        have d1 := (hB.out.cell (p := ⟨G, k, none⟩) hG1.out).trans hr
                        by_cases hlt2 : i < m
                        · have CM := Lib.hid (fun W => markCase_any (k : Int) (i : Int) W (by omega) (by have := HNK.out; omega))
                          have i0' : (0 : Int) ≤ (i : Int) := by omega
                          have i1 : (i : Int) < (m : Int) + 64 := by omega
                          have i2 : (i : Int) < (m : Int) := by omega
                          have ew : IntKind.i64.wrap ((i : Int) + 1) = (i : Int) + 1 := IntWalk.i64_in _ (by have := HNK.out; omega)
                          have c1 := (cells_markC2 HG.out hlt2).below_ hB.out
                          obtain ⟨g2, rfl⟩ := HP.out (by omega)
                          have c3 := (cells_markC HF.out hlt2).below_ hB.out
                          have CS := Lib.hid (sameCase_mark (mkI (k : Int) (i : Int)))
                          generalize mkCs (mkI (k : Int) (i : Int)) = c at CM c1 c3 CS
                          unfold csAgg at CM CS
                          have HC1 := Lib.hid c1
                          have HC3 := Lib.hid c3
                          clear c1 c3
                          go_wp2_with fail
                          refine wp_region_laterS (fun W => W.cell? ⟨B, k, none⟩ = some (.slice (some ⟨g2, 0, none⟩) m cp) ∧ W.cell? ⟨G, k, none⟩ = some (.slice (some ⟨g, 0, none⟩) (m + 64) cg) ∧ CaseCells W g (i * 10) c (.slice none 0 0) ∧ CaseCells W g2 (i * 10) c (.slice none 0 0) ∧ Hid (Below w5.heap.size w5 W)) (by kernel_rfl) (by kernel_rfl) (fun p => ⟨p.cell _ _ d0, p.cell _ _ d1, HC1.out.below p.below, HC3.out.below p.below, p.since hB.out⟩) ?_
                          intro hS
                          unfold CaseCells at hS
                          repeat (go_big_quiet_step ((first | (go_at_call 121; exact Later.call (CM.out _)) | (go_at_call 33; exact Later.call (CS.out _)))))
                          refine wpQuiet_nil ?_
                          rintro _ ⟨q, rfl⟩
                          have B1 := (hS q).2.2.2.2
                          clear hS
                          go_wp2
                          go_roundw
                          case rel => have hnk := HNK.out; exact ⟨i + 1, by omega, by go_num, B1⟩
                          case measure => have hnk := HNK.out; simp [intOf]; omega
                        · go_wp2
                          go_roundw
                          case rel => exact ⟨k + 1, by omega, by go_num, hB⟩
                          case measure => simp [intOf]; omega
                    · obtain rfl : N = k := by omega
                      have D9 := Lib.hid (show ∀ X, X < w.heap.size → S X → wr.heap[X]? = w.heap[X]? from fun X hX hS => (hB.out.block X (Nat.lt_of_lt_of_le hX W5.out.1.sz)).trans (W5.out.1.hd X hX hS))
                      have B9 := Lib.hid (W5.out.1.below.trans (hB.out.mono (Nat.le_trans C.out.bs W5.out.1.below.size)))
                      clear hB W5
                      go_wp2
                      go_ret
                      exact ⟨rfl, B9.out, D9.out⟩

end Go.Proofs.YtbpoedopdnjffaaGreat
