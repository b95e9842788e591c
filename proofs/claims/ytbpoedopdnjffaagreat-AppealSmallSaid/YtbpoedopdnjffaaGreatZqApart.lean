/- The kit's bag with cases: putSpans, oneCase, putCases, apart, ApartCases. -/
import Derived.Test.YtbpoedopdnjffaaGreatZqFlatC
import Derived.Test.YtbpoedopdnjffaaGreatZqFlat
import Derived.RangeFuncBox
namespace Go.Proofs.YtbpoedopdnjffaaGreat
open Go.RowKit Go.Shelf Sp

/-- A bag that holds the slice v of slices of spans and the slice u of slices of cases. -/
def BagAt (W : World) (K : Nat) (v u : Value) : Prop := W.heap[K]? = some (.cells #[.slice none 0 0, .slice none 0 0, .slice none 0 0, .slice none 0 0, .slice none 0 0, .slice none 0 0, .slice none 0 0, v, .slice none 0 0, .slice none 0 0, .slice none 0 0, .slice none 0 0, .slice none 0 0, .slice none 0 0, .slice none 0 0, .slice none 0 0, .slice none 0 0, .slice none 0 0, .slice none 0 0, .slice none 0 0, u, .slice none 0 0, .slice none 0 0] 92 (0, 0))
theorem BagAt.lt {W : World} {K : Nat} {v u : Value} (h : BagAt W K v u) : K < W.heap.size := (Array.getElem?_eq_some_iff.1 h).1
theorem BagAt.cell {W : World} {K : Nat} {v u : Value} (h : BagAt W K v u) (j : Nat) (hj : j < 23) (h7 : j ≠ 7) (h20 : j ≠ 20) : W.cell? ⟨K, j, none⟩ = some (.slice none 0 0) := by
  unfold BagAt at h
  simp only [World.cell?, h]
  match j, hj, h7, h20 with
  | 0, _, _, _ => rfl
  | 1, _, _, _ => rfl
  | 2, _, _, _ => rfl
  | 3, _, _, _ => rfl
  | 4, _, _, _ => rfl
  | 5, _, _, _ => rfl
  | 6, _, _, _ => rfl
  | 8, _, _, _ => rfl
  | 9, _, _, _ => rfl
  | 10, _, _, _ => rfl
  | 11, _, _, _ => rfl
  | 12, _, _, _ => rfl
  | 13, _, _, _ => rfl
  | 14, _, _, _ => rfl
  | 15, _, _, _ => rfl
  | 16, _, _, _ => rfl
  | 17, _, _, _ => rfl
  | 18, _, _, _ => rfl
  | 19, _, _, _ => rfl
  | 21, _, _, _ => rfl
  | 22, _, _, _ => rfl
  | 7, _, h7, _ => exact absurd rfl h7
  | 20, _, _, h20 => exact absurd rfl h20
  | n + 23, hj, _, _ => omega
theorem BagAt.seven {W : World} {K : Nat} {v u : Value} (h : BagAt W K v u) : W.cell? ⟨K, 7, none⟩ = some v := by
  unfold BagAt at h
  simp only [World.cell?, h]
  rfl
theorem BagAt.twenty {W : World} {K : Nat} {v u : Value} (h : BagAt W K v u) : W.cell? ⟨K, 20, none⟩ = some u := by
  unfold BagAt at h
  simp only [World.cell?, h]
  rfl
theorem BagAt.frozen {W : World} {K : Nat} {v u : Value} (h : BagAt W K v u) (j : Nat) : W.frozen? ⟨K, j, none⟩ = false := by
  unfold BagAt at h
  simp [World.frozen?, h]
theorem BagAt.put7 {W : World} {K : Nat} {v u : Value} (h : BagAt W K v u) (v' : Value) : BagAt (W.setCell ⟨K, 7, none⟩ v') K v' u := by
  unfold BagAt at h ⊢
  simp only [World.setCell, Array.getElem?_modify, h]
  rfl
theorem BagAt.put20 {W : World} {K : Nat} {v u : Value} (h : BagAt W K v u) (u' : Value) : BagAt (W.setCell ⟨K, 20, none⟩ u') K v u' := by
  unfold BagAt at h ⊢
  simp only [World.setCell, Array.getElem?_modify, h]
  rfl
theorem BagAt.of_block {W W' : World} {K : Nat} {v u : Value} (h : BagAt W K v u) (e : W'.heap[K]? = W.heap[K]?) : BagAt W' K v u := e.trans h
theorem BagAt.later {W W' : World} {K : Nat} {v u : Value} (h : BagAt W K v u) (hb : Below W.heap.size W W') : BagAt W' K v u := h.of_block (hb.block K h.lt)
theorem BagAt.grown {W W' : World} {row : Option Nat} {K : Nat} {v u : Value} (h : BagAt W K v u) (hg : W.grownBy W' row) (hne : some K ≠ row) : BagAt W' K v u := h.of_block (hg.block K h.lt hne)
theorem BagAt.not_row {W : World} {K : Nat} {v u : Value} {e : TypeId} (h : BagAt W K v u) (hte : 92 ≠ e) {base size k : Nat} {x : Value} {xs : List Value} (hr : W.ownsRow base e size x k xs) : some K ≠ x.ownBlock := by
  rcases hr.2 with ⟨rfl, _⟩ | ⟨g, cap, cur, rfl, _, hgb, _⟩
  · simp [Value.ownBlock]
  · intro e'
    obtain rfl : K = g := by simpa [Value.ownBlock] using e'
    have := (show W.heap[K]? = _ from h).symm.trans hgb
    simp at this
    exact hte this.2
theorem own_ne2 {W : World} {b1 b2 s1 s2 n1 n2 : Nat} {e1 e2 : TypeId} {v u : Value} {xs ys : List Value} (h1 : W.ownsRow b1 e1 s1 v n1 xs) (h2 : W.ownsRow b2 e2 s2 u n2 ys) (hne : e1 ≠ e2) : u.ownBlock = none ∨ u.ownBlock ≠ v.ownBlock := by
  rcases h2.2 with ⟨rfl, _⟩ | ⟨g, cap, cur, rfl, _, hg, _⟩
  · exact .inl rfl
  · right
    intro e
    rcases h1.2 with ⟨rfl, _⟩ | ⟨g', cap', cur', rfl, _, hg', _⟩
    · simp [Value.ownBlock] at e
    · obtain rfl : g = g' := by simpa [Value.ownBlock] using e
      rw [hg] at hg'
      injection hg' with hg'
      injection hg' with _ e2 _
      exact hne e2.symm
theorem ownsRow_of_blocks {W W' : World} {b s n : Nat} {e : TypeId} {v : Value} {xs : List Value} (h : W.ownsRow b e s v n xs) (hb : ∀ g, v.ownBlock = some g → W'.heap[g]? = W.heap[g]?) : W'.ownsRow b e s v n xs := by
  refine ⟨h.1, ?_⟩
  rcases h.2 with h1 | ⟨g, cap, cur, rfl, hb', hg, rest⟩
  · exact .inl h1
  · exact .inr ⟨g, cap, cur, rfl, hb', (hb g rfl).trans hg, rest⟩

/-- A bag and its two rows of slices. -/
structure BagC (W : World) (K base : Nat) (v u : Value) (n : Nat) (hs : List Value) (n2 : Nat) (us : List Value) : Prop where
  box : BagAt W K v u
  sp : W.ownsRow base 50 1 v n hs
  cs : W.ownsRow base 35 1 u n2 us
  z : n = 0 → v = .slice none 0 0
theorem BagC.later {W W' : World} {K base : Nat} {v u : Value} {n n2 : Nat} {hs us : List Value} (h : BagC W K base v u n hs n2 us) (hb : Below W.heap.size W W') : BagC W' K base v u n hs n2 us :=
  ⟨h.box.later hb, ownsRow_later h.sp hb, ownsRow_later h.cs hb, h.z⟩
theorem BagC.alloc {W : World} {K base : Nat} {v u : Value} {n n2 : Nat} {hs us : List Value} (h : BagC W K base v u n hs n2 us) (o : Obj) : BagC (W.alloc o) K base v u n hs n2 us := h.later ((Below.refl _ _).alloc (Nat.le_refl _) _)
theorem grown_set (W : World) (K i : Nat) (v : Value) : W.grownBy (W.setCell ⟨K, i, none⟩ v) (some K) := ⟨rfl, rfl, rfl, by simp, fun b _ hb => heap_setCell_other W ⟨K, i, none⟩ b v (fun e' => hb (by simp [e']))⟩

theorem info_spans : (Tryz.prog.info? 50).map (fun i => (i.zero, i.size, i.bytes)) = some (some (.slice none 0 0), 1, 24) := by kernel_rfl
theorem info_cases : (Tryz.prog.info? 35).map (fun i => (i.zero, i.size, i.bytes)) = some (some (.slice none 0 0), 1, 24) := by kernel_rfl
theorem one_new (W : World) (x : Value) (t : TypeId) (k : Nat) (hk : W.heap.size = k) : ∀ j u, [x][j]? = some u → (W.alloc (.cells #[x] t)).cell? ((⟨k, 0, none⟩ : Addr).add j) = some u := by
  subst hk
  intro j u hj
  rw [WideShapes.add_plain]
  match j, hj with
  | 0, hj => simp at hj; subst hj; simp

set_option maxHeartbeats 1000000 in
set_option maxRecDepth 100000 in
theorem putS_any (w : World) (K base n : Nat) (v u : Value) (hs : List Value) (n2 : Nat) (us : List Value) (p : Option Addr) (m c : Nat) (hb : base ≤ w.heap.size) (hK : base ≤ K) (hn : n ≤ 100000) (hB : BagC w K base v u n hs n2 us) :
    Calls Tryz.prog 92 #[.pointer (some ⟨K, 0, none⟩), .slice p m c] w fun e w' => e = .returned (.tuple #[]) ∧ ∃ v', BagC w' K base v' u (n + 1) (hs ++ [.slice p m c]) n2 us ∧ Below base w w' := by
  have HB := Lib.hid hB
  have HA := Lib.hid (hB.alloc (.cells #[.slice p m c] 50))
  have c0 := hB.box.seven
  obtain ⟨i0, hi0, hz0, hz1, hz2⟩ := info_parts info_spans
  clear hB
  go_enter Tryz.func92, Tryz.ntmps92
  go_wp2_with (first | (at_builtin; refine wpList_append_keep _ rfl _ _ 76 rfl base 50 i0 (.slice none 0 0) 1 24 Tryz.underlying76 hi0 hz0 hz1 hz2 rfl (by decide) _ _ _ rfl HA.out.sp ⟨w.heap.size, 0, none⟩ 1 1 [.slice p m c] rfl rfl (one_new _ _ _ _ rfl) (by simp [Value.oneCell']) (by unfold maxLen; omega) (by omega) (by simp; omega) ?_; intro v' w1 hown' hgrow hfrm hkeep; obtain ⟨g, cg, rfl⟩ := ownsRow_succ hown'; have B1 : Hid (BagAt w1 K v u) := Lib.hid (HA.out.box.grown hgrow (BagAt.not_row HA.out.box (by decide) HA.out.sp)); have q0 := B1.out.seven; have f0 := B1.out.frozen 7; have O1 := Lib.hid hown'; have O2 : Hid (w1.ownsRow base 35 1 u n2 us) := Lib.hid (HA.out.cs.kept hgrow (own_ne2 HA.out.sp HA.out.cs (by decide))); have L1 : Hid (Below base w w1) := Lib.hid (((Below.refl base w).alloc hb _).grown hgrow (by simp; omega) (fun b hb => (HA.out.sp.lt b hb).1)); clear hown' hgrow hfrm hkeep) | fail)
  go_end0
  refine ⟨rfl, _, ⟨B1.out.put7 _, ?_, ?_, fun h => by omega⟩, L1.out.setCell (p := ⟨K, 7, none⟩) hK _⟩
  · exact O1.out.kept (grown_set w1 K 7 _) (.inr (B1.out.not_row (by decide) O1.out).symm)
  · exact O2.out.kept (grown_set w1 K 7 _) (.inr (B1.out.not_row (by decide) O2.out).symm)

set_option maxHeartbeats 1000000 in
theorem oneC_any (w : World) (K base n : Nat) (v u : Value) (hs : List Value) (n2 : Nat) (us : List Value) (x : Cs) (p : Option Addr) (m c : Nat) (hb : base ≤ w.heap.size) (hK : base ≤ K) (hn : n ≤ 100000) (hB : BagC w K base v u n hs n2 us) :
    Calls Tryz.prog 56 #[.pointer (some ⟨K, 0, none⟩), csAgg x (.slice p m c)] w fun e w' => e = .returned (.tuple #[]) ∧ ∃ v', BagC w' K base v' u (n + 1) (hs ++ [.slice p m c]) n2 us ∧ Below base w w' := by
  have HB := Lib.hid hB
  unfold csAgg
  clear hB
  go_enter Tryz.func56, Tryz.ntmps56
  go_wp2_with fail
  refine (putS_any _ K base n v u hs n2 us p m c (by simp; omega) hK hn (HB.out.alloc _)).mono ?_
  rintro e W1 ⟨rfl, v', h1, h2⟩
  have H1 := Lib.hid h1
  have H2 := Lib.hid (((Below.refl base w).alloc hb _).trans h2)
  clear h1 h2
  go_wp2
  go_end0
  exact ⟨rfl, v', H1.out, H2.out⟩

/-- A row of cases, each with a slice. -/
def CaseSl (w : World) (b0 : Nat) (v : Value) (ps : List (Cs × Value)) : Prop := w.ownsRow b0 52 10 v ps.length (cflat ps) ∧ ∀ x ∈ ps, ∃ p m c, x.2 = .slice p m c

set_option maxHeartbeats 2000000 in
set_option maxRecDepth 100000 in
theorem putC_any (w : World) (K base b0 n : Nat) (v u : Value) (hs : List Value) (n2 : Nat) (us : List Value) (ps : List (Cs × Value)) (p : Option Addr) (c : Nat) (hb : base ≤ w.heap.size) (hK : base ≤ K) (hn : n ≤ 10000) (hl : ps.length ≤ 10000) (hn2 : n2 ≤ 100) (hB : BagC w K base v u n hs n2 us)
    (ho : CaseSl w b0 (.slice p ps.length c) ps) (hlt : ∀ b, (Value.slice p ps.length c).ownBlock = some b → b < base) :
    Calls Tryz.prog 34 #[.pointer (some ⟨K, 0, none⟩), .slice p ps.length c] w fun e w' => e = .returned (.tuple #[]) ∧ ∃ v' u', BagC w' K base v' u' (n + ps.length) (hs ++ ps.map Prod.snd) (n2 + 1) (us ++ [.slice p ps.length c]) ∧ Below base w w' := by
  have HB := Lib.hid hB
  have HA := Lib.hid (hB.alloc (.cells #[.slice p ps.length c] 35))
  have HO := Lib.hid ho
  have HL := Lib.hid hlt
  have c0 := hB.box.twenty
  obtain ⟨m, hm⟩ : ∃ m, m = ps.length := ⟨_, rfl⟩
  have HM := Lib.hid hm
  rw [← hm] at HO HL HA ⊢
  have hlm : m ≤ 10000 := by omega
  obtain ⟨i0, hi0, hz0, hz1, hz2⟩ := info_parts info_cases
  clear hB ho hlt hm hl
  go_enter Tryz.func34, Tryz.ntmps34
  go_wp2_with (first | (at_builtin; refine wpList_append_keep _ rfl _ _ 46 rfl base 35 i0 (.slice none 0 0) 1 24 Tryz.underlying46 hi0 hz0 hz1 hz2 rfl (by decide) _ _ _ rfl HA.out.cs ⟨w.heap.size, 0, none⟩ 1 1 [.slice p m c] rfl rfl (one_new _ _ _ _ rfl) (by simp [Value.oneCell']) (by unfold maxLen; omega) (by omega) (by simp; omega) ?_; intro v' w1 hown' hgrow hfrm hkeep; obtain ⟨g, cg, rfl⟩ := ownsRow_succ hown'; have B1 : Hid (BagAt w1 K v u) := Lib.hid (HA.out.box.grown hgrow (BagAt.not_row HA.out.box (by decide) HA.out.cs)); have q0 := B1.out.twenty; have f0 := B1.out.frozen 20; have O1 := Lib.hid hown'; have O2 : Hid (w1.ownsRow base 50 1 v n hs) := Lib.hid (HA.out.sp.kept hgrow (own_ne2 HA.out.cs HA.out.sp (by decide))); have L1 : Hid (Below base w w1) := Lib.hid (((Below.refl base w).alloc hb _).grown hgrow (by simp; omega) (fun b hb => (HA.out.cs.lt b hb).1)); clear hown' hgrow hfrm hkeep c0) | fail)
  have HI : Hid (BagC (w1.setCell ⟨K, 20, none⟩ (.slice (some ⟨g, 0, none⟩) (n2 + 1) cg)) K base v (.slice (some ⟨g, 0, none⟩) (n2 + 1) cg) n hs (n2 + 1) (us ++ [.slice p m c])) := Lib.hid ⟨B1.out.put20 _, O2.out.kept (grown_set w1 K 20 _) (.inr (B1.out.not_row (by decide) O2.out).symm), O1.out.kept (grown_set w1 K 20 _) (.inr (B1.out.not_row (by decide) O1.out).symm), HA.out.z⟩
  have HJ : Hid (Below base w (w1.setCell ⟨K, 20, none⟩ (.slice (some ⟨g, 0, none⟩) (n2 + 1) cg))) := Lib.hid (L1.out.setCell (p := ⟨K, 20, none⟩) hK _)
  clear B1 q0 f0 O1 O2 L1 HA HB
  generalize World.setCell w1 _ _ = w2 at *
  go_loopw [4] (fun iv W => ∃ (k : Nat) (v : Value), k ≤ m ∧ iv = .int .i64 k ∧ Hid (BagC W K base v (.slice (some ⟨g, 0, none⟩) (n2 + 1) cg) (n + k) (hs ++ (ps.take k).map Prod.snd) (n2 + 1) (us ++ [.slice p m c]) ∧ Below base w W)) (fun iv _ => m - (intOf iv).toNat)
  case atStart => exact ⟨0, v, by omega, rfl, Lib.hid ⟨by simpa using HI.out, HJ.out⟩⟩
  case round =>
    clear HI HJ
    obtain ⟨k, v1, hk, rfl, hI⟩ := hrel
    by_cases hlt : k < m
    · have hkp : k < ps.length := by rw [← HM.out]; exact hlt
      obtain ⟨ge, ce, he⟩ := grown_case HO.out.1 (by omega)
      injection he with he1 he2 he3
      subst he1
      have hc := crow_cells (n := m) (by have := HO.out.1; rw [← HM.out] at this; exact this) k hkp
      have hc2 : CaseCells wr ge (k * 10) ps[k].1 ps[k].2 := hc.of_block (hI.out.2.block ge (HL.out ge rfl))
      obtain ⟨qp, qm, qc, hq⟩ := HO.out.2 _ (List.getElem_mem hkp)
      rw [hq] at hc2
      have HQ := Lib.hid hq
      have HKP := Lib.hid hkp
      generalize ps[k].1 = x at hc2
      obtain ⟨r0, r1, r2, r3, r4, r5, r6, r7, r8, r9⟩ := hc2
      have CO := Lib.hid (oneC_any wr K base (n + k) v1 _ _ _ _ x qp qm qc (Nat.le_trans hb hI.out.2.size) hK (by omega) hI.out.1)
      unfold csAgg at CO
      have L1 := Lib.hid hI.out.2
      clear hc hq hI he2 he3
      have k0 : (0 : Int) ≤ (k : Int) := by omega
      have k1 : (k : Int) < (m : Int) := by omega
      go_wp2_with fail
      refine CO.out.mono ?_
      rintro e W1 ⟨rfl, v', h1, h2⟩
      have hJ : Hid (BagC W1 K base v' (.slice (some ⟨g, 0, none⟩) (n2 + 1) cg) (n + (k + 1)) (hs ++ (ps.take (k + 1)).map Prod.snd) (n2 + 1) (us ++ [.slice (some ⟨ge, 0, none⟩) m c]) ∧ Below base w W1) := Lib.hid ⟨by
        rw [List.take_succ_eq_append_getElem HKP.out, List.map_append, ← List.append_assoc]
        simp only [List.map_cons, List.map_nil, HQ.out]
        exact h1, L1.out.trans h2⟩
      clear h1 h2
      go_wp2
      go_roundw
      case rel => exact ⟨k + 1, v', by omega, by go_num, hJ⟩
      case measure => simp [intOf]; omega
    · obtain rfl : m = k := by omega
      have hJ := Lib.hid hI.out
      clear hI
      go_wp2
      go_end0
      refine ⟨rfl, v1, .slice (some ⟨g, 0, none⟩) (n2 + 1) cg, ?_, hJ.out.2⟩
      have := hJ.out.1
      rw [List.take_of_length_le (Nat.le_of_eq HM.out.symm)] at this
      exact this

/-- The spans' slices of the bag: none, or rows of their own. -/
theorem flatSp_any (N : Nat) (hN : N ≤ 1000) (w : World) (base b1 : Nat) (v : Value) (Vs : Nat → Value) (n : Nat → Nat) (l0 : Nat → Sps) (hb : base ≤ w.heap.size) (hz : N = 0 → v = .slice none 0 0) (ho : w.ownsRow b1 50 1 v N ((List.range N).map Vs))
    (hn : ∀ j, j < N → n j ≤ 10000) (hO : ∀ j, j < N → w.ownsRow base 54 2 (Vs j) (n j) (flat (l0 j))) (hlt : ∀ j, j < N → ∀ b, (Vs j).ownBlock = some b → b < b1)
    (hD : ∀ i j, i < N → j < N → i ≠ j → ∀ b, (Vs i).ownBlock = some b → (Vs j).ownBlock ≠ some b) :
    Calls Tryz.prog 64 #[v] w fun e w' => e = .returned (.bool true) ∧ Below base w w' ∧ ∀ X, X < w.heap.size → (∀ j, j < N → (Vs j).ownBlock ≠ some X) → w'.heap[X]? = w.heap[X]? := by
  by_cases h0 : N = 0
  · rw [hz h0]
    refine (flatSpans_nil w).mono ?_
    rintro e w' ⟨rfl, h⟩
    exact ⟨rfl, h.mono hb, fun X hX _ => h.block X hX⟩
  · obtain ⟨B, cB, rfl⟩ : ∃ B c, v = .slice (some ⟨B, 0, none⟩) N c := by
      rcases ho.2 with ⟨_, h⟩ | ⟨g, cap, _, rfl, _⟩
      · omega
      · exact ⟨g, cap, rfl⟩
    refine flatSpans_any N hN w base B cB (fun X => ∀ j, j < N → (Vs j).ownBlock ≠ some X) Vs n l0 ?_ ⟨hb, fun j hj b hb2 => ⟨((hO j hj).lt b hb2).1, ((hO j hj).lt b hb2).2, fun h => h j hj hb2⟩, hD⟩ hn (fun j hj => ?_) ⟨Below.refl _ _, fun _ _ _ => rfl, hO⟩
    · intro j hj e
      have h1 := hlt j hj B e
      have h2 := (ho.lt B rfl).1
      omega
    · rw [ho.cellAt j (by omega)]
      simp [hj]
theorem flatCs_any (w : World) (base b1 : Nat) (u : Value) (Vs : Nat → Value) (n : Nat → Nat) (l0 : Nat → List (Cs × Value)) (hb : base ≤ w.heap.size) (ho : w.ownsRow b1 35 1 u 2 ((List.range 2).map Vs))
    (hn : ∀ j, j < 2 → n j ≤ 10000) (hO : ∀ j, j < 2 → w.ownsRow base 52 10 (Vs j) (n j) (cflat (l0 j))) (hlt : ∀ j, j < 2 → ∀ b, (Vs j).ownBlock = some b → b < b1)
    (hD : ∀ i j, i < 2 → j < 2 → i ≠ j → ∀ b, (Vs i).ownBlock = some b → (Vs j).ownBlock ≠ some b) :
    Calls Tryz.prog 77 #[u] w fun e w' => e = .returned (.bool true) ∧ Below base w w' ∧ ∀ X, X < w.heap.size → (∀ j, j < 2 → (Vs j).ownBlock ≠ some X) → w'.heap[X]? = w.heap[X]? := by
  obtain ⟨B, cB, rfl⟩ : ∃ B c, u = .slice (some ⟨B, 0, none⟩) 2 c := by
    rcases ho.2 with ⟨_, h⟩ | ⟨g, cap, _, rfl, _⟩
    · omega
    · exact ⟨g, cap, rfl⟩
  refine flatCases_any 2 (by decide) w base B cB (fun X => ∀ j, j < 2 → (Vs j).ownBlock ≠ some X) Vs n l0 ?_ ⟨hb, fun j hj b hb2 => ⟨((hO j hj).lt b hb2).1, ((hO j hj).lt b hb2).2, fun h => h j hj hb2⟩, hD⟩ hn (fun j hj => ?_) ⟨Below.refl _ _, fun _ _ _ => rfl, hO⟩
  · intro j hj e
    have h1 := hlt j hj B e
    have h2 := (ho.lt B rfl).1
    omega
  · rw [ho.cellAt j (by omega), List.getElem?_map, List.getElem?_range hj]; rfl

set_option maxHeartbeats 4000000 in
set_option maxRecDepth 100000 in
theorem apart_any (w : World) (base b1 K N : Nat) (v u : Value) (Vs : Nat → Value) (n : Nat → Nat) (l0 : Nat → Sps) (Vc : Nat → Value) (n2 : Nat → Nat) (lc : Nat → List (Cs × Value)) (hN : N ≤ 1000) (hb : base ≤ w.heap.size)
    (hB : BagC w K b1 v u N ((List.range N).map Vs) 2 ((List.range 2).map Vc))
    (hn : ∀ j, j < N → n j ≤ 10000) (hO : ∀ j, j < N → w.ownsRow base 54 2 (Vs j) (n j) (flat (l0 j))) (hlt : ∀ j, j < N → ∀ b, (Vs j).ownBlock = some b → b < b1)
    (hD : ∀ i j, i < N → j < N → i ≠ j → ∀ b, (Vs i).ownBlock = some b → (Vs j).ownBlock ≠ some b)
    (hn2 : ∀ j, j < 2 → n2 j ≤ 10000) (hO2 : ∀ j, j < 2 → w.ownsRow base 52 10 (Vc j) (n2 j) (cflat (lc j))) (hlt2 : ∀ j, j < 2 → ∀ b, (Vc j).ownBlock = some b → b < b1)
    (hD2 : ∀ i j, i < 2 → j < 2 → i ≠ j → ∀ b, (Vc i).ownBlock = some b → (Vc j).ownBlock ≠ some b) :
    Calls Tryz.prog 35 #[.pointer (some ⟨K, 0, none⟩)] w fun e w' => e = .returned (.bool true) ∧ Below base w w' := by
  have C7 := Lib.hid (fun W (hW : Below w.heap.size w W) => flatSp_any N hN W base b1 v Vs n l0 (Nat.le_trans hb hW.size) hB.z (ownsRow_later hB.sp hW) hn (fun j hj => ownsRow_later (hO j hj) hW) hlt hD)
  have C20 := Lib.hid (fun W (hW : base ≤ W.heap.size) (hu : W.ownsRow b1 35 1 u 2 ((List.range 2).map Vc)) (ho : ∀ j, j < 2 → W.ownsRow base 52 10 (Vc j) (n2 j) (cflat (lc j))) => flatCs_any W base b1 u Vc n2 lc hW hu hn2 ho hlt2 hD2)
  have HBs := Lib.hid hb
  have B0 := Lib.hid hB.box
  have L0 : Hid (Below w.heap.size w w) := Lib.hid (Below.refl _ _)
  have R0 := Lib.hid hB.cs
  have P0 := Lib.hid hO2
  have PS := Lib.hid hO
  have KB : Hid (∀ j, j < 2 → (Vc j).ownBlock ≠ some K) := Lib.hid fun j hj => (BagAt.not_row hB.box (by decide) (hO2 j hj)).symm
  have c0 := hB.box.cell 0 (by decide) (by decide) (by decide)
  clear hB hn hO hlt hD hn2 hO2 hlt2 hD2 hb
  go_enter Tryz.func35, Tryz.ntmps35
  go_wp2_with fail
  refine (flatLimbs_nil w).mono ?_
  rintro e W1 ⟨rfl, hb⟩
  have B1 := Lib.hid (B0.out.later hb)
  have L1 : Hid (Below w.heap.size w W1) := Lib.hid (L0.out.trans (hb.mono L0.out.size))
  have c1 := B1.out.cell 1 (by decide) (by decide) (by decide)
  clear hb c0 B0 L0
  go_wp2_with fail
  refine (flatInts_nil W1).mono ?_
  rintro e W2 ⟨rfl, hb⟩
  have B2 := Lib.hid (B1.out.later hb)
  have L2 : Hid (Below w.heap.size w W2) := Lib.hid (L1.out.trans (hb.mono L1.out.size))
  have c2 := B2.out.cell 2 (by decide) (by decide) (by decide)
  clear hb c1 B1 L1
  go_wp2_with fail
  refine (flatTexts_nil W2).mono ?_
  rintro e W3 ⟨rfl, hb⟩
  have B3 := Lib.hid (B2.out.later hb)
  have L3 : Hid (Below w.heap.size w W3) := Lib.hid (L2.out.trans (hb.mono L2.out.size))
  have c3 := B3.out.cell 3 (by decide) (by decide) (by decide)
  clear hb c2 B2 L2
  go_wp2_with fail
  refine (flatBytes_nil W3).mono ?_
  rintro e W4 ⟨rfl, hb⟩
  have B4 := Lib.hid (B3.out.later hb)
  have L4 : Hid (Below w.heap.size w W4) := Lib.hid (L3.out.trans (hb.mono L3.out.size))
  have c4 := B4.out.cell 4 (by decide) (by decide) (by decide)
  clear hb c3 B3 L3
  go_wp2_with fail
  refine (flatWholes_nil W4).mono ?_
  rintro e W5 ⟨rfl, hb⟩
  have B5 := Lib.hid (B4.out.later hb)
  have L5 : Hid (Below w.heap.size w W5) := Lib.hid (L4.out.trans (hb.mono L4.out.size))
  have c5 := B5.out.cell 5 (by decide) (by decide) (by decide)
  clear hb c4 B4 L4
  go_wp2_with fail
  refine (flatFracs_nil W5).mono ?_
  rintro e W6 ⟨rfl, hb⟩
  have B6 := Lib.hid (B5.out.later hb)
  have L6 : Hid (Below w.heap.size w W6) := Lib.hid (L5.out.trans (hb.mono L5.out.size))
  have c6 := B6.out.cell 6 (by decide) (by decide) (by decide)
  clear hb c5 B5 L5
  go_wp2_with fail
  refine (flatValues_nil W6).mono ?_
  rintro e W7 ⟨rfl, hb⟩
  have B7 := Lib.hid (B6.out.later hb)
  have L7 : Hid (Below w.heap.size w W7) := Lib.hid (L6.out.trans (hb.mono L6.out.size))
  have c7 := B7.out.seven
  clear hb c6 B6 L6
  go_wp2_with fail
  refine (C7.out W7 L7.out).mono ?_
  rintro e W8 ⟨rfl, hb, hX⟩
  have B8 : Hid (BagAt W8 K v u) := Lib.hid (B7.out.of_block (hX K B7.out.lt fun j hj => by
    exact (BagAt.not_row B7.out (by decide) (ownsRow_later (PS.out j hj) L7.out)).symm))
  have R8 := Lib.hid (ownsRow_of_blocks (ownsRow_later R0.out L7.out) fun g hg => hX g ((ownsRow_later R0.out L7.out).lt g hg).2 fun j hj e => by
    rcases own_ne2 (ownsRow_later (PS.out j hj) L7.out) (ownsRow_later R0.out L7.out) (by decide) with h | h
    · rw [hg] at h; cases h
    · exact h (hg.trans e.symm))
  have P8 := Lib.hid fun i (hi : i < 2) => ownsRow_of_blocks (ownsRow_later (P0.out i hi) L7.out) fun g hg => hX g ((ownsRow_later (P0.out i hi) L7.out).lt g hg).2 fun j hj e => by
    rcases own_ne2 (ownsRow_later (PS.out j hj) L7.out) (ownsRow_later (P0.out i hi) L7.out) (by decide) with h | h
    · rw [hg] at h; cases h
    · exact h (hg.trans e.symm)
  have L8 : Hid (Below base w W8) := Lib.hid ((L7.out.mono HBs.out).trans hb)
  have c8 := B8.out.cell 8 (by decide) (by decide) (by decide)
  clear hb hX c7 B7 L7 R0 P0 C7
  go_wp2_with fail
  refine (flatSteps_nil W8).mono ?_
  rintro e W9 ⟨rfl, hb⟩
  have B9 := Lib.hid (B8.out.later hb)
  have L9 : Hid (Below base w W9) := Lib.hid (L8.out.trans (hb.mono (Nat.le_trans HBs.out L8.out.size)))
  have R9 := Lib.hid (ownsRow_later R8.out hb)
  have P9 := Lib.hid fun j (hj : j < 2) => ownsRow_later (P8.out j hj) hb
  have c9 := B9.out.cell 9 (by decide) (by decide) (by decide)
  clear hb c8 B8 L8 R8 P8
  go_wp2_with fail
  refine (flatFacts_nil W9).mono ?_
  rintro e W10 ⟨rfl, hb⟩
  have B10 := Lib.hid (B9.out.later hb)
  have L10 : Hid (Below base w W10) := Lib.hid (L9.out.trans (hb.mono (Nat.le_trans HBs.out L9.out.size)))
  have R10 := Lib.hid (ownsRow_later R9.out hb)
  have P10 := Lib.hid fun j (hj : j < 2) => ownsRow_later (P9.out j hj) hb
  have c10 := B10.out.cell 10 (by decide) (by decide) (by decide)
  clear hb c9 B9 L9 R9 P9
  go_wp2_with fail
  refine (flatRows_nil W10).mono ?_
  rintro e W11 ⟨rfl, hb⟩
  have B11 := Lib.hid (B10.out.later hb)
  have L11 : Hid (Below base w W11) := Lib.hid (L10.out.trans (hb.mono (Nat.le_trans HBs.out L10.out.size)))
  have R11 := Lib.hid (ownsRow_later R10.out hb)
  have P11 := Lib.hid fun j (hj : j < 2) => ownsRow_later (P10.out j hj) hb
  have c11 := B11.out.cell 11 (by decide) (by decide) (by decide)
  clear hb c10 B10 L10 R10 P10
  go_wp2_with fail
  refine (flatTables_nil W11).mono ?_
  rintro e W12 ⟨rfl, hb⟩
  have B12 := Lib.hid (B11.out.later hb)
  have L12 : Hid (Below base w W12) := Lib.hid (L11.out.trans (hb.mono (Nat.le_trans HBs.out L11.out.size)))
  have R12 := Lib.hid (ownsRow_later R11.out hb)
  have P12 := Lib.hid fun j (hj : j < 2) => ownsRow_later (P11.out j hj) hb
  have c12 := B12.out.cell 12 (by decide) (by decide) (by decide)
  clear hb c11 B11 L11 R11 P11
  go_wp2_with fail
  refine (flatExprs_nil W12).mono ?_
  rintro e W13 ⟨rfl, hb⟩
  have B13 := Lib.hid (B12.out.later hb)
  have L13 : Hid (Below base w W13) := Lib.hid (L12.out.trans (hb.mono (Nat.le_trans HBs.out L12.out.size)))
  have R13 := Lib.hid (ownsRow_later R12.out hb)
  have P13 := Lib.hid fun j (hj : j < 2) => ownsRow_later (P12.out j hj) hb
  have c13 := B13.out.cell 13 (by decide) (by decide) (by decide)
  clear hb c12 B12 L12 R12 P12
  go_wp2_with fail
  refine (flatClauses_nil W13).mono ?_
  rintro e W14 ⟨rfl, hb⟩
  have B14 := Lib.hid (B13.out.later hb)
  have L14 : Hid (Below base w W14) := Lib.hid (L13.out.trans (hb.mono (Nat.le_trans HBs.out L13.out.size)))
  have R14 := Lib.hid (ownsRow_later R13.out hb)
  have P14 := Lib.hid fun j (hj : j < 2) => ownsRow_later (P13.out j hj) hb
  have c14 := B14.out.cell 14 (by decide) (by decide) (by decide)
  clear hb c13 B13 L13 R13 P13
  go_wp2_with fail
  refine (flatDefs_nil W14).mono ?_
  rintro e W15 ⟨rfl, hb⟩
  have B15 := Lib.hid (B14.out.later hb)
  have L15 : Hid (Below base w W15) := Lib.hid (L14.out.trans (hb.mono (Nat.le_trans HBs.out L14.out.size)))
  have R15 := Lib.hid (ownsRow_later R14.out hb)
  have P15 := Lib.hid fun j (hj : j < 2) => ownsRow_later (P14.out j hj) hb
  have c15 := B15.out.cell 15 (by decide) (by decide) (by decide)
  clear hb c14 B14 L14 R14 P14
  go_wp2_with fail
  refine (flatPlans_nil W15).mono ?_
  rintro e W16 ⟨rfl, hb⟩
  have B16 := Lib.hid (B15.out.later hb)
  have L16 : Hid (Below base w W16) := Lib.hid (L15.out.trans (hb.mono (Nat.le_trans HBs.out L15.out.size)))
  have R16 := Lib.hid (ownsRow_later R15.out hb)
  have P16 := Lib.hid fun j (hj : j < 2) => ownsRow_later (P15.out j hj) hb
  have c16 := B16.out.cell 16 (by decide) (by decide) (by decide)
  clear hb c15 B15 L15 R15 P15
  go_wp2_with fail
  refine (flatPostings_nil W16).mono ?_
  rintro e W17 ⟨rfl, hb⟩
  have B17 := Lib.hid (B16.out.later hb)
  have L17 : Hid (Below base w W17) := Lib.hid (L16.out.trans (hb.mono (Nat.le_trans HBs.out L16.out.size)))
  have R17 := Lib.hid (ownsRow_later R16.out hb)
  have P17 := Lib.hid fun j (hj : j < 2) => ownsRow_later (P16.out j hj) hb
  have c17 := B17.out.cell 17 (by decide) (by decide) (by decide)
  clear hb c16 B16 L16 R16 P16
  go_wp2_with fail
  refine (flatOrders_nil W17).mono ?_
  rintro e W18 ⟨rfl, hb⟩
  have B18 := Lib.hid (B17.out.later hb)
  have L18 : Hid (Below base w W18) := Lib.hid (L17.out.trans (hb.mono (Nat.le_trans HBs.out L17.out.size)))
  have R18 := Lib.hid (ownsRow_later R17.out hb)
  have P18 := Lib.hid fun j (hj : j < 2) => ownsRow_later (P17.out j hj) hb
  have c18 := B18.out.cell 18 (by decide) (by decide) (by decide)
  clear hb c17 B17 L17 R17 P17
  go_wp2_with fail
  refine (flatEvents_nil W18).mono ?_
  rintro e W19 ⟨rfl, hb⟩
  have B19 := Lib.hid (B18.out.later hb)
  have L19 : Hid (Below base w W19) := Lib.hid (L18.out.trans (hb.mono (Nat.le_trans HBs.out L18.out.size)))
  have R19 := Lib.hid (ownsRow_later R18.out hb)
  have P19 := Lib.hid fun j (hj : j < 2) => ownsRow_later (P18.out j hj) hb
  have c19 := B19.out.cell 19 (by decide) (by decide) (by decide)
  clear hb c18 B18 L18 R18 P18
  go_wp2_with fail
  refine (flatFilings_nil W19).mono ?_
  rintro e W20 ⟨rfl, hb⟩
  have B20 := Lib.hid (B19.out.later hb)
  have L20 : Hid (Below base w W20) := Lib.hid (L19.out.trans (hb.mono (Nat.le_trans HBs.out L19.out.size)))
  have R20 := Lib.hid (ownsRow_later R19.out hb)
  have P20 := Lib.hid fun j (hj : j < 2) => ownsRow_later (P19.out j hj) hb
  have c20 := B20.out.twenty
  clear hb c19 B19 L19 R19 P19
  go_wp2_with fail
  refine (C20.out W20 (Nat.le_trans HBs.out L20.out.size) R20.out P20.out).mono ?_
  rintro e W21 ⟨rfl, hb, hX⟩
  have B21 : Hid (BagAt W21 K v u) := Lib.hid (B20.out.of_block (hX K B20.out.lt KB.out))
  have L21 : Hid (Below base w W21) := Lib.hid (L20.out.trans hb)
  have c21 := B21.out.cell 21 (by decide) (by decide) (by decide)
  clear hb hX c20 B20 L20 R20 P20 C20
  go_wp2_with fail
  refine (flatChanges_nil W21).mono ?_
  rintro e W22 ⟨rfl, hb⟩
  have B22 := Lib.hid (B21.out.later hb)
  have L22 : Hid (Below base w W22) := Lib.hid (L21.out.trans (hb.mono (Nat.le_trans HBs.out L21.out.size)))
  have c22 := B22.out.cell 22 (by decide) (by decide) (by decide)
  clear hb c21 B21 L21
  go_wp2_with fail
  refine (flatDeltas_nil W22).mono ?_
  rintro e W23 ⟨rfl, hb⟩
  have B23 := Lib.hid (B22.out.later hb)
  have L23 : Hid (Below base w W23) := Lib.hid (L22.out.trans (hb.mono (Nat.le_trans HBs.out L22.out.size)))
  clear hb c22 B22 L22
  go_wp2
  go_ret
  exact ⟨rfl, L23.out⟩

theorem at_snd {l : List (Cs × Value)} {j : Nat} (hj : j < l.length) : (l.map Prod.snd).getD j (.slice none 0 0) = l[j].2 := by simp [List.getD_eq_getElem?_getD, hj]
theorem at_held {l : List (Cs × Value)} {j : Nat} (hj : j < l.length) : (l.map fun x => x.1.held).getD j [] = l[j].1.held := by simp [List.getD_eq_getElem?_getD, hj]
theorem two_of (P : Nat → Prop) (h0 : P 0) (h1 : P 1) : ∀ j, j < 2 → P j := by
  intro j hj
  match j, hj with
  | 0, _ => exact h0
  | 1, _ => exact h1
theorem getD_range (l : List Value) : (List.range l.length).map (fun j => l.getD j (.slice none 0 0)) = l := by
  apply List.ext_getElem (by simp)
  intro i h1 h2
  simp at h1
  simp [h1]

set_option maxHeartbeats 2000000 in
set_option maxRecDepth 100000 in
/-- Two rows of cases, all of their memory apart. -/
theorem apartC_any (w : World) (base Bh ch : Nat) (p0 p1 : Option Addr) (d0 d1 : Nat) (ps0 ps1 : List (Cs × Value)) (hb : base ≤ w.heap.size) (hl : ps0.length ≤ 100 ∧ ps1.length ≤ 100)
    (h0 : w.cell? ⟨Bh, 0, none⟩ = some (.slice p0 ps0.length d0)) (h1 : w.cell? ⟨Bh, 1, none⟩ = some (.slice p1 ps1.length d1))
    (ho0 : w.ownsRow base 52 10 (.slice p0 ps0.length d0) ps0.length (cflat ps0)) (ho1 : w.ownsRow base 52 10 (.slice p1 ps1.length d1) ps1.length (cflat ps1))
    (hne : ∀ b, (Value.slice p0 ps0.length d0).ownBlock = some b → (Value.slice p1 ps1.length d1).ownBlock ≠ some b)
    (hO : ∀ x ∈ ps0 ++ ps1, Owns w base x.2 x.1.held ∧ x.1.held.length ≤ 10000) (hP : (ps0 ++ ps1).Pairwise fun x y => x.2.ownBlock = none ∨ x.2.ownBlock ≠ y.2.ownBlock) :
    Calls Tryz.prog 18 #[.slice (some ⟨Bh, 0, none⟩) 2 ch] w fun e w' => e = .returned (.bool true) ∧ Below base w w' := by
  have S0 : Hid (CaseSl w base (.slice p0 ps0.length d0) ps0) := Lib.hid ⟨ho0, fun x hx => by obtain ⟨q, cq, e, _⟩ := (hO x (List.mem_append_left _ hx)).1.form; exact ⟨q, _, cq, e⟩⟩
  have S1 : Hid (CaseSl w base (.slice p1 ps1.length d1) ps1) := Lib.hid ⟨ho1, fun x hx => by obtain ⟨q, cq, e, _⟩ := (hO x (List.mem_append_right _ hx)).1.form; exact ⟨q, _, cq, e⟩⟩
  have HBs := Lib.hid hb
  have HN := Lib.hid hne
  have HO := Lib.hid hO
  have HP := Lib.hid hP
  have B0 := Lib.hid (World.block_lt_of_cell? w _ h0)
  have H0 := Lib.hid h0
  have H1 := Lib.hid h1
  have hl0 := hl.1
  have hl1 := hl.2
  clear hb hl h0 h1 ho0 ho1 hne hO hP
  go_enter Tryz.func18, Tryz.ntmps18
  go_wp2
  go_loopw [4] (fun iv W => ∃ (k : Nat) (v u : Value), k ≤ 2 ∧ iv = .int .i64 k ∧ Hid (BagC W w.heap.size w.heap.size v u (((if 0 < k then ps0 else []) ++ (if 1 < k then ps1 else [])).length) (((if 0 < k then ps0 else []) ++ (if 1 < k then ps1 else [])).map Prod.snd) k ((List.range k).map fun j => if j = 0 then .slice p0 ps0.length d0 else .slice p1 ps1.length d1) ∧ Below w.heap.size w W)) (fun iv _ => 2 - (intOf iv).toNat)
  case atStart => exact ⟨0, .slice none 0 0, .slice none 0 0, by omega, rfl, Lib.hid ⟨⟨World.alloc_heap_new w _, World.ownsRow_nil _ _ _ _, World.ownsRow_nil _ _ _ _, fun _ => rfl⟩, (Below.refl _ _).alloc (Nat.le_refl _) _⟩⟩
  case round =>
    obtain ⟨k, v, u, hk, rfl, hI⟩ := hrel
    by_cases hlt : k < 2
    · by_cases hk0 : k = 0
      · subst hk0
        have c0 := (hI.out.2.cell (p := ⟨Bh, 0, none⟩) B0.out).trans H0.out
        have CP := Lib.hid (putC_any wr w.heap.size w.heap.size base _ v u _ _ _ ps0 p0 d0 hI.out.2.size (Nat.le_refl _) (by simp) (by omega) (by omega) hI.out.1 ⟨ownsRow_later S0.out.1 hI.out.2, S0.out.2⟩ (fun b hb => (S0.out.1.lt b hb).2))
        have L0 := Lib.hid hI.out.2
        clear hI
        go_wp2_with fail
        refine CP.out.mono ?_
        rintro e W1 ⟨rfl, v', u', hB1, hL1⟩
        have hJ : Hid (BagC W1 w.heap.size w.heap.size v' u' (((if 0 < 1 then ps0 else []) ++ (if 1 < 1 then ps1 else [])).length) (((if 0 < 1 then ps0 else []) ++ (if 1 < 1 then ps1 else [])).map Prod.snd) 1 ((List.range 1).map fun j => if j = 0 then .slice p0 ps0.length d0 else .slice p1 ps1.length d1) ∧ Below w.heap.size w W1) := Lib.hid ⟨by simpa using hB1, L0.out.trans hL1⟩
        clear hB1 hL1 CP
        go_wp2
        go_roundw
        case rel => exact ⟨1, v', u', by omega, by go_num, hJ⟩
        case measure => simp [intOf]
      · obtain rfl : k = 1 := by omega
        have c0 := (hI.out.2.cell (p := ⟨Bh, 1, none⟩) B0.out).trans H1.out
        have CP := Lib.hid (putC_any wr w.heap.size w.heap.size base _ v u _ _ _ ps1 p1 d1 hI.out.2.size (Nat.le_refl _) (by simp; omega) (by omega) (by omega) hI.out.1 ⟨ownsRow_later S1.out.1 hI.out.2, S1.out.2⟩ (fun b hb => (S1.out.1.lt b hb).2))
        have L0 := Lib.hid hI.out.2
        clear hI
        go_wp2_with fail
        refine CP.out.mono ?_
        rintro e W1 ⟨rfl, v', u', hB1, hL1⟩
        have hJ : Hid (BagC W1 w.heap.size w.heap.size v' u' (((if 0 < 2 then ps0 else []) ++ (if 1 < 2 then ps1 else [])).length) (((if 0 < 2 then ps0 else []) ++ (if 1 < 2 then ps1 else [])).map Prod.snd) 2 ((List.range 2).map fun j => if j = 0 then .slice p0 ps0.length d0 else .slice p1 ps1.length d1) ∧ Below w.heap.size w W1) := Lib.hid ⟨by simpa [List.range_succ] using hB1, L0.out.trans hL1⟩
        clear hB1 hL1 CP
        go_wp2
        go_roundw
        case rel => exact ⟨2, v', u', by omega, by go_num, hJ⟩
        case measure => simp [intOf]
    · obtain rfl : k = 2 := by omega
      have hI1 : BagC wr w.heap.size w.heap.size v u (ps0 ++ ps1).length ((ps0 ++ ps1).map Prod.snd) 2 ((List.range 2).map fun j => if j = 0 then .slice p0 ps0.length d0 else .slice p1 ps1.length d1) := by simpa using hI.out.1
      have LW := Lib.hid hI.out.2
      have CA := Lib.hid (apart_any wr base w.heap.size w.heap.size (ps0 ++ ps1).length v u (fun j => ((ps0 ++ ps1).map Prod.snd).getD j (.slice none 0 0)) (fun j => (((ps0 ++ ps1).map fun x => x.1.held).getD j []).length) (fun j => ((ps0 ++ ps1).map fun x => x.1.held).getD j []) (fun j => if j = 0 then .slice p0 ps0.length d0 else .slice p1 ps1.length d1) (fun j => if j = 0 then ps0.length else ps1.length) (fun j => if j = 0 then ps0 else ps1)
        (by rw [List.length_append]; omega) (Nat.le_trans HBs.out hI.out.2.size) (by
          have e := getD_range ((ps0 ++ ps1).map Prod.snd)
          rw [List.length_map] at e
          rw [e]
          exact hI1)
        (fun j hj => by rw [at_held hj]; exact (HO.out _ (List.getElem_mem hj)).2)
        (fun j hj => by rw [at_held hj, at_snd hj]; exact ownsRow_later (HO.out _ (List.getElem_mem hj)).1 hI.out.2)
        (fun j hj b hb => by rw [at_snd hj] at hb; exact ((HO.out _ (List.getElem_mem hj)).1.lt b hb).2)
        (fun i j hi hj hij b hbi hbj => by
          rw [at_snd hi] at hbi
          rw [at_snd hj] at hbj
          have hP := List.pairwise_iff_getElem.1 HP.out
          rcases Nat.lt_or_gt_of_ne hij with h | h
          · rcases hP i j hi hj h with h2 | h2
            · rw [hbi] at h2; cases h2
            · exact h2 (hbi.trans hbj.symm)
          · rcases hP j i hj hi h with h2 | h2
            · rw [hbj] at h2; cases h2
            · exact h2 (hbj.trans hbi.symm))
        (two_of _ (by show ps0.length ≤ 10000; omega) (by show ps1.length ≤ 10000; omega))
        (two_of _ (ownsRow_later S0.out.1 hI.out.2) (ownsRow_later S1.out.1 hI.out.2))
        (two_of _ (fun b hb => (S0.out.1.lt b hb).2) (fun b hb => (S1.out.1.lt b hb).2))
        (fun i j hi hj hij b hbi hbj => by
          match i, j, hi, hj, hij, hbi, hbj with
          | 0, 0, _, _, hij, _, _ => exact hij rfl
          | 1, 1, _, _, hij, _, _ => exact hij rfl
          | 0, 1, _, _, _, hbi, hbj => exact HN.out b hbi hbj
          | 1, 0, _, _, _, hbi, hbj => exact HN.out b hbj hbi))
      clear hI hI1
      go_wp2_with fail
      refine CA.out.mono ?_
      rintro e W2 ⟨rfl, hb⟩
      have L2 := Lib.hid ((LW.out.mono HBs.out).trans hb)
      go_wp2
      go_ret
      exact ⟨rfl, L2.out⟩

end Go.Proofs.YtbpoedopdnjffaaGreat
