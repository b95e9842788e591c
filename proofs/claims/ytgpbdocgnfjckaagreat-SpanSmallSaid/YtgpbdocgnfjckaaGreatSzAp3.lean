/- The kit's bag: putSpans, apart, ApartSpans. -/
import Derived.Test.YtgpbdocgnfjckaaGreatSzAp2
import Derived.Test.YtgpbdocgnfjckaaGreatSzFlat
namespace Go.Proofs.YtgpbdocgnfjckaaGreat
open Go.RowKit Go.Shelf Sp

/-- A bag that holds the slice v of slices of spans and nothing else. -/
def BagAt (W : World) (K : Nat) (v : Value) : Prop := W.heap[K]? = some (.cells #[.slice none 0 0, .slice none 0 0, .slice none 0 0, .slice none 0 0, .slice none 0 0, .slice none 0 0, .slice none 0 0, v, .slice none 0 0, .slice none 0 0, .slice none 0 0, .slice none 0 0, .slice none 0 0, .slice none 0 0, .slice none 0 0, .slice none 0 0, .slice none 0 0, .slice none 0 0, .slice none 0 0, .slice none 0 0, .slice none 0 0, .slice none 0 0, .slice none 0 0] 79 (0, 0))
theorem BagAt.lt {W : World} {K : Nat} {v : Value} (h : BagAt W K v) : K < W.heap.size := (Array.getElem?_eq_some_iff.1 h).1
theorem BagAt.cell {W : World} {K : Nat} {v : Value} (h : BagAt W K v) (j : Nat) (hj : j < 23) (h7 : j ≠ 7) : W.cell? ⟨K, j, none⟩ = some (.slice none 0 0) := by
  unfold BagAt at h
  simp only [World.cell?, h]
  match j, hj, h7 with
  | 0, _, _ => rfl
  | 1, _, _ => rfl
  | 2, _, _ => rfl
  | 3, _, _ => rfl
  | 4, _, _ => rfl
  | 5, _, _ => rfl
  | 6, _, _ => rfl
  | 8, _, _ => rfl
  | 9, _, _ => rfl
  | 10, _, _ => rfl
  | 11, _, _ => rfl
  | 12, _, _ => rfl
  | 13, _, _ => rfl
  | 14, _, _ => rfl
  | 15, _, _ => rfl
  | 16, _, _ => rfl
  | 17, _, _ => rfl
  | 18, _, _ => rfl
  | 19, _, _ => rfl
  | 20, _, _ => rfl
  | 21, _, _ => rfl
  | 22, _, _ => rfl
  | 7, _, h7 => exact absurd rfl h7
  | n + 23, hj, _ => omega
theorem BagAt.seven {W : World} {K : Nat} {v : Value} (h : BagAt W K v) : W.cell? ⟨K, 7, none⟩ = some v := by
  unfold BagAt at h
  simp only [World.cell?, h]
  rfl
theorem BagAt.frozen {W : World} {K : Nat} {v : Value} (h : BagAt W K v) (j : Nat) : W.frozen? ⟨K, j, none⟩ = false := by
  unfold BagAt at h
  simp [World.frozen?, h]
theorem BagAt.put {W : World} {K : Nat} {v : Value} (h : BagAt W K v) (v' : Value) : BagAt (W.setCell ⟨K, 7, none⟩ v') K v' := by
  unfold BagAt at h ⊢
  simp only [World.setCell, Array.getElem?_modify, h]
  rfl
theorem BagAt.of_block {W W' : World} {K : Nat} {v : Value} (h : BagAt W K v) (e : W'.heap[K]? = W.heap[K]?) : BagAt W' K v := e.trans h
theorem BagAt.later {W W' : World} {K : Nat} {v : Value} (h : BagAt W K v) (hb : Below W.heap.size W W') : BagAt W' K v := h.of_block (hb.block K h.lt)
theorem BagAt.grown {W W' : World} {row : Option Nat} {K : Nat} {v : Value} (h : BagAt W K v) (hg : W.grownBy W' row) (hne : some K ≠ row) : BagAt W' K v := h.of_block (hg.block K h.lt hne)
theorem BagAt.not_row {W : World} {K : Nat} {v : Value} {e : TypeId} (h : BagAt W K v) (hte : 79 ≠ e) {base size k : Nat} {u : Value} {xs : List Value} (hr : W.ownsRow base e size u k xs) : some K ≠ u.ownBlock := by
  rcases hr.2 with ⟨rfl, _⟩ | ⟨g, cap, cur, rfl, _, hgb, _⟩
  · simp [Value.ownBlock]
  · intro e'
    obtain rfl : K = g := by simpa [Value.ownBlock] using e'
    have := (show W.heap[K]? = _ from h).symm.trans hgb
    simp at this
    exact hte this.2

theorem info_spans : (Tryz.prog.info? 22).map (fun i => (i.zero, i.size, i.bytes)) = some (some (.slice none 0 0), 1, 24) := by kernel_rfl
theorem one_new (W : World) (x : Value) (t : TypeId) (k : Nat) (hk : W.heap.size = k) : ∀ j u, [x][j]? = some u → (W.alloc (.cells #[x] t)).cell? ((⟨k, 0, none⟩ : Addr).add j) = some u := by
  subst hk
  intro j u hj
  rw [WideShapes.add_plain]
  match j, hj with
  | 0, hj => simp at hj; subst hj; simp

set_option maxHeartbeats 1000000 in
set_option maxRecDepth 100000 in
theorem put_any (w : World) (K base n : Nat) (v : Value) (hs : List Value) (p : Option Addr) (m c : Nat) (hb : base ≤ w.heap.size) (hK : base ≤ K) (hn : n ≤ 100) (hB : BagAt w K v) (ho : w.ownsRow base 22 1 v n hs) :
    Calls Tryz.prog 45 #[.pointer (some ⟨K, 0, none⟩), .slice p m c] w fun e w' => e = .returned (.tuple #[]) ∧ ∃ v', BagAt w' K v' ∧ w'.ownsRow base 22 1 v' (n + 1) (hs ++ [.slice p m c]) ∧ Below base w w' := by
  have HB := Lib.hid hB
  have HO := Lib.hid (ho.alloc (.cells #[.slice p m c] 22))
  have c0 := hB.seven
  obtain ⟨i0, hi0, hz0, hz1, hz2⟩ := info_parts info_spans
  clear hB ho
  go_enter Tryz.func45, Tryz.ntmps45
  go_wp2_with (first | (at_builtin; refine wpList_append_keep _ rfl _ _ 40 rfl base 22 i0 (.slice none 0 0) 1 24 Tryz.underlying40 hi0 hz0 hz1 hz2 rfl (by decide) _ _ _ rfl HO.out ⟨w.heap.size, 0, none⟩ 1 1 [.slice p m c] rfl rfl (one_new _ _ _ _ rfl) (by simp [Value.oneCell']) (by unfold maxLen; omega) (by omega) (by simp; omega) ?_; intro v' w1 hown' hgrow hfrm hkeep; obtain ⟨g, cg, rfl⟩ := ownsRow_succ hown'; have B1 : Hid (BagAt w1 K v) := Lib.hid ((HB.out.grown (World.grownBy_alloc w _ none) (by simp)).grown hgrow (BagAt.not_row (HB.out.grown (World.grownBy_alloc w _ none) (by simp)) (by decide) HO.out)); have q0 := B1.out.seven; have f0 := B1.out.frozen 7; have O1 := Lib.hid hown'; have L1 : Hid (Below base w w1) := Lib.hid (((Below.refl base w).alloc hb _).grown hgrow (by simp; omega) (fun b hb => (HO.out.lt b hb).1)); clear hown' hgrow hfrm hkeep) | fail)
  go_end0
  refine ⟨rfl, _, B1.out.put _, ?_, L1.out.setCell (p := ⟨K, 7, none⟩) hK _⟩
  exact O1.out.kept (row := some K) ⟨rfl, rfl, rfl, by simp, fun b _ hb => heap_setCell_other w1 ⟨K, 7, none⟩ b _ (fun e' => hb (by simp [e']))⟩ (.inr (B1.out.not_row (by decide) O1.out).symm)

set_option maxHeartbeats 4000000 in
set_option maxRecDepth 100000 in
theorem apart_any (w : World) (base B c3 K : Nat) (V : Nat → Value) (n : Nat → Nat) (l0 : Nat → Sps) (hC : ApC w base (fun X => X = B ∨ X = K) 3 V) (hn : ∀ j, j < 3 → n j ≤ 10000) (hV : ∀ j, j < 3 → w.cell? ⟨B, j, none⟩ = some (V j)) (hO : ∀ j, j < 3 → w.ownsRow base 30 2 (V j) (n j) (flat (l0 j)))
    (hK : BagAt w K (.slice (some ⟨B, 0, none⟩) 3 c3)) :
    Calls Tryz.prog 46 #[.pointer (some ⟨K, 0, none⟩)] w fun e w' => e = .returned (.bool true) ∧ Below base w w' := by
  have C := Lib.hid hC
  have HN := Lib.hid hn
  have HV := Lib.hid hV
  have HO := Lib.hid hO
  have B0 := Lib.hid hK
  have L0 : Hid (Below w.heap.size w w) := Lib.hid (Below.refl _ _)
  have c0 := hK.cell 0 (by decide) (by decide)
  clear hC hn hV hO hK
  go_enter Tryz.func46, Tryz.ntmps46
  go_wp2_with fail
  refine (flatLimbs_nil w).mono ?_
  rintro e W1 ⟨rfl, hb⟩
  have B1 := Lib.hid (B0.out.later hb)
  have L1 : Hid (Below w.heap.size w W1) := Lib.hid (L0.out.trans (hb.mono L0.out.size))
  have c1 := B1.out.cell 1 (by decide) (by decide)
  clear hb c0 B0 L0
  go_wp2_with fail
  refine (flatInts_nil W1).mono ?_
  rintro e W2 ⟨rfl, hb⟩
  have B2 := Lib.hid (B1.out.later hb)
  have L2 : Hid (Below w.heap.size w W2) := Lib.hid (L1.out.trans (hb.mono L1.out.size))
  have c2 := B2.out.cell 2 (by decide) (by decide)
  clear hb c1 B1 L1
  go_wp2_with fail
  refine (flatTexts_nil W2).mono ?_
  rintro e W3 ⟨rfl, hb⟩
  have B3 := Lib.hid (B2.out.later hb)
  have L3 : Hid (Below w.heap.size w W3) := Lib.hid (L2.out.trans (hb.mono L2.out.size))
  have c3 := B3.out.cell 3 (by decide) (by decide)
  clear hb c2 B2 L2
  go_wp2_with fail
  refine (flatBytes_nil W3).mono ?_
  rintro e W4 ⟨rfl, hb⟩
  have B4 := Lib.hid (B3.out.later hb)
  have L4 : Hid (Below w.heap.size w W4) := Lib.hid (L3.out.trans (hb.mono L3.out.size))
  have c4 := B4.out.cell 4 (by decide) (by decide)
  clear hb c3 B3 L3
  go_wp2_with fail
  refine (flatWholes_nil W4).mono ?_
  rintro e W5 ⟨rfl, hb⟩
  have B5 := Lib.hid (B4.out.later hb)
  have L5 : Hid (Below w.heap.size w W5) := Lib.hid (L4.out.trans (hb.mono L4.out.size))
  have c5 := B5.out.cell 5 (by decide) (by decide)
  clear hb c4 B4 L4
  go_wp2_with fail
  refine (flatFracs_nil W5).mono ?_
  rintro e W6 ⟨rfl, hb⟩
  have B6 := Lib.hid (B5.out.later hb)
  have L6 : Hid (Below w.heap.size w W6) := Lib.hid (L5.out.trans (hb.mono L5.out.size))
  have c6 := B6.out.cell 6 (by decide) (by decide)
  clear hb c5 B5 L5
  go_wp2_with fail
  refine (flatValues_nil W6).mono ?_
  rintro e W7 ⟨rfl, hb⟩
  have B7 := Lib.hid (B6.out.later hb)
  have L7 : Hid (Below w.heap.size w W7) := Lib.hid (L6.out.trans (hb.mono L6.out.size))
  have c7 := B7.out.seven
  clear hb c6 B6 L6
  go_wp2_with fail
  refine (flatSpans_any W7 base B c3 (fun X => X = B ∨ X = K) V n l0 (.inl rfl) ⟨Nat.le_trans C.out.bs L7.out.size, fun j hj b hb => ⟨(C.out.blk j hj b hb).1, Nat.lt_of_lt_of_le (C.out.blk j hj b hb).2.1 L7.out.size, (C.out.blk j hj b hb).2.2⟩, C.out.dis⟩ HN.out (fun j hj => (L7.out.cell (p := ⟨B, j, none⟩) (World.block_lt_of_cell? w _ (HV.out j hj))).trans (HV.out j hj)) ⟨Below.refl _ _, fun _ _ _ => rfl, fun j hj => (HO.out j hj).kept (grown_of_below L7.out none) (by cases (V j).ownBlock <;> simp)⟩).mono ?_
  rintro e W8 ⟨rfl, hb, hX⟩
  have B8 : Hid (BagAt W8 K (.slice (some ⟨B, 0, none⟩) 3 c3)) := Lib.hid (B7.out.of_block (hX K B7.out.lt (.inr rfl)))
  have L8 : Hid (Below base w W8) := Lib.hid ((L7.out.mono C.out.bs).trans hb)
  have c8 := B8.out.cell 8 (by decide) (by decide)
  clear hb c7 B7 L7 hX
  go_wp2_with fail
  refine (flatSteps_nil W8).mono ?_
  rintro e W9 ⟨rfl, hb⟩
  have B9 := Lib.hid (B8.out.later hb)
  have L9 : Hid (Below base w W9) := Lib.hid (L8.out.trans (hb.mono (Nat.le_trans C.out.bs L8.out.size)))
  have c9 := B9.out.cell 9 (by decide) (by decide)
  clear hb c8 B8 L8
  go_wp2_with fail
  refine (flatFacts_nil W9).mono ?_
  rintro e W10 ⟨rfl, hb⟩
  have B10 := Lib.hid (B9.out.later hb)
  have L10 : Hid (Below base w W10) := Lib.hid (L9.out.trans (hb.mono (Nat.le_trans C.out.bs L9.out.size)))
  have c10 := B10.out.cell 10 (by decide) (by decide)
  clear hb c9 B9 L9
  go_wp2_with fail
  refine (flatRows_nil W10).mono ?_
  rintro e W11 ⟨rfl, hb⟩
  have B11 := Lib.hid (B10.out.later hb)
  have L11 : Hid (Below base w W11) := Lib.hid (L10.out.trans (hb.mono (Nat.le_trans C.out.bs L10.out.size)))
  have c11 := B11.out.cell 11 (by decide) (by decide)
  clear hb c10 B10 L10
  go_wp2_with fail
  refine (flatTables_nil W11).mono ?_
  rintro e W12 ⟨rfl, hb⟩
  have B12 := Lib.hid (B11.out.later hb)
  have L12 : Hid (Below base w W12) := Lib.hid (L11.out.trans (hb.mono (Nat.le_trans C.out.bs L11.out.size)))
  have c12 := B12.out.cell 12 (by decide) (by decide)
  clear hb c11 B11 L11
  go_wp2_with fail
  refine (flatExprs_nil W12).mono ?_
  rintro e W13 ⟨rfl, hb⟩
  have B13 := Lib.hid (B12.out.later hb)
  have L13 : Hid (Below base w W13) := Lib.hid (L12.out.trans (hb.mono (Nat.le_trans C.out.bs L12.out.size)))
  have c13 := B13.out.cell 13 (by decide) (by decide)
  clear hb c12 B12 L12
  go_wp2_with fail
  refine (flatClauses_nil W13).mono ?_
  rintro e W14 ⟨rfl, hb⟩
  have B14 := Lib.hid (B13.out.later hb)
  have L14 : Hid (Below base w W14) := Lib.hid (L13.out.trans (hb.mono (Nat.le_trans C.out.bs L13.out.size)))
  have c14 := B14.out.cell 14 (by decide) (by decide)
  clear hb c13 B13 L13
  go_wp2_with fail
  refine (flatDefs_nil W14).mono ?_
  rintro e W15 ⟨rfl, hb⟩
  have B15 := Lib.hid (B14.out.later hb)
  have L15 : Hid (Below base w W15) := Lib.hid (L14.out.trans (hb.mono (Nat.le_trans C.out.bs L14.out.size)))
  have c15 := B15.out.cell 15 (by decide) (by decide)
  clear hb c14 B14 L14
  go_wp2_with fail
  refine (flatPlans_nil W15).mono ?_
  rintro e W16 ⟨rfl, hb⟩
  have B16 := Lib.hid (B15.out.later hb)
  have L16 : Hid (Below base w W16) := Lib.hid (L15.out.trans (hb.mono (Nat.le_trans C.out.bs L15.out.size)))
  have c16 := B16.out.cell 16 (by decide) (by decide)
  clear hb c15 B15 L15
  go_wp2_with fail
  refine (flatPostings_nil W16).mono ?_
  rintro e W17 ⟨rfl, hb⟩
  have B17 := Lib.hid (B16.out.later hb)
  have L17 : Hid (Below base w W17) := Lib.hid (L16.out.trans (hb.mono (Nat.le_trans C.out.bs L16.out.size)))
  have c17 := B17.out.cell 17 (by decide) (by decide)
  clear hb c16 B16 L16
  go_wp2_with fail
  refine (flatOrders_nil W17).mono ?_
  rintro e W18 ⟨rfl, hb⟩
  have B18 := Lib.hid (B17.out.later hb)
  have L18 : Hid (Below base w W18) := Lib.hid (L17.out.trans (hb.mono (Nat.le_trans C.out.bs L17.out.size)))
  have c18 := B18.out.cell 18 (by decide) (by decide)
  clear hb c17 B17 L17
  go_wp2_with fail
  refine (flatEvents_nil W18).mono ?_
  rintro e W19 ⟨rfl, hb⟩
  have B19 := Lib.hid (B18.out.later hb)
  have L19 : Hid (Below base w W19) := Lib.hid (L18.out.trans (hb.mono (Nat.le_trans C.out.bs L18.out.size)))
  have c19 := B19.out.cell 19 (by decide) (by decide)
  clear hb c18 B18 L18
  go_wp2_with fail
  refine (flatFilings_nil W19).mono ?_
  rintro e W20 ⟨rfl, hb⟩
  have B20 := Lib.hid (B19.out.later hb)
  have L20 : Hid (Below base w W20) := Lib.hid (L19.out.trans (hb.mono (Nat.le_trans C.out.bs L19.out.size)))
  have c20 := B20.out.cell 20 (by decide) (by decide)
  clear hb c19 B19 L19
  go_wp2_with fail
  refine (flatCases_nil W20).mono ?_
  rintro e W21 ⟨rfl, hb⟩
  have B21 := Lib.hid (B20.out.later hb)
  have L21 : Hid (Below base w W21) := Lib.hid (L20.out.trans (hb.mono (Nat.le_trans C.out.bs L20.out.size)))
  have c21 := B21.out.cell 21 (by decide) (by decide)
  clear hb c20 B20 L20
  go_wp2_with fail
  refine (flatChanges_nil W21).mono ?_
  rintro e W22 ⟨rfl, hb⟩
  have B22 := Lib.hid (B21.out.later hb)
  have L22 : Hid (Below base w W22) := Lib.hid (L21.out.trans (hb.mono (Nat.le_trans C.out.bs L21.out.size)))
  have c22 := B22.out.cell 22 (by decide) (by decide)
  clear hb c21 B21 L21
  go_wp2_with fail
  refine (flatDeltas_nil W22).mono ?_
  rintro e W23 ⟨rfl, hb⟩
  have B23 := Lib.hid (B22.out.later hb)
  have L23 : Hid (Below base w W23) := Lib.hid (L22.out.trans (hb.mono (Nat.le_trans C.out.bs L22.out.size)))
  clear hb c22 B22 L22
  go_wp2
  go_ret
  exact ⟨rfl, L23.out⟩

set_option maxHeartbeats 2000000 in
set_option maxRecDepth 100000 in
theorem apartSpans_any (w : World) (base Bh ch : Nat) (V : Nat → Value) (n : Nat → Nat) (l0 : Nat → Sps) (hb : base ≤ w.heap.size) (hn : ∀ j, j < 3 → n j ≤ 10000) (hV : ∀ j, j < 3 → w.cell? ⟨Bh, j, none⟩ = some (V j)) (hO : ∀ j, j < 3 → w.ownsRow base 30 2 (V j) (n j) (flat (l0 j)))
    (hD : ∀ i j, i < 3 → j < 3 → i ≠ j → ∀ b, (V i).ownBlock = some b → (V j).ownBlock ≠ some b) :
    Calls Tryz.prog 23 #[.slice (some ⟨Bh, 0, none⟩) 3 ch] w fun e w' => e = .returned (.bool true) ∧ Below base w w' := by
  have HB := Lib.hid hb
  have HN := Lib.hid hn
  have HV := Lib.hid hV
  have HO := Lib.hid hO
  have HD := Lib.hid hD
  clear hb hn hV hO hD
  go_enter Tryz.func23, Tryz.ntmps23
  go_wp2
  go_loopw [4] (fun iv W => ∃ (k : Nat) (v : Value), k ≤ 3 ∧ iv = .int .i64 k ∧ Hid (BagAt W w.heap.size v ∧ W.ownsRow w.heap.size 22 1 v k ((List.range k).map V) ∧ Below w.heap.size w W)) (fun iv _ => 3 - (intOf iv).toNat)
  case atStart => exact ⟨0, .slice none 0 0, by omega, rfl, Lib.hid ⟨World.alloc_heap_new w _, World.ownsRow_nil _ _ _ _, (Below.refl _ _).alloc (Nat.le_refl _) _⟩⟩
  case round =>
    obtain ⟨k, v, hk, rfl, hI⟩ := hrel
    by_cases hlt : k < 3
    · obtain ⟨p, m, c, hv⟩ : ∃ p m c, V k = .slice p m c := by
        rcases (HO.out k hlt).2 with ⟨e, _⟩ | ⟨g, cap, cur, e, _⟩
        · exact ⟨_, _, _, e⟩
        · exact ⟨_, _, _, e⟩
      have hc := HV.out k hlt
      rw [hv] at hc
      have c0 := (hI.out.2.2.cell (p := ⟨Bh, k, none⟩) (World.block_lt_of_cell? w _ hc)).trans hc
      have HVk := Lib.hid hv
      have k0 : (0 : Int) ≤ (k : Int) := by omega
      have k1 : (k : Int) < 3 := by omega
      clear hc hv
      go_wp2_with fail
      refine (put_any wr w.heap.size w.heap.size k v _ p m c hI.out.2.2.size (Nat.le_refl _) (by omega) hI.out.1 hI.out.2.1).mono ?_
      rintro e W1 ⟨rfl, v', hB1, hO1, hL1⟩
      have hJ : Hid (BagAt W1 w.heap.size v' ∧ W1.ownsRow w.heap.size 22 1 v' (k + 1) ((List.range (k + 1)).map V) ∧ Below w.heap.size w W1) := Lib.hid ⟨hB1, by rw [List.range_succ, List.map_append]; simpa [HVk.out] using hO1, hI.out.2.2.trans hL1⟩
      clear hB1 hO1 hL1 hI
      go_wp2
      go_roundw
      case rel => exact ⟨k + 1, v', by omega, by go_num, hJ⟩
      case measure => simp [intOf]; omega
    · have e3 : (k : Int) = 3 := by omega
      rw [e3]
      clear e3
      obtain rfl : k = 3 := by omega
      obtain ⟨B, cB, rfl⟩ : ∃ B c, v = .slice (some ⟨B, 0, none⟩) 3 c := by
        rcases hI.out.2.1.2 with ⟨_, h0⟩ | ⟨g, cap, _, rfl, _⟩
        · omega
        · exact ⟨g, cap, rfl⟩
      have hBB : w.heap.size ≤ B := (hI.out.2.1.lt B rfl).1
      have CA := Lib.hid (apart_any wr base B cB w.heap.size V n l0 ⟨Nat.le_trans HB.out hI.out.2.2.size, fun j hj b hb => by
          have := (HO.out j hj).lt b hb
          exact ⟨this.1, Nat.lt_of_lt_of_le this.2 hI.out.2.2.size, by rintro (h | h) <;> omega⟩, HD.out⟩ HN.out (fun j hj => by
          rw [hI.out.2.1.cellAt j (by omega)]
          match j, hj with
          | 0, _ => rfl
          | 1, _ => rfl
          | 2, _ => rfl) (fun j hj => (HO.out j hj).kept (grown_of_below hI.out.2.2 none) (by cases (V j).ownBlock <;> simp)) hI.out.1)
      have L1 := Lib.hid (hI.out.2.2.mono HB.out)
      clear hI
      go_wp2_with fail
      refine CA.out.mono ?_
      rintro e W2 ⟨rfl, hb⟩
      have L2 := Lib.hid (L1.out.trans hb)
      go_wp2
      go_ret
      exact ⟨rfl, L2.out⟩

end Go.Proofs.YtgpbdocgnfjckaaGreat
