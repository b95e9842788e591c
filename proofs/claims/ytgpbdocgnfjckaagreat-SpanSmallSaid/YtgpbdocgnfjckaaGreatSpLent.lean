/- The kit's LentSpans, KeptSpans, OverSpans. -/
import Derived.Test.YtgpbdocgnfjckaaGreatSpAwake
import Derived.Maps.AppendAt
namespace Go.Proofs.YtgpbdocgnfjckaaGreat
open Go.RowKit Go.Shelf Sp

/-- Spans that an append may read. -/
def SSrc (W : World) (p : Option Addr) (m : Sps) : Prop :=
  (p = none ∧ m = []) ∨ ∃ ad : Addr, p = some ad ∧ ∀ j u, (flat m)[j]? = some u → W.cell? (ad.add j) = some u
theorem ssrc_of {W : World} {p : Option Addr} {m : Sps} (h : Cells W p m) : SSrc W p m := by
  cases p with
  | none =>
    left
    refine ⟨rfl, ?_⟩
    rcases h with h | ⟨_, _, e, _⟩
    · exact h
    · cases e
  | some ad =>
    refine .inr ⟨ad, rfl, fun j u hu => ?_⟩
    rcases h with rfl | ⟨b, off, e, hc⟩
    · simp [flat] at hu
    · cases e
      have hj : j < m.length * 2 := by rw [← flat_length]; exact (List.getElem?_eq_some_iff.1 hu).1
      have h1 := hc (j / 2) (by omega)
      have h2 := flat_get m (j / 2) (by omega)
      rw [WideShapes.add_plain]
      rcases Nat.mod_two_eq_zero_or_one j with e | e
      · rw [show j = j / 2 * 2 by omega, h2.1] at hu
        cases hu
        rw [show off + j = off + j / 2 * 2 by omega]; exact h1.1
      · rw [show j = j / 2 * 2 + 1 by omega, h2.2] at hu
        cases hu
        rw [show off + j = off + j / 2 * 2 + 1 by omega]; exact h1.2

theorem flat_cell (l : Sps) : ∀ u ∈ flat l, u.oneCell' = true := by
  intro u hu
  unfold flat at hu
  rw [List.mem_flatMap] at hu
  obtain ⟨s, _, hs⟩ := hu
  simp at hs
  rcases hs with rfl | rfl <;> rfl

theorem run_append_none (w : World) (base : Nat) (v : Value) (l : Sps) (hown : Owns w base v l) (c : Nat) :
    (Builtin.append_ #[22, 22] 22 #[v, .slice none 0 c]).run Tryz.prog w = .ok v w := by
  obtain ⟨i0, hi0, hz0, hz1, hz2⟩ := info_parts info_span
  rcases hown.2 with ⟨rfl, h0⟩ | ⟨g, cap, cur, rfl, _, _, hnc, _⟩
  · simp [Builtin.append_, run_underlying (P := Tryz.prog) Tryz.underlying22, sizeOf, typeInfo, hi0, Builtin.lenOf, Builtin.firstCells]
  · simp [Builtin.append_, run_underlying (P := Tryz.prog) Tryz.underlying22, sizeOf, typeInfo, hi0, Builtin.lenOf, Builtin.firstCells, hnc, storeCells]

theorem run_append_arg (w : World) (base : Nat) (v : Value) (l : Sps) (hown : Owns w base v l) (p : Option Addr) (c : Nat) (m : Sps) (hs : SSrc w p m) (hN : l.length + m.length ≤ 100000) (hbase : base ≤ w.heap.size) :
    ∃ v' w', (Builtin.append_ #[22, 22] 22 #[v, .slice p m.length c]).run Tryz.prog w = .ok v' w' ∧ Owns w' base v' (l ++ m) ∧ w.grownBy w' v.ownBlock ∧ (v'.ownBlock = v.ownBlock ∨ v'.ownBlock = some w.heap.size) := by
  obtain ⟨i0, hi0, hz0, hz1, hz2⟩ := info_parts info_span
  rcases hs with ⟨rfl, rfl⟩ | ⟨ad, rfl, hc⟩
  · exact ⟨v, w, run_append_none w base v l hown c, by rw [List.append_nil]; exact hown, World.grownBy.refl w _, .inl rfl⟩
  · obtain ⟨v', w', h1, h2, h3, _, h5⟩ := run_append_own_at (P := Tryz.prog) w base 22 22 30 i0 _ 2 16 Tryz.underlying22 hi0 hz0 hz1 hz2 rfl (by omega) v l.length (flat l) hown ad m.length c (flat m) (flat_length m) hc (flat_cell m) (by simp only [maxLen]; omega) (by omega) hbase
    refine ⟨v', w', h1, ?_, h3, h5⟩
    unfold Owns
    rw [flat_append, List.length_append]
    exact h2

theorem wp_append_arg {o : Oper} {a : Act} {K : Act → World → Prop} {Q : Exit → Act → World → Prop} (w : World) (s x : Operand)
    (ho : o.op = .call { callee := .builtin .append, args := #[s, x], argTypes := #[22, 22] }) (hty : o.type = 22)
    (base : Nat) (v : Value) (l : Sps) (hs : a.eval s = v) (hown : Owns w base v l) (p : Option Addr) (n c : Nat) (m : Sps) (hn : m.length = n) (hx : a.eval x = .slice p n c) (hsr : SSrc w p m) (hN : l.length + m.length ≤ 100000) (hbase : base ≤ w.heap.size)
    (h : ∀ v' w', Owns w' base v' (l ++ m) → w.grownBy w' v.ownBlock → (v'.ownBlock = v.ownBlock ∨ v'.ownBlock = some w.heap.size) → K (a.put o.dst v') w') : o.wp Tryz.prog a w K Q := by
  subst hn
  obtain ⟨v', w', hr, h2, h3, h4⟩ := run_append_arg w base v l hown p c m hsr hN hbase
  unfold Oper.wp execOp
  simp only [ho, hty, resolve, invoke, builtin, Sem.run_bind, Sem.run_pure, Result.andThen_ok, List.map_toArray, List.map_cons, List.map_nil, hs, hx, hr]
  exact h v' w' h2 h3 h4

theorem Owns.below_row {W w1 w : World} {base : Nat} {v : Value} {l : Sps} (h : Owns W base v l) (hb : Below w.heap.size w W) (hbase : w.heap.size ≤ base) (hg : W.grownBy w1 v.ownBlock) : Below w.heap.size w w1 :=
  hb.grown hg hb.size fun j ej => by
    rcases h.2 with ⟨rfl, _⟩ | ⟨g, cap, cur, rfl, hb, _, _⟩
    · simp [Value.ownBlock] at ej
    · obtain rfl : g = j := by simpa [Value.ownBlock] using ej
      omega

/-- The mark number i of slice k. -/
def mkI (k i : Int) : Int := 1000003 * (k + 7) + i
theorem mark_any (k i : Int) (w : World) (h0 : 0 ≤ k ∧ k ≤ 100) (h1 : 0 ≤ i ∧ i ≤ 1000000) :
    Calls Tryz.prog 52 #[.int .i64 k, .int .i64 i] w fun e w' => e = .returned (.int .i64 (mkI k i)) ∧ w = w' := by
  go_enter Tryz.func52, Tryz.ntmps52
  go_wp2
  go_ret
  exact ⟨rfl, rfl⟩
theorem markSpan_any (k i : Int) (w : World) (h0 : 0 ≤ k ∧ k ≤ 100) (h1 : 0 ≤ i ∧ i ≤ 1000000) :
    Calls Tryz.prog 37 #[.int .i64 k, .int .i64 i] w fun e w' => e = .returned (.agg #[.int .i64 (mkI k i), .int .i64 0]) ∧ Below w.heap.size w w' := by
  have CM := Lib.hid (fun W => mark_any k i W h0 h1)
  go_enter Tryz.func37, Tryz.ntmps37
  go_wp2_with (refine (CM.out _).mono ?_; rintro e w1 ⟨rfl, rfl⟩)
  refine bodyPost_ret (results_cell_row rfl _ _ w.heap.size 30 #[.int .i64 (mkI k i), .int .i64 0] (0, 0) _ rfl (Boxed2.new w _ _ _) Tryz.underlying30 rfl (by kernel_rfl)) rfl ?_
  exact ⟨rfl, (Below.refl _ _).alloc (Nat.le_refl _) _⟩

def mks : Sps := (List.range 12).map fun (i : Nat) => (mkI 1 (i : Int), (0 : Int))
theorem mks_len : mks.length = 12 := by simp [mks]
theorem mks_get (i : Nat) (h : i < mks.length) : mks[i] = (mkI 1 (i : Int), 0) := by simp [mks]

set_option maxHeartbeats 2000000 in
set_option maxRecDepth 100000 in
theorem lent_any (l : Sps) (p : Option Addr) (cap : Nat) (w : World) (hl : l.length ≤ 100) (hc : Cells w p l) :
    Calls Tryz.prog 13 #[.slice p l.length cap] w fun e w' => ∃ g c, e = .returned (.slice (some ⟨g, 0, none⟩) l.length c) ∧ l.length + 12 ≤ c ∧ w.heap.size ≤ g ∧
      Owns w' w.heap.size (.slice (some ⟨g, 0, none⟩) (l.length + 12) c) (l ++ mks) ∧ Below w.heap.size w w' := by
  have HC := Lib.hid hc; clear hc
  obtain ⟨i0, hi0, hz0, hz1, hz2⟩ := info_parts info_span
  have hz2' : i0.bytes * (l.length + 12) ≤ 281474976710656 := by rw [hz2]; omega
  go_enter Tryz.func13, Tryz.ntmps13
  go_wp2_with (first | (at_make; refine wpList_make_own _ rfl _ _ 22 rfl w.heap.size 30 i0 (.agg #[.int .i64 0, .int .i64 0]) 2 Tryz.underlying22 hi0 hz0 hz1 .i64 .i64 _ (l.length + 12) rfl rfl (by omega) hz2' (by unfold maxLen; omega) (Nat.le_refl _) ?_; intro w1 hown1 hgrow1; have O1 : Owns w1 w.heap.size (.slice (some ⟨w.heap.size, 0, none⟩) 0 (l.length + 12)) [] := hown1; have b1 : Below w.heap.size w w1 := (Below.refl w.heap.size w).grown hgrow1 (Nat.le_refl _) (fun k hk => by cases hk); have HS := Lib.hid (ssrc_of (HC.out.below b1)); clear hown1 hgrow1) | (at_builtin; refine wpList_plain rfl fun KK hKK => ?_; refine wp_append_arg _ _ _ rfl rfl w.heap.size _ [] rfl O1 p l.length cap l rfl rfl HS.out (by simp; omega) b1.size ?_; intro v2 w2 hown2 hgrow2 _; refine hKK _ _ ?_; clear hKK) | fail)
  have b2 := O1.below_row b1 (Nat.le_refl _) hgrow2
  have O2 := Lib.hid (show Owns w2 w.heap.size v2 l from hown2)
  clear hown2 hgrow2 HS O1 b1
  go_loopw [4, 3] (fun i u wr => ∃ (k : Nat) (v : Value), k ≤ 12 ∧ i = .int .i64 k ∧ v = u ∧ Hid (Owns wr w.heap.size v (l ++ mks.take k)) ∧ Below w.heap.size w wr) (fun i _ _ => 12 - (intOf i).toNat)
  case atStart => exact ⟨0, _, by omega, rfl, rfl, Lib.hid (by rw [List.take_zero, List.append_nil]; exact O2.out), b2⟩
  case round =>
    obtain ⟨k, v, hk, rfl, rfl, hI, hb⟩ := hrel
    by_cases hlt : k < 12
    · have CM := Lib.hid (fun W => markSpan_any 1 (k : Int) W (by omega) (by omega))
      have hst := Lib.hid (show l ++ mks.take (k + 1) = (l ++ mks.take k) ++ [(mkI 1 (k : Int), 0)] by
        rw [List.take_succ_eq_append_getElem (by rw [mks_len]; exact hlt), mks_get, List.append_assoc])
      have hlen : (l ++ mks.take k).length = l.length + k := by rw [List.length_append, List.length_take, mks_len]; omega
      go_wp2_with fail
      refine (CM.out _).mono ?_
      rintro e W1 ⟨rfl, hb1⟩
      have B1 := hb.trans (hb1.mono hb.size)
      have O3 := Lib.hid (hI.out.below hb1)
      clear hb1 hI
      go_wp2_with (first | (at_builtin; refine wpList_plain rfl fun KK hKK => ?_; refine wp_append_arg _ _ _ rfl rfl w.heap.size _ (l ++ mks.take k) rfl (O3.out.alloc _) (some ⟨W1.heap.size, 0, none⟩) 1 1 [(mkI 1 (k : Int), 0)] rfl rfl (ssrc_of (cells_new1 W1 _ _)) (by simp; omega) (by simp; exact Nat.le_succ_of_le B1.size) ?_; intro v2 w2 hown2 hgrow2 _; refine hKK _ _ ?_; clear hKK) | fail)
      go_roundw
      case rel => exact ⟨k + 1, _, by omega, by go_num, rfl, Lib.hid (by rw [hst.out]; exact hown2), (show Owns (W1.alloc _) w.heap.size v _ from O3.out.alloc _).below_row (B1.alloc B1.size _) (Nat.le_refl _) hgrow2⟩
      case measure => simp [intOf]; omega
    · obtain rfl : k = 12 := by omega
      rw [show mks.take 12 = mks from List.take_of_length_le (by rw [mks_len]; exact Nat.le_refl _)] at hI
      obtain ⟨g, c, rfl, hg, hc⟩ : ∃ g c, v = .slice (some ⟨g, 0, none⟩) (l.length + 12) c ∧ w.heap.size ≤ g ∧ l.length + 12 ≤ c := by
        have hlen : (l ++ mks).length = l.length + 12 := by rw [List.length_append, mks_len]
        rcases hI.out.2 with ⟨_, h0⟩ | ⟨g, c, cur, rfl, hg, _, hc, _⟩
        · omega
        · exact ⟨g, c, by rw [hlen], hg, by omega⟩
      go_wp2
      go_ret
      exact ⟨g, c, rfl, hc, hg, hI.out, hb⟩

end Go.Proofs.YtgpbdocgnfjckaaGreat
