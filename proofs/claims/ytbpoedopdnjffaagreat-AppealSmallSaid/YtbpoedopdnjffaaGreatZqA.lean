/- The kit's LentFilings and KeptFilings. -/
import Derived.Test.YtbpoedopdnjffaaGreatZpF
import Derived.Maps.AppendAt
import Derived.Laws.OwnMore
namespace Go.Proofs.YtbpoedopdnjffaaGreat
open Go.RowKit Go.Shelf Sp

/-- The mark number i of slice k. -/
def mkI (k i : Int) : Int := 1000003 * (k + 7) + i
theorem mark_any (k i : Int) (w : World) (h0 : 0 ≤ k ∧ k ≤ 100000) (h1 : 0 ≤ i ∧ i ≤ 1000000) :
    Calls Tryz.prog 40 #[.int .i64 k, .int .i64 i] w fun e w' => e = .returned (.int .i64 (mkI k i)) ∧ w = w' := by
  go_enter Tryz.func40, Tryz.ntmps40
  go_wp2
  go_ret
  exact ⟨rfl, rfl⟩
theorem markSpan_any (k i : Int) (w : World) (h0 : 0 ≤ k ∧ k ≤ 100000) (h1 : 0 ≤ i ∧ i ≤ 1000000) :
    Calls Tryz.prog 101 #[.int .i64 k, .int .i64 i] w fun e w' => e = .returned (.agg #[.int .i64 (mkI k i), .int .i64 0]) ∧ Below w.heap.size w w' := by
  have CM := Lib.hid (fun W => mark_any k i W h0 h1)
  go_enter Tryz.func101, Tryz.ntmps101
  go_wp2_with (refine (CM.out _).mono ?_; rintro e w1 ⟨rfl, rfl⟩)
  refine bodyPost_ret (results_cell_row rfl _ _ w.heap.size 54 #[.int .i64 (mkI k i), .int .i64 0] (0, 0) _ rfl (Boxed2.new w _ _ _) Tryz.underlying54 rfl (by kernel_rfl)) rfl ?_
  exact ⟨rfl, (Below.refl _ _).alloc (Nat.le_refl _) _⟩
theorem markFiling_any (k i : Int) (w : World) (h0 : 0 ≤ k ∧ k ≤ 100000) (h1 : 0 ≤ i ∧ i ≤ 1000000) :
    Calls Tryz.prog 26 #[.int .i64 k, .int .i64 i] w fun e w' => e = .returned (.agg #[.int .u8 0, .int .i64 0, .int .i64 0, .int .i64 (mkI k i), .int .i64 0, .bool false]) ∧ Below w.heap.size w w' := by
  have CM := Lib.hid (fun W => mark_any k i W h0 h1)
  go_enter Tryz.func26, Tryz.ntmps26
  go_wp2_with (refine (CM.out _).mono ?_; rintro e w1 ⟨rfl, rfl⟩)
  refine bodyPost_ret (results_cell_row rfl _ _ w.heap.size 26 #[.int .u8 0, .int .i64 0, .int .i64 0, .int .i64 (mkI k i), .int .i64 0, .bool false] (0, 0) _ rfl (World.alloc_heap_new w _) Tryz.underlying26 rfl (by kernel_rfl)) rfl ?_
  exact ⟨rfl, (Below.refl _ _).alloc (Nat.le_refl _) _⟩

/-- Filings that an append may read. -/
def FSrc (W : World) (p : Option Addr) (m : List Fl) : Prop :=
  (p = none ∧ m = []) ∨ ∃ ad : Addr, p = some ad ∧ ∀ j u, (fflat m)[j]? = some u → W.cell? (ad.add j) = some u
theorem fl_add (b off j : Nat) : (⟨b, off, none⟩ : Addr).add j = ⟨b, off + j, none⟩ := by unfold Addr.add; split <;> simp_all
theorem FCells.news {w : World} {b off : Nat} {l : List Fl} (h : FCells w (some ⟨b, off, none⟩) l) : ∀ j u, (fflat l)[j]? = some u → w.cell? ((⟨b, off, none⟩ : Addr).add j) = some u := by
  intro j u hj
  rw [fl_add]
  have hjl : j < l.length * 6 := by
    have := (List.getElem?_eq_some_iff.1 hj).1
    rwa [fflat_length] at this
  have hi : j / 6 < l.length := by omega
  obtain ⟨b', off', e, c0, c1, c2, c3, c4, c5⟩ := h.at (j / 6) hi
  cases e
  have e1 := fflat_get l (j / 6) (j % 6) hi (by omega)
  rw [show j / 6 * 6 + j % 6 = j by omega, hj] at e1
  have e2 : off + j = off + j / 6 * 6 + j % 6 := by omega
  rw [e2]
  rcases (show j % 6 = 0 ∨ j % 6 = 1 ∨ j % 6 = 2 ∨ j % 6 = 3 ∨ j % 6 = 4 ∨ j % 6 = 5 by omega) with e3 | e3 | e3 | e3 | e3 | e3 <;> rw [e3] at e1 ⊢ <;> simp [flRow] at e1 <;> subst e1
  · exact c0
  · exact c1
  · exact c2
  · exact c3
  · exact c4
  · exact c5
theorem fsrc_of {W : World} {p : Option Addr} {m : List Fl} (h : FCells W p m) : FSrc W p m := by
  by_cases h0 : m = []
  · subst h0
    cases p with
    | none => exact .inl ⟨rfl, rfl⟩
    | some ad => exact .inr ⟨ad, rfl, fun j u hj => by simp [fflat] at hj⟩
  · obtain ⟨b, off, rfl, hc⟩ := h.resolve_left h0
    exact .inr ⟨_, rfl, FCells.news (.inr ⟨b, off, rfl, hc⟩)⟩
theorem fflat_cell (l : List Fl) : ∀ u ∈ fflat l, u.oneCell' = true := by
  intro u hu
  unfold fflat at hu
  obtain ⟨f, _, hf⟩ := List.mem_flatMap.1 hu
  exact flRow_cell f u hf
theorem fsrc_mark (W : World) (z : Int) : FSrc (W.alloc (.cells #[.int .u8 0, .int .i64 0, .int .i64 0, .int .i64 z, .int .i64 0, .bool false] 26)) (some ⟨W.heap.size, 0, none⟩) [⟨0, 0, 0, z, 0, false⟩] :=
  .inr ⟨_, rfl, by
    have := fcell_six W ⟨0, 0, 0, z, 0, false⟩ _ rfl
    simpa [fflat] using this⟩

theorem runF_append_none (w : World) (base : Nat) (v : Value) (l : List Fl) (hown : FOwns w base v l) (c : Nat) :
    (Builtin.append_ #[22, 22] 22 #[v, .slice none 0 c]).run Tryz.prog w = .ok v w := by
  obtain ⟨i0, hi0, hz0, hz1, hz2⟩ := info_parts info_filing
  rcases hown.2 with ⟨rfl, h0⟩ | ⟨g, cap, cur, rfl, _, _, hnc, _⟩
  · simp [Builtin.append_, run_underlying (P := Tryz.prog) Tryz.underlying22, sizeOf, typeInfo, hi0, Builtin.lenOf, Builtin.firstCells]
  · simp [Builtin.append_, run_underlying (P := Tryz.prog) Tryz.underlying22, sizeOf, typeInfo, hi0, Builtin.lenOf, Builtin.firstCells, hnc, storeCells]

theorem runF_append_arg (w : World) (base : Nat) (v : Value) (l : List Fl) (hown : FOwns w base v l) (p : Option Addr) (c : Nat) (m : List Fl) (hs : FSrc w p m) (hN : l.length + m.length ≤ 200000) (hbase : base ≤ w.heap.size) :
    ∃ v' w', (Builtin.append_ #[22, 22] 22 #[v, .slice p m.length c]).run Tryz.prog w = .ok v' w' ∧ FOwns w' base v' (l ++ m) ∧ w.grownBy w' v.ownBlock ∧ (v'.ownBlock = v.ownBlock ∨ v'.ownBlock = some w.heap.size) := by
  obtain ⟨i0, hi0, hz0, hz1, hz2⟩ := info_parts info_filing
  rcases hs with ⟨rfl, rfl⟩ | ⟨ad, rfl, hc⟩
  · exact ⟨v, w, runF_append_none w base v l hown c, by rw [List.append_nil]; exact hown, World.grownBy.refl w _, .inl rfl⟩
  · obtain ⟨v', w', h1, h2, h3, _, h5⟩ := run_append_own_at (P := Tryz.prog) w base 22 22 26 i0 _ 6 48 Tryz.underlying22 hi0 hz0 hz1 hz2 rfl (by omega) v l.length (fflat l) hown ad m.length c (fflat m) (fflat_length m) hc (fflat_cell m) (by simp only [maxLen]; omega) (by omega) hbase
    refine ⟨v', w', h1, ?_, h3, h5⟩
    unfold FOwns
    rw [fflat_append, List.length_append]
    exact h2

theorem wpF_append_arg {o : Oper} {a : Act} {K : Act → World → Prop} {Q : Exit → Act → World → Prop} (w : World) (s x : Operand)
    (ho : o.op = .call { callee := .builtin .append, args := #[s, x], argTypes := #[22, 22] }) (hty : o.type = 22)
    (base : Nat) (v : Value) (l : List Fl) (hs : a.eval s = v) (hown : FOwns w base v l) (p : Option Addr) (n c : Nat) (m : List Fl) (hn : m.length = n) (hx : a.eval x = .slice p n c) (hsr : FSrc w p m) (hN : l.length + m.length ≤ 200000) (hbase : base ≤ w.heap.size)
    (h : ∀ v' w', FOwns w' base v' (l ++ m) → w.grownBy w' v.ownBlock → (v'.ownBlock = v.ownBlock ∨ v'.ownBlock = some w.heap.size) → K (a.put o.dst v') w') : o.wp Tryz.prog a w K Q := by
  subst hn
  obtain ⟨v', w', hr, h2, h3, h4⟩ := runF_append_arg w base v l hown p c m hsr hN hbase
  unfold Oper.wp execOp
  simp only [ho, hty, resolve, invoke, builtin, Sem.run_bind, Sem.run_pure, Result.andThen_ok, List.map_toArray, List.map_cons, List.map_nil, hs, hx, hr]
  exact h v' w' h2 h3 h4

theorem FOwns.below_row {W w1 w : World} {base : Nat} {v : Value} {l : List Fl} (h : FOwns W base v l) (hb : Below w.heap.size w W) (hbase : w.heap.size ≤ base) (hg : W.grownBy w1 v.ownBlock) : Below w.heap.size w w1 :=
  hb.grown hg hb.size fun j ej => by
    rcases h.2 with ⟨rfl, _⟩ | ⟨g, cap, cur, rfl, hb, _, _⟩
    · simp [Value.ownBlock] at ej
    · obtain rfl : g = j := by simpa [Value.ownBlock] using ej
      omega
theorem FOwns.later {W W' : World} {base : Nat} {v : Value} {l : List Fl} (h : FOwns W base v l) (hb : Below W.heap.size W W') : FOwns W' base v l := ownsRow_later h hb

def mkF (z : Int) : Fl := ⟨0, 0, 0, z, 0, false⟩
def mksF : List Fl := (List.range 12).map fun (i : Nat) => mkF (mkI 1 (i : Int))
theorem mksF_len : mksF.length = 12 := by simp [mksF]
theorem mksF_get (i : Nat) (h : i < mksF.length) : mksF[i] = mkF (mkI 1 (i : Int)) := by simp [mksF]

set_option maxHeartbeats 2000000 in
set_option maxRecDepth 100000 in
theorem lentF_any (l : List Fl) (p : Option Addr) (cap : Nat) (w : World) (hl : l.length ≤ 100000) (hc : FCells w p l) :
    Calls Tryz.prog 11 #[.slice p l.length cap] w fun e w' => ∃ g c, e = .returned (.slice (some ⟨g, 0, none⟩) l.length c) ∧ l.length + 12 ≤ c ∧ w.heap.size ≤ g ∧
      FOwns w' w.heap.size (.slice (some ⟨g, 0, none⟩) (l.length + 12) c) (l ++ mksF) ∧ Below w.heap.size w w' := by
  have HC := Lib.hid hc; clear hc
  obtain ⟨i0, hi0, hz0, hz1, hz2⟩ := info_parts info_filing
  have hz2' : i0.bytes * (l.length + 12) ≤ 281474976710656 := by rw [hz2]; omega
  go_enter Tryz.func11, Tryz.ntmps11
  go_wp2_with (first | (at_make; refine wpList_make_own _ rfl _ _ 22 rfl w.heap.size 26 i0 (.agg #[.int .u8 0, .int .i64 0, .int .i64 0, .int .i64 0, .int .i64 0, .bool false]) 6 Tryz.underlying22 hi0 hz0 hz1 .i64 .i64 _ (l.length + 12) rfl rfl (by omega) hz2' (by unfold maxLen; omega) (Nat.le_refl _) ?_; intro w1 hown1 hgrow1; have O1 : FOwns w1 w.heap.size (.slice (some ⟨w.heap.size, 0, none⟩) 0 (l.length + 12)) [] := hown1; have b1 : Below w.heap.size w w1 := (Below.refl w.heap.size w).grown hgrow1 (Nat.le_refl _) (fun k hk => by cases hk); have HS := Lib.hid (fsrc_of (HC.out.below b1)); clear hown1 hgrow1) | (at_builtin; refine wpList_plain rfl fun KK hKK => ?_; refine wpF_append_arg _ _ _ rfl rfl w.heap.size _ [] rfl O1 p l.length cap l rfl rfl HS.out (by simp; omega) b1.size ?_; intro v2 w2 hown2 hgrow2 _; refine hKK _ _ ?_; clear hKK) | fail)
  have b2 := O1.below_row b1 (Nat.le_refl _) hgrow2
  have O2 := Lib.hid (show FOwns w2 w.heap.size v2 l from hown2)
  clear hown2 hgrow2 HS O1 b1
  go_loopw [4, 3] (fun i u wr => ∃ (k : Nat) (v : Value), k ≤ 12 ∧ i = .int .i64 k ∧ v = u ∧ Hid (FOwns wr w.heap.size v (l ++ mksF.take k)) ∧ Below w.heap.size w wr) (fun i _ _ => 12 - (intOf i).toNat)
  case atStart => exact ⟨0, _, by omega, rfl, rfl, Lib.hid (by rw [List.take_zero, List.append_nil]; exact O2.out), b2⟩
  case round =>
    obtain ⟨k, v, hk, rfl, rfl, hI, hb⟩ := hrel
    by_cases hlt : k < 12
    · have CM := Lib.hid (fun W => markFiling_any 1 (k : Int) W (by omega) (by omega))
      obtain ⟨z, hz⟩ : ∃ z, z = mkI 1 (k : Int) := ⟨_, rfl⟩
      rw [← hz] at CM
      have hst := Lib.hid (show l ++ mksF.take (k + 1) = (l ++ mksF.take k) ++ [⟨0, 0, 0, z, 0, false⟩] by
        rw [List.take_succ_eq_append_getElem (by rw [mksF_len]; exact hlt), mksF_get, List.append_assoc, ← hz]; rfl)
      have hlen : (l ++ mksF.take k).length = l.length + k := by rw [List.length_append, List.length_take, mksF_len]; omega
      clear hz
      go_wp2_with fail
      refine (CM.out _).mono ?_
      rintro e W1 ⟨rfl, hb1⟩
      have B1 := hb.trans (hb1.mono hb.size)
      have O3 := Lib.hid (hI.out.later hb1)
      clear hb1 hI
      go_wp2_with (first | (at_builtin; refine wpList_plain rfl fun KK hKK => ?_; refine wpF_append_arg _ _ _ rfl rfl w.heap.size _ (l ++ mksF.take k) rfl (World.ownsRow.alloc O3.out _) (some ⟨W1.heap.size, 0, none⟩) 1 1 [⟨0, 0, 0, z, 0, false⟩] rfl rfl (fsrc_mark W1 z) (by simp; omega) (by simp; exact Nat.le_succ_of_le B1.size) ?_; intro v2 w2 hown2 hgrow2 _; refine hKK _ _ ?_; clear hKK) | fail)
      go_roundw
      case rel => exact ⟨k + 1, _, by omega, by go_num, rfl, Lib.hid (by rw [hst.out]; exact hown2), (show FOwns (W1.alloc _) w.heap.size v _ from World.ownsRow.alloc O3.out _).below_row (B1.alloc B1.size _) (Nat.le_refl _) hgrow2⟩
      case measure => simp [intOf]; omega
    · obtain rfl : k = 12 := by omega
      rw [show mksF.take 12 = mksF from List.take_of_length_le (by rw [mksF_len]; exact Nat.le_refl _)] at hI
      obtain ⟨g, c, rfl, hg, hc⟩ : ∃ g c, v = .slice (some ⟨g, 0, none⟩) (l.length + 12) c ∧ w.heap.size ≤ g ∧ l.length + 12 ≤ c := by
        have hlen : (l ++ mksF).length = l.length + 12 := by rw [List.length_append, mksF_len]
        rcases hI.out.2 with ⟨_, h0⟩ | ⟨g, c, cur, rfl, hg, _, hc, _⟩
        · omega
        · exact ⟨g, c, by rw [hlen], hg, by omega⟩
      go_wp2
      go_ret
      exact ⟨g, c, rfl, hc, hg, hI.out, hb⟩

set_option maxHeartbeats 4000000 in
set_option maxRecDepth 100000 in
theorem keptF_any (l : List Fl) (g c n : Nat) (p : Option Addr) (cap : Nat) (w : World) (base : Nat) (hn : l.length = n) (hl : n ≤ 100000) (hg : FOwns w base (.slice (some ⟨g, 0, none⟩) (n + 12) c) (l ++ mksF)) (h12 : n + 12 ≤ c) (hc : FCells w p l) :
    Calls Tryz.prog 17 #[.slice (some ⟨g, 0, none⟩) n c, .slice p n cap] w fun e w' => e = .returned (.bool true) ∧ Below w.heap.size w w' := by
  subst hn
  have HC := Lib.hid hc
  have HG : Hid (FCells w (some ⟨g, 0, none⟩) (l ++ mksF)) := by
    obtain ⟨q, d, e, h⟩ := hg.form
    injection e with e1 _ _
    subst e1
    exact Lib.hid h
  have hlen := Lib.hid (show (l ++ mksF).length = l.length + 12 by rw [List.length_append, mksF_len])
  clear hc hg
  have s0 : (0 : Int) ≤ (l.length : Int) + 12 := by omega
  have s1 : (l.length : Int) + 12 ≤ (c : Int) := by omega
  go_enter Tryz.func17, Tryz.ntmps17
  go_wp2
  go_loopw [6] (fun i wr => ∃ k : Nat, k ≤ l.length + 12 ∧ i = .int .i64 k ∧ Below w.heap.size w wr) (fun i _ => l.length + 12 - (intOf i).toNat)
  case atStart => exact ⟨0, by omega, rfl, Below.refl _ _⟩
  case round =>
    obtain ⟨k, hk, rfl, hb⟩ := hrel
    by_cases hlt : k < l.length + 12
    · obtain ⟨b, off, he, c0, c1, c2, c3, c4, c5⟩ := (HG.out.below hb).at k (by have := hlen.out; omega)
      cases he
      rw [Nat.zero_add] at c0 c1 c2 c3 c4 c5
      have k0 : (0 : Int) ≤ (k : Int) := by omega
      have k1 : (k : Int) < (l.length : Int) + 12 := by omega
      by_cases hkl : k < l.length
      · obtain ⟨b', off', rfl, d0, d1, d2, d3, d4, d5⟩ := (HC.out.below hb).at k hkl
        rw [List.getElem_append_left hkl] at c0 c1 c2 c3 c4 c5
        obtain ⟨f, hf⟩ : ∃ f, f = l[k] := ⟨_, rfl⟩
        rw [← hf] at c0 c1 c2 c3 c4 c5 d0 d1 d2 d3 d4 d5
        obtain ⟨f0, f1, f2, f3, f4, f5⟩ := f
        dsimp only at c0 c1 c2 c3 c4 c5 d0 d1 d2 d3 d4 d5
        have k2 : (k : Int) < (l.length : Int) := by omega
        have k3 : decide ((l.length : Int) ≤ (k : Int)) = false := decide_eq_false (by omega)
        have k4 : decide (l.length ≤ k) = false := decide_eq_false (by omega)
        clear hf
        go_wp2_with fail
        refine wp_region_laterS (fun W => W.cell? ⟨g, k * 6, none⟩ = some (.int .u8 f0) ∧ W.cell? ⟨g, k * 6 + 1, none⟩ = some (.int .i64 f1) ∧ W.cell? ⟨g, k * 6 + 2, none⟩ = some (.int .i64 f2) ∧ W.cell? ⟨g, k * 6 + 3, none⟩ = some (.int .i64 f3) ∧ W.cell? ⟨g, k * 6 + 4, none⟩ = some (.int .i64 f4) ∧ W.cell? ⟨g, k * 6 + 5, none⟩ = some (.bool f5) ∧ W.cell? ⟨b', off' + k * 6, none⟩ = some (.int .u8 f0) ∧ W.cell? ⟨b', off' + k * 6 + 1, none⟩ = some (.int .i64 f1) ∧ W.cell? ⟨b', off' + k * 6 + 2, none⟩ = some (.int .i64 f2) ∧ W.cell? ⟨b', off' + k * 6 + 3, none⟩ = some (.int .i64 f3) ∧ W.cell? ⟨b', off' + k * 6 + 4, none⟩ = some (.int .i64 f4) ∧ W.cell? ⟨b', off' + k * 6 + 5, none⟩ = some (.bool f5) ∧ Hid (Below w.heap.size w W)) (by kernel_rfl) (by kernel_rfl) (fun p => ⟨p.cell _ _ c0, p.cell _ _ c1, p.cell _ _ c2, p.cell _ _ c3, p.cell _ _ c4, p.cell _ _ c5, p.cell _ _ d0, p.cell _ _ d1, p.cell _ _ d2, p.cell _ _ d3, p.cell _ _ d4, p.cell _ _ d5, p.since hb⟩) ?_
        intro hS
        repeat (go_big_quiet_step (fail))
        refine wpQuiet_nil ?_
        rintro _ ⟨q, rfl⟩
        have B1 := (hS q).2.2.2.2.2.2.2.2.2.2.2.2
        clear hS
        go_wp2
        go_roundw
        case rel => exact ⟨k + 1, by omega, by go_num, B1.out⟩
        case measure => simp [intOf]; omega
      · have hx : (l ++ mksF)[k]'(by have := hlen.out; omega) = mkF (mkI 1 ((k : Int) - (l.length : Int))) := by
          rw [List.getElem_append_right (by omega), mksF_get, show ((k - l.length : Nat) : Int) = (k : Int) - (l.length : Int) by omega]
        rw [hx] at c0 c1 c2 c3 c4 c5
        unfold mkF at c0 c1 c2 c3 c4 c5
        dsimp only at c0 c1 c2 c3 c4 c5
        have CM := Lib.hid (fun W => markFiling_any 1 ((k : Int) - (l.length : Int)) W (by omega) (by omega))
        clear hx
        generalize mkI 1 ((k : Int) - (l.length : Int)) = z at c3 CM
        have k2 : (l.length : Int) ≤ (k : Int) := by omega
        have k3 : decide ((k : Int) < (l.length : Int)) = false := decide_eq_false (by omega)
        have k4 : decide (k < l.length) = false := decide_eq_false (by omega)
        go_wp2_with fail
        refine wp_region_laterS (fun W => W.cell? ⟨g, k * 6, none⟩ = some (.int .u8 0) ∧ W.cell? ⟨g, k * 6 + 1, none⟩ = some (.int .i64 0) ∧ W.cell? ⟨g, k * 6 + 2, none⟩ = some (.int .i64 0) ∧ W.cell? ⟨g, k * 6 + 3, none⟩ = some (.int .i64 z) ∧ W.cell? ⟨g, k * 6 + 4, none⟩ = some (.int .i64 0) ∧ W.cell? ⟨g, k * 6 + 5, none⟩ = some (.bool false) ∧ Hid (Below w.heap.size w W)) (by kernel_rfl) (by kernel_rfl) (fun p => ⟨p.cell _ _ c0, p.cell _ _ c1, p.cell _ _ c2, p.cell _ _ c3, p.cell _ _ c4, p.cell _ _ c5, p.since hb⟩) ?_
        intro hS
        repeat (go_big_quiet_step ((go_at_call 26; exact Later.call (CM.out _))))
        refine wpQuiet_nil ?_
        rintro _ ⟨q, rfl⟩
        have B1 := (hS q).2.2.2.2.2.2
        clear hS
        go_wp2
        go_roundw
        case rel => exact ⟨k + 1, by omega, by go_num, B1.out⟩
        case measure => simp [intOf]; omega
    · go_wp2
      go_ret
      exact ⟨rfl, hb⟩

end Go.Proofs.YtbpoedopdnjffaaGreat
