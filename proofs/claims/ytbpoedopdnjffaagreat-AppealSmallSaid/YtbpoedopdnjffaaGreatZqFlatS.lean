/- The kit's flatSpans at some slices in memory of their own. -/
import Derived.Test.YtbpoedopdnjffaaGreatZqApC
import Derived.Deep.RegionHeld3
import Derived.Laws.OwnMore
namespace Go.Proofs.YtbpoedopdnjffaaGreat
open Go.RowKit Go.Shelf Sp

theorem quiet_eql_span {C : World → Prop} {K : Act → Prop} {a : Act} {o : Oper} (x y : Operand) (z u : Int) (h : o.op = .binOp .eql 54 x y 54) (hx : a.eval x = .agg #[.int .i64 z, .int .i64 u]) (hy : a.eval y = .agg #[.int .i64 z, .int .i64 u])
    (hk : K (a.put o.dst (.bool true))) : o.quiet Tryz.prog a C K := by
  refine ⟨_, fun w _ => ?_, hk⟩
  unfold Oper.quietAt execOp
  simp only [h, hx, hy]
  simp [go_sem, Oper.quietUpon]


abbrev apI (N : Nat) (w : World) (base : Nat) (S : Nat → Prop) (V : Nat → Value) (n : Nat → Nat) (W : World) (l : Nat → Sps) : Prop := ApI w base S N 54 2 V n W (fun j => flat (l j))
/-- Slice j's grown slice holds its marks and m more. -/
def qG (n : Nat → Nat) (j m : Nat) (ys : List Value) : Prop := m = n j + 64 ∧ ys = flat (mS j (n j + 64))
def qM (n : Nat → Nat) (j m : Nat) (ys : List Value) : Prop := ∃ t, m = n j + 64 ∧ ys = flat (mS j (n j) ++ t) ∧ (mS j (n j) ++ t).length = m
abbrev apG (N : Nat) (w : World) (base : Nat) (V : Nat → Value) (G : Nat) (Q : Nat → Nat → List Value → Prop) (L : Nat) (W : World) (H : Nat → Value) (k : Nat) : Prop := ApG w base N 54 2 V G 50 Q L W H k

theorem flat_set (l : Sps) (i : Nat) (s : Int × Int) : ((flat l).set (i * 2) (.int .i64 s.1)).set (i * 2 + 1) (.int .i64 s.2) = flat (l.set i s) := by
  induction l generalizing i with
  | nil => rfl
  | cons x l ih =>
    cases i with
    | zero => rfl
    | succ i =>
      rw [show (i + 1) * 2 = i * 2 + 1 + 1 by omega, flat_cons]
      simp only [List.set_cons_succ]
      rw [ih]
      rfl
theorem take_set_next (l : Sps) (i : Nat) (s : Int × Int) (h : i < l.length) : (l.set i s).take (i + 1) = l.take i ++ [s] := by
  rw [List.take_succ_eq_append_getElem (by rw [List.length_set]; exact h), List.take_set_of_le (Nat.le_refl _), List.getElem_set_self]
theorem flat_half {l : Sps} {m : Nat} (h : (flat l).length = m * 2) : l.length = m := by rw [flat_length] at h; omega

theorem ApI.len {N : Nat} {w : World} {base : Nat} {S : Nat → Prop} {V : Nat → Value} {n : Nat → Nat} {W : World} {l : Nat → Sps} (h : apI N w base S V n W l) {j : Nat} (hj : j < N) : (l j).length = n j := flat_half (h.own j hj).1
theorem ApI.owns {N : Nat} {w : World} {base : Nat} {S : Nat → Prop} {V : Nat → Value} {n : Nat → Nat} {W : World} {l : Nat → Sps} (h : apI N w base S V n W l) {j : Nat} (hj : j < N) : Owns W base (V j) (l j) := by
  have := h.own j hj; unfold Owns; rw [h.len hj]; exact this
theorem ApI.form {N : Nat} {w : World} {base : Nat} {S : Nat → Prop} {V : Nat → Value} {n : Nat → Nat} {W : World} {l : Nat → Sps} (h : apI N w base S V n W l) {j : Nat} (hj : j < N) : ∃ p cap, V j = .slice p (n j) cap ∧ (0 < n j → ∃ g, p = some ⟨g, 0, none⟩) := by
  rcases (h.own j hj).2 with ⟨e, h0⟩ | ⟨g, cap, cur, e, _⟩
  · exact ⟨none, 0, by rw [e, h0], fun h => by omega⟩
  · exact ⟨_, _, e, fun _ => ⟨g, rfl⟩⟩

/-- A store of a whole span into slice k. -/
theorem ApI.storeTwo {N : Nat} {w : World} {base : Nat} {S : Nat → Prop} {V : Nat → Value} {n : Nat → Nat} {W : World} {l : Nat → Sps} (hC : ApC w base S N V) (h : apI N w base S V n W l) {k : Nat} (hk : k < N) {g m cap : Nat} (hv : V k = .slice (some ⟨g, 0, none⟩) m cap) (hm : n k = m) (i : Nat) (x y : Int) :
    apI N w base S V n ((W.setCell ⟨g, i * 2, none⟩ (.int .i64 x)).setCell ⟨g, i * 2 + 1, none⟩ (.int .i64 y)) (fun j => if j = k then (l k).set i (x, y) else l j) := by
  have h1 := (ApI.store hC h hk hv hm (i * 2) (.int .i64 x)).store hC hk hv hm (i * 2 + 1) (.int .i64 y)
  have e : (fun j => flat (if j = k then (l k).set i (x, y) else l j)) = (fun j => if j = k then (if k = k then (flat (l k)).set (i * 2) (.int .i64 x) else flat (l k)).set (i * 2 + 1) (.int .i64 y) else if j = k then (flat (l k)).set (i * 2) (.int .i64 x) else flat (l j)) := by
    funext j
    by_cases hj : j = k
    · subst hj
      rw [if_pos rfl, if_pos rfl, if_pos rfl, ← flat_set]
    · rw [if_neg hj, if_neg hj, if_neg hj]
  show ApI w base S N _ 2 V n _ _
  rw [e]
  exact h1

/-- Where slice k's span number i lies. -/
theorem ApI.spot {N : Nat} {w : World} {base : Nat} {S : Nat → Prop} {V : Nat → Value} {n : Nat → Nat} {W : World} {l : Nat → Sps} (h : apI N w base S V n W l) {k : Nat} (hk : k < N) {g m cap : Nat} (hv : V k = .slice (some ⟨g, 0, none⟩) m cap) (hm : m = n k) {i : Nat} (hi : i < m) :
    ∃ u0 u1, W.cell? ⟨g, i * 2, none⟩ = some u0 ∧ W.cell? ⟨g, i * 2 + 1, none⟩ = some u1 ∧ W.frozen? ⟨g, i * 2, none⟩ = false ∧ W.frozen? ⟨g, i * 2 + 1, none⟩ = false := by
  have o := h.own k hk
  rw [hv, ← hm] at o
  have q0 := o.cellAt (i * 2) (by omega)
  have q1 := o.cellAt (i * 2 + 1) (by omega)
  have fl := o.1
  rw [List.getElem?_eq_getElem (by omega)] at q0 q1
  exact ⟨_, _, q0, q1, o.frozenAt _, o.frozenAt _⟩
theorem Below.undrew {W W1 : World} (h : Below W.drew.heap.size W.drew W1) : Below W.heap.size W W1 := ⟨h.os, h.tape, h.output, h.size, h.block⟩
theorem World.setCell_size' (W : World) (a : Addr) (v : Value) : (W.setCell a v).heap.size = W.heap.size := by simp
theorem grown_span {W : World} {base : Nat} {v : Value} {m : Nat} {xs : List Value} (h : W.ownsRow base 54 2 v m xs) (hm : 0 < m) : ∃ g cap, v = .slice (some ⟨g, 0, none⟩) m cap := by
  rcases h.2 with ⟨_, h0⟩ | ⟨g, cap, _, rfl, _⟩
  · omega
  · exact ⟨g, cap, rfl⟩
theorem flat_cells2 (W : World) (x y : Int) (t : TypeId) (k : Nat) (hk : W.heap.size = k) : ∀ j u, [Value.int .i64 x, Value.int .i64 y][j]? = some u → (W.alloc (.cells #[.int .i64 x, .int .i64 y] t)).cell? ((⟨k, 0, none⟩ : Addr).add j) = some u := by
  subst hk
  intro j u hj
  rw [WideShapes.add_plain]
  match j, hj with
  | 0, hj => simp at hj; subst hj; simp
  | 1, hj => simp at hj; subst hj; simp

theorem wpList_make_fullS {P : Program} (w : World) {ops : Array Oper} {rest : List Oper} {o : Oper} {a : Act} {Q : Exit → Act → World → Prop} (hg : o.guard = none) (l c : Operand) (t : TypeId) (hop : o.op = Op.makeSlice t l c)
    (base : Nat) (e : TypeId) (i : TypeInfo) (z : Value) (size : Nat) (ht : P.underlying t = some (.slice e)) (hi : P.info? e = some i) (hz : i.zero = some z) (hsize : i.size = size)
    (kl kc : IntKind) (n : Nat) (hl : a.eval l = .int kl (n : Int)) (hc : a.eval c = .int kc (n : Int)) (hbytes : i.bytes * n ≤ 281474976710656) (h63 : n ≤ maxLen) (hbase : base ≤ w.heap.size)
    (h : ∀ w', w'.ownsRow base e size (.slice (some ⟨w.heap.size, 0, none⟩) n n) n (madeCells z.cells (n * size)).toList → w.grownBy w' none → wpList P ops Q rest (a.put o.dst (.slice (some ⟨w.heap.size, 0, none⟩) n n)) w') : wpList P ops Q (o :: rest) a w := by
  refine wpList_plain hg fun K hK => ?_
  obtain ⟨w', hr, h2, h3⟩ := run_make_full (P := P) w base t e i z size ht hi hz hsize kl kc n hbytes h63 hbase
  unfold Oper.wp execOp
  simp only [hop, Sem.run_bind, Sem.run_pure, Result.andThen_ok, hl, hc, hr]
  exact hK _ _ (h w' h2 h3)
def zero64 : Sps := List.replicate 64 (0, 0)
theorem zero64_flat : (madeCells (Value.agg #[.int .i64 0, .int .i64 0]).cells (64 * 2)).toList = flat zero64 := by
  apply List.ext_getElem?
  intro j
  have hl : zero64.length = 64 := by simp [zero64]
  by_cases hj : j < 128
  · have h2 := flat_get zero64 (j / 2) (by omega)
    have hz : zero64[j / 2]'(by omega) = (0, 0) := by unfold zero64; exact List.getElem_replicate _
    rw [hz] at h2
    rcases Nat.mod_two_eq_zero_or_one j with e | e
    · rw [show (flat zero64)[j]? = (flat zero64)[j / 2 * 2]? by congr 1; omega, h2.1]
      simp [madeCells, Value.cells, hj, e]
    · rw [show (flat zero64)[j]? = (flat zero64)[j / 2 * 2 + 1]? by congr 1; omega, h2.2]
      simp [madeCells, Value.cells, hj, e]
  · rw [List.getElem?_eq_none (l := flat zero64) (by rw [flat_length, hl]; omega), List.getElem?_eq_none (by simp [madeCells]; omega)]
theorem Owns.storeTwo {W : World} {base g m c : Nat} {q : Sps} (h : Owns W base (.slice (some ⟨g, 0, none⟩) m c) q) (hm : q.length = m) (i : Nat) (x y : Int) :
    Owns ((W.setCell ⟨g, i * 2, none⟩ (.int .i64 x)).setCell ⟨g, i * 2 + 1, none⟩ (.int .i64 y)) base (.slice (some ⟨g, 0, none⟩) m c) (q.set i (x, y)) ∧
      W.grownBy ((W.setCell ⟨g, i * 2, none⟩ (.int .i64 x)).setCell ⟨g, i * 2 + 1, none⟩ (.int .i64 y)) (some g) := by
  unfold Owns at h ⊢
  rw [hm] at h
  obtain ⟨h1, g1⟩ := h.stored (i * 2) (.int .i64 x)
  obtain ⟨h2, g2⟩ := h1.stored (i * 2 + 1) (.int .i64 y)
  rw [List.length_set, hm]
  refine ⟨?_, ⟨g2.os.trans g1.os, g2.tape.trans g1.tape, g2.output.trans g1.output, Nat.le_trans g1.size g2.size, fun k hk hne => (g2.block k (Nat.lt_of_lt_of_le hk g1.size) hne).trans (g1.block k hk hne)⟩⟩
  have := flat_set q i (x, y)
  dsimp only at this
  rw [← this]
  exact h2
theorem Owns.spotTwo {W : World} {base g m c : Nat} {q : Sps} (h : Owns W base (.slice (some ⟨g, 0, none⟩) m c) q) (hm : q.length = m) {i : Nat} (hi : i < m) :
    ∃ u0 u1, W.cell? ⟨g, i * 2, none⟩ = some u0 ∧ W.cell? ⟨g, i * 2 + 1, none⟩ = some u1 ∧ W.frozen? ⟨g, i * 2, none⟩ = false ∧ W.frozen? ⟨g, i * 2 + 1, none⟩ = false := by
  unfold Owns at h
  rw [hm] at h
  have q0 := h.cellAt (i * 2) (by omega)
  have q1 := h.cellAt (i * 2 + 1) (by omega)
  have fl := h.1
  rw [List.getElem?_eq_getElem (by omega)] at q0 q1
  exact ⟨_, _, q0, q1, h.frozenAt _, h.frozenAt _⟩
/-- The cells of a slice of marks. -/
theorem cells_mark2 {W : World} {base g m c k i n : Nat} {t : Sps} (h : Owns W base (.slice (some ⟨g, 0, none⟩) m c) (mS k n ++ t)) (hi : i < n) :
    g < W.heap.size ∧ W.cell? ⟨g, i * 2, none⟩ = some (.int .i64 (mkI (k : Int) (i : Int))) ∧ W.cell? ⟨g, i * 2 + 1, none⟩ = some (.int .i64 0) := by
  obtain ⟨q, d, e, hc⟩ := h.form
  injection e with e1 _ _
  subst e1
  obtain ⟨b, off, he, hb, x, y, hxy, c1, c2⟩ := hc.at i (by rw [List.length_append, mS_len]; omega)
  cases he
  rw [List.getElem_append_left (by rw [mS_len]; exact hi), mS_get] at hxy
  cases hxy
  rw [Nat.zero_add] at c1 c2
  exact ⟨hb, c1, c2⟩
theorem cells_mark {W : World} {base g m c k i : Nat} (h : Owns W base (.slice (some ⟨g, 0, none⟩) m c) (mS k m)) (hi : i < m) :
    g < W.heap.size ∧ W.cell? ⟨g, i * 2, none⟩ = some (.int .i64 (mkI (k : Int) (i : Int))) ∧ W.cell? ⟨g, i * 2 + 1, none⟩ = some (.int .i64 0) := by
  obtain ⟨q, d, e, hc⟩ := h.form
  injection e with e1 _ _
  subst e1
  obtain ⟨b, off, he, hb, x, y, hxy, c1, c2⟩ := hc.at i (by rw [mS_len]; exact hi)
  cases he
  rw [mS_get] at hxy
  cases hxy
  rw [Nat.zero_add] at c1 c2
  exact ⟨hb, c1, c2⟩

set_option maxHeartbeats 4000000 in
set_option maxRecDepth 100000 in
theorem flatSpans_any (N : Nat) (hN : N ≤ 1000) (w : World) (base B c3 : Nat) (S : Nat → Prop) (V : Nat → Value) (n : Nat → Nat) (l0 : Nat → Sps) (hSB : S B) (hC : ApC w base S N V) (hn : ∀ j, j < N → n j ≤ 10000) (hV : ∀ j, j < N → w.cell? ⟨B, j, none⟩ = some (V j)) (h0 : apI N w base S V n w l0) :
    Calls Tryz.prog 64 #[.slice (some ⟨B, 0, none⟩) N c3] w fun e w' => e = .returned (.bool true) ∧ Below base w w' ∧ ∀ X, X < w.heap.size → S X → w'.heap[X]? = w.heap[X]? := by
  have hN0 : (0 : Int) ≤ (N : Int) := by omega
  have hN1 : (N : Int) ≤ 1000 := by omega
  have C := Lib.hid hC
  have SB := Lib.hid hSB
  have HN := Lib.hid hn
  have HV := Lib.hid hV
  have H0 := Lib.hid h0
  obtain ⟨i0, hi0, hz0, hz1, hz2⟩ := info_parts info_span
  have HZ2 := Lib.hid (show i0.bytes * 64 ≤ 281474976710656 by rw [hz2]; omega)
  have hmk : ∀ W : World, (Instr.makeSlice 76 (.int .i64 N) (.int .i64 N)).run Tryz.prog W = .ok (.slice (some ⟨W.heap.size, 0, none⟩) N N) (W.alloc (.cells (madeCells #[.slice none 0 0] N) 50)) := fun W => run_make_row' (P := Tryz.prog) 76 50 (.slice none 0 0) 24 Tryz.underlying76 (by kernel_rfl) rfl .i64 .i64 N (by omega) (by omega) W
  obtain ⟨A, hA⟩ : ∃ A, A = madeCells #[.slice none 0 0] N := ⟨_, rfl⟩
  rw [← hA] at hmk
  have HA := Lib.hid hA
  clear hA hC hn hV h0 hSB
  go_enter Tryz.func64, Tryz.ntmps64
  go_wp2
  go_loopw [3] (fun kv wr => ∃ (k : Nat) (l : Nat → Sps), k ≤ N ∧ kv = .int .i64 k ∧ Hid (apI N w base S V n wr l ∧ ∀ j, j < k → l j = mS j (n j))) (fun kv _ => N - (intOf kv).toNat)
  case atStart => exact ⟨0, l0, by omega, rfl, Lib.hid ⟨H0.out, fun j hj => by omega⟩⟩
  case round =>
    obtain ⟨k, l, hk, rfl, hI⟩ := hrel
    by_cases hlt : k < N
    · obtain ⟨p, cp, hv, hp⟩ := hI.out.1.form hlt
      have hnk := HN.out k hlt
      obtain ⟨m, hm⟩ : ∃ m, m = n k := ⟨_, rfl⟩
      rw [← hm] at hv hp hnk
      have hh := HV.out k hlt
      rw [hv] at hh
      have HH := Lib.hid hh
      have HM := Lib.hid hm
      have HVk := Lib.hid hv
      have HP := Lib.hid hp
      clear hh hm hv hp
      have k0 : (0 : Int) ≤ (k : Int) := by omega
      have k1 : (k : Int) < (N : Int) := by omega
      go_wp2
      go_loopw [4] (fun iv W => ∃ (i : Nat) (l : Nat → Sps), i ≤ m ∧ iv = .int .i64 i ∧ Hid (apI N w base S V n W l ∧ (∀ j, j < k → l j = mS j (n j)) ∧ (l k).take i = mS k i)) (fun iv _ => m - (intOf iv).toNat)
      case atStart => exact ⟨0, l, by omega, rfl, Lib.hid ⟨hI.out.1, hI.out.2, rfl⟩⟩
      case round =>
        obtain ⟨i, l', hi, rfl, hJ⟩ := hrel
        have d0 := hJ.out.1.head SB.out HH.out
        by_cases hlt2 : i < m
        · obtain ⟨g, rfl⟩ := HP.out (by omega)
          have CM := Lib.hid (fun W => markSpan_any (k : Int) (i : Int) W (by omega) (by omega))
          have i0' : (0 : Int) ≤ (i : Int) := by omega
          have i1 : (i : Int) < (m : Int) := by omega
          have gB : g ≠ B := fun e => (C.out.blk k hlt g (by rw [HVk.out]; rfl)).2.2 (by rw [e]; exact SB.out)
          have gB' : B ≠ g := Ne.symm gB
          have Bl : B < wr.heap.size := Nat.lt_of_lt_of_le (World.block_lt_of_cell? w _ HH.out) hJ.out.1.sz
          generalize hz : mkI (k : Int) (i : Int) = z at CM
          have HZ := Lib.hid hz
          clear hz
          go_wp2_with fail
          go_region_held3 (fun w' => w'.cell? ⟨B, k, none⟩ = some (.slice (some ⟨g, 0, none⟩) m cp))
            (first | go_keep | (exact (hb1.cell (p := ⟨B, k, none⟩) (by simpa using Bl)).trans (by simpa using d0)))
            (first | (go_at_call 101; refine (CM.out _).mono ?_; rintro e W1 ⟨rfl, hb1⟩
                      have J1 : Hid (apI N w base S V n W1 l') := Lib.hid (ApI.later (W := wr) C.out hJ.out.1 (Below.undrew hb1))
                      obtain ⟨u0, u1, q0, q1, f0, f1⟩ := J1.out.spot hlt HVk.out HM.out hlt2))
          have J2 := Lib.hid (J1.out.storeTwo C.out hlt HVk.out HM.out.symm i z 0)
          clear J1 hb1 q0 q1 f0 f1
          go_wp2
          go_roundw
          case rel =>
            refine ⟨i + 1, _, by omega, by go_num, Lib.hid ⟨J2.out, fun j hj => ?_, ?_⟩⟩
            · rw [if_neg (by omega)]; exact hJ.out.2.1 j hj
            · rw [if_pos rfl, take_set_next _ _ _ (by rw [hJ.out.1.len hlt, ← HM.out]; exact hlt2), hJ.out.2.2, mS_succ, ← HZ.out]
          case measure => simp [intOf]; omega
        · go_wp2
          go_roundw
          case rel =>
            refine ⟨k + 1, l', by omega, by go_num, Lib.hid ⟨hJ.out.1, fun j hj => ?_⟩⟩
            by_cases hjk : j = k
            · subst hjk
              have h9 := hJ.out.2.2
              rwa [List.take_of_length_le (by rw [hJ.out.1.len hlt, ← HM.out]; omega), show i = m by omega, HM.out] at h9
            · exact hJ.out.2.1 j (by omega)
          case measure => simp [intOf]; omega
    · obtain rfl : N = k := by omega
      have I1 : Hid (apI N w base S V n wr (fun j => mS j (n j))) := Lib.hid ⟨hI.out.1.below, hI.out.1.hd, fun j hj => by have o := hI.out.1.own j hj; rw [hI.out.2 j hj] at o; exact o⟩
      clear hI
      go_wp2
      obtain ⟨G, hG⟩ : ∃ G, wr.heap.size = G := ⟨_, rfl⟩
      have I2 : Hid (apI N w base S V n (wr.alloc (.cells A 50)) (fun j => mS j (n j))) := Lib.hid (ApI.alloc C.out I1.out _)
      have G2 : Hid (apG N w base V G (qG n) (wr.alloc (.cells A 50)).heap.size (wr.alloc (.cells A 50)) (fun _ => .slice none 0 0) 0) := Lib.hid ⟨by rw [← hG, HA.out]; exact World.rowIs_made wr _ N _, fun j hj => by omega, fun j hj => by omega⟩
      have gG : w.heap.size ≤ G := by rw [← hG]; exact I1.out.sz
      rw [hG]
      clear I1 hmk
      go_loopw [6] (fun kv wr => ∃ (k : Nat) (H : Nat → Value), k ≤ N ∧ kv = .int .i64 k ∧ Hid (apI N w base S V n wr (fun j => mS j (n j)) ∧ apG N w base V G (qG n) wr.heap.size wr H k)) (fun kv _ => N - (intOf kv).toNat)
      case atStart => exact ⟨0, _, by omega, rfl, Lib.hid ⟨I2.out, G2.out⟩⟩
      case round =>
        clear I2 G2
        obtain ⟨k, H, hk, rfl, hI⟩ := hrel
        by_cases hlt : k < N
        · obtain ⟨p, cp, hv, -⟩ := hI.out.1.form hlt
          have hnk := HN.out k hlt
          obtain ⟨m, hm⟩ : ∃ m, m = n k := ⟨_, rfl⟩
          rw [← hm] at hv hnk
          have hh := HV.out k hlt
          rw [hv] at hh
          have c0 := hI.out.1.head SB.out hh
          have o0 := hI.out.1.own k hlt
          rw [hv, ← hm] at o0
          have O0 := Lib.hid o0
          have HH := Lib.hid hh
          have HM := Lib.hid hm
          have HVk := Lib.hid hv
          clear hh hm hv o0
          obtain ⟨L, hL⟩ : ∃ L, L = wr.heap.size := ⟨_, rfl⟩
          have HI2 := Lib.hid hI.out.2
          rw [← hL] at HI2
          have sL : w.heap.size ≤ L := by rw [hL]; exact hI.out.1.sz
          have sL2 : L ≤ wr.heap.size := by omega
          have HI1 := Lib.hid hI.out.1
          clear hI hL
          have k0 : (0 : Int) ≤ (k : Int) := by omega
          have k1 : (k : Int) < (N : Int) := by omega
          go_wp2
          go_loopw [8, 7] (fun iv u W => ∃ (i : Nat) (v : Value), i ≤ 64 ∧ iv = .int .i64 i ∧ v = u ∧ L ≤ W.heap.size ∧ Hid (apI N w base S V n W (fun j => mS j (n j)) ∧ apG N w base V G (qG n) L W H k ∧ W.ownsRow base 54 2 v (m + i) (flat (mS k (m + i))) ∧ ∀ b, v.ownBlock = some b → (V k).ownBlock = some b ∨ L ≤ b)) (fun iv _ _ => 64 - (intOf iv).toNat)
          case atStart => exact ⟨0, _, by omega, rfl, rfl, sL2, Lib.hid ⟨HI1.out, HI2.out, by rw [HM.out]; have := O0.out; rw [HM.out] at this; exact this, fun b hb => by rw [HVk.out]; exact .inl hb⟩⟩
          case round =>
            clear HI1 HI2 O0 c0 sL2
            obtain ⟨i, v, hi, rfl, rfl, sW, hJ⟩ := hrel
            have d0 := hJ.out.1.head SB.out HH.out
            by_cases hlt2 : i < 64
            · have CM := Lib.hid (fun W => markSpan_any (k : Int) ((m : Int) + (i : Int)) W (by omega) (by omega))
              have i0' : (0 : Int) ≤ (i : Int) := by omega
              have i1 : (i : Int) < 64 := by omega
              have ew : IntKind.i64.wrap ((m : Int) + (i : Int)) = (m : Int) + (i : Int) := IntWalk.i64_in _ (by omega)
              generalize hz : mkI (k : Int) ((m : Int) + (i : Int)) = z at CM
              have HZ := Lib.hid hz
              clear hz
              go_wp2_with fail
              refine (CM.out _).mono ?_
              rintro e W1 ⟨rfl, hb1⟩
              have I3 : Hid (apI N w base S V n (W1.alloc (.cells #[.int .i64 z, .int .i64 0] 54)) (fun j => mS j (n j))) := Lib.hid (ApI.alloc C.out (ApI.later (W := wr) C.out hJ.out.1 hb1) _)
              have G3 : Hid (apG N w base V G (qG n) L (W1.alloc (.cells #[.int .i64 z, .int .i64 0] 54)) H k) := Lib.hid (ApG.alloc C.out hk sL (ApG.later (W := wr) C.out hk sL hJ.out.2.1 hb1) _)
              have O3 := Lib.hid ((hJ.out.2.2.1.kept (grown_of_below hb1 none) (by cases v.ownBlock <;> simp)).alloc (.cells #[.int .i64 z, .int .i64 0] 54))
              have F3 := Lib.hid hJ.out.2.2.2
              have s1 : L ≤ W1.heap.size := Nat.le_trans sW hb1.size
              have bW : base ≤ W1.heap.size := Nat.le_trans C.out.bs (by omega)
              clear hJ hb1 d0
              go_wp2_with (first | (at_builtin; refine wpList_append_keep _ rfl _ _ 50 rfl base 54 i0 (.agg #[.int .i64 0, .int .i64 0]) 2 16 Tryz.underlying50 hi0 hz0 hz1 hz2 rfl (by decide) _ _ _ rfl O3.out ⟨W1.heap.size, 0, none⟩ 1 1 [.int .i64 z, .int .i64 0] rfl rfl (flat_cells2 _ _ _ _ _ rfl) (by simp [Value.oneCell']) (by unfold maxLen; omega) (by omega) (by simp; omega) ?_; intro v' w1 hown' hgrow hfrm hkeep) | fail)
              have I4 := Lib.hid (ApI.append C.out I3.out hlt O3.out (fun b hb => (F3.out b hb).imp id fun h => by omega) (by have := HM.out; omega) hgrow hkeep)
              have G4 := Lib.hid (ApG.append C.out hlt sL (by decide) G3.out O3.out F3.out hgrow hkeep)
              have s4 : L ≤ w1.heap.size := by have := hgrow.size; simp at this; omega
              go_roundw
              case rel =>
                refine ⟨i + 1, _, by omega, by go_num, rfl, s4, Lib.hid ⟨I4.out, G4.out, ?_, fun b hb => ?_⟩⟩
                · rw [← Nat.add_assoc, mS_succ, flat_snoc]
                  have : ((m + i : Nat) : Int) = (m : Int) + (i : Int) := by omega
                  rw [this, HZ.out]
                  exact hown'
                · rcases hfrm b hb with h1 | h1
                  · exact F3.out b h1
                  · right; simp at h1; omega
              case measure => simp [intOf]; omega
            · obtain rfl : i = 64 := by omega
              obtain ⟨g, c, rfl⟩ := grown_span hJ.out.2.2.1 (by omega)
              have q0 := hJ.out.2.1.row.cell hlt
              have f0 := hJ.out.2.1.row.frozen k
              have I5 := Lib.hid (ApI.put C.out hJ.out.1 gG k (.slice (some ⟨g, 0, none⟩) (m + 64) c))
              have G5 : Hid (apG N w base V G (qG n) wr.heap.size (wr.setCell ⟨G, k, none⟩ (.slice (some ⟨g, 0, none⟩) (m + 64) c)) (fun j => if j = k then .slice (some ⟨g, 0, none⟩) (m + 64) c else H j) (k + 1)) := Lib.hid (ApG.put hlt (by decide) hJ.out.2.1 sW hJ.out.2.2.1 ⟨by rw [← HM.out], by rw [← HM.out]⟩ (fun b hb => (hJ.out.2.2.2 b hb).imp id fun h => by omega))
              go_wp2
              go_roundw
              case rel => exact ⟨k + 1, (fun j => if j = k then .slice (some ⟨g, 0, none⟩) (m + 64) c else H j), by omega, by go_num, Lib.hid ⟨I5.out, by rw [World.setCell_size']; exact G5.out⟩⟩
              case measure => simp [intOf]; omega
        · obtain rfl : N = k := by omega
          go_wp2
          have W5 := Lib.hid hI.out
          obtain ⟨w5, hw5⟩ : ∃ w5, w5 = wr := ⟨_, rfl⟩
          rw [← hw5]
          rw [← hw5] at W5
          clear hI hw5
          have HI := Lib.hid (And.intro hi0 (And.intro hz0 (And.intro hz1 hz2)))
          clear hi0 hz0 hz1 hz2
          go_loopw [9] (fun kv wr => ∃ k : Nat, k ≤ N ∧ kv = .int .i64 k ∧ Hid (Below w5.heap.size w5 wr)) (fun kv _ => N - (intOf kv).toNat)
          case atStart => exact ⟨0, by omega, rfl, Lib.hid (Below.refl _ _)⟩
          case round =>
            obtain ⟨k, hk, rfl, hB⟩ := hrel
            by_cases hlt : k < N
            · have hnk := HN.out k hlt
              obtain ⟨m, hm⟩ : ∃ m, m = n k := ⟨_, rfl⟩
              obtain ⟨p, cp, hv, hp⟩ := W5.out.1.form hlt
              rw [← hm] at hv hp hnk
              have hh := W5.out.1.head SB.out (HV.out k hlt)
              rw [hv] at hh
              obtain ⟨m', ys, ho, hq1, hq2⟩ := W5.out.2.own k hlt
              rw [← hm] at hq1 hq2
              subst hq1 hq2
              obtain ⟨g, cg, hg⟩ := grown_span ho (by omega)
              have hr := W5.out.2.row.cell hlt
              rw [hg] at hr
              rw [hg] at ho
              have HG := Lib.hid (show Owns w5 base (.slice (some ⟨g, 0, none⟩) (m + 64) cg) (mS k (m + 64)) by unfold Owns; rw [mS_len]; exact ho)
              have HF := Lib.hid (show Owns w5 base (.slice p m cp) (mS k m) by have o9 : w5.ownsRow base 54 2 (V k) (n k) (flat (mS k (n k))) := W5.out.1.own k hlt; rw [hv, ← hm] at o9; unfold Owns; rw [mS_len]; exact o9)
              have HP := Lib.hid hp
              have hB1 := Lib.hid (World.block_lt_of_cell? w5 _ hh)
              have hG1 := Lib.hid (World.block_lt_of_cell? w5 _ hr)
              have HNK := Lib.hid hnk
              clear ho hg hp hv hm hnk
              have k0 : (0 : Int) ≤ (k : Int) := by omega
              have k1 : (k : Int) < (N : Int) := by omega
              go_wp2
              go_loopw [10] (fun iv wr => ∃ i : Nat, i ≤ m + 64 ∧ iv = .int .i64 i ∧ Hid (Below w5.heap.size w5 wr)) (fun iv _ => m + 64 - (intOf iv).toNat)
              case atStart => exact ⟨0, by omega, rfl, hB⟩
              case round =>
                clear hB
                obtain ⟨i, hi, rfl, hB⟩ := hrel
                have d0 := (hB.out.cell (p := ⟨B, k, none⟩) hB1.out).trans hh
                have d1 := (hB.out.cell (p := ⟨G, k, none⟩) hG1.out).trans hr
                by_cases hlt2 : i < m + 64
                · have CM := Lib.hid (fun W => markSpan_any (k : Int) (i : Int) W (by omega) (by have := HNK.out; omega))
                  have i0' : (0 : Int) ≤ (i : Int) := by omega
                  have i1 : (i : Int) < (m : Int) + 64 := by omega
                  have ew : IntKind.i64.wrap ((i : Int) + 1) = (i : Int) + 1 := IntWalk.i64_in _ (by have := HNK.out; omega)
                  obtain ⟨hgl, e1, e2⟩ := cells_mark HG.out hlt2
                  have c1 := (hB.out.cell (p := ⟨g, i * 2, none⟩) hgl).trans e1
                  have c2 := (hB.out.cell (p := ⟨g, i * 2 + 1, none⟩) hgl).trans e2
                  clear e1 e2
                  by_cases hlt3 : i < m
                  · obtain ⟨g2, rfl⟩ := HP.out (by omega)
                    obtain ⟨hgl2, e1, e2⟩ := cells_mark HF.out hlt3
                    have c3 := (hB.out.cell (p := ⟨g2, i * 2, none⟩) hgl2).trans e1
                    have c4 := (hB.out.cell (p := ⟨g2, i * 2 + 1, none⟩) hgl2).trans e2
                    clear e1 e2
                    generalize mkI (k : Int) (i : Int) = z at CM c1 c3
                    have i2 : (i : Int) < (m : Int) := by omega
                    go_wp2_with fail
                    refine wp_region_laterS (fun W => W.cell? ⟨B, k, none⟩ = some (.slice (some ⟨g2, 0, none⟩) m cp) ∧ W.cell? ⟨G, k, none⟩ = some (.slice (some ⟨g, 0, none⟩) (m + 64) cg) ∧ W.cell? ⟨g, i * 2, none⟩ = some (.int .i64 z) ∧ W.cell? ⟨g, i * 2 + 1, none⟩ = some (.int .i64 0) ∧ W.cell? ⟨g2, i * 2, none⟩ = some (.int .i64 z) ∧ W.cell? ⟨g2, i * 2 + 1, none⟩ = some (.int .i64 0) ∧ Hid (Below w5.heap.size w5 W)) (by kernel_rfl) (by kernel_rfl) (fun p => ⟨p.cell _ _ d0, p.cell _ _ d1, p.cell _ _ c1, p.cell _ _ c2, p.cell _ _ c3, p.cell _ _ c4, p.since hB.out⟩) ?_
                    intro hS
                    repeat (first | (go_big_quiet_want; refine quiet_eql_span _ _ _ _ rfl rfl rfl ?_; simp only [Act.put, List.setIfInBounds_toArray, List.set_cons_zero, List.set_cons_succ]; go_big_quiet_on) | go_big_quiet_step ((go_at_call 101; exact Later.call (CM.out _))))
                    refine wpQuiet_nil ?_
                    rintro _ ⟨q, rfl⟩
                    have B1 := (hS q).2.2.2.2.2.2
                    clear hS
                    go_wp2
                    go_roundw
                    case rel => have hnk := HNK.out; exact ⟨i + 1, by omega, by go_num, B1⟩
                    case measure => have hnk := HNK.out; simp [intOf]; omega
                  · generalize mkI (k : Int) (i : Int) = z at CM c1
                    have k3 : decide ((i : Int) < (m : Int)) = false := decide_eq_false (by omega)
                    have k4 : decide (i < m) = false := decide_eq_false (by omega)
                    go_wp2_with fail
                    refine wp_region_laterS (fun W => W.cell? ⟨B, k, none⟩ = some (.slice p m cp) ∧ W.cell? ⟨G, k, none⟩ = some (.slice (some ⟨g, 0, none⟩) (m + 64) cg) ∧ W.cell? ⟨g, i * 2, none⟩ = some (.int .i64 z) ∧ W.cell? ⟨g, i * 2 + 1, none⟩ = some (.int .i64 0) ∧ Hid (Below w5.heap.size w5 W)) (by kernel_rfl) (by kernel_rfl) (fun p => ⟨p.cell _ _ d0, p.cell _ _ d1, p.cell _ _ c1, p.cell _ _ c2, p.since hB.out⟩) ?_
                    intro hS
                    repeat (first | (go_big_quiet_want; refine quiet_eql_span _ _ _ _ rfl rfl rfl ?_; simp only [Act.put, List.setIfInBounds_toArray, List.set_cons_zero, List.set_cons_succ]; go_big_quiet_on) | go_big_quiet_step ((go_at_call 101; exact Later.call (CM.out _))))
                    refine wpQuiet_nil ?_
                    rintro _ ⟨q, rfl⟩
                    have B1 := (hS q).2.2.2.2
                    clear hS
                    go_wp2
                    go_roundw
                    case rel => have hnk := HNK.out; exact ⟨i + 1, by omega, by go_num, B1⟩
                    case measure => have hnk := HNK.out; simp [intOf]; omega
                · go_wp2
                  go_roundw
                  case rel => exact ⟨k + 1, by omega, by go_num, hB⟩
                  case measure => simp [intOf]; omega
            · obtain rfl : N = k := by omega
              have I6 : Hid (apI N w base S V n wr (fun j => mS j (n j))) := Lib.hid (ApI.later C.out W5.out.1 hB.out)
              have R6 := Lib.hid (rowIs_grown W5.out.2.row (grown_of_below hB.out none) (by simp))
              clear hB W5
              go_wp2
              have G6 : Hid (apG N w base V G (qM n) wr.heap.size wr _ 0) := Lib.hid ⟨R6.out, fun j hj => by omega, fun j hj => by omega⟩
              clear R6
              go_loopw [11] (fun kv wr => ∃ (k : Nat) (H : Nat → Value), k ≤ N ∧ kv = .int .i64 k ∧ Hid (apI N w base S V n wr (fun j => mS j (n j)) ∧ apG N w base V G (qM n) wr.heap.size wr H k)) (fun kv _ => N - (intOf kv).toNat)
              case atStart => exact ⟨0, _, by omega, rfl, Lib.hid ⟨I6.out, G6.out⟩⟩
              case round =>
                clear I6 G6
                obtain ⟨k, H, hk, rfl, hI⟩ := hrel
                by_cases hlt : k < N
                · obtain ⟨p, cp, hv, -⟩ := hI.out.1.form hlt
                  obtain ⟨m, hm⟩ : ∃ m, m = n k := ⟨_, rfl⟩
                  rw [← hm] at hv
                  have hh := HV.out k hlt
                  rw [hv] at hh
                  have HH := Lib.hid hh
                  have HM := Lib.hid hm
                  have HVk := Lib.hid hv
                  have HNK := Lib.hid (show m ≤ 10000 by rw [hm]; exact HN.out k hlt)
                  clear hh hm hv
                  obtain ⟨M, hM⟩ : ∃ M, wr.heap.size = M := ⟨_, rfl⟩
                  have HI2 := Lib.hid hI.out.2
                  rw [hM] at HI2
                  have sL : w.heap.size ≤ M := by rw [← hM]; exact hI.out.1.sz
                  have gM : G < M := by rw [← hM]; exact hI.out.2.row.lt
                  have bM : base ≤ wr.heap.size := Nat.le_trans C.out.bs hI.out.1.sz
                  have k0 : (0 : Int) ≤ (k : Int) := by omega
                  have k1 : (k : Int) < (N : Int) := by omega
                  obtain ⟨hi0, hz0, hz1, hz2⟩ := HI.out
                  go_wp2_with (first | (at_make; refine wpList_make_fullS _ rfl _ _ 50 rfl base 54 i0 (.agg #[.int .i64 0, .int .i64 0]) 2 Tryz.underlying50 hi0 hz0 hz1 .i64 .i64 64 rfl rfl HZ2.out (by unfold maxLen; omega) bM ?_; intro w1 hown1 hgrow1) | fail)
                  clear hi0 hz0 hz1 hz2
                  have O1 : Hid (Owns w1 base (.slice (some ⟨M, 0, none⟩) 64 64) zero64) := Lib.hid (by rw [← hM]; rw [zero64_flat] at hown1; exact hown1)
                  have I1 : Hid (apI N w base S V n w1 (fun j => mS j (n j))) := Lib.hid (ApI.grown C.out hI.out.1 hgrow1 (fun b hb => by cases hb))
                  have G1 : Hid (apG N w base V G (qM n) M w1 H k) := Lib.hid (ApG.grown C.out hk sL HI2.out hgrow1 (fun b hb => by cases hb))
                  have s1 : M ≤ w1.heap.size := by rw [← hM]; exact hgrow1.size
                  try rw [hM]
                  clear hown1 hgrow1 hI HI2 hM bM
                  go_loopw [13] (fun iv W => ∃ (i : Nat) (q : Sps), i ≤ 64 ∧ iv = .int .i64 i ∧ M ≤ W.heap.size ∧ Hid (apI N w base S V n W (fun j => mS j (n j)) ∧ apG N w base V G (qM n) M W H k ∧ Owns W base (.slice (some ⟨M, 0, none⟩) 64 64) q ∧ q.length = 64)) (fun iv _ => 64 - (intOf iv).toNat)
                  case atStart => exact ⟨0, _, by omega, rfl, s1, Lib.hid ⟨I1.out, G1.out, O1.out, by simp [zero64]⟩⟩
                  case round =>
                    clear I1 G1 O1 s1
                    obtain ⟨i, q, hi, rfl, sW, hJ⟩ := hrel
                    have d0 := hJ.out.1.head SB.out HH.out
                    by_cases hlt2 : i < 64
                    · have CM := Lib.hid (fun W => markSpan_any ((k : Int) + (N : Int)) (i : Int) W (by omega) (by omega))
                      have ew2 : IntKind.i64.wrap ((k : Int) + (N : Int)) = (k : Int) + (N : Int) := IntWalk.i64_in _ (by omega)
                      have i0' : (0 : Int) ≤ (i : Int) := by omega
                      have i1 : (i : Int) < 64 := by omega
                      generalize mkI ((k : Int) + (N : Int)) (i : Int) = z at CM
                      go_wp2_with fail
                      refine (CM.out _).mono ?_
                      rintro e W1 ⟨rfl, hb1⟩
                      have I3 : Hid (apI N w base S V n W1 (fun j => mS j (n j))) := Lib.hid (ApI.later C.out hJ.out.1 hb1)
                      have G3 : Hid (apG N w base V G (qM n) M W1 H k) := Lib.hid (ApG.later C.out hk sL hJ.out.2.1 hb1)
                      have O3 : Hid (Owns W1 base (.slice (some ⟨M, 0, none⟩) 64 64) q) := Lib.hid (World.ownsRow.kept hJ.out.2.2.1 (grown_of_below hb1 none) (by simp [Value.ownBlock]))
                      have s3 : M ≤ W1.heap.size := Nat.le_trans sW hb1.size
                      have hq := hJ.out.2.2.2
                      obtain ⟨u0, u1, q0, q1, f0, f1⟩ := O3.out.spotTwo hq hlt2
                      have hS := O3.out.storeTwo hq i z 0
                      have S4 := Lib.hid hS.1
                      have I4 := Lib.hid (ApI.grown C.out I3.out hS.2 (fun b hb => by cases hb; exact sL))
                      have G4 := Lib.hid (ApG.grown C.out hk sL G3.out hS.2 (fun b hb => by cases hb; exact ⟨Nat.le_refl _, by omega⟩))
                      have HQ := Lib.hid hq
                      clear hS hb1 hJ I3 G3 O3 hq d0
                      go_wp2_with fail
                      go_roundw
                      case rel => exact ⟨i + 1, _, by omega, by go_num, by simpa using s3, Lib.hid ⟨I4.out, G4.out, S4.out, by rw [List.length_set]; exact HQ.out⟩⟩
                      case measure => simp [intOf]; omega
                    · obtain rfl : i = 64 := by omega
                      have hq := Lib.hid hJ.out.2.2.2
                      have I3 := Lib.hid hJ.out.1
                      have G3 := Lib.hid hJ.out.2.1
                      have O3 : Hid (wr.ownsRow base 54 2 (.slice (some ⟨M, 0, none⟩) 64 64) 64 (flat q)) := Lib.hid (by have := hJ.out.2.2.1; unfold Owns at this; rw [hq.out] at this; exact this)
                      have o1 : wr.ownsRow base 54 2 (V k) (n k) (flat (mS k (n k))) := I3.out.own k hlt
                      rw [HVk.out, ← HM.out] at o1
                      have O1 := Lib.hid o1
                      have F1 := Lib.hid (show ∀ b, (Value.slice p m cp).ownBlock = some b → (V k).ownBlock = some b by rw [HVk.out]; exact fun b hb => hb)
                      have bM : base ≤ wr.heap.size := Nat.le_trans C.out.bs I3.out.sz
                      have r0 := G3.out.row.cell hlt
                      have fr0 := G3.out.row.frozen k
                      have Gr := Lib.hid G3.out.row
                      clear o1 hJ
                      obtain ⟨hi0, hz0, hz1, hz2⟩ := HI.out
                      go_wp2_with (first | (at_builtin; refine wpList_append_keep _ rfl _ _ 50 rfl base 54 i0 (.agg #[.int .i64 0, .int .i64 0]) 2 16 Tryz.underlying50 hi0 hz0 hz1 hz2 rfl (by decide) _ _ _ rfl O1.out ⟨M, 0, none⟩ 64 64 (flat q) rfl (by rw [flat_length, hq.out]) (O3.out.cells rfl) (flat_cell q) (by have := HNK.out; unfold maxLen; omega) (by have := HNK.out; omega) bM ?_; intro v' w1 hown' hgrow hfrm hkeep; obtain ⟨g, c, rfl⟩ := grown_span hown' (by omega); have I4 : Hid (apI N w base S V n w1 (fun j => mS j (n j))) := Lib.hid (ApI.append C.out I3.out hlt O1.out (fun b hb => .inl (F1.out b hb)) (Nat.le_of_eq HM.out.symm) hgrow hkeep); have G4 : Hid (apG N w base V G (qM n) M w1 H k) := Lib.hid (ApG.append C.out hlt sL (by decide) G3.out O1.out (fun b hb => .inl (F1.out b hb)) hgrow hkeep); have q0 := G4.out.row.cell hlt; have f0 := G4.out.row.frozen k; have s4 : M ≤ w1.heap.size := Nat.le_trans sW hgrow.size; have O4 := Lib.hid hown'; have R4 := Lib.hid hfrm; clear hown' hgrow hfrm hkeep r0 fr0) | fail)
                      clear hi0 hz0 hz1 hz2
                      have I5 := Lib.hid (ApI.put C.out I4.out gG k (.slice (some ⟨g, 0, none⟩) (m + 64) c))
                      have G5 : Hid (apG N w base V G (qM n) w1.heap.size (w1.setCell ⟨G, k, none⟩ (.slice (some ⟨g, 0, none⟩) (m + 64) c)) (fun j => if j = k then .slice (some ⟨g, 0, none⟩) (m + 64) c else H j) (k + 1)) := Lib.hid (ApG.put hlt (by decide) G4.out s4 O4.out ⟨q, by rw [← HM.out], by rw [← HM.out, flat_append], by rw [← HM.out, List.length_append, mS_len, hq.out]⟩ (fun b hb => (R4.out b hb).imp (F1.out b) fun h => Nat.le_trans I3.out.sz h))
                      go_roundw
                      case rel => exact ⟨k + 1, (fun j => if j = k then .slice (some ⟨g, 0, none⟩) (m + 64) c else H j), by omega, by go_num, Lib.hid ⟨I5.out, by rw [World.setCell_size']; exact G5.out⟩⟩
                      case measure => simp [intOf]; omega
                · obtain rfl : N = k := by omega
                  have W5 := Lib.hid hI.out
                  obtain ⟨w5, hw5⟩ : ∃ w5, w5 = wr := ⟨_, rfl⟩
                  rw [← hw5] at W5
                  clear hI
                  go_wp2
                  rw [← hw5]
                  clear hw5
                  go_loopw [14] (fun kv wr => ∃ k : Nat, k ≤ N ∧ kv = .int .i64 k ∧ Hid (Below w5.heap.size w5 wr)) (fun kv _ => N - (intOf kv).toNat)
                  case atStart => exact ⟨0, by omega, rfl, Lib.hid (Below.refl _ _)⟩
                  case round =>
                    obtain ⟨k, hk, rfl, hB⟩ := hrel
                    by_cases hlt : k < N
                    · have hnk := HN.out k hlt
                      obtain ⟨m, hm⟩ : ∃ m, m = n k := ⟨_, rfl⟩
                      obtain ⟨p, cp, hv, hp⟩ := W5.out.1.form hlt
                      rw [← hm] at hv hp hnk
                      have hh := W5.out.1.head SB.out (HV.out k hlt)
                      rw [hv] at hh
                      obtain ⟨m', ys, ho, t, hq1, hq2, hq3⟩ := W5.out.2.own k hlt
                      rw [← hm] at hq1 hq2 hq3
                      subst hq1 hq2
                      obtain ⟨g, cg, hg⟩ := grown_span ho (by omega)
                      have hr := W5.out.2.row.cell hlt
                      rw [hg] at hr
                      rw [hg] at ho
                      have HG := Lib.hid (show Owns w5 base (.slice (some ⟨g, 0, none⟩) (m + 64) cg) (mS k m ++ t) by unfold Owns; rw [hq3]; exact ho)
                      have HF := Lib.hid (show Owns w5 base (.slice p m cp) (mS k m) by have o9 : w5.ownsRow base 54 2 (V k) (n k) (flat (mS k (n k))) := W5.out.1.own k hlt; rw [hv, ← hm] at o9; unfold Owns; rw [mS_len]; exact o9)
                      have HP := Lib.hid hp
                      have hB1 := Lib.hid (World.block_lt_of_cell? w5 _ hh)
                      have hG1 := Lib.hid (World.block_lt_of_cell? w5 _ hr)
                      have HNK := Lib.hid hnk
                      clear ho hg hp hv hm hnk hq3
                      have k0 : (0 : Int) ≤ (k : Int) := by omega
                      have k1 : (k : Int) < (N : Int) := by omega
                      go_wp2
                      go_loopw [15] (fun iv wr => ∃ i : Nat, i ≤ m ∧ iv = .int .i64 i ∧ Hid (Below w5.heap.size w5 wr)) (fun iv _ => m - (intOf iv).toNat)
                      case atStart => exact ⟨0, by omega, rfl, hB⟩
                      case round =>
                        clear hB
                        obtain ⟨i, hi, rfl, hB⟩ := hrel
                        have d0 := (hB.out.cell (p := ⟨B, k, none⟩) hB1.out).trans hh
                        have d1 := (hB.out.cell (p := ⟨G, k, none⟩) hG1.out).trans hr
                        by_cases hlt2 : i < m
                        · have CM := Lib.hid (fun W => markSpan_any (k : Int) (i : Int) W (by omega) (by have := HNK.out; omega))
                          have i0' : (0 : Int) ≤ (i : Int) := by omega
                          have i1 : (i : Int) < (m : Int) + 64 := by omega
                          have i2 : (i : Int) < (m : Int) := by omega
                          have ew : IntKind.i64.wrap ((i : Int) + 1) = (i : Int) + 1 := IntWalk.i64_in _ (by have := HNK.out; omega)
                          obtain ⟨hgl, e1, e2⟩ := cells_mark2 HG.out hlt2
                          have c1 := (hB.out.cell (p := ⟨g, i * 2, none⟩) hgl).trans e1
                          have c2 := (hB.out.cell (p := ⟨g, i * 2 + 1, none⟩) hgl).trans e2
                          clear e1 e2
                          obtain ⟨g2, rfl⟩ := HP.out (by omega)
                          obtain ⟨hgl2, e1, e2⟩ := cells_mark HF.out hlt2
                          have c3 := (hB.out.cell (p := ⟨g2, i * 2, none⟩) hgl2).trans e1
                          have c4 := (hB.out.cell (p := ⟨g2, i * 2 + 1, none⟩) hgl2).trans e2
                          clear e1 e2
                          generalize mkI (k : Int) (i : Int) = z at CM c1 c3
                          go_wp2_with fail
                          refine wp_region_laterS (fun W => W.cell? ⟨B, k, none⟩ = some (.slice (some ⟨g2, 0, none⟩) m cp) ∧ W.cell? ⟨G, k, none⟩ = some (.slice (some ⟨g, 0, none⟩) (m + 64) cg) ∧ W.cell? ⟨g, i * 2, none⟩ = some (.int .i64 z) ∧ W.cell? ⟨g, i * 2 + 1, none⟩ = some (.int .i64 0) ∧ W.cell? ⟨g2, i * 2, none⟩ = some (.int .i64 z) ∧ W.cell? ⟨g2, i * 2 + 1, none⟩ = some (.int .i64 0) ∧ Hid (Below w5.heap.size w5 W)) (by kernel_rfl) (by kernel_rfl) (fun p => ⟨p.cell _ _ d0, p.cell _ _ d1, p.cell _ _ c1, p.cell _ _ c2, p.cell _ _ c3, p.cell _ _ c4, p.since hB.out⟩) ?_
                          intro hS
                          repeat (first | (go_big_quiet_want; refine quiet_eql_span _ _ _ _ rfl rfl rfl ?_; simp only [Act.put, List.setIfInBounds_toArray, List.set_cons_zero, List.set_cons_succ]; go_big_quiet_on) | go_big_quiet_step ((go_at_call 101; exact Later.call (CM.out _))))
                          refine wpQuiet_nil ?_
                          rintro _ ⟨q, rfl⟩
                          have B1 := (hS q).2.2.2.2.2.2
                          clear hS
                          go_wp2
                          go_roundw
                          case rel => have hnk := HNK.out; exact ⟨i + 1, by omega, by go_num, B1⟩
                          case measure => have hnk := HNK.out; simp [intOf]; omega
                        · go_wp2
                          go_roundw
                          case rel => exact ⟨k + 1, by omega, by go_num, hB⟩
                          case measure => simp [intOf]; omega
                    · obtain rfl : N = k := by omega
                      have D9 := Lib.hid (show ∀ X, X < w.heap.size → S X → wr.heap[X]? = w.heap[X]? from fun X hX hS => (hB.out.block X (Nat.lt_of_lt_of_le hX W5.out.1.sz)).trans (W5.out.1.hd X hX hS))
                      have B9 := Lib.hid (W5.out.1.below.trans (hB.out.mono (Nat.le_trans C.out.bs W5.out.1.below.size)))
                      clear hB W5
                      go_wp2
                      go_ret
                      exact ⟨rfl, B9.out, D9.out⟩

end Go.Proofs.YtbpoedopdnjffaaGreat
