/- The reference's marks and sets (annuitantref04), in this seat. The reference's end, upheld, Morning. The reference's Morning. Rows of cases: read, appended, written. The reference's Pass. The reference's Pass, walked. -/
import Derived.Test.YtbpoedopdnjffaaGreatZpF
import Derived.Test.YtbpoedopdnjffaaGreatZpA
import Derived.Deep.OwnRows
import Derived.Deep.CutRange
import Derived.Deep.RegionWith
namespace Go.Proofs.YtbpoedopdnjffaaGreat
open Go.RowKit Go.Shelf Sp
theorem isS_iff {x y : Int} : isS x y = true ↔ 0 ≤ x ∧ x ≤ y ∧ y ≤ 65536 := by unfold isS; simp [and_assoc]

/-- The last span of an owned row: its cells, and the row behind a store into its end. -/
theorem Owns.last {W : World} {base : Nat} {v : Value} {l : Sps} {t : Int × Int} (h : Owns W base v (l ++ [t])) :
    ∃ g cap, v = .slice (some ⟨g, 0, none⟩) (l.length + 1) cap ∧ base ≤ g ∧ g < W.heap.size ∧ W.cell? ⟨g, l.length * 2, none⟩ = some (.int .i64 t.1) ∧ W.cell? ⟨g, l.length * 2 + 1, none⟩ = some (.int .i64 t.2) ∧
      W.frozen? ⟨g, l.length * 2 + 1, none⟩ = false ∧ ∀ y, Owns (W.setCell ⟨g, l.length * 2 + 1, none⟩ (.int .i64 y)) base v (l ++ [(t.1, y)]) := by
  obtain ⟨hl, hv⟩ := h
  rw [List.length_append, List.length_singleton] at hl hv
  rcases hv with ⟨rfl, h0⟩ | ⟨g, cap, cur, rfl, hb, hg, hc, hm, hs, ht⟩
  · omega
  · have hf0 := flat_get (l ++ [t]) l.length (by simp)
    rw [← ht] at hf0
    have e1 : (cur.toList.take ((l.length + 1) * 2))[l.length * 2]? = cur[l.length * 2]? := by
      rw [List.getElem?_take, if_pos (by omega), Array.getElem?_toList]
    have e2 : (cur.toList.take ((l.length + 1) * 2))[l.length * 2 + 1]? = cur[l.length * 2 + 1]? := by
      rw [List.getElem?_take, if_pos (by omega), Array.getElem?_toList]
    rw [e1, e2] at hf0
    simp only [List.getElem_concat_length] at hf0
    refine ⟨g, cap, rfl, hb, (Array.getElem?_eq_some_iff.1 hg).1, ?_, ?_, ?_, fun y => ?_⟩
    · simp [World.cell?, hg, hf0.1]
    · simp [World.cell?, hg, hf0.2]
    · simp [World.frozen?, hg]
    · have hg' := heap_setCell_same W g (l.length * 2 + 1) cur 54 (.int .i64 y) hg
      refine ⟨by rw [flat_length], ?_⟩
      rw [List.length_append, List.length_singleton]
      refine .inr ⟨g, cap, cur.setIfInBounds (l.length * 2 + 1) (.int .i64 y), rfl, hb, hg', hc, hm, by simpa using hs, ?_⟩
      have hlen : l.length * 2 + 1 < cur.size := by omega
      rw [flat_append] at ht ⊢
      have hsp : cur.toList.take ((l.length + 1) * 2) = flat l ++ [.int .i64 t.1, .int .i64 t.2] := ht
      have : (cur.setIfInBounds (l.length * 2 + 1) (.int .i64 y)).toList.take ((l.length + 1) * 2) = (cur.toList.take ((l.length + 1) * 2)).set (l.length * 2 + 1) (.int .i64 y) := by
        rw [Array.toList_setIfInBounds, List.take_set]
      rw [this, hsp]
      have hfl := flat_length l
      rw [List.set_append_right _ _ (by omega), hfl, show l.length * 2 + 1 - l.length * 2 = 1 by omega]
      rfl

theorem Owns.alloc {W : World} {base : Nat} {v : Value} {l : Sps} (h : Owns W base v l) (o : Obj) : Owns (W.alloc o) base v l := World.ownsRow.alloc h o
theorem Owns.drewN {W : World} {base : Nat} {v : Value} {l : Sps} (h : Owns W base v l) (n : Nat) : Owns (W.drewN n) base v l := h
theorem Owns.grown {W w1 : World} {base B : Nat} {w : World} {v : Value} {l : Sps} (h : Owns W base v l) (hB : B ≤ base) (hw : Below B w W) (hs : B ≤ W.heap.size) (o : Obj) (hg : (W.alloc o).grownBy w1 v.ownBlock) : Below B w w1 := by
  refine (hw.alloc hs o).grown hg (by simp; omega) fun j ej => ?_
  rcases h.2 with ⟨rfl, _⟩ | ⟨g, cap, cur, rfl, hb, _, _⟩
  · simp [Value.ownBlock] at ej
  · obtain rfl : g = j := by simpa [Value.ownBlock] using ej
    omega

/-- n truth values. -/
def marr (n : Nat) (f : Nat → Bool) : Array Value := Array.ofFn (n := n) fun i => .bool (f i)
theorem marr_get (n : Nat) (f : Nat → Bool) (i : Nat) (h : i < n) : (marr n f)[i]? = some (.bool (f i)) := by simp [marr, h]
theorem marr_set (n : Nat) (f : Nat → Bool) (i : Nat) (b : Bool) : (marr n f).setIfInBounds i (.bool b) = marr n (fun x => if x = i then b else f x) := by
  apply Array.ext_getElem?
  intro j
  rw [Array.getElem?_setIfInBounds]
  by_cases h : i = j
  · subst h
    rw [if_pos rfl]
    by_cases hi : i < n
    · rw [if_pos (by simp [marr, hi]), marr_get n _ i hi, if_pos rfl]
    · rw [if_neg (by simp [marr, hi])]
      simp [marr, hi]
  · rw [if_neg h]
    by_cases hj : j < n
    · rw [marr_get n _ j hj, marr_get n _ j hj, if_neg (fun e => h e.symm)]
    · simp [marr, hj]
theorem marr_made (n : Nat) (b : Bool) : madeCells #[.bool b] n = marr n (fun _ => b) := by
  apply Array.ext_getElem?
  intro j
  by_cases hj : j < n
  · rw [marr_get n _ j hj]; simp [madeCells, hj, Nat.mod_one]
  · simp [madeCells, marr, hj]
theorem marr_congr (n : Nat) {f g : Nat → Bool} (h : ∀ i, f i = g i) : marr n f = marr n g := by rw [show f = g from funext h]

/-- A block that holds the marks f of all days. -/
def MkRow (N : Nat) (W : World) (g : Nat) (f : Nat → Bool) : Prop := W.heap[g]? = some (.cells (marr N f) 4 (0, 0))
theorem MkRow.lt {N : Nat} {W : World} {g : Nat} {f : Nat → Bool} (h : MkRow N W g f) : g < W.heap.size := (Array.getElem?_eq_some_iff.1 h).1
theorem MkRow.cell {N : Nat} {W : World} {g : Nat} {f : Nat → Bool} (h : MkRow N W g f) (i : Nat) (hi : i < N) : W.cell? ⟨g, i, none⟩ = some (.bool (f i)) := by
  unfold MkRow at h
  simp only [World.cell?, h]
  exact marr_get N f i hi
theorem MkRow.frozen {N : Nat} {W : World} {g : Nat} {f : Nat → Bool} (h : MkRow N W g f) (i : Nat) : W.frozen? ⟨g, i, none⟩ = false := by
  unfold MkRow at h
  simp [World.frozen?, h]
theorem MkRow.set_ {N : Nat} {W : World} {g : Nat} {f : Nat → Bool} (h : MkRow N W g f) (i : Nat) (b : Bool) : MkRow N (W.setCell ⟨g, i, none⟩ (.bool b)) g (fun x => if x = i then b else f x) := by
  unfold MkRow at h ⊢
  rw [← marr_set]
  simp only [World.setCell, Array.getElem?_modify, h]
  rfl
theorem MkRow.congr {N : Nat} {W : World} {g : Nat} {f f' : Nat → Bool} (h : MkRow N W g f) (e : ∀ i, f i = f' i) : MkRow N W g f' := by
  unfold MkRow at h ⊢; rw [h, marr_congr N e]
theorem MkRow.below {N : Nat} {W W' : World} {g : Nat} {f : Nat → Bool} (h : MkRow N W g f) (hb : Below W.heap.size W W') : MkRow N W' g f := (hb.block g h.lt).trans h

theorem info_bool : (Tryz.prog.info? 4).map (fun i => (i.zero, i.size, i.bytes)) = some (some (.bool false), 1, 1) := by kernel_rfl

set_option maxHeartbeats 2000000 in
set_option maxRecDepth 100000 in
theorem marks_any (l : Sps) (p : Option Addr) (cap : Nat) (w : World) (hn : l.length ≤ 100000) (hc : Cells w p l) (hf : ∀ s ∈ l, isS s.1 s.2 = true) :
    Calls Tryz.prog 54 #[.slice p l.length cap] w fun e w' => e = .returned (.slice (some ⟨w.heap.size, 0, none⟩) 65536 65536) ∧ MkRow 65536 w' w.heap.size (fun d => mem l d) ∧ Below w.heap.size w w' := by
  have HC := Lib.hid hc
  have HF := Lib.hid hf
  clear hc hf
  have hmk : ∀ W : World, (Instr.makeSlice 107 (.int .i64 65536) (.int .i64 65536)).run Tryz.prog W = .ok (.slice (some ⟨W.heap.size, 0, none⟩) 65536 65536) (W.alloc (.cells (marr 65536 (fun _ => false)) 4)) := fun W => by
    rw [← marr_made]
    exact run_make_row' (P := Tryz.prog) 107 4 (.bool false) 1 Tryz.underlying107 info_bool rfl .i64 .i64 65536 (by decide) (by decide) W
  obtain ⟨A, hA⟩ : ∃ A, A = marr 65536 (fun _ => false) := ⟨_, rfl⟩
  rw [← hA] at hmk
  have HA := Lib.hid hA
  clear hA
  go_enter Tryz.func54, Tryz.ntmps54
  go_wp2
  go_loopw [4] (fun i wr => ∃ k : Nat, k ≤ l.length ∧ i = .int .i64 k ∧ Hid (MkRow 65536 wr w.heap.size (fun d => mem (l.take k) d)) ∧ Below w.heap.size w wr) (fun i _ => l.length - (intOf i).toNat)
  case atStart => exact ⟨0, by omega, rfl, Lib.hid (by rw [HA.out]; exact World.alloc_heap_new w _), (Below.refl _ _).alloc (Nat.le_refl _) _⟩
  case round =>
    obtain ⟨k, hk, rfl, hI, hb⟩ := hrel
    by_cases hlt : k < l.length
    · obtain ⟨b, off, rfl, hbl, x, y, hxy, h1, h2⟩ := HC.out.at k hlt
      have c1 := (hb.cell (p := ⟨b, off + k * 2, none⟩) hbl).trans h1
      have hst := Lib.hid (take_succ_snoc hlt)
      rw [hxy] at hst
      have hS : isS x y = true := by have := HF.out l[k] (List.getElem_mem hlt); rw [hxy] at this; exact this
      have hb3 := isS_iff.1 hS
      clear hxy h1 hS
      go_wp2
      go_loopw [5] (fun d W => ∃ e : Int, x ≤ e ∧ e ≤ y ∧ d = .int .i64 e ∧ Hid (MkRow 65536 W w.heap.size (fun d => mem (l.take k) d || (decide (x ≤ (d : Int)) && decide ((d : Int) < e)))) ∧ Below w.heap.size w W) (fun d _ => (y - intOf d).toNat)
      case atStart => exact ⟨x, by omega, by omega, rfl, Lib.hid (hI.out.congr fun i => by
        have : (decide (x ≤ (i : Int)) && decide ((i : Int) < x)) = false := by simp
        rw [this, Bool.or_false]), hb⟩
      case round =>
        obtain ⟨e, he0, he1, rfl, hJ, hB⟩ := hrel
        have c2 := (hB.cell (p := ⟨b, off + k * 2 + 1, none⟩) hbl).trans h2
        by_cases hey : e < y
        · have m0 : (0 : Int) ≤ e := by omega
          have m1 : e < 65536 := by omega
          have q0 := hJ.out.cell e.toNat (by omega)
          have f0 := hJ.out.frozen e.toNat
          have hN := Lib.hid ((hJ.out.set_ e.toNat true).congr (f' := fun d => mem (l.take k) d || (decide (x ≤ (d : Int)) && decide ((d : Int) < e + 1))) fun i => by
            by_cases hi : i = e.toNat
            · rw [if_pos hi]
              have h9 : (decide (x ≤ (i : Int)) && decide ((i : Int) < e + 1)) = true := by simp; omega
              rw [h9, Bool.or_true]
            · rw [if_neg hi]
              have h9 : (decide (x ≤ (i : Int)) && decide ((i : Int) < e + 1)) = (decide (x ≤ (i : Int)) && decide ((i : Int) < e)) := by
                rw [show decide ((i : Int) < e + 1) = decide ((i : Int) < e) from decide_eq_decide.2 (by omega)]
              rw [h9])
          have hBN : Below w.heap.size w (wr.setCell ⟨w.heap.size, e.toNat, none⟩ (.bool true)) := hB.setCell (p := ⟨w.heap.size, e.toNat, none⟩) (Nat.le_refl _) _
          clear hB hJ
          go_wp2
          go_roundw
          case rel => exact ⟨e + 1, by omega, by omega, by go_num, hN, hBN⟩
          case measure => simp [intOf]; omega
        · obtain rfl : e = y := by omega
          have hN := Lib.hid (hJ.out.congr (f' := fun d => mem (l.take (k + 1)) d) fun i => by
            rw [hst.out, mem_append, mem_cons, mem_nil, Bool.or_false])
          clear hJ
          go_wp2
          go_roundw
          case rel => exact ⟨k + 1, by omega, by go_num, hN, hB⟩
          case measure => simp [intOf]; omega
    · obtain rfl : k = l.length := by omega
      rw [List.take_length] at hI
      go_wp2
      go_ret
      exact ⟨rfl, hI.out, hb⟩


set_option maxHeartbeats 4000000 in
set_option maxRecDepth 100000 in
theorem setR_in (f : Nat → Bool) (g N : Nat) (w : World) (hN : Hid (N = 65536)) (hm : MkRow 65536 w g f) :
    Calls Tryz.prog 55 #[.slice (some ⟨g, 0, none⟩) N N] w fun e w' => ∃ v, e = .returned v ∧ Owns w' w.heap.size v (runs f N) ∧ Below w.heap.size w w' := by
  have HM := Lib.hid hm
  clear hm
  obtain ⟨i0, hi0, hz0, hz1, hz2⟩ := info_parts info_span
  go_enter Tryz.func55, Tryz.ntmps55
  go_wp2
  go_loopw [4, 3] (fun i u wr => ∃ (e : Int) (v : Value), 0 ≤ e ∧ e ≤ 65536 ∧ i = .int .i64 e ∧ v = u ∧ Hid (Owns wr w.heap.size v (runs f e.toNat)) ∧ Below w.heap.size w wr) (fun i _ _ => (65536 - intOf i).toNat)
  case atStart => exact ⟨0, _, by omega, by omega, rfl, rfl, Lib.hid (Owns.nil _ _), Below.refl _ _⟩
  case round =>
    obtain ⟨e, v, he0, he1, rfl, rfl, hI, hb⟩ := hrel
    by_cases hlt : e < 65536
    · have c0 : wr.cell? ⟨g, e.toNat, none⟩ = some (.bool (f e.toNat)) := (hb.cell (p := ⟨g, e.toNat, none⟩) HM.out.lt).trans (HM.out.cell e.toNat (by omega))
      have c1' : 0 < e → wr.cell? ⟨g, e.toNat - 1, none⟩ = some (.bool (f (e.toNat - 1))) := fun h =>
        (hb.cell (p := ⟨g, e.toNat - 1, none⟩) HM.out.lt).trans (HM.out.cell (e.toNat - 1) (by omega))
      have hlen := runs_length f e.toNat
      have hcast : ((e.toNat : Nat) : Int) = e := Int.toNat_of_nonneg he0
      have RA := Lib.hid (runs_are f e.toNat (by omega))
      have hsuc : (e + 1).toNat = e.toNat + 1 := by omega
      have hno := Lib.hid (fun h : f e.toNat = false => runs_no h)
      have hnew := Lib.hid (fun (h : f e.toNat = true) (h' : ¬ (0 < e.toNat ∧ f (e.toNat - 1) = true)) => runs_new h h')
      have hon := Lib.hid (fun (h : f e.toNat = true) (h' : 0 < e.toNat ∧ f (e.toNat - 1) = true) (s : Sps) (t : Int × Int) (hs : runs f e.toNat = s ++ [t]) => runs_on h h' hs)
      rw [← hsuc] at hno hnew hon
      obtain ⟨pre, hpre⟩ : ∃ pre, pre = runs f e.toNat := ⟨_, rfl⟩
      rw [← hpre] at hlen RA hno hnew hon hI
      clear hpre
      have hl65 : ∃ q : Int, (pre.length : Int) ≤ q ∧ q ≤ 65536 := ⟨e, by omega, by omega⟩
      obtain ⟨q, hq0, hq1⟩ := hl65
      have k1 : e < (N : Int) := by have := hN.out; omega
      obtain ⟨b, hfk⟩ : ∃ b, b = f e.toNat := ⟨_, rfl⟩
      rw [← hfk] at c0
      have HB := Lib.hid hfk
      have HC := Lib.hid hcast
      have HP : Hid (0 < e → 0 < e.toNat) := Lib.hid (by omega)
      have HP0 : Hid (e ≤ 0 → ¬ 0 < e.toNat) := Lib.hid (by omega)
      clear hfk HM hN hlen hcast hsuc
      cases b with
      | false =>
        go_wp2
        go_roundw
        case rel => exact ⟨e + 1, v, by omega, by omega, by go_num, rfl, Lib.hid (by rw [hno.out HB.out.symm]; exact hI.out), hb⟩
        case measure => simp [intOf]; omega
      | true =>
        by_cases hk0 : e ≤ 0
        · have e1 := Lib.hid (hnew.out HB.out.symm (fun h => HP0.out hk0 h.1))
          rw [HC.out] at e1
          clear RA hno hnew hon c1'
          go_wp2_with (first | (at_builtin; refine wpList_append_own _ rfl _ _ 50 rfl w.heap.size 54 i0 (.agg #[.int .i64 0, .int .i64 0]) 2 16 Tryz.underlying50 hi0 hz0 hz1 hz2 rfl (by decide) _ _ _ rfl (hI.out.alloc _) ⟨wr.heap.size, 0, none⟩ 1 1 [.int .i64 e, .int .i64 (e + 1)] rfl rfl (cell_two_new _ _ _ _ _ rfl) (by simp [Value.oneCell']) (by unfold maxLen; omega) (by omega) (by simp; have := hb.size; omega) ?_; intro v' w1 hown' hgrow _; obtain ⟨g', cap', rfl⟩ := ownsRow_succ hown'))
          go_roundw
          case rel => exact ⟨e + 1, _, by omega, by omega, by go_num, rfl, Lib.hid (by rw [e1.out]; show World.ownsRow _ _ _ _ _ _ _; rw [flat_snoc, List.length_append]; exact hown'), hI.out.grown (Nat.le_refl _) hb hb.size _ hgrow⟩
          case measure => simp [intOf]; omega
        · have j1 : 0 < e := by omega
          have c1 := c1' j1
          obtain ⟨b1, hfk1⟩ : ∃ b1, b1 = f (e.toNat - 1) := ⟨_, rfl⟩
          rw [← hfk1] at c1
          have HB1 := Lib.hid hfk1
          have j2 : e - 1 < (N : Int) := by omega
          have j0 : 0 ≤ e - 1 := by omega
          clear hfk1 c1'
          cases b1 with
          | false =>
            have e1 := Lib.hid (hnew.out HB.out.symm (by intro h; rw [← HB1.out] at h; exact absurd h.2 (by decide)))
            rw [HC.out] at e1
            clear RA hno hnew hon
            go_wp2_with (first | (at_builtin; refine wpList_append_own _ rfl _ _ 50 rfl w.heap.size 54 i0 (.agg #[.int .i64 0, .int .i64 0]) 2 16 Tryz.underlying50 hi0 hz0 hz1 hz2 rfl (by decide) _ _ _ rfl (hI.out.alloc _) ⟨wr.heap.size, 0, none⟩ 1 1 [.int .i64 e, .int .i64 (e + 1)] rfl rfl (cell_two_new _ _ _ _ _ rfl) (by simp [Value.oneCell']) (by unfold maxLen; omega) (by omega) (by simp; have := hb.size; omega) ?_; intro v' w1 hown' hgrow _; obtain ⟨g', cap', rfl⟩ := ownsRow_succ hown'))
            go_roundw
            case rel => exact ⟨e + 1, _, by omega, by omega, by go_num, rfl, Lib.hid (by rw [e1.out]; show World.ownsRow _ _ _ _ _ _ _; rw [flat_snoc, List.length_append]; exact hown'), hI.out.grown (Nat.le_refl _) hb hb.size _ hgrow⟩
            case measure => simp [intOf]; omega
          | true =>
            obtain ⟨s0, t, hst, ht⟩ := RA.out.open_ (HP.out j1) HB1.out.symm
            have e1 := Lib.hid (hon.out HB.out.symm ⟨HP.out j1, HB1.out.symm⟩ s0 t hst)
            rw [HC.out] at e1
            subst hst
            obtain ⟨g2, cap2, rfl, r1, r2, r3, r4, r5, r6⟩ := hI.out.last
            have p3 : ((s0.length : Int)).toNat = s0.length := by omega
            have hpos : (0 : Int) < (s0.length : Int) + 1 := by omega
            have p0 : (0 : Int) ≤ (s0.length : Int) := by omega
            have p1 : (s0.length : Int) < (s0.length : Int) + 1 := by omega
            have p2 : (s0.length : Int) ≤ q := by simp at hq0; omega
            clear RA hno hnew hon hq0 ht
            go_wp2_with fail
            go_roundw
            case rel => exact ⟨e + 1, _, by omega, by omega, by go_num, rfl, Lib.hid (by rw [e1.out]; exact r6 _), hb.setCell (p := ⟨g2, s0.length * 2 + 1, none⟩) r1 _⟩
            case measure => simp [intOf]; omega
    · obtain rfl : e = 65536 := by omega
      have hv : Hid ((65536 : Int).toNat = N) := Lib.hid (by rw [hN.out]; rfl)
      clear HM hN
      obtain ⟨n1, hn1⟩ : ∃ n1, n1 = (65536 : Int).toNat := ⟨_, rfl⟩
      rw [← hn1] at hv hI
      clear hn1
      obtain rfl := hv.out
      clear hv
      go_wp2
      go_ret
      exact ⟨_, rfl, hI.out, hb⟩

theorem setR_any (f : Nat → Bool) (g : Nat) (w : World) (hm : MkRow 65536 w g f) :
    Calls Tryz.prog 55 #[.slice (some ⟨g, 0, none⟩) 65536 65536] w fun e w' => ∃ v m, e = .returned v ∧ IsSet (mk65 f) m ∧ m.length ≤ 65536 ∧ Owns w' w.heap.size v m ∧ Below w.heap.size w w' :=
  (setR_in f g 65536 w (Lib.hid rfl) hm).mono fun _ _ ⟨v, he, ho, hb⟩ => ⟨v, _, he, runs_set f, runs_length f _, ho, hb⟩

end Go.Proofs.YtbpoedopdnjffaaGreat

namespace Go.Proofs.YtbpoedopdnjffaaGreat
open Go.RowKit Go.Shelf Sp

/-- A case is handed back. -/
def CPost (c : Cs) (w : World) (e : Ending) (w' : World) : Prop := ∃ u, e = .returned (csAgg c u) ∧ Owns w' 0 u c.held ∧ Below w.heap.size w w'

theorem valid_isS {l : Sps} (h : validB l = true) : ∀ s ∈ l, isS s.1 s.2 = true := by
  unfold validB at h
  suffices ∀ p : Int, -1 ≤ p → validFrom p l = true → ∀ s ∈ l, isS s.1 s.2 = true from this _ (Int.le_refl _) h
  clear h
  induction l with
  | nil => intro _ _ _ s hs; cases hs
  | cons t l ih =>
    intro p hp h s hs
    rw [validFrom_cons] at h
    rcases List.mem_cons.1 hs with rfl | hs
    · exact isS_iff.2 (by omega)
    · exact ih t.2 (by omega) h.2.2.2 s hs
theorem held_set {c : Cs} (ok : c.HOk) (hh : c.hold = true) {d x : Int} (hx : x = max c.since (min d 65536)) {f : Nat → Bool} (hf : ∀ i : Nat, f i = (mem c.held i || (decide (c.since ≤ (i : Int)) && decide ((i : Int) < x)))) {m : Sps} (hm : IsSet (mk65 f) m) : m = heldP c d := by
  have hs := ok.hold hh
  have hv : validB (heldP c d) = true := by
    unfold heldP
    split
    · exact (un_set ok.vh (by unfold validB; rw [validFrom_cons]; dsimp only; exact ⟨by omega, by omega, by omega, rfl⟩)).valid
    · exact ok.vh
  refine IsSet.uniq hm ⟨hv, fun y => ?_⟩
  rw [heldP_mem ok, hh]
  unfold mk65
  by_cases h0 : 0 ≤ y
  · have hc : ((y.toNat : Nat) : Int) = y := Int.toNat_of_nonneg h0
    rw [hf, hc]
    by_cases h1 : y < 65536
    · have e1 : (decide (0 ≤ y) && decide (y < 65536)) = true := by simp [h0, h1]
      rw [e1, Bool.true_and, Bool.true_and]
      congr 1
      rw [Bool.eq_iff_iff]
      simp only [Bool.and_eq_true, decide_eq_true_eq]
      omega
    · have e1 : (decide (0 ≤ y) && decide (y < 65536)) = false := by simp [h1]
      rw [e1, Bool.false_and]
      have e2 : mem c.held y = false := by
        rw [← Bool.not_eq_true]; intro hy; have := mem_bd (show validFrom (-1) c.held = true from ok.vh) y hy; omega
      rw [e2, Bool.false_or]
      rw [Bool.true_and, ← Bool.not_eq_true]
      simp only [Bool.and_eq_true, decide_eq_true_eq]
      omega
  · have e1 : (decide (0 ≤ y) && decide (y < 65536)) = false := by simp [h0]
    rw [e1, Bool.false_and]
    have e2 : mem c.held y = false := by
      rw [← Bool.not_eq_true]; intro hy; have := mem_bd (show validFrom (-1) c.held = true from ok.vh) y hy; omega
    rw [e2, Bool.false_or]
    rw [Bool.true_and, ← Bool.not_eq_true]
    simp only [Bool.and_eq_true, decide_eq_true_eq]
    omega

/-- A parameter's box, and the result's: what is known of both. -/
structure Bx (w X : World) (C R : Nat) (c : Cs) (u : Value) : Prop where
  at_ : CsAt X C c u
  own : Owns X 0 u c.held
  res : X.heap[R]? = some (.cells zeroCase 52 (0, 0))
  bel : Below w.heap.size w X
  lo : w.heap.size ≤ C ∧ w.heap.size ≤ R ∧ C ≠ R
theorem Bx.made {w : World} {c : Cs} {u : Value} (ho : Owns w 0 u c.held) {C R : Nat} (hC : w.heap.size = C) (hR : C + 1 = R) :
    Bx w ((w.alloc (.cells #[.bool c.el, .int .u8 c.st, .int .i64 c.opened, .int .i64 c.days, .int .i64 c.choice, .int .i64 c.level, .int .i64 c.due, .bool c.hold, .int .i64 c.since, u] 52)).alloc (.cells zeroCase 52)) C R c u := by
  subst hC hR
  refine ⟨a2_0c w _ _, World.ownsRow.alloc (World.ownsRow.alloc ho _) _, a2_1c w _ _, ((Below.refl _ _).alloc (Nat.le_refl _) _).alloc (by simp) _, by omega, by omega, by omega⟩
where
  a2_0c (X : World) (o1 o2 : Obj) : ((X.alloc o1).alloc o2).heap[X.heap.size]? = some o1 :=
    (((Below.refl _ (X.alloc o1)).alloc (Nat.le_refl _) o2).block X.heap.size (by simp)).trans (World.alloc_heap_new X o1)
  a2_1c (X : World) (o1 o2 : Obj) : ((X.alloc o1).alloc o2).heap[X.heap.size + 1]? = some o2 := by
    have h1 := World.alloc_heap_new (X.alloc o1) o2
    rw [World.size_alloc] at h1
    exact h1
theorem Bx.zero {w X : World} {C R : Nat} {c : Cs} {u : Value} (h : Bx w X C R c u) : (X.cell? ⟨R, 0, none⟩ = some (.bool false) ∧ X.cell? ⟨R, 1, none⟩ = some (.int .u8 0) ∧ X.cell? ⟨R, 2, none⟩ = some (.int .i64 0) ∧ X.cell? ⟨R, 3, none⟩ = some (.int .i64 0) ∧ X.cell? ⟨R, 4, none⟩ = some (.int .i64 0) ∧ X.cell? ⟨R, 5, none⟩ = some (.int .i64 0) ∧ X.cell? ⟨R, 6, none⟩ = some (.int .i64 0) ∧ X.cell? ⟨R, 7, none⟩ = some (.bool false) ∧ X.cell? ⟨R, 8, none⟩ = some (.int .i64 0) ∧ X.cell? ⟨R, 9, none⟩ = some (.slice none 0 0)) ∧ ∀ i, X.frozen? ⟨R, i, none⟩ = false := by
  have hR := h.res
  refine ⟨?_, fun i => by simp [World.frozen?, hR]⟩
  simp only [World.cell?, hR]
  exact ⟨rfl, rfl, rfl, rfl, rfl, rfl, rfl, rfl, rfl, rfl⟩
theorem Bx.later {w X X' : World} {C R : Nat} {c : Cs} {u : Value} (h : Bx w X C R c u) (hb : Below X.heap.size X X') : Bx w X' C R c u :=
  ⟨h.at_.later hb, h.own.later hb, (hb.block R (Array.getElem?_eq_some_iff.1 h.res).1).trans h.res, h.bel.trans (hb.mono h.bel.size), h.lo⟩
/-- All but block C stays. -/
theorem Bx.but {w X X' : World} {C R : Nat} {c c' : Cs} {u u' : Value} (h : Bx w X C R c u) (hb : But C X X') (ha : CsAt X' C c' u') (ho : Owns X' 0 u' c'.held) : Bx w X' C R c' u' :=
  ⟨ha, ho, (hb.block R (Array.getElem?_eq_some_iff.1 h.res).1 (fun e => h.lo.2.2 e.symm)).trans h.res, hb.belowOf h.bel h.bel.size h.lo.1, h.lo⟩
/-- The result's cells are written. -/
theorem Bx.done {w X : World} {C R : Nat} {c : Cs} {u : Value} (h : Bx w X C R c u) : (setCase X R 0 c u).heap[R]? = some (.cells #[.bool c.el, .int .u8 c.st, .int .i64 c.opened, .int .i64 c.days, .int .i64 c.choice, .int .i64 c.level, .int .i64 c.due, .bool c.hold, .int .i64 c.since, u] 52 (0, 0)) ∧
    CPost c w (.returned (csAgg c u)) (setCase X R 0 c u) := by
  obtain ⟨cur, hc1, hc2⟩ := setCase_row (i := 0) c u h.res
  have b2 := setCase_but X R 0 c u
  have hcur : cur = #[.bool c.el, .int .u8 c.st, .int .i64 c.opened, .int .i64 c.days, .int .i64 c.choice, .int .i64 c.level, .int .i64 c.due, .bool c.hold, .int .i64 c.since, u] := by
    apply Array.toList_inj.1
    rw [hc2]; rfl
  rw [hcur] at hc1
  exact ⟨hc1, u, rfl, Owns.butCase h.res b2 h.own, b2.belowOf h.bel h.bel.size h.lo.2.1⟩
/-- Another case is handed back than the box's. -/
theorem Bx.done2 {w X : World} {C R : Nat} {c c2 : Cs} {u u2 : Value} (h : Bx w X C R c u) (ho : Owns X 0 u2 c2.held) : (setCase X R 0 c2 u2).heap[R]? = some (.cells #[.bool c2.el, .int .u8 c2.st, .int .i64 c2.opened, .int .i64 c2.days, .int .i64 c2.choice, .int .i64 c2.level, .int .i64 c2.due, .bool c2.hold, .int .i64 c2.since, u2] 52 (0, 0)) ∧
    CPost c2 w (.returned (csAgg c2 u2)) (setCase X R 0 c2 u2) := by
  obtain ⟨cur, hc1, hc2⟩ := setCase_row (i := 0) c2 u2 h.res
  have b2 := setCase_but X R 0 c2 u2
  have hcur : cur = #[.bool c2.el, .int .u8 c2.st, .int .i64 c2.opened, .int .i64 c2.days, .int .i64 c2.choice, .int .i64 c2.level, .int .i64 c2.due, .bool c2.hold, .int .i64 c2.since, u2] := by
    apply Array.toList_inj.1
    rw [hc2]; rfl
  rw [hcur] at hc1
  exact ⟨hc1, u2, rfl, Owns.butCase h.res b2 ho, b2.belowOf h.bel h.bel.size h.lo.2.1⟩
/-- The box's case is written anew. -/
theorem Bx.store {w X : World} {C R : Nat} {c c2 : Cs} {u u2 : Value} (h : Bx w X C R c u) (ho : Owns X 0 u2 c2.held) : Bx w (setCase X C 0 c2 u2) C R c2 u2 := by
  obtain ⟨cur, hc1, hc2⟩ := setCase_row (i := 0) c2 u2 h.at_
  have b2 := setCase_but X C 0 c2 u2
  have hcur : cur = #[.bool c2.el, .int .u8 c2.st, .int .i64 c2.opened, .int .i64 c2.days, .int .i64 c2.choice, .int .i64 c2.level, .int .i64 c2.due, .bool c2.hold, .int .i64 c2.since, u2] := by
    apply Array.toList_inj.1
    rw [hc2]; rfl
  rw [hcur] at hc1
  exact h.but b2 hc1 (Owns.butCase h.at_ b2 ho)


theorem heldP_len65 {c : Cs} (ok : c.HOk) (d : Int) : (heldP c d).length ≤ 100 := by
  have := ok.len
  unfold heldP
  split
  · have := un_len c.held [(c.since, min d 65536)]
    simp at this
    omega
  · omega

set_option maxHeartbeats 2000000 in
set_option maxRecDepth 100000 in
theorem endR_any (c : Cs) (d : Int) (u : Value) (w : World) (ho : Owns w 0 u c.held) (ok : c.HOk) :
    Calls Tryz.prog 32 #[csAgg c u, .int .i64 d] w (CPost (endHoldP c d) w) := by
  obtain ⟨C, hC⟩ : ∃ C, w.heap.size = C := ⟨_, rfl⟩
  obtain ⟨R, hR⟩ : ∃ R, C + 1 = R := ⟨_, rfl⟩
  have B0 := Lib.hid (Bx.made ho hC hR)
  have hCR : C ≠ R := by omega
  have HLN := Lib.hid (heldP_len65 ok d)
  obtain ⟨pu, cu, rfl, hcu⟩ := ho.form
  unfold csAgg
  clear ho
  obtain ⟨el, st, op, dy, ch, lv, du, hd, si, he⟩ := c
  cases hd with
  | false =>
    have HF := Lib.hid (show endHoldP ⟨el, st, op, dy, ch, lv, du, false, si, he⟩ d = ⟨el, st, op, dy, ch, lv, du, false, si, he⟩ by unfold endHoldP; simp)
    dsimp only at hcu B0 ⊢
    clear hcu
    go_enter Tryz.func32, Tryz.ntmps32
    go_upto_region 1 with (fail)
    generalize hX : (World.alloc (World.alloc w _) _) = X
    have BX : Bx w X C R ⟨el, st, op, dy, ch, lv, du, false, si, he⟩ (.slice pu he.length cu) := by rw [← hX]; exact B0.out
    obtain ⟨c0, c1, c2, c3, c4, c5, c6, c7, c8, c9⟩ := BX.at_.cell
    obtain ⟨⟨y0, y1, y2, y3, y4, y5, y6, y7, y8, y9⟩, yf⟩ := BX.zero
    have f0 := yf 0
    have f1 := yf 1
    have f2 := yf 2
    have f3 := yf 3
    have f4 := yf 4
    have f5 := yf 5
    have f6 := yf 6
    have f7 := yf 7
    have f8 := yf 8
    have f9 := yf 9
    have E := Lib.hid BX.done
    clear hX B0 yf BX hC hR
    go_wp2
    refine bodyPost_ret (results_cell_row rfl _ _ R 52 _ (0, 0) _ rfl E.out.1 Tryz.underlying52 rfl (by kernel_rfl)) rfl ?_
    rw [HF.out]
    exact E.out.2
  | true =>
    have HF := Lib.hid (show endHoldP ⟨el, st, op, dy, ch, lv, du, true, si, he⟩ d = ⟨el, st, op, dy, ch, lv, du, false, 0, heldP ⟨el, st, op, dy, ch, lv, du, true, si, he⟩ d⟩ by unfold endHoldP; simp)
    have HOK := Lib.hid ok
    have hlen := ok.len
    have hsi := ok.hold rfl
    have HC := Lib.hid hcu
    dsimp only at hlen hsi HC B0 ⊢
    obtain ⟨x, hx⟩ : ∃ x, x = max si (min d 65536) := ⟨_, rfl⟩
    have HX := Lib.hid hx
    have hx1 : si ≤ x := by omega
    have HX2 := Lib.hid (show ∀ e : Int, si ≤ e → e ≤ x → ¬ (e < d ∧ e < 65536) → e = x by intro e; omega)
    have HX3 := Lib.hid (show ∀ e : Int, si ≤ e → e ≤ x → e < d → e < 65536 → e + 1 ≤ x by intro e; omega)
    have HH := Lib.hid (fun (f : Nat → Bool) (hf : ∀ i : Nat, f i = (mem he i || (decide (si ≤ (i : Int)) && decide ((i : Int) < x)))) (m : Sps) (hm : IsSet (mk65 f) m) => held_set HOK.out rfl HX.out hf hm)
    obtain ⟨hp, hhp⟩ : ∃ hp, hp = heldP ⟨el, st, op, dy, ch, lv, du, true, si, he⟩ d := ⟨_, rfl⟩
    rw [← hhp] at HF HH HLN
    clear ok hcu hx hhp
    go_enter Tryz.func32, Tryz.ntmps32
    go_upto_region 1 with (fail)
    generalize hX : (World.alloc (World.alloc w _) _) = X
    have BX0 : Bx w X C R ⟨el, st, op, dy, ch, lv, du, true, si, he⟩ (.slice pu he.length cu) := by rw [← hX]; exact B0.out
    have BX := Lib.hid BX0
    obtain ⟨_, _, _, _, _, _, _, c7, c8, c9⟩ := BX0.at_.cell
    have CM := Lib.hid (marks_any he pu cu X (by omega) (HC.out.below BX0.bel) (valid_isS HOK.out.vh))
    obtain ⟨g, hg⟩ : ∃ g, X.heap.size = g := ⟨_, rfl⟩
    rw [hg] at CM
    have HG := Lib.hid hg
    have HCg := Lib.hid (show C < g by rw [← hg]; exact BX0.at_.lt)
    have HRg := Lib.hid (show R < g by rw [← hg]; exact (Array.getElem?_eq_some_iff.1 BX0.res).1)
    clear hX B0 BX0 hC hR hg
    go_wp2_with fail
    refine CM.out.mono ?_
    rintro e W1 ⟨rfl, hm, hb⟩
    have B1 := Lib.hid (BX.out.later (by rw [HG.out]; exact hb))
    have HM := Lib.hid hm
    have HBel := Lib.hid hb
    have c8' := B1.out.at_.cell.2.2.2.2.2.2.2.2.1
    dsimp only at c8'
    clear hm hb CM c7 c8 c9
    go_wp2
    go_loopw [6] (fun i wr => ∃ e : Int, si ≤ e ∧ e ≤ x ∧ i = .int .i64 e ∧ Hid (MkRow 65536 wr g (fun i => mem he i || (decide (si ≤ (i : Int)) && decide ((i : Int) < e)))) ∧ Hid (But g W1 wr)) (fun i _ => (x - intOf i).toNat)
    case atStart => exact ⟨si, by omega, by omega, rfl, Lib.hid (HM.out.congr fun i => by
        have : (decide (si ≤ (i : Int)) && decide ((i : Int) < si)) = false := by simp
        rw [this, Bool.or_false]), Lib.hid (But.refl _ _)⟩
    case round =>
      obtain ⟨e, he0, he1, rfl, hM, hB⟩ := hrel
      by_cases hlt : e < d ∧ e < 65536
      · obtain ⟨hlt, hlt2⟩ := hlt
        have h9 := HX3.out e he0 he1 hlt hlt2
        have m0 : (0 : Int) ≤ e := by omega
        have q0 := hM.out.cell e.toNat (by omega)
        have f0 := hM.out.frozen e.toNat
        have hN := Lib.hid ((hM.out.set_ e.toNat true).congr (f' := fun i => mem he i || (decide (si ≤ (i : Int)) && decide ((i : Int) < e + 1))) fun i => by
          by_cases hi : i = e.toNat
          · rw [if_pos hi]
            have h9 : (decide (si ≤ (i : Int)) && decide ((i : Int) < e + 1)) = true := by simp; omega
            rw [h9, Bool.or_true]
          · rw [if_neg hi]
            have h9 : (decide (si ≤ (i : Int)) && decide ((i : Int) < e + 1)) = (decide (si ≤ (i : Int)) && decide ((i : Int) < e)) := by
              rw [show decide ((i : Int) < e + 1) = decide ((i : Int) < e) from decide_eq_decide.2 (by omega)]
            rw [h9])
        have hBN := Lib.hid (hB.out.set_ e.toNat (.bool true))
        clear hB hM
        go_wp2
        go_roundw
        case rel => exact ⟨e + 1, by omega, by omega, by go_num, hN, hBN⟩
        case measure => simp [intOf]; omega
      · obtain rfl := HX2.out e he0 he1 hlt
        have CS := Lib.hid (setR_any _ g wr hM.out)
        have BW := Lib.hid (BX.out.later (by rw [HG.out]; exact hB.out.belowOf HBel.out (by rw [← HG.out]; exact HBel.out.size) (Nat.le_refl _)))
        have HL := Lib.hid hlt
        clear hM hB HX2 HX3 hlt BX HBel B1
        by_cases hl1 : e < d
        · have hl2 : ¬ e < 65536 := fun h => HL.out ⟨hl1, h⟩
          go_wp2_with fail
          refine CS.out.mono ?_
          rintro e2 W2 ⟨v, m, rfl, hm, hml, how, hb2⟩
          have hmh := HH.out _ (fun i => rfl) m hm
          rw [hmh] at how
          obtain ⟨pv, cv, rfl, _⟩ := how.form
          have B2 := BW.out.later hb2
          obtain ⟨c0, c1, c2, c3, c4, c5, c6, c7, c8, c9⟩ := B2.at_.cell
          obtain ⟨⟨y0, y1, y2, y3, y4, y5, y6, y7, y8, y9⟩, yf⟩ := B2.zero
          have f0 := yf 0
          have f1 := yf 1
          have f2 := yf 2
          have f3 := yf 3
          have f4 := yf 4
          have f5 := yf 5
          have f6 := yf 6
          have f7 := yf 7
          have f8 := yf 8
          have f9 := yf 9
          have x7 := B2.at_.frozen 7
          have x8 := B2.at_.frozen 8
          have x9 := B2.at_.frozen 9
          have A1 := B2.at_.set_.2.2.2.2.2.2 hp (.slice pv hp.length cv)
          have O1 := how.low.setBox B2.at_ 9 (.slice pv hp.length cv)
          have A2 := A1.set_.2.2.2.2.1 false
          have O2 := O1.setBox A1 7 (.bool false)
          have A3 := A2.set_.2.2.2.2.2.1 0
          have O3 := O2.setBox A2 8 (.int .i64 0)
          have E := Lib.hid (B2.but ((((But.refl C W2).set_ 9 (.slice pv hp.length cv)).set_ 7 (.bool false)).set_ 8 (.int .i64 0)) A3 O3).done
          clear hm hml how hb2 hmh B2 A1 A2 A3 O1 O2 O3 yf BW CS HH
          go_wp2
          refine bodyPost_ret (results_cell_row rfl _ _ R 52 _ (0, 0) _ rfl E.out.1 Tryz.underlying52 rfl (by kernel_rfl)) rfl ?_
          rw [HF.out]
          exact E.out.2
        · go_wp2_with fail
          refine CS.out.mono ?_
          rintro e2 W2 ⟨v, m, rfl, hm, hml, how, hb2⟩
          have hmh := HH.out _ (fun i => rfl) m hm
          rw [hmh] at how
          obtain ⟨pv, cv, rfl, _⟩ := how.form
          have B2 := BW.out.later hb2
          obtain ⟨c0, c1, c2, c3, c4, c5, c6, c7, c8, c9⟩ := B2.at_.cell
          obtain ⟨⟨y0, y1, y2, y3, y4, y5, y6, y7, y8, y9⟩, yf⟩ := B2.zero
          have f0 := yf 0
          have f1 := yf 1
          have f2 := yf 2
          have f3 := yf 3
          have f4 := yf 4
          have f5 := yf 5
          have f6 := yf 6
          have f7 := yf 7
          have f8 := yf 8
          have f9 := yf 9
          have x7 := B2.at_.frozen 7
          have x8 := B2.at_.frozen 8
          have x9 := B2.at_.frozen 9
          have A1 := B2.at_.set_.2.2.2.2.2.2 hp (.slice pv hp.length cv)
          have O1 := how.low.setBox B2.at_ 9 (.slice pv hp.length cv)
          have A2 := A1.set_.2.2.2.2.1 false
          have O2 := O1.setBox A1 7 (.bool false)
          have A3 := A2.set_.2.2.2.2.2.1 0
          have O3 := O2.setBox A2 8 (.int .i64 0)
          have E := Lib.hid (B2.but ((((But.refl C W2).set_ 9 (.slice pv hp.length cv)).set_ 7 (.bool false)).set_ 8 (.int .i64 0)) A3 O3).done
          clear hm hml how hb2 hmh B2 A1 A2 A3 O1 O2 O3 yf BW CS HH
          go_wp2
          refine bodyPost_ret (results_cell_row rfl _ _ R 52 _ (0, 0) _ rfl E.out.1 Tryz.underlying52 rfl (by kernel_rfl)) rfl ?_
          rw [HF.out]
          exact E.out.2

set_option maxHeartbeats 2000000 in
set_option maxRecDepth 100000 in
theorem upheldR_any (c : Cs) (d : Int) (u : Value) (w : World) (ho : Owns w 0 u c.held) (ok : c.Ok) (hd0 : 0 ≤ d) (hd1 : d ≤ 100000) :
    Calls Tryz.prog 50 #[csAgg c u, .int .i64 d] w (CPost (upholdP c d) w) := by
  obtain ⟨C, hC⟩ : ∃ C, w.heap.size = C := ⟨_, rfl⟩
  obtain ⟨R, hR⟩ : ∃ R, C + 1 = R := ⟨_, rfl⟩
  have B0 := Lib.hid (Bx.made ho hC hR)
  have hCR : C ≠ R := by omega
  obtain ⟨pu, cu, rfl, hcu⟩ := ho.form
  have CE := Lib.hid (fun X h => endR_any c d (.slice pu c.held.length cu) X h ok.h)
  have hlv := ok.lev
  have hdy := ok.days
  have e1 := endHoldP_level c d
  obtain ⟨n, hn⟩ : ∃ n, n = c.held.length := ⟨_, rfl⟩
  rw [← hn] at B0 CE
  rw [← hn]
  have HU := Lib.hid (show upholdP c d = if 3 ≤ (endHoldP c d).level then { endHoldP c d with st := 4, due := d } else { endHoldP c d with st := 2, due := d + (endHoldP c d).days } from rfl)
  obtain ⟨c', hc'⟩ : ∃ c', c' = endHoldP c d := ⟨_, rfl⟩
  rw [← hc'] at HU CE e1
  have hlv' : 0 ≤ c'.level ∧ c'.level ≤ 3 := by rw [e1.1]; exact hlv
  have hdy' : 1 ≤ c'.days ∧ c'.days ≤ 400 := by rw [e1.2.1]; exact hdy
  unfold csAgg at CE ⊢
  clear ho hcu hn ok hc' e1 hlv hdy
  obtain ⟨el, st, op, dy, ch, lv, du, hd, si, he⟩ := c
  dsimp only at CE B0 ⊢
  go_enter Tryz.func50, Tryz.ntmps50
  go_upto_region 1 with (fail)
  generalize hX : (World.alloc (World.alloc w _) _) = X
  have BX : Bx w X C R ⟨el, st, op, dy, ch, lv, du, hd, si, he⟩ (.slice pu n cu) := by rw [← hX]; exact B0.out
  have C1 := Lib.hid (CE.out X BX.own)
  have BH := Lib.hid BX
  obtain ⟨c0, c1, c2, c3, c4, c5, c6, c7, c8, c9⟩ := BX.at_.cell
  clear hX B0 BX hC hR CE
  go_wp2_with fail
  refine C1.out.mono ?_
  rintro e W1 ⟨u1, rfl, ho1, hb1⟩
  obtain ⟨p1, k1, rfl, _⟩ := ho1.form
  have BB := BH.out.later hb1
  have BS := Lib.hid (BB.store ho1)
  obtain ⟨el', st', op', dy', ch', lv', du', hd', si', he'⟩ := c'
  dsimp only at hlv' hdy' BS HU ho1
  obtain ⟨c0, c1, c2, c3, c4, c5, c6, c7, c8, c9⟩ := BB.at_.cell
  have x0 := BB.at_.frozen 0
  have x1 := BB.at_.frozen 1
  have x2 := BB.at_.frozen 2
  have x3 := BB.at_.frozen 3
  have x4 := BB.at_.frozen 4
  have x5 := BB.at_.frozen 5
  have x6 := BB.at_.frozen 6
  have x7 := BB.at_.frozen 7
  have x8 := BB.at_.frozen 8
  have x9 := BB.at_.frozen 9
  unfold setCase at BS
  unfold csAgg
  clear BB ho1 hb1 C1 BH
  go_upto_region 2 with (fail)
  generalize hX : World.setCell _ _ _ = X1
  have BB : Bx w X1 C R ⟨el', st', op', dy', ch', lv', du', hd', si', he'⟩ (.slice p1 he'.length k1) := by rw [← hX]; exact BS.out
  clear hX BS c0 c1 c2 c3 c4 c5 c6 c7 c8 c9 x0 x2 x3 x4 x5 x7 x8 x9
  obtain ⟨c0, c1, c2, c3, c4, c5, c6, c7, c8, c9⟩ := BB.at_.cell
  have x1 := BB.at_.frozen 1
  have x6 := BB.at_.frozen 6
  obtain ⟨⟨y0, y1, y2, y3, y4, y5, y6, y7, y8, y9⟩, yf⟩ := BB.zero
  have f0 := yf 0
  have f1 := yf 1
  have f2 := yf 2
  have f3 := yf 3
  have f4 := yf 4
  have f5 := yf 5
  have f6 := yf 6
  have f7 := yf 7
  have f8 := yf 8
  have f9 := yf 9
  by_cases hl : lv' = 3
  · have HF := Lib.hid (HU.out.trans (if_pos (by omega)))
    subst hl
    have A2 := BB.at_.set_.1 4
    have O2 := BB.own.setBox BB.at_ 1 (.int .u8 4)
    have A3 := A2.set_.2.2.2.1 d
    have O3 := O2.setBox A2 6 (.int .i64 d)
    have E := Lib.hid (BB.but (((But.refl C X1).set_ 1 (.int .u8 4)).set_ 6 (.int .i64 d)) A3 O3).done
    clear A2 O2 A3 O3 BB yf HU
    go_wp2
    refine bodyPost_ret (results_cell_row rfl _ _ R 52 _ (0, 0) _ rfl E.out.1 Tryz.underlying52 rfl (by kernel_rfl)) rfl ?_
    rw [HF.out]
    exact E.out.2
  · have HF := Lib.hid (HU.out.trans (if_neg (by omega)))
    have hb : (lv' == 3) = false := by simpa using hl
    have A2 := BB.at_.set_.1 2
    have O2 := BB.own.setBox BB.at_ 1 (.int .u8 2)
    have A3 := A2.set_.2.2.2.1 (d + dy')
    have O3 := O2.setBox A2 6 (.int .i64 (d + dy'))
    have E := Lib.hid (BB.but (((But.refl C X1).set_ 1 (.int .u8 2)).set_ 6 (.int .i64 (d + dy'))) A3 O3).done
    clear A2 O2 A3 O3 BB yf HU hl
    go_wp2
    refine bodyPost_ret (results_cell_row rfl _ _ R 52 _ (0, 0) _ rfl E.out.1 Tryz.underlying52 rfl (by kernel_rfl)) rfl ?_
    rw [HF.out]
    exact E.out.2

end Go.Proofs.YtbpoedopdnjffaaGreat

namespace Go.Proofs.YtbpoedopdnjffaaGreat
open Go.RowKit Go.Shelf Sp

set_option maxHeartbeats 2000000 in
set_option maxRecDepth 100000 in
theorem morningR_any (c : Cs) (d : Int) (u : Value) (w : World) (ho : Owns w 0 u c.held) (ok : c.Ok) (hd0 : 0 ≤ d) (hd1 : d ≤ 100000) :
    Calls Tryz.prog 39 #[csAgg c u, .int .i64 d] w (CPost (mornR c d) w) := by
  obtain ⟨C, hC⟩ : ∃ C, w.heap.size = C := ⟨_, rfl⟩
  obtain ⟨R, hR⟩ : ∃ R, C + 1 = R := ⟨_, rfl⟩
  have B0 := Lib.hid (Bx.made ho hC hR)
  have hCR : C ≠ R := by omega
  obtain ⟨pu, cu, rfl, hcu⟩ := ho.form
  have CU := Lib.hid (fun X h => upheldR_any c d (.slice pu c.held.length cu) X h ok hd0 hd1)
  obtain ⟨n, hn⟩ : ∃ n, n = c.held.length := ⟨_, rfl⟩
  rw [← hn] at B0 CU
  rw [← hn]
  have hst := ok.st
  have HM := Lib.hid (show mornR c d = if c.due < d ∧ (c.st = 1 ∨ c.st = 2) then { c with st := 4, due := d } else if c.due < d ∧ c.st = 3 then upholdP c d else c from rfl)
  obtain ⟨r, hr⟩ : ∃ r, r = upholdP c d := ⟨_, rfl⟩
  rw [← hr] at HM CU
  unfold csAgg at CU ⊢
  clear ho hcu hn ok hr
  obtain ⟨el, st, op, dy, ch, lv, du, hd, si, he⟩ := c
  dsimp only at CU B0 HM hst ⊢
  go_enter Tryz.func39, Tryz.ntmps39
  go_upto_region 1 with (fail)
  generalize hX : (World.alloc (World.alloc w _) _) = X
  have BX : Bx w X C R ⟨el, st, op, dy, ch, lv, du, hd, si, he⟩ (.slice pu n cu) := by rw [← hX]; exact B0.out
  obtain ⟨c0, c1, c2, c3, c4, c5, c6, c7, c8, c9⟩ := BX.at_.cell
  dsimp only at c0 c1 c2 c3 c4 c5 c6 c7 c8 c9
  clear hX B0 hC hR
  by_cases hdu : du < d
  · rcases (show st = 1 ∨ st = 2 ∨ st = 3 ∨ 4 ≤ st by omega) with rfl | rfl | rfl | h4
    · -- settled
      have HF := Lib.hid (HM.out.trans (if_pos ⟨hdu, by simp⟩))
      have A2 := BX.at_.set_.1 4
      have O2 := BX.own.setBox BX.at_ 1 (.int .u8 4)
      have A3 := A2.set_.2.2.2.1 d
      have O3 := O2.setBox A2 6 (.int .i64 d)
      have x1 := BX.at_.frozen 1
      have x6 := BX.at_.frozen 6
      obtain ⟨⟨y0, y1, y2, y3, y4, y5, y6, y7, y8, y9⟩, yf⟩ := BX.zero
      have f0 := yf 0
      have f1 := yf 1
      have f2 := yf 2
      have f3 := yf 3
      have f4 := yf 4
      have f5 := yf 5
      have f6 := yf 6
      have f7 := yf 7
      have f8 := yf 8
      have f9 := yf 9
      clear yf
      have E := Lib.hid (BX.but (((But.refl C X).set_ 1 (.int .u8 4)).set_ 6 (.int .i64 d)) A3 O3).done
      clear A2 O2 A3 O3 BX HM CU
      go_wp2
      refine bodyPost_ret (results_cell_row rfl _ _ R 52 _ (0, 0) _ rfl E.out.1 Tryz.underlying52 rfl (by kernel_rfl)) rfl ?_
      rw [HF.out]
      exact E.out.2
    · -- stands
      have HF := Lib.hid (HM.out.trans (if_pos ⟨hdu, by simp⟩))
      have A2 := BX.at_.set_.1 4
      have O2 := BX.own.setBox BX.at_ 1 (.int .u8 4)
      have A3 := A2.set_.2.2.2.1 d
      have O3 := O2.setBox A2 6 (.int .i64 d)
      have x1 := BX.at_.frozen 1
      have x6 := BX.at_.frozen 6
      obtain ⟨⟨y0, y1, y2, y3, y4, y5, y6, y7, y8, y9⟩, yf⟩ := BX.zero
      have f0 := yf 0
      have f1 := yf 1
      have f2 := yf 2
      have f3 := yf 3
      have f4 := yf 4
      have f5 := yf 5
      have f6 := yf 6
      have f7 := yf 7
      have f8 := yf 8
      have f9 := yf 9
      clear yf
      have E := Lib.hid (BX.but (((But.refl C X).set_ 1 (.int .u8 4)).set_ 6 (.int .i64 d)) A3 O3).done
      clear A2 O2 A3 O3 BX HM CU
      go_wp2
      refine bodyPost_ret (results_cell_row rfl _ _ R 52 _ (0, 0) _ rfl E.out.1 Tryz.underlying52 rfl (by kernel_rfl)) rfl ?_
      rw [HF.out]
      exact E.out.2
    · have HF := Lib.hid ((HM.out.trans (if_neg (by simp))).trans (if_pos ⟨hdu, rfl⟩))
      have C1 := Lib.hid (CU.out X BX.own)
      have BH := Lib.hid BX
      clear BX HM CU
      go_wp2_with fail
      refine C1.out.mono ?_
      rintro e W1 ⟨u1, rfl, ho1, hb1⟩
      obtain ⟨p1, k1, rfl, _⟩ := ho1.form
      have BB := BH.out.later hb1
      obtain ⟨⟨y0, y1, y2, y3, y4, y5, y6, y7, y8, y9⟩, yf⟩ := BB.zero
      have f0 := yf 0
      have f1 := yf 1
      have f2 := yf 2
      have f3 := yf 3
      have f4 := yf 4
      have f5 := yf 5
      have f6 := yf 6
      have f7 := yf 7
      have f8 := yf 8
      have f9 := yf 9
      clear yf
      have E := Lib.hid (BB.done2 ho1)
      obtain ⟨el', st', op', dy', ch', lv', du', hd', si', he'⟩ := r
      dsimp only at E HF ho1
      unfold csAgg
      clear BB ho1 hb1 C1 BH c0 c1 c2 c3 c4 c5 c6 c7 c8 c9
      go_wp2
      refine bodyPost_ret (results_cell_row rfl _ _ R 52 _ (0, 0) _ rfl E.out.1 Tryz.underlying52 rfl (by kernel_rfl)) rfl ?_
      rw [HF.out]
      exact E.out.2
    · have b1 : (st == 1) = false := by simp; omega
      have b2 : (st == 2) = false := by simp; omega
      have b3 : (st == 3) = false := by simp; omega
      have HF := Lib.hid ((HM.out.trans (if_neg (by omega))).trans (if_neg (by omega)))
      obtain ⟨⟨y0, y1, y2, y3, y4, y5, y6, y7, y8, y9⟩, yf⟩ := BX.zero
      have f0 := yf 0
      have f1 := yf 1
      have f2 := yf 2
      have f3 := yf 3
      have f4 := yf 4
      have f5 := yf 5
      have f6 := yf 6
      have f7 := yf 7
      have f8 := yf 8
      have f9 := yf 9
      clear yf
      have E := Lib.hid BX.done
      clear BX HM CU
      go_wp2
      refine bodyPost_ret (results_cell_row rfl _ _ R 52 _ (0, 0) _ rfl E.out.1 Tryz.underlying52 rfl (by kernel_rfl)) rfl ?_
      rw [HF.out]
      exact E.out.2
  · have hdn : d ≤ du := by omega
    have HF := Lib.hid ((HM.out.trans (if_neg (by omega))).trans (if_neg (by omega)))
    obtain ⟨⟨y0, y1, y2, y3, y4, y5, y6, y7, y8, y9⟩, yf⟩ := BX.zero
    have f0 := yf 0
    have f1 := yf 1
    have f2 := yf 2
    have f3 := yf 3
    have f4 := yf 4
    have f5 := yf 5
    have f6 := yf 6
    have f7 := yf 7
    have f8 := yf 8
    have f9 := yf 9
    clear yf
    have E := Lib.hid BX.done
    clear BX HM CU
    go_wp2
    refine bodyPost_ret (results_cell_row rfl _ _ R 52 _ (0, 0) _ rfl E.out.1 Tryz.underlying52 rfl (by kernel_rfl)) rfl ?_
    rw [HF.out]
    exact E.out.2

end Go.Proofs.YtbpoedopdnjffaaGreat

namespace Go.Proofs.YtbpoedopdnjffaaGreat
open Go.RowKit Go.Shelf Sp

theorem CRow.read {W : World} {base : Nat} {v : Value} {ps : List (Cs × Value)} (h : CRow W base v ps) (k : Nat) (hk : k < ps.length) :
    ∃ g cap, v = .slice (some ⟨g, 0, none⟩) ps.length cap ∧ base ≤ g ∧ g < W.heap.size ∧ (∃ cur, W.heap[g]? = some (.cells cur 52 (0, 0))) ∧ CaseCells W g (k * 10) ps[k].1 ps[k].2 ∧ Owns W 0 ps[k].2 ps[k].1.held ∧ ∀ j, W.frozen? ⟨g, j, none⟩ = false := by
  obtain ⟨p, cap, e, hr⟩ := h.form
  obtain ⟨g, rfl, hb, _, ⟨cur, hg⟩, hcl⟩ := hr (by intro e; subst e; simp at hk)
  obtain ⟨h1, h2⟩ := hcl k hk
  exact ⟨g, cap, e, hb, (Array.getElem?_eq_some_iff.1 hg).1, ⟨cur, hg⟩, h1, h.2 _ (List.getElem_mem hk), h2⟩

/-- Where an append takes cases from. -/
def CSrc (W : World) (p : Option Addr) (ps : List (Cs × Value)) : Prop :=
  (p = none ∧ ps = []) ∨ ∃ ad : Addr, p = some ad ∧ ∀ j u, (cflat ps)[j]? = some u → W.cell? (ad.add j) = some u
theorem CRow.src {W : World} {base : Nat} {v : Value} {ps : List (Cs × Value)} (h : CRow W base v ps) : ∃ p cap, v = .slice p ps.length cap ∧ CSrc W p ps := by
  rcases h.1.2 with ⟨rfl, h0⟩ | ⟨g, cap, cur, rfl, hb, hg, hn, hm, hs, ht⟩
  · have : ps = [] := List.eq_nil_of_length_eq_zero h0
    subst this
    exact ⟨none, 0, rfl, .inl ⟨rfl, rfl⟩⟩
  · refine ⟨_, _, rfl, .inr ⟨_, rfl, fun j u hj => ?_⟩⟩
    have e : (⟨g, 0, none⟩ : Addr).add j = ⟨g, j, none⟩ := by unfold Addr.add; split <;> simp_all
    rw [e]
    rw [← ht, List.getElem?_take] at hj
    split at hj
    · rw [Array.getElem?_toList] at hj
      simp [World.cell?, hg, hj]
    · cases hj
theorem CSrc.later {W W' : World} {p : Option Addr} {ps : List (Cs × Value)} (h : CSrc W p ps) (hb : Below W.heap.size W W') : CSrc W' p ps := by
  rcases h with h | ⟨ad, rfl, h⟩
  · exact .inl h
  · refine .inr ⟨ad, rfl, fun j u hj => ?_⟩
    have := h j u hj
    exact (hb.cell (World.block_lt_of_cell? W _ this)).trans this
theorem cflat_cell {ps : List (Cs × Value)} (h : ∀ p ∈ ps, ∃ q n c, p.2 = .slice q n c) : ∀ u ∈ cflat ps, u.oneCell' = true := by
  intro u hu
  unfold cflat at hu
  obtain ⟨p, hp, hu⟩ := List.mem_flatMap.1 hu
  obtain ⟨q, n, c, e⟩ := h p hp
  unfold csRow at hu
  simp only [List.mem_cons, List.not_mem_nil, or_false] at hu
  rcases hu with rfl | rfl | rfl | rfl | rfl | rfl | rfl | rfl | rfl | rfl <;> first | rfl | (rw [e]; rfl)
/-- Cases are appended to a row of one's own. -/
theorem run_append_cases (w : World) (base : Nat) (v : Value) (ps : List (Cs × Value)) (hown : CRow w base v ps) (q : Option Addr) (c : Nat) (qs : List (Cs × Value)) (hs : CSrc w q qs) (hq : ∀ p ∈ qs, Owns w 0 p.2 p.1.held) (hN : ps.length + qs.length ≤ 100000) (hbase : base ≤ w.heap.size) :
    ∃ v' w', (Builtin.append_ #[35, 35] 35 #[v, .slice q qs.length c]).run Tryz.prog w = .ok v' w' ∧ CRow w' base v' (ps ++ qs) ∧ w.grownBy w' v.ownBlock := by
  obtain ⟨i0, hi0, hz0, hz1, hz2⟩ := info_parts info_case
  rcases hs with ⟨rfl, rfl⟩ | ⟨ad, rfl, hc⟩
  · refine ⟨v, w, ?_, by rw [List.append_nil]; exact hown, World.grownBy.refl w _⟩
    rcases hown.1.2 with ⟨rfl, h0⟩ | ⟨g, cap, cur, rfl, _, _, hnc, _⟩
    · simp [Builtin.append_, run_underlying (P := Tryz.prog) Tryz.underlying35, sizeOf, typeInfo, hi0, Builtin.lenOf, Builtin.firstCells]
    · simp [Builtin.append_, run_underlying (P := Tryz.prog) Tryz.underlying35, sizeOf, typeInfo, hi0, Builtin.lenOf, Builtin.firstCells, hnc, storeCells]
  · obtain ⟨v', w', h1, h2, h3, _, h5⟩ := run_append_own_at (P := Tryz.prog) w base 35 35 52 i0 _ 10 88 Tryz.underlying35 hi0 hz0 hz1 hz2 rfl (by omega) v ps.length (cflat ps) hown.1 ad qs.length c (cflat qs) (cflat_length qs) hc (cflat_cell fun p hp => by obtain ⟨a, b, e, _⟩ := (hq p hp).form; exact ⟨a, _, b, e⟩) (by simp only [maxLen]; omega) (by omega) hbase
    refine ⟨v', w', h1, ⟨by rw [cflat_append, List.length_append]; exact h2, fun p hp => ?_⟩, h3⟩
    rcases List.mem_append.1 hp with hp | hp
    · exact Owns.grownCase hown.1 h3 (hown.2 p hp)
    · exact Owns.grownCase hown.1 h3 (hq p hp)

theorem set9_flat (ps : List (Cs × Value)) (l : Sps) (u : Value) : ∀ k : Nat, (h : k < ps.length) → (cflat ps).set (k * 10 + 9) u = cflat (ps.set k ({ ps[k].1 with held := l }, u)) := by
  induction ps with
  | nil => intro k h; simp at h
  | cons p ps ih =>
    intro k h
    cases k with
    | zero => rfl
    | succ k =>
      rw [show (k + 1) * 10 + 9 = k * 10 + 9 + 1 + 1 + 1 + 1 + 1 + 1 + 1 + 1 + 1 + 1 by omega, List.set_cons_succ, cflat_cons, cflat_cons]
      simp only [List.getElem_cons_succ]
      rw [← ih k (by simpa using h)]
      unfold csRow
      simp only [List.cons_append, List.nil_append, List.set_cons_succ]
/-- A case's held days are written. -/
theorem CRow.store9 {W : World} {base : Nat} {v : Value} {ps : List (Cs × Value)} (h : CRow W base v ps) {g k : Nat} (hv : v.ownBlock = some g) (hk : k < ps.length) (l : Sps) (u : Value) (ho : Owns W 0 u l) :
    CRow (W.setCell ⟨g, k * 10 + 9, none⟩ u) base v (ps.set k ({ ps[k].1 with held := l }, u)) := by
  rcases h.1.2 with ⟨_, h0⟩ | ⟨g', cap, cur, rfl, hb, hg, hn, hm, hs, ht⟩
  · omega
  · obtain rfl : g' = g := by simpa [Value.ownBlock] using hv
    have hc1 := setCell_row (i := k * 10 + 9) u hg
    have hbut := (But.refl g' W).set_ (k * 10 + 9) u
    refine ⟨⟨by rw [cflat_length, List.length_set], .inr ⟨g', cap, _, by rw [List.length_set], hb, hc1, by rw [List.length_set]; exact hn, hm, by simpa using hs, ?_⟩⟩, fun p hp => ?_⟩
    · rw [List.length_set, Array.toList_setIfInBounds, List.take_set, ht, set9_flat ps l u k hk]
    · rcases List.mem_or_eq_of_mem_set hp with hp | rfl
      · exact (h.2 p hp).butCase hg hbut
      · exact Owns.butCase hg hbut ho

end Go.Proofs.YtbpoedopdnjffaaGreat

namespace Go.Proofs.YtbpoedopdnjffaaGreat
open Go.RowKit Go.Shelf Sp

/-- A book is handed back. -/
def BkPost (base : Nat) (L : List Cs) (now last : Int) (w : World) (e : Ending) (w' : World) : Prop :=
  ∃ v ps, e = .returned (.agg #[v, .int .i64 now, .int .i64 last]) ∧ ps.map Prod.fst = L ∧ CRow w' base v ps ∧ Below w.heap.size w w'

/-- A book in a box. -/
def BkAt (X : World) (B : Nat) (v : Value) (e last : Int) : Prop := X.heap[B]? = some (.cells #[v, .int .i64 e, .int .i64 last] 37 (0, 0))
theorem BkAt.lt {X : World} {B : Nat} {v : Value} {e last : Int} (h : BkAt X B v e last) : B < X.heap.size := (Array.getElem?_eq_some_iff.1 h).1
theorem BkAt.cell {X : World} {B : Nat} {v : Value} {e last : Int} (h : BkAt X B v e last) : X.cell? ⟨B, 0, none⟩ = some v ∧ X.cell? ⟨B, 1, none⟩ = some (.int .i64 e) ∧ X.cell? ⟨B, 2, none⟩ = some (.int .i64 last) ∧ ∀ j, X.frozen? ⟨B, j, none⟩ = false := by
  unfold BkAt at h
  simp [World.cell?, World.frozen?, h]
theorem BkAt.later {X X' : World} {B : Nat} {v : Value} {e last : Int} (h : BkAt X B v e last) (hb : Below X.heap.size X X') : BkAt X' B v e last := (hb.block B h.lt).trans h
theorem BkAt.but {X X' : World} {B g : Nat} {v : Value} {e last : Int} (h : BkAt X B v e last) (hb : But g X X') (hg : B ≠ g) : BkAt X' B v e last := (hb.block B h.lt hg).trans h
theorem BkAt.not_row {X : World} {B : Nat} {v : Value} {e last : Int} (h : BkAt X B v e last) : (∀ cs z, X.heap[B]? ≠ some (.cells cs 52 z)) ∧ ∀ cs z, X.heap[B]? ≠ some (.cells cs 54 z) := by
  unfold BkAt at h
  constructor <;> (intro cs z e'; rw [h] at e'; injection e' with e'; injection e' with _ e2 _; exact absurd e2 (by decide))
theorem BkAt.not_case {X : World} {B g : Nat} {v : Value} {e last : Int} (h : BkAt X B v e last) {cur : Array Value} (hg : X.heap[g]? = some (.cells cur 52 (0, 0))) : B ≠ g := by
  rintro rfl; exact h.not_row.1 _ _ hg
theorem BkAt.set_ {X : World} {B : Nat} {v : Value} {e last : Int} (h : BkAt X B v e last) : (∀ u, BkAt (X.setCell ⟨B, 0, none⟩ u) B u e last) ∧ (∀ x : Int, BkAt (X.setCell ⟨B, 1, none⟩ (.int .i64 x)) B v x last) ∧ (∀ x : Int, BkAt (X.setCell ⟨B, 2, none⟩ (.int .i64 x)) B v e x) := by
  unfold BkAt at h ⊢
  simp only [World.setCell, Array.getElem?_modify, h]
  exact ⟨fun _ => rfl, fun _ => rfl, fun _ => rfl⟩
/-- Three cells of a book's box are written. -/
def setBk (X : World) (R : Nat) (v : Value) (e last : Int) : World := ((X.setCell ⟨R, 0, none⟩ v).setCell ⟨R, 0 + 1, none⟩ (.int .i64 e)).setCell ⟨R, 0 + 2, none⟩ (.int .i64 last)
theorem setBk_but (X : World) (R : Nat) (v : Value) (e last : Int) : But R X (setBk X R v e last) := (((But.refl R X).set_ _ _).set_ _ _).set_ _ _
theorem setBk_at {X : World} {R : Nat} {v0 v : Value} {e0 l0 e last : Int} (h : BkAt X R v0 e0 l0) : BkAt (setBk X R v e last) R v e last := ((h.set_.1 v).set_.2.1 e).set_.2.2 last
theorem CRow.butBk {X X' : World} {base B : Nat} {v v0 : Value} {ps : List (Cs × Value)} {e last : Int} (h : CRow X base v ps) (hB : BkAt X B v0 e last) (hb : But B X X') : CRow X' base v ps := h.of_but hb hB.not_row

structure PW (w : World) (B R : Nat) (v : Value) (L : List Cs) (e last : Int) (X : World) : Prop where
  box : BkAt X B v e last
  row : ∃ ps, ps.map Prod.fst = L ∧ CRow X w.heap.size v ps
  res : BkAt X R (.slice none 0 0) 0 0
  bel : Below w.heap.size w X
  lo : w.heap.size ≤ B ∧ w.heap.size ≤ R ∧ B ≠ R
theorem PW.later {w X X' : World} {B R : Nat} {v : Value} {L : List Cs} {e last : Int} (h : PW w B R v L e last X) (hb : Below X.heap.size X X') : PW w B R v L e last X' := by
  obtain ⟨ps, h1, h2⟩ := h.row
  exact ⟨h.box.later hb, ⟨ps, h1, h2.later hb⟩, h.res.later hb, h.bel.trans (hb.mono h.bel.size), h.lo⟩
theorem PW.tick {w X : World} {B R : Nat} {v : Value} {L : List Cs} {e last : Int} (h : PW w B R v L e last X) (x : Int) : PW w B R v L x last (X.setCell ⟨B, 1, none⟩ (.int .i64 x)) := by
  obtain ⟨ps, h1, h2⟩ := h.row
  have b := (But.refl B X).set_ 1 (.int .i64 x)
  exact ⟨h.box.set_.2.1 x, ⟨ps, h1, h2.butBk h.box b⟩, h.res.but b h.lo.2.2.symm, b.belowOf h.bel h.bel.size h.lo.1, h.lo⟩
theorem PW.read {w X : World} {B R : Nat} {v : Value} {L : List Cs} {e last : Int} (h : PW w B R v L e last X) (k : Nat) (hk : k < L.length) :
    ∃ g cap u, v = .slice (some ⟨g, 0, none⟩) L.length cap ∧ w.heap.size ≤ g ∧ g < X.heap.size ∧ B ≠ g ∧ R ≠ g ∧ CaseCells X g (k * 10) L[k] u ∧ Owns X 0 u L[k].held ∧ ∀ j, X.frozen? ⟨g, j, none⟩ = false := by
  obtain ⟨ps, rfl, h2⟩ := h.row
  obtain ⟨g, cap, e1, hb, hlt, ⟨cur, hg⟩, hcc, ho, hz⟩ := h2.read k (by simpa using hk)
  exact ⟨g, cap, ps[k]'(by simpa using hk) |>.2, by rw [List.length_map]; exact e1, hb, hlt, h.box.not_case hg, h.res.not_case hg, by simpa using hcc, by simpa using ho, hz⟩
theorem PW.store {w X : World} {B R : Nat} {L : List Cs} {e last : Int} {g n cap : Nat} (h : PW w B R (.slice (some ⟨g, 0, none⟩) n cap) L e last X) {k : Nat} (hk : k < L.length) (c : Cs) (u : Value) (ho : Owns X 0 u c.held) :
    PW w B R (.slice (some ⟨g, 0, none⟩) n cap) (L.set k c) e last (setCase X g (k * 10) c u) := by
  obtain ⟨ps, rfl, h2⟩ := h.row
  have hk' : k < ps.length := by simpa using hk
  obtain ⟨g', cap', e1, hb, hlt, ⟨cur, hg⟩, _⟩ := h2.read k hk'
  injection e1 with e1
  injection e1 with e1
  injection e1 with e1
  subst e1
  have b := setCase_but X g (k * 10) c u
  exact ⟨h.box.but b (h.box.not_case hg), ⟨ps.set k (c, u), by rw [List.map_set], h2.store rfl hk' c u ho⟩, h.res.but b (h.res.not_case hg), b.belowOf h.bel h.bel.size hb, h.lo⟩
theorem PW.done {w X : World} {B R : Nat} {v : Value} {L : List Cs} {e last : Int} (h : PW w B R v L e last X) :
    BkAt (setBk X R v e last) R v e last ∧ BkPost w.heap.size L e last w (.returned (.agg #[v, .int .i64 e, .int .i64 last])) (setBk X R v e last) := by
  obtain ⟨ps, h1, h2⟩ := h.row
  have b := setBk_but X R v e last
  exact ⟨setBk_at h.res, v, ps, rfl, h1, h2.butBk h.res b, b.belowOf h.bel h.bel.size h.lo.2.1⟩

/-- The day of a book in a box. -/
def bkNow (X : World) (B : Nat) : Int := match X.cell? ⟨B, 1, none⟩ with | some (.int _ i) => i | _ => 0
theorem bkNow_at {X : World} {B : Nat} {v : Value} {e last : Int} (h : BkAt X B v e last) : bkNow X B = e := by
  unfold bkNow; rw [h.cell.2.1]

/-- A row of no cases, made by a literal. -/
theorem CRow.empty (W : World) (base : Nat) (hb : base ≤ W.heap.size) : CRow (W.alloc (.cells #[] 52)) base (.slice (some ⟨W.heap.size, 0, none⟩) 0 0) [] :=
  ⟨⟨rfl, .inr ⟨W.heap.size, 0, #[], rfl, hb, World.alloc_heap_new W _, Nat.le_refl _, by unfold maxLen; omega, rfl, rfl⟩⟩, by simp⟩

theorem wp_append_cases {o : Oper} {a : Act} {K : Act → World → Prop} {Q : Exit → Act → World → Prop} (w : World) (s x : Operand)
    (ho : o.op = .call { callee := .builtin .append, args := #[s, x], argTypes := #[35, 35] }) (hty : o.type = 35)
    (base : Nat) (v : Value) (ps : List (Cs × Value)) (hs : a.eval s = v) (hown : CRow w base v ps) (q : Option Addr) (n c : Nat) (qs : List (Cs × Value)) (hn : qs.length = n) (hx : a.eval x = .slice q n c) (hsr : CSrc w q qs) (hq : ∀ p ∈ qs, Owns w 0 p.2 p.1.held) (hN : ps.length + qs.length ≤ 100000) (hbase : base ≤ w.heap.size)
    (h : ∀ v' w', CRow w' base v' (ps ++ qs) → w.grownBy w' v.ownBlock → K (a.put o.dst v') w') : o.wp Tryz.prog a w K Q := by
  subst hn
  obtain ⟨v', w', hr, h2, h3⟩ := run_append_cases w base v ps hown q c qs hsr hq hN hbase
  unfold Oper.wp execOp
  simp only [ho, hty, resolve, invoke, builtin, Sem.run_bind, Sem.run_pure, Result.andThen_ok, List.map_toArray, List.map_cons, List.map_nil, hs, hx, hr]
  exact h v' w' h2 h3

end Go.Proofs.YtbpoedopdnjffaaGreat

namespace Go.Proofs.YtbpoedopdnjffaaGreat
open Go.RowKit Go.Shelf Sp

theorem pass_start {w X w1 : World} {B R : Nat} {v0 v' : Value} {now last : Int} {L : List Cs} {ps : List (Cs × Value)} (hB : BkAt X B v0 now last) (hR : BkAt X R (.slice none 0 0) 0 0) (bel : Below w.heap.size w X) (lo : w.heap.size ≤ B ∧ w.heap.size ≤ R ∧ B ≠ R) (hps : ps.map Prod.fst = L) {n : Nat} (hn : ps.length = n)
    (hown : CRow w1 w.heap.size v' ps) (hg : (X.alloc (.cells #[] 52)).grownBy w1 (some X.heap.size)) :
    ∃ p c, v' = .slice p n c ∧ w1.frozen? ⟨B, 0, none⟩ = false ∧ w1.cell? ⟨B, 0, none⟩ = some v0 ∧ Hid (PW w B R (.slice p n c) L now last (w1.setCell ⟨B, 0, none⟩ (.slice p n c))) := by
  subst hn
  obtain ⟨p, c, rfl, _⟩ := hown.form
  have hl := hB.lt
  have hlR := hR.lt
  have b1 : BkAt w1 B v0 now last := by
    have e : (X.alloc (.cells #[] 52)).heap[B]? = X.heap[B]? := ((Below.refl _ X).alloc (Nat.le_refl _) _).block B hl
    exact ((hg.block B (by simp; omega) (by intro e2; injection e2 with e2; omega)).trans e).trans hB
  have r1 : BkAt w1 R (.slice none 0 0) 0 0 := by
    have e : (X.alloc (.cells #[] 52)).heap[R]? = X.heap[R]? := ((Below.refl _ X).alloc (Nat.le_refl _) _).block R hlR
    exact ((hg.block R (by simp; omega) (by intro e2; injection e2 with e2; omega)).trans e).trans hR
  have bl : Below w.heap.size w w1 := (bel.alloc bel.size _).grown hg (by have := bel.size; simp; omega) fun j ej => by injection ej with ej; have := bel.size; omega
  have b := (But.refl B w1).set_ 0 (.slice p ps.length c)
  exact ⟨p, c, rfl, b1.cell.2.2.2 0, b1.cell.1, Lib.hid ⟨b1.set_.1 _, ⟨ps, hps, hown.butBk b1 b⟩, r1.but b lo.2.2.symm, b.belowOf bl bl.size lo.1, lo⟩⟩

/-- One case of the row passes on to the next day. -/
theorem PW.morn {w wr : World} {B R : Nat} {K : List Cs} {e last : Int} {k : Nat} {g n cap : Nat} (h : PW w B R (.slice (some ⟨g, 0, none⟩) n cap) (mid K e k) (e + 1) last wr) (hk : k < K.length) (ok : ∀ c ∈ K, c.Ok) (he0 : 0 ≤ e) (he1 : e ≤ 65535) {u : Value} (ho : Owns wr 0 u (passP K[k] e).held) (hc0 : CaseCells wr g (k * 10) (passP K[k] e) u) (X : World) (hX : Below wr.heap.size wr X) :
    Calls Tryz.prog 39 #[csAgg (passP K[k] e) u, .int .i64 (e + 1)] X fun e2 W2 => ∃ p2 n2 k2, e2 = .returned (csAgg (passP K[k] (e + 1)) (.slice p2 n2 k2)) ∧ W2.cell? ⟨B, 0, none⟩ = some (.slice (some ⟨g, 0, none⟩) n cap) ∧ (∀ j, W2.frozen? ⟨g, j, none⟩ = false) ∧ Hid (CaseCells W2 g (k * 10) (passP K[k] e) u) ∧ Hid (PW w B R (.slice (some ⟨g, 0, none⟩) n cap) (mid K e (k + 1)) (e + 1) last (setCase W2 g (k * 10) (passP K[k] (e + 1)) (.slice p2 n2 k2))) := by
  have okc := passP_ok (ok _ (List.getElem_mem hk)) e
  refine (morningR_any (passP K[k] e) (e + 1) u X (ho.later hX) okc (by omega) (by omega)).mono ?_
  rintro e2 W2 ⟨u2, rfl, ho2, hb⟩
  rw [morn_pass (ok _ (List.getElem_mem hk))] at ho2 ⊢
  obtain ⟨p2, k2, rfl, _⟩ := ho2.form
  have hb2 : Below wr.heap.size wr W2 := below_next hX hb
  have h2 := h.later hb2
  have hk' : k < (mid K e k).length := by rw [mid_length]; exact hk
  obtain ⟨g', cap', u', e1, _, hgl, _, _, hcc, _, hz⟩ := h2.read k hk'
  injection e1 with e1
  injection e1 with e1
  injection e1 with e1
  subst e1
  have h3 := h2.store hk' (passP K[k] (e + 1)) _ ho2
  rw [mid_set K e k hk] at h3
  exact ⟨p2, _, k2, rfl, h2.box.cell.1, hz, Lib.hid (hc0.below hb2), Lib.hid h3⟩

theorem two_alloc (w : World) (o1 o2 : Obj) : ((w.alloc o1).alloc o2).heap[w.heap.size]? = some o1 ∧ ((w.alloc o1).alloc o2).heap[w.heap.size + 1]? = some o2 ∧ Below w.heap.size w ((w.alloc o1).alloc o2) := by
  refine ⟨(((Below.refl _ (w.alloc o1)).alloc (Nat.le_refl _) o2).block w.heap.size (by simp)).trans (World.alloc_heap_new w o1), ?_, ((Below.refl _ _).alloc (Nat.le_refl _) _).alloc (by simp) _⟩
  have h1 := World.alloc_heap_new (w.alloc o1) o2
  rw [World.size_alloc] at h1
  exact h1

set_option maxHeartbeats 4000000 in
set_option maxRecDepth 100000 in
theorem passR_any (K : List Cs) (now last day : Int) (v : Value) (ps : List (Cs × Value)) (w : World) (hrow : CRow w 0 v ps) (hps : ps.map Prod.fst = K.map fun c => passP c now) (ok : ∀ c ∈ K, c.Ok) (hl : K.length ≤ 100) (h0 : 0 ≤ now) (h1 : now ≤ day) (h2 : day ≤ 65535) :
    Calls Tryz.prog 31 #[.agg #[v, .int .i64 now, .int .i64 last], .int .i64 day] w (BkPost w.heap.size (K.map fun c => passP c day) day last w) := by
  obtain ⟨q0, cap0, rfl, hsrc⟩ := hrow.src
  have hlen : ps.length = K.length := by simpa using congrArg List.length hps
  have HS0 := Lib.hid hsrc
  have HR0 := Lib.hid hrow
  have HP0 := Lib.hid hps
  have OK := Lib.hid ok
  obtain ⟨B, hB⟩ : ∃ B, w.heap.size = B := ⟨_, rfl⟩
  obtain ⟨R, hR⟩ : ∃ R, B + 1 = R := ⟨_, rfl⟩
  have hBR : B ≠ R := by omega
  have LO := Lib.hid (show w.heap.size ≤ B ∧ w.heap.size ≤ R ∧ B ≠ R by omega)
  rw [hlen]
  obtain ⟨n, hn⟩ : ∃ n, n = K.length := ⟨_, rfl⟩
  have HN := Lib.hid hn
  rw [← hn] at hlen hl ⊢
  have HL := Lib.hid hlen
  have W0 := Lib.hid (show (BkAt ((w.alloc (.cells #[.slice q0 n cap0, .int .i64 now, .int .i64 last] 37)).alloc (.cells #[.slice none 0 0, .int .i64 0, .int .i64 0] 37)) B (.slice q0 n cap0) now last ∧ BkAt ((w.alloc (.cells #[.slice q0 n cap0, .int .i64 now, .int .i64 last] 37)).alloc (.cells #[.slice none 0 0, .int .i64 0, .int .i64 0] 37)) R (.slice none 0 0) 0 0 ∧ Below w.heap.size w ((w.alloc (.cells #[.slice q0 n cap0, .int .i64 now, .int .i64 last] 37)).alloc (.cells #[.slice none 0 0, .int .i64 0, .int .i64 0] 37))) by
    subst hR hB; exact two_alloc w _ _)
  clear hrow hsrc hps hn hlen ok
  go_enter Tryz.func31, Tryz.ntmps31
  go_upto_region 1 with (fail)
  generalize hX : (World.alloc (World.alloc w _) _) = X
  have WX : BkAt X B (.slice q0 n cap0) now last ∧ BkAt X R (.slice none 0 0) 0 0 ∧ Below w.heap.size w X := by rw [← hX]; exact W0.out
  obtain ⟨BX, RX, LX⟩ := WX
  obtain ⟨b0, b1, b2, bf⟩ := BX.cell
  have SRC := Lib.hid (HS0.out.later (below_next (w := w) LX ((Below.refl _ X).alloc (Nat.le_refl _) (.cells #[] 52))))
  have OWN := Lib.hid (fun p (hp : p ∈ ps) => (HR0.out.2 p hp).later (below_next (w := w) LX ((Below.refl _ X).alloc (Nat.le_refl _) (.cells #[] 52))))
  have EM := Lib.hid (CRow.empty X w.heap.size LX.size)
  have AP := Lib.hid (fun (v' : Value) (w1 : World) h hg => pass_start (w1 := w1) (v' := v') BX RX LX LO.out HP0.out HL.out h hg)
  have hsz := LX.size
  have hBX : B ≠ X.heap.size := Nat.ne_of_lt BX.lt
  have b0' : (X.alloc (.cells #[] 52)).cell? ⟨B, 0, none⟩ = some (.slice q0 n cap0) := (((Below.refl _ X).alloc (Nat.le_refl _) _).cell (p := ⟨B, 0, none⟩) BX.lt).trans b0
  clear hX W0 BX RX LX bf hB hR HS0 HR0
  go_wp2_with (first | (at_builtin; refine wpList_plain rfl fun KK hKK => ?_; refine wp_append_cases _ _ _ rfl rfl w.heap.size _ [] rfl EM.out q0 n cap0 ps HL.out rfl SRC.out OWN.out (by have := HL.out; simp; omega) (by simp; omega) ?_; intro v' w1 hown' hgrow; obtain ⟨p1, c1, rfl, z0, t0, HPW⟩ := AP.out v' w1 hown' hgrow; clear hown' hgrow AP; refine hKK _ _ ?_; clear hKK) | fail)
  go_loopw [] (fun wr => ∃ e : Int, now ≤ e ∧ e ≤ day ∧ Hid (PW w B R (.slice p1 n c1) (K.map fun c => passP c e) e last wr)) (fun wr => (day - bkNow wr B).toNat)
  case atStart => exact ⟨now, by omega, by omega, HPW⟩
  case round =>
    obtain ⟨e, he0, he1, hI⟩ := hrel
    obtain ⟨b0, b1, b2, bf⟩ := hI.out.box.cell
    have bf1 := bf 1
    have hR0 := Lib.hid (bkNow_at hI.out.box)
    clear bf
    by_cases hlt : e < day
    · have hM := Lib.hid (show PW w B R (.slice p1 n c1) (mid K e 0) (e + 1) last (wr.setCell ⟨B, 1, none⟩ (.int .i64 (e + 1))) from by rw [mid_zero]; exact hI.out.tick _)
      clear hI
      go_wp2
      go_loopw [5] (fun i wx => ∃ k : Nat, k ≤ n ∧ i = .int .i64 k ∧ Hid (PW w B R (.slice p1 n c1) (mid K e k) (e + 1) last wx)) (fun i _ => n - (intOf i).toNat)
      case atStart => exact ⟨0, by omega, rfl, hM⟩
      case round =>
        obtain ⟨k, hk, rfl, hJ⟩ := hrel
        obtain ⟨d0, d1, d2, _⟩ := hJ.out.box.cell
        by_cases hkl : k < n
        · have hkK : k < K.length := by rw [← HN.out]; exact hkl
          obtain ⟨g, cap, u, hv, hg1, hg2, hBg, hRg, hcc, ho, hz⟩ := hJ.out.read k (by rw [mid_length]; exact hkK)
          rw [mid_get K e k hkK] at hcc ho
          injection hv with hv1 hv2 hv3
          subst hv1
          obtain ⟨pu, cu, rfl, _⟩ := ho.form
          have CM := Lib.hid (fun X hX => hJ.out.morn hkK OK.out (by omega) (by omega) ho hcc X hX)
          obtain ⟨c, hc⟩ : ∃ c, c = passP K[k] e := ⟨_, rfl⟩
          obtain ⟨c2, hc2⟩ : ∃ c2, c2 = passP K[k] (e + 1) := ⟨_, rfl⟩
          rw [← hc, ← hc2] at CM
          rw [← hc] at hcc
          unfold csAgg at CM
          have hk0 : (0 : Int) ≤ (k : Int) := by omega
          have hk1 : (k : Int) < (n : Int) := by omega
          obtain ⟨r0, r1, r2, r3, r4, r5, r6, r7, r8, r9⟩ := hcc
          clear ho hc hc2 hJ hv2 hv3
          go_upto_region 7 with (fail)
          go_region_with (go_at_call 39; refine (CM.out _ ?_).mono ?_; (first | exact Below.refl _ _ | exact (Below.refl _ _).drew | exact below_drewN (Below.refl _ _) _); rintro e2 W2 ⟨p2, n2, k2, rfl, t0, tz, tc, hJ2⟩; have x0 := tz (k * 10); have x1 := tz (k * 10 + 1); have x2 := tz (k * 10 + 2); have x3 := tz (k * 10 + 3); have x4 := tz (k * 10 + 4); have x5 := tz (k * 10 + 5); have x6 := tz (k * 10 + 6); have x7 := tz (k * 10 + 7); have x8 := tz (k * 10 + 8); have x9 := tz (k * 10 + 9); obtain ⟨s0, s1, s2, s3, s4, s5, s6, s7, s8, s9⟩ := tc.out; unfold setCase at hJ2; clear tz tc)
          all_goals (go_wp2; go_roundw; (case rel => exact ⟨k + 1, by omega, by go_num, hJ2⟩); (case measure => simp [intOf]; omega))
        · obtain rfl : k = n := by omega
          have hE := Lib.hid (show PW w B R (.slice p1 k c1) (K.map fun c => passP c (e + 1)) (e + 1) last wr from by
            have := hJ.out
            rw [HN.out, mid_full, ← HN.out] at this
            exact this)
          have hR1 := Lib.hid (bkNow_at hE.out.box)
          clear hJ
          go_wp2
          go_roundw
          case rel => exact ⟨e + 1, by omega, by omega, hE⟩
          case measure => rw [hR0.out, hR1.out]; omega
    · obtain rfl : e = day := by omega
      have E := Lib.hid hI.out.done
      obtain ⟨y0, y1, y2, yf⟩ := hI.out.res.cell
      have f0 := yf 0
      have f1 := yf 1
      have f2 := yf 2
      clear hI yf
      go_wp2
      refine bodyPost_ret (results_cell_row rfl _ _ R 37 _ (0, 0) _ rfl E.out.1 Tryz.underlying37 rfl (by kernel_rfl)) rfl ?_
      exact E.out.2

end Go.Proofs.YtbpoedopdnjffaaGreat
