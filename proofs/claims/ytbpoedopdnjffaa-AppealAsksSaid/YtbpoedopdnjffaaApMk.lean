/- The reference's marks and sets (annuitantref04), in this seat. -/
import Derived.Test.YtbpoedopdnjffaaApKit
import Derived.Test.YtbpoedopdnjffaaSpPlain9
import Derived.Deep.OwnRows
namespace Go.Proofs.Ytbpoedopdnjffaa
open Go.RowKit Go.Shelf Sp
theorem isS_iff {x y : Int} : isS x y = true ↔ 0 ≤ x ∧ x ≤ y ∧ y ≤ 65536 := by unfold isS; simp [and_assoc]

/-- The last span of an owned row: its cells, and the row behind a store into its end. -/
theorem Owns.last {W : World} {base : Nat} {v : Value} {l : Sps} {t : Int × Int} (h : Owns W base v (l ++ [t])) :
    ∃ g cap, v = .slice (some ⟨g, 0, none⟩) (l.length + 1) cap ∧ base ≤ g ∧ g < W.heap.size ∧ W.cell? ⟨g, l.length * 2, none⟩ = some (.int .i64 t.1) ∧ W.cell? ⟨g, l.length * 2 + 1, none⟩ = some (.int .i64 t.2) ∧
      W.frozen? ⟨g, l.length * 2 + 1, none⟩ = false ∧ ∀ y, Owns (W.setCell ⟨g, l.length * 2 + 1, none⟩ (.int .i64 y)) base v (l ++ [(t.1, y)]) := by
  obtain ⟨hl, hv⟩ := h
  rw [List.length_append, List.length_singleton] at hl hv
  rcases hv with ⟨rfl, h0⟩ | ⟨g, cap, cur, rfl, hb, hg, hc, hm, hs, ht⟩
  · omega
  · have hf0 := flat_get (l ++ [t]) l.length (by simp)
    rw [← ht] at hf0
    have e1 : (cur.toList.take ((l.length + 1) * 2))[l.length * 2]? = cur[l.length * 2]? := by
      rw [List.getElem?_take, if_pos (by omega), Array.getElem?_toList]
    have e2 : (cur.toList.take ((l.length + 1) * 2))[l.length * 2 + 1]? = cur[l.length * 2 + 1]? := by
      rw [List.getElem?_take, if_pos (by omega), Array.getElem?_toList]
    rw [e1, e2] at hf0
    simp only [List.getElem_concat_length] at hf0
    refine ⟨g, cap, rfl, hb, (Array.getElem?_eq_some_iff.1 hg).1, ?_, ?_, ?_, fun y => ?_⟩
    · simp [World.cell?, hg, hf0.1]
    · simp [World.cell?, hg, hf0.2]
    · simp [World.frozen?, hg]
    · have hg' := heap_setCell_same W g (l.length * 2 + 1) cur 47 (.int .i64 y) hg
      refine ⟨by rw [flat_length], ?_⟩
      rw [List.length_append, List.length_singleton]
      refine .inr ⟨g, cap, cur.setIfInBounds (l.length * 2 + 1) (.int .i64 y), rfl, hb, hg', hc, hm, by simpa using hs, ?_⟩
      have hlen : l.length * 2 + 1 < cur.size := by omega
      rw [flat_append] at ht ⊢
      have hsp : cur.toList.take ((l.length + 1) * 2) = flat l ++ [.int .i64 t.1, .int .i64 t.2] := ht
      have : (cur.setIfInBounds (l.length * 2 + 1) (.int .i64 y)).toList.take ((l.length + 1) * 2) = (cur.toList.take ((l.length + 1) * 2)).set (l.length * 2 + 1) (.int .i64 y) := by
        rw [Array.toList_setIfInBounds, List.take_set]
      rw [this, hsp]
      have hfl := flat_length l
      rw [List.set_append_right _ _ (by omega), hfl, show l.length * 2 + 1 - l.length * 2 = 1 by omega]
      rfl

theorem Owns.alloc {W : World} {base : Nat} {v : Value} {l : Sps} (h : Owns W base v l) (o : Obj) : Owns (W.alloc o) base v l := World.ownsRow.alloc h o
theorem Owns.drewN {W : World} {base : Nat} {v : Value} {l : Sps} (h : Owns W base v l) (n : Nat) : Owns (W.drewN n) base v l := h
theorem Owns.grown {W w1 : World} {base B : Nat} {w : World} {v : Value} {l : Sps} (h : Owns W base v l) (hB : B ≤ base) (hw : Below B w W) (hs : B ≤ W.heap.size) (o : Obj) (hg : (W.alloc o).grownBy w1 v.ownBlock) : Below B w w1 := by
  refine (hw.alloc hs o).grown hg (by simp; omega) fun j ej => ?_
  rcases h.2 with ⟨rfl, _⟩ | ⟨g, cap, cur, rfl, hb, _, _⟩
  · simp [Value.ownBlock] at ej
  · obtain rfl : g = j := by simpa [Value.ownBlock] using ej
    omega

/-- n truth values. -/
def marr (n : Nat) (f : Nat → Bool) : Array Value := Array.ofFn (n := n) fun i => .bool (f i)
theorem marr_get (n : Nat) (f : Nat → Bool) (i : Nat) (h : i < n) : (marr n f)[i]? = some (.bool (f i)) := by simp [marr, h]
theorem marr_set (n : Nat) (f : Nat → Bool) (i : Nat) (b : Bool) : (marr n f).setIfInBounds i (.bool b) = marr n (fun x => if x = i then b else f x) := by
  apply Array.ext_getElem?
  intro j
  rw [Array.getElem?_setIfInBounds]
  by_cases h : i = j
  · subst h
    rw [if_pos rfl]
    by_cases hi : i < n
    · rw [if_pos (by simp [marr, hi]), marr_get n _ i hi, if_pos rfl]
    · rw [if_neg (by simp [marr, hi])]
      simp [marr, hi]
  · rw [if_neg h]
    by_cases hj : j < n
    · rw [marr_get n _ j hj, marr_get n _ j hj, if_neg (fun e => h e.symm)]
    · simp [marr, hj]
theorem marr_made (n : Nat) (b : Bool) : madeCells #[.bool b] n = marr n (fun _ => b) := by
  apply Array.ext_getElem?
  intro j
  by_cases hj : j < n
  · rw [marr_get n _ j hj]; simp [madeCells, hj, Nat.mod_one]
  · simp [madeCells, marr, hj]
theorem marr_congr (n : Nat) {f g : Nat → Bool} (h : ∀ i, f i = g i) : marr n f = marr n g := by rw [show f = g from funext h]

/-- A block that holds the marks f of all days. -/
def MkRow (N : Nat) (W : World) (g : Nat) (f : Nat → Bool) : Prop := W.heap[g]? = some (.cells (marr N f) 4 (0, 0))
theorem MkRow.lt {N : Nat} {W : World} {g : Nat} {f : Nat → Bool} (h : MkRow N W g f) : g < W.heap.size := (Array.getElem?_eq_some_iff.1 h).1
theorem MkRow.cell {N : Nat} {W : World} {g : Nat} {f : Nat → Bool} (h : MkRow N W g f) (i : Nat) (hi : i < N) : W.cell? ⟨g, i, none⟩ = some (.bool (f i)) := by
  unfold MkRow at h
  simp only [World.cell?, h]
  exact marr_get N f i hi
theorem MkRow.frozen {N : Nat} {W : World} {g : Nat} {f : Nat → Bool} (h : MkRow N W g f) (i : Nat) : W.frozen? ⟨g, i, none⟩ = false := by
  unfold MkRow at h
  simp [World.frozen?, h]
theorem MkRow.set_ {N : Nat} {W : World} {g : Nat} {f : Nat → Bool} (h : MkRow N W g f) (i : Nat) (b : Bool) : MkRow N (W.setCell ⟨g, i, none⟩ (.bool b)) g (fun x => if x = i then b else f x) := by
  unfold MkRow at h ⊢
  rw [← marr_set]
  simp only [World.setCell, Array.getElem?_modify, h]
  rfl
theorem MkRow.congr {N : Nat} {W : World} {g : Nat} {f f' : Nat → Bool} (h : MkRow N W g f) (e : ∀ i, f i = f' i) : MkRow N W g f' := by
  unfold MkRow at h ⊢; rw [h, marr_congr N e]
theorem MkRow.below {N : Nat} {W W' : World} {g : Nat} {f : Nat → Bool} (h : MkRow N W g f) (hb : Below W.heap.size W W') : MkRow N W' g f := (hb.block g h.lt).trans h

theorem info_bool : (Try.prog.info? 4).map (fun i => (i.zero, i.size, i.bytes)) = some (some (.bool false), 1, 1) := by kernel_rfl

set_option maxHeartbeats 2000000 in
set_option maxRecDepth 100000 in
theorem marks_any (l : Sps) (p : Option Addr) (cap : Nat) (w : World) (hn : l.length ≤ 100000) (hc : Cells w p l) (hf : ∀ s ∈ l, isS s.1 s.2 = true) :
    Calls Try.prog 78 #[.slice p l.length cap] w fun e w' => e = .returned (.slice (some ⟨w.heap.size, 0, none⟩) 65536 65536) ∧ MkRow 65536 w' w.heap.size (fun d => mem l d) ∧ Below w.heap.size w w' := by
  have HC := Lib.hid hc
  have HF := Lib.hid hf
  clear hc hf
  have hmk : ∀ W : World, (Instr.makeSlice 106 (.int .i64 65536) (.int .i64 65536)).run Try.prog W = .ok (.slice (some ⟨W.heap.size, 0, none⟩) 65536 65536) (W.alloc (.cells (marr 65536 (fun _ => false)) 4)) := fun W => by
    rw [← marr_made]
    exact run_make_row' (P := Try.prog) 106 4 (.bool false) 1 Try.underlying106 info_bool rfl .i64 .i64 65536 (by decide) (by decide) W
  obtain ⟨A, hA⟩ : ∃ A, A = marr 65536 (fun _ => false) := ⟨_, rfl⟩
  rw [← hA] at hmk
  have HA := Lib.hid hA
  clear hA
  go_enter Try.func78, Try.ntmps78
  go_wp2
  go_loopw [4] (fun i wr => ∃ k : Nat, k ≤ l.length ∧ i = .int .i64 k ∧ Hid (MkRow 65536 wr w.heap.size (fun d => mem (l.take k) d)) ∧ Below w.heap.size w wr) (fun i _ => l.length - (intOf i).toNat)
  case atStart => exact ⟨0, by omega, rfl, Lib.hid (by rw [HA.out]; exact World.alloc_heap_new w _), (Below.refl _ _).alloc (Nat.le_refl _) _⟩
  case round =>
    obtain ⟨k, hk, rfl, hI, hb⟩ := hrel
    by_cases hlt : k < l.length
    · obtain ⟨b, off, rfl, hbl, x, y, hxy, h1, h2⟩ := HC.out.at k hlt
      have c1 := (hb.cell (p := ⟨b, off + k * 2, none⟩) hbl).trans h1
      have hst := Lib.hid (take_succ_snoc hlt)
      rw [hxy] at hst
      have hS : isS x y = true := by have := HF.out l[k] (List.getElem_mem hlt); rw [hxy] at this; exact this
      have hb3 := isS_iff.1 hS
      clear hxy h1 hS
      go_wp2
      go_loopw [5] (fun d W => ∃ e : Int, x ≤ e ∧ e ≤ y ∧ d = .int .i64 e ∧ Hid (MkRow 65536 W w.heap.size (fun d => mem (l.take k) d || (decide (x ≤ (d : Int)) && decide ((d : Int) < e)))) ∧ Below w.heap.size w W) (fun d _ => (y - intOf d).toNat)
      case atStart => exact ⟨x, by omega, by omega, rfl, Lib.hid (hI.out.congr fun i => by
        have : (decide (x ≤ (i : Int)) && decide ((i : Int) < x)) = false := by simp
        rw [this, Bool.or_false]), hb⟩
      case round =>
        obtain ⟨e, he0, he1, rfl, hJ, hB⟩ := hrel
        have c2 := (hB.cell (p := ⟨b, off + k * 2 + 1, none⟩) hbl).trans h2
        by_cases hey : e < y
        · have m0 : (0 : Int) ≤ e := by omega
          have m1 : e < 65536 := by omega
          have q0 := hJ.out.cell e.toNat (by omega)
          have f0 := hJ.out.frozen e.toNat
          have hN := Lib.hid ((hJ.out.set_ e.toNat true).congr (f' := fun d => mem (l.take k) d || (decide (x ≤ (d : Int)) && decide ((d : Int) < e + 1))) fun i => by
            by_cases hi : i = e.toNat
            · rw [if_pos hi]
              have h9 : (decide (x ≤ (i : Int)) && decide ((i : Int) < e + 1)) = true := by simp; omega
              rw [h9, Bool.or_true]
            · rw [if_neg hi]
              have h9 : (decide (x ≤ (i : Int)) && decide ((i : Int) < e + 1)) = (decide (x ≤ (i : Int)) && decide ((i : Int) < e)) := by
                rw [show decide ((i : Int) < e + 1) = decide ((i : Int) < e) from decide_eq_decide.2 (by omega)]
              rw [h9])
          have hBN : Below w.heap.size w (wr.setCell ⟨w.heap.size, e.toNat, none⟩ (.bool true)) := hB.setCell (p := ⟨w.heap.size, e.toNat, none⟩) (Nat.le_refl _) _
          clear hB hJ
          go_wp2
          go_roundw
          case rel => exact ⟨e + 1, by omega, by omega, by go_num, hN, hBN⟩
          case measure => simp [intOf]; omega
        · obtain rfl : e = y := by omega
          have hN := Lib.hid (hJ.out.congr (f' := fun d => mem (l.take (k + 1)) d) fun i => by
            rw [hst.out, mem_append, mem_cons, mem_nil, Bool.or_false])
          clear hJ
          go_wp2
          go_roundw
          case rel => exact ⟨k + 1, by omega, by go_num, hN, hB⟩
          case measure => simp [intOf]; omega
    · obtain rfl : k = l.length := by omega
      rw [List.take_length] at hI
      go_wp2
      go_ret
      exact ⟨rfl, hI.out, hb⟩


set_option maxHeartbeats 4000000 in
set_option maxRecDepth 100000 in
theorem setR_in (f : Nat → Bool) (g N : Nat) (w : World) (hN : Hid (N = 65536)) (hm : MkRow 65536 w g f) :
    Calls Try.prog 79 #[.slice (some ⟨g, 0, none⟩) N N] w fun e w' => ∃ v, e = .returned v ∧ Owns w' w.heap.size v (runs f N) ∧ Below w.heap.size w w' := by
  have HM := Lib.hid hm
  clear hm
  obtain ⟨i0, hi0, hz0, hz1, hz2⟩ := info_parts info_span
  go_enter Try.func79, Try.ntmps79
  go_wp2
  go_loopw [4, 3] (fun i u wr => ∃ (e : Int) (v : Value), 0 ≤ e ∧ e ≤ 65536 ∧ i = .int .i64 e ∧ v = u ∧ Hid (Owns wr w.heap.size v (runs f e.toNat)) ∧ Below w.heap.size w wr) (fun i _ _ => (65536 - intOf i).toNat)
  case atStart => exact ⟨0, _, by omega, by omega, rfl, rfl, Lib.hid (Owns.nil _ _), Below.refl _ _⟩
  case round =>
    obtain ⟨e, v, he0, he1, rfl, rfl, hI, hb⟩ := hrel
    by_cases hlt : e < 65536
    · have c0 : wr.cell? ⟨g, e.toNat, none⟩ = some (.bool (f e.toNat)) := (hb.cell (p := ⟨g, e.toNat, none⟩) HM.out.lt).trans (HM.out.cell e.toNat (by omega))
      have c1' : 0 < e → wr.cell? ⟨g, e.toNat - 1, none⟩ = some (.bool (f (e.toNat - 1))) := fun h =>
        (hb.cell (p := ⟨g, e.toNat - 1, none⟩) HM.out.lt).trans (HM.out.cell (e.toNat - 1) (by omega))
      have hlen := runs_length f e.toNat
      have hcast : ((e.toNat : Nat) : Int) = e := Int.toNat_of_nonneg he0
      have RA := Lib.hid (runs_are f e.toNat (by omega))
      have hsuc : (e + 1).toNat = e.toNat + 1 := by omega
      have hno := Lib.hid (fun h : f e.toNat = false => runs_no h)
      have hnew := Lib.hid (fun (h : f e.toNat = true) (h' : ¬ (0 < e.toNat ∧ f (e.toNat - 1) = true)) => runs_new h h')
      have hon := Lib.hid (fun (h : f e.toNat = true) (h' : 0 < e.toNat ∧ f (e.toNat - 1) = true) (s : Sps) (t : Int × Int) (hs : runs f e.toNat = s ++ [t]) => runs_on h h' hs)
      rw [← hsuc] at hno hnew hon
      obtain ⟨pre, hpre⟩ : ∃ pre, pre = runs f e.toNat := ⟨_, rfl⟩
      rw [← hpre] at hlen RA hno hnew hon hI
      clear hpre
      have hl65 : ∃ q : Int, (pre.length : Int) ≤ q ∧ q ≤ 65536 := ⟨e, by omega, by omega⟩
      obtain ⟨q, hq0, hq1⟩ := hl65
      have k1 : e < (N : Int) := by have := hN.out; omega
      obtain ⟨b, hfk⟩ : ∃ b, b = f e.toNat := ⟨_, rfl⟩
      rw [← hfk] at c0
      have HB := Lib.hid hfk
      have HC := Lib.hid hcast
      have HP : Hid (0 < e → 0 < e.toNat) := Lib.hid (by omega)
      have HP0 : Hid (e ≤ 0 → ¬ 0 < e.toNat) := Lib.hid (by omega)
      clear hfk HM hN hlen hcast hsuc
      cases b with
      | false =>
        go_wp2
        go_roundw
        case rel => exact ⟨e + 1, v, by omega, by omega, by go_num, rfl, Lib.hid (by rw [hno.out HB.out.symm]; exact hI.out), hb⟩
        case measure => simp [intOf]; omega
      | true =>
        by_cases hk0 : e ≤ 0
        · have e1 := Lib.hid (hnew.out HB.out.symm (fun h => HP0.out hk0 h.1))
          rw [HC.out] at e1
          clear RA hno hnew hon c1'
          go_wp2_with (first | (at_builtin; refine wpList_append_own _ rfl _ _ 37 rfl w.heap.size 47 i0 (.agg #[.int .i64 0, .int .i64 0]) 2 16 Try.underlying37 hi0 hz0 hz1 hz2 rfl (by decide) _ _ _ rfl (hI.out.alloc _) ⟨wr.heap.size, 0, none⟩ 1 1 [.int .i64 e, .int .i64 (e + 1)] rfl rfl (cell_two_new _ _ _ _ _ rfl) (by simp [Value.oneCell']) (by unfold maxLen; omega) (by omega) (by simp; have := hb.size; omega) ?_; intro v' w1 hown' hgrow _; obtain ⟨g', cap', rfl⟩ := ownsRow_succ hown'))
          go_roundw
          case rel => exact ⟨e + 1, _, by omega, by omega, by go_num, rfl, Lib.hid (by rw [e1.out]; show World.ownsRow _ _ _ _ _ _ _; rw [flat_snoc, List.length_append]; exact hown'), hI.out.grown (Nat.le_refl _) hb hb.size _ hgrow⟩
          case measure => simp [intOf]; omega
        · have j1 : 0 < e := by omega
          have c1 := c1' j1
          obtain ⟨b1, hfk1⟩ : ∃ b1, b1 = f (e.toNat - 1) := ⟨_, rfl⟩
          rw [← hfk1] at c1
          have HB1 := Lib.hid hfk1
          have j2 : e - 1 < (N : Int) := by omega
          have j0 : 0 ≤ e - 1 := by omega
          clear hfk1 c1'
          cases b1 with
          | false =>
            have e1 := Lib.hid (hnew.out HB.out.symm (by intro h; rw [← HB1.out] at h; exact absurd h.2 (by decide)))
            rw [HC.out] at e1
            clear RA hno hnew hon
            go_wp2_with (first | (at_builtin; refine wpList_append_own _ rfl _ _ 37 rfl w.heap.size 47 i0 (.agg #[.int .i64 0, .int .i64 0]) 2 16 Try.underlying37 hi0 hz0 hz1 hz2 rfl (by decide) _ _ _ rfl (hI.out.alloc _) ⟨wr.heap.size, 0, none⟩ 1 1 [.int .i64 e, .int .i64 (e + 1)] rfl rfl (cell_two_new _ _ _ _ _ rfl) (by simp [Value.oneCell']) (by unfold maxLen; omega) (by omega) (by simp; have := hb.size; omega) ?_; intro v' w1 hown' hgrow _; obtain ⟨g', cap', rfl⟩ := ownsRow_succ hown'))
            go_roundw
            case rel => exact ⟨e + 1, _, by omega, by omega, by go_num, rfl, Lib.hid (by rw [e1.out]; show World.ownsRow _ _ _ _ _ _ _; rw [flat_snoc, List.length_append]; exact hown'), hI.out.grown (Nat.le_refl _) hb hb.size _ hgrow⟩
            case measure => simp [intOf]; omega
          | true =>
            obtain ⟨s0, t, hst, ht⟩ := RA.out.open_ (HP.out j1) HB1.out.symm
            have e1 := Lib.hid (hon.out HB.out.symm ⟨HP.out j1, HB1.out.symm⟩ s0 t hst)
            rw [HC.out] at e1
            subst hst
            obtain ⟨g2, cap2, rfl, r1, r2, r3, r4, r5, r6⟩ := hI.out.last
            have p3 : ((s0.length : Int)).toNat = s0.length := by omega
            have hpos : (0 : Int) < (s0.length : Int) + 1 := by omega
            have p0 : (0 : Int) ≤ (s0.length : Int) := by omega
            have p1 : (s0.length : Int) < (s0.length : Int) + 1 := by omega
            have p2 : (s0.length : Int) ≤ q := by simp at hq0; omega
            clear RA hno hnew hon hq0 ht
            go_wp2_with fail
            go_roundw
            case rel => exact ⟨e + 1, _, by omega, by omega, by go_num, rfl, Lib.hid (by rw [e1.out]; exact r6 _), hb.setCell (p := ⟨g2, s0.length * 2 + 1, none⟩) r1 _⟩
            case measure => simp [intOf]; omega
    · obtain rfl : e = 65536 := by omega
      have hv : Hid ((65536 : Int).toNat = N) := Lib.hid (by rw [hN.out]; rfl)
      clear HM hN
      obtain ⟨n1, hn1⟩ : ∃ n1, n1 = (65536 : Int).toNat := ⟨_, rfl⟩
      rw [← hn1] at hv hI
      clear hn1
      obtain rfl := hv.out
      clear hv
      go_wp2
      go_ret
      exact ⟨_, rfl, hI.out, hb⟩

theorem setR_any (f : Nat → Bool) (g : Nat) (w : World) (hm : MkRow 65536 w g f) :
    Calls Try.prog 79 #[.slice (some ⟨g, 0, none⟩) 65536 65536] w fun e w' => ∃ v m, e = .returned v ∧ IsSet (mk65 f) m ∧ m.length ≤ 65536 ∧ Owns w' w.heap.size v m ∧ Below w.heap.size w w' :=
  (setR_in f g 65536 w (Lib.hid rfl) hm).mono fun _ _ ⟨v, he, ho, hb⟩ => ⟨v, _, he, runs_set f, runs_length f _, ho, hb⟩

end Go.Proofs.Ytbpoedopdnjffaa
