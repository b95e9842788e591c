/- The reference's Right, Valid, Marks and Set. -/
import Derived.Test.YtgpbdocgnfjckaaGreatSpAwake
import Derived.Test.YtgpbdocgnfjckaaGreatSpPlain9
import Derived.Deep.OwnRows
namespace Go.Proofs.YtgpbdocgnfjckaaGreat
open Go.RowKit Go.Shelf Sp

set_option maxHeartbeats 400000 in
theorem right_any (a b : Int) (w : World) :
    Calls Tryz.prog 51 #[.agg #[.int .i64 a, .int .i64 b]] w fun e w' => e = .returned (.bool (isS a b)) ∧ Below w.heap.size w w' := by
  by_cases h1 : 0 ≤ a
  · by_cases h2 : a ≤ b
    · have hf := Lib.hid (show isS a b = decide (b ≤ 65536) by unfold isS; simp [h1, h2])
      go_enter Tryz.func51, Tryz.ntmps51
      go_wp2
      go_ret
      exact ⟨ret_bool hf.out.symm, by go_grown⟩
    · have hf := Lib.hid (show isS a b = false by unfold isS; simp [h2])
      go_enter Tryz.func51, Tryz.ntmps51
      go_wp2
      go_ret
      exact ⟨ret_bool hf.out.symm, by go_grown⟩
  · have hf := Lib.hid (show isS a b = false by unfold isS; simp [h1])
    go_enter Tryz.func51, Tryz.ntmps51
    go_wp2
    go_ret
    exact ⟨ret_bool hf.out.symm, by go_grown⟩

theorem right_is (a b : Int) (x : Bool) (w : World) (h : isS a b = x) :
    Calls Tryz.prog 51 #[.agg #[.int .i64 a, .int .i64 b]] w fun e w' => e = .returned (.bool x) ∧ Below w.heap.size w w' := by
  subst h; exact right_any a b w

set_option maxHeartbeats 2000000 in
set_option maxRecDepth 100000 in
theorem rvalid_some (l : Sps) (b off cap : Nat) (w : World) (hn : l.length ≤ 100000)
    (hc : ∀ i : Nat, (h : i < l.length) → w.cell? ⟨b, off + i * 2, none⟩ = some (.int .i64 l[i].1) ∧ w.cell? ⟨b, off + i * 2 + 1, none⟩ = some (.int .i64 l[i].2)) :
    Calls Tryz.prog 27 #[.slice (some ⟨b, off, none⟩) l.length cap] w fun e w' => e = .returned (.bool (validB l)) ∧ Below w.heap.size w w' := by
  have HC := Lib.hid hc; clear hc
  go_enter Tryz.func27, Tryz.ntmps27
  go_wp2
  go_loopw [3] (fun i wr => ∃ k : Nat, k ≤ l.length ∧ i = .int .i64 k ∧ Below w.heap.size w wr ∧ Hid (validFrom (-1) (l.take k) = true)) (fun i _ => l.length - (intOf i).toNat)
  case atStart => exact ⟨0, by omega, rfl, Below.refl _ _, rfl⟩
  case round =>
    obtain ⟨k, hk, rfl, hb, hv⟩ := hrel
    by_cases hlt : k < l.length
    · have h1 := HC.out k hlt
      have hl := World.block_lt_of_cell? w _ h1.1
      obtain ⟨x, y, hxy⟩ : ∃ x y, l[k] = (x, y) := ⟨_, _, rfl⟩
      have hs := Lib.hid (take_valid l k hlt hv.out x y hxy)
      rw [hxy] at h1
      have c1 := (hb.cell (p := ⟨b, off + k * 2, none⟩) hl).trans h1.1
      have c2 := (hb.cell (p := ⟨b, off + k * 2 + 1, none⟩) hl).trans h1.2
      dsimp only at c1 c2
      have hne : b ≠ wr.heap.size := Nat.ne_of_lt (Nat.lt_of_lt_of_le hl hb.size)
      clear h1 hxy
      by_cases hS : isS x y = true
      · have CS := Lib.hid (fun W => right_is x y true W hS)
        have HS := Lib.hid hS
        clear hS
        by_cases hE : x = y
        · have hf := Lib.hid (hs.out.2 (by rw [← Bool.not_eq_true, hs.out.1]; intro h; exact h.2.1 hE))
          subst hE
          go_wp2_with fail
          refine wp_region_laterS (fun W => W.cell? ⟨b, off + k * 2, none⟩ = some (.int .i64 x) ∧ W.cell? ⟨b, off + k * 2 + 1, none⟩ = some (.int .i64 x) ∧ Hid (Below w.heap.size w W)) (by kernel_rfl) (by kernel_rfl) (fun p => ⟨p.cell _ _ c1, p.cell _ _ c2, p.since hb⟩) ?_
          intro hS
          repeat (go_big_quiet_step ((go_at_call 51; exact Later.call (CS.out _))))
          refine wpQuiet_nil ?_
          rintro _ ⟨p, rfl⟩
          have B1 := (hS p).2.2
          clear hS
          go_wp2
          go_ret
          exact ⟨ret_bool hf.out.symm, B1.out⟩
        · have Hne := Lib.hid hE
          have hE' : (x == y) = false := by simpa using hE
          by_cases h0 : k < 1
          · have hn := Lib.hid (hs.out.1.2 ⟨HS.out, Hne.out, fun h => by omega⟩)
            have h00 : ¬ (0 < k) := by omega
            go_wp2_with fail
            refine wp_region_laterS (fun W => W.cell? ⟨b, off + k * 2, none⟩ = some (.int .i64 x) ∧ W.cell? ⟨b, off + k * 2 + 1, none⟩ = some (.int .i64 y) ∧ Hid (Below w.heap.size w W)) (by kernel_rfl) (by kernel_rfl) (fun p => ⟨p.cell _ _ c1, p.cell _ _ c2, p.since hb⟩) ?_
            intro hS
            repeat (go_big_quiet_step ((go_at_call 51; exact Later.call (CS.out _))))
            refine wpQuiet_nil ?_
            rintro _ ⟨p, rfl⟩
            have B1 := (hS p).2.2
            clear hS
            go_wp2
            go_roundw
            case rel => exact ⟨k + 1, by omega, by go_num, B1.out, hn⟩
            case measure => simp [intOf]; omega
          · obtain ⟨z, hz⟩ : ∃ z, z = (l[k - 1]'(by omega)).2 := ⟨_, rfl⟩
            have h2 := HC.out (k - 1) (by omega)
            rw [← hz] at h2
            have c3 := (hb.cell (p := ⟨b, off + (k - 1) * 2 + 1, none⟩) hl).trans h2.2
            have hpos : 0 < k := by omega
            have Hz := Lib.hid hz
            clear h2 hz
            have j1 : (1 : Int) ≤ (k : Int) := by omega
            have j0 : (0 : Int) ≤ (k : Int) - 1 := by omega
            have j2 : (k : Int) - 1 < (l.length : Int) := by omega
            have j3 : ((k : Int) - 1).toNat = k - 1 := by omega
            have j4 : IntKind.i64.wrap ((k : Int) - 1) = (k : Int) - 1 := IntWalk.i64_in _ (by omega)
            by_cases hzx : x ≤ z
            · have hf := Lib.hid (hs.out.2 (by rw [← Bool.not_eq_true, hs.out.1]; intro h; have := h.2.2 hpos; rw [← Hz.out] at this; omega))
              go_wp2_with fail
              refine wp_region_laterS (fun W => W.cell? ⟨b, off + k * 2, none⟩ = some (.int .i64 x) ∧ W.cell? ⟨b, off + k * 2 + 1, none⟩ = some (.int .i64 y) ∧ W.cell? ⟨b, off + (k - 1) * 2 + 1, none⟩ = some (.int .i64 z) ∧ Hid (Below w.heap.size w W)) (by kernel_rfl) (by kernel_rfl) (fun p => ⟨p.cell _ _ c1, p.cell _ _ c2, p.cell _ _ c3, p.since hb⟩) ?_
              intro hS
              repeat (go_big_quiet_step ((go_at_call 51; exact Later.call (CS.out _))))
              refine wpQuiet_nil ?_
              rintro _ ⟨p, rfl⟩
              have B1 := (hS p).2.2.2
              clear hS
              go_wp2
              go_ret
              exact ⟨ret_bool hf.out.symm, B1.out⟩
            · have hn := Lib.hid (hs.out.1.2 ⟨HS.out, Hne.out, fun _ => by rw [← Hz.out]; omega⟩)
              go_wp2_with fail
              refine wp_region_laterS (fun W => W.cell? ⟨b, off + k * 2, none⟩ = some (.int .i64 x) ∧ W.cell? ⟨b, off + k * 2 + 1, none⟩ = some (.int .i64 y) ∧ W.cell? ⟨b, off + (k - 1) * 2 + 1, none⟩ = some (.int .i64 z) ∧ Hid (Below w.heap.size w W)) (by kernel_rfl) (by kernel_rfl) (fun p => ⟨p.cell _ _ c1, p.cell _ _ c2, p.cell _ _ c3, p.since hb⟩) ?_
              intro hS
              repeat (go_big_quiet_step ((go_at_call 51; exact Later.call (CS.out _))))
              refine wpQuiet_nil ?_
              rintro _ ⟨p, rfl⟩
              have B1 := (hS p).2.2.2
              clear hS
              go_wp2
              go_roundw
              case rel => exact ⟨k + 1, by omega, by go_num, B1.out, hn⟩
              case measure => simp [intOf]; omega
      · have hS' : isS x y = false := by simpa using hS
        have CS := Lib.hid (fun W => right_is x y false W hS')
        have hf := Lib.hid (hs.out.2 (by rw [← Bool.not_eq_true, hs.out.1]; intro h; exact hS h.1))
        clear hS hS'
        go_wp2_with fail
        refine wp_region_laterS (fun W => W.cell? ⟨b, off + k * 2, none⟩ = some (.int .i64 x) ∧ W.cell? ⟨b, off + k * 2 + 1, none⟩ = some (.int .i64 y) ∧ Hid (Below w.heap.size w W)) (by kernel_rfl) (by kernel_rfl) (fun p => ⟨p.cell _ _ c1, p.cell _ _ c2, p.since hb⟩) ?_
        intro hS
        repeat (go_big_quiet_step ((go_at_call 51; exact Later.call (CS.out _))))
        refine wpQuiet_nil ?_
        rintro _ ⟨p, rfl⟩
        have B1 := (hS p).2.2
        clear hS
        go_wp2
        go_ret
        exact ⟨ret_bool hf.out.symm, B1.out⟩
    · obtain rfl : k = l.length := by omega
      have hf := Lib.hid (show validB l = true by have := hv.out; rw [List.take_length] at this; exact this)
      go_wp2
      go_ret
      exact ⟨ret_bool hf.out.symm, hb⟩

set_option maxHeartbeats 400000 in
theorem rvalid_none (p : Option Addr) (cap : Nat) (w : World) :
    Calls Tryz.prog 27 #[.slice p 0 cap] w fun e w' => e = .returned (.bool true) ∧ Below w.heap.size w w' := by
  go_enter Tryz.func27, Tryz.ntmps27
  go_wp2
  go_loopw [3] (fun i wr => i = .int .i64 0 ∧ wr = w) (fun _ _ => 0)
  case atStart => exact ⟨rfl, rfl⟩
  case round =>
    obtain ⟨rfl, rfl⟩ := hrel
    go_wp2
    go_ret
    exact ⟨rfl, Below.refl _ _⟩

theorem rvalid_any (l : Sps) (p : Option Addr) (cap : Nat) (w : World) (hn : l.length ≤ 100000) (hc : Cells w p l) :
    Calls Tryz.prog 27 #[.slice p l.length cap] w fun e w' => e = .returned (.bool (validB l)) ∧ Below w.heap.size w w' := by
  rcases hc with rfl | ⟨b, off, rfl, hc⟩
  · exact rvalid_none p cap w
  · exact rvalid_some l b off cap w hn hc

theorem rvalid_is (l : Sps) (x : Bool) (p : Option Addr) (cap : Nat) (w : World) (hx : validB l = x) (hn : l.length ≤ 100000) (hc : Cells w p l) :
    Calls Tryz.prog 27 #[.slice p l.length cap] w fun e w' => e = .returned (.bool x) ∧ Below w.heap.size w w' := by
  subst hx; exact rvalid_any l p cap w hn hc

/-- n truth values. -/
def marr (n : Nat) (f : Nat → Bool) : Array Value := Array.ofFn (n := n) fun i => .bool (f i)
theorem marr_get (n : Nat) (f : Nat → Bool) (i : Nat) (h : i < n) : (marr n f)[i]? = some (.bool (f i)) := by simp [marr, h]
theorem marr_set (n : Nat) (f : Nat → Bool) (i : Nat) (b : Bool) : (marr n f).setIfInBounds i (.bool b) = marr n (fun x => if x = i then b else f x) := by
  apply Array.ext_getElem?
  intro j
  rw [Array.getElem?_setIfInBounds]
  by_cases h : i = j
  · subst h
    rw [if_pos rfl]
    by_cases hi : i < n
    · rw [if_pos (by simp [marr, hi]), marr_get n _ i hi, if_pos rfl]
    · rw [if_neg (by simp [marr, hi])]
      simp [marr, hi]
  · rw [if_neg h]
    by_cases hj : j < n
    · rw [marr_get n _ j hj, marr_get n _ j hj, if_neg (fun e => h e.symm)]
    · simp [marr, hj]
theorem marr_made (n : Nat) (b : Bool) : madeCells #[.bool b] n = marr n (fun _ => b) := by
  apply Array.ext_getElem?
  intro j
  by_cases hj : j < n
  · rw [marr_get n _ j hj]; simp [madeCells, hj, Nat.mod_one]
  · simp [madeCells, marr, hj]
theorem marr_congr (n : Nat) {f g : Nat → Bool} (h : ∀ i, f i = g i) : marr n f = marr n g := by rw [show f = g from funext h]

/-- A block that holds the marks f of all days. -/
def MkRow (N : Nat) (W : World) (g : Nat) (f : Nat → Bool) : Prop := W.heap[g]? = some (.cells (marr N f) 4 (0, 0))
theorem MkRow.lt {N : Nat} {W : World} {g : Nat} {f : Nat → Bool} (h : MkRow N W g f) : g < W.heap.size := (Array.getElem?_eq_some_iff.1 h).1
theorem MkRow.cell {N : Nat} {W : World} {g : Nat} {f : Nat → Bool} (h : MkRow N W g f) (i : Nat) (hi : i < N) : W.cell? ⟨g, i, none⟩ = some (.bool (f i)) := by
  unfold MkRow at h
  simp only [World.cell?, h]
  exact marr_get N f i hi
theorem MkRow.frozen {N : Nat} {W : World} {g : Nat} {f : Nat → Bool} (h : MkRow N W g f) (i : Nat) : W.frozen? ⟨g, i, none⟩ = false := by
  unfold MkRow at h
  simp [World.frozen?, h]
theorem MkRow.set_ {N : Nat} {W : World} {g : Nat} {f : Nat → Bool} (h : MkRow N W g f) (i : Nat) (b : Bool) : MkRow N (W.setCell ⟨g, i, none⟩ (.bool b)) g (fun x => if x = i then b else f x) := by
  unfold MkRow at h ⊢
  rw [← marr_set]
  simp only [World.setCell, Array.getElem?_modify, h]
  rfl
theorem MkRow.congr {N : Nat} {W : World} {g : Nat} {f f' : Nat → Bool} (h : MkRow N W g f) (e : ∀ i, f i = f' i) : MkRow N W g f' := by
  unfold MkRow at h ⊢; rw [h, marr_congr N e]
theorem MkRow.below {N : Nat} {W W' : World} {g : Nat} {f : Nat → Bool} (h : MkRow N W g f) (hb : Below W.heap.size W W') : MkRow N W' g f := (hb.block g h.lt).trans h

theorem info_bool : (Tryz.prog.info? 4).map (fun i => (i.zero, i.size, i.bytes)) = some (some (.bool false), 1, 1) := by kernel_rfl

set_option maxHeartbeats 2000000 in
set_option maxRecDepth 100000 in
theorem marks_any (l : Sps) (p : Option Addr) (cap : Nat) (w : World) (hn : l.length ≤ 100000) (hc : Cells w p l) (hf : ∀ s ∈ l, isS s.1 s.2 = true) :
    Calls Tryz.prog 42 #[.slice p l.length cap] w fun e w' => e = .returned (.slice (some ⟨w.heap.size, 0, none⟩) 65536 65536) ∧ MkRow 65536 w' w.heap.size (fun d => mem l d) ∧ Below w.heap.size w w' := by
  have HC := Lib.hid hc
  have HF := Lib.hid hf
  clear hc hf
  have hmk : ∀ W : World, (Instr.makeSlice 52 (.int .i64 65536) (.int .i64 65536)).run Tryz.prog W = .ok (.slice (some ⟨W.heap.size, 0, none⟩) 65536 65536) (W.alloc (.cells (marr 65536 (fun _ => false)) 4)) := fun W => by
    rw [← marr_made]
    exact run_make_row' (P := Tryz.prog) 52 4 (.bool false) 1 Tryz.underlying52 info_bool rfl .i64 .i64 65536 (by decide) (by decide) W
  obtain ⟨A, hA⟩ : ∃ A, A = marr 65536 (fun _ => false) := ⟨_, rfl⟩
  rw [← hA] at hmk
  have HA := Lib.hid hA
  clear hA
  go_enter Tryz.func42, Tryz.ntmps42
  go_wp2
  go_loopw [4] (fun i wr => ∃ k : Nat, k ≤ l.length ∧ i = .int .i64 k ∧ Hid (MkRow 65536 wr w.heap.size (fun d => mem (l.take k) d)) ∧ Below w.heap.size w wr) (fun i _ => l.length - (intOf i).toNat)
  case atStart => exact ⟨0, by omega, rfl, Lib.hid (by rw [HA.out]; exact World.alloc_heap_new w _), (Below.refl _ _).alloc (Nat.le_refl _) _⟩
  case round =>
    obtain ⟨k, hk, rfl, hI, hb⟩ := hrel
    by_cases hlt : k < l.length
    · obtain ⟨b, off, rfl, hbl, x, y, hxy, h1, h2⟩ := HC.out.at k hlt
      have c1 := (hb.cell (p := ⟨b, off + k * 2, none⟩) hbl).trans h1
      have hst := Lib.hid (take_succ_snoc hlt)
      rw [hxy] at hst
      have hS : isS x y = true := by have := HF.out l[k] (List.getElem_mem hlt); rw [hxy] at this; exact this
      have hb3 := isS_iff.1 hS
      clear hxy h1 hS
      go_wp2
      go_loopw [5] (fun d W => ∃ e : Int, x ≤ e ∧ e ≤ y ∧ d = .int .i64 e ∧ Hid (MkRow 65536 W w.heap.size (fun d => mem (l.take k) d || (decide (x ≤ (d : Int)) && decide ((d : Int) < e)))) ∧ Below w.heap.size w W) (fun d _ => (y - intOf d).toNat)
      case atStart => exact ⟨x, by omega, by omega, rfl, Lib.hid (hI.out.congr fun i => by
        have : (decide (x ≤ (i : Int)) && decide ((i : Int) < x)) = false := by simp
        rw [this, Bool.or_false]), hb⟩
      case round =>
        obtain ⟨e, he0, he1, rfl, hJ, hB⟩ := hrel
        have c2 := (hB.cell (p := ⟨b, off + k * 2 + 1, none⟩) hbl).trans h2
        by_cases hey : e < y
        · have m0 : (0 : Int) ≤ e := by omega
          have m1 : e < 65536 := by omega
          have q0 := hJ.out.cell e.toNat (by omega)
          have f0 := hJ.out.frozen e.toNat
          have hN := Lib.hid ((hJ.out.set_ e.toNat true).congr (f' := fun d => mem (l.take k) d || (decide (x ≤ (d : Int)) && decide ((d : Int) < e + 1))) fun i => by
            by_cases hi : i = e.toNat
            · rw [if_pos hi]
              have h9 : (decide (x ≤ (i : Int)) && decide ((i : Int) < e + 1)) = true := by simp; omega
              rw [h9, Bool.or_true]
            · rw [if_neg hi]
              have h9 : (decide (x ≤ (i : Int)) && decide ((i : Int) < e + 1)) = (decide (x ≤ (i : Int)) && decide ((i : Int) < e)) := by
                rw [show decide ((i : Int) < e + 1) = decide ((i : Int) < e) from decide_eq_decide.2 (by omega)]
              rw [h9])
          have hBN : Below w.heap.size w (wr.setCell ⟨w.heap.size, e.toNat, none⟩ (.bool true)) := hB.setCell (p := ⟨w.heap.size, e.toNat, none⟩) (Nat.le_refl _) _
          clear hB hJ
          go_wp2
          go_roundw
          case rel => exact ⟨e + 1, by omega, by omega, by go_num, hN, hBN⟩
          case measure => simp [intOf]; omega
        · obtain rfl : e = y := by omega
          have hN := Lib.hid (hJ.out.congr (f' := fun d => mem (l.take (k + 1)) d) fun i => by
            rw [hst.out, mem_append, mem_cons, mem_nil, Bool.or_false])
          clear hJ
          go_wp2
          go_roundw
          case rel => exact ⟨k + 1, by omega, by go_num, hN, hB⟩
          case measure => simp [intOf]; omega
    · obtain rfl : k = l.length := by omega
      rw [List.take_length] at hI
      go_wp2
      go_ret
      exact ⟨rfl, hI.out, hb⟩

end Go.Proofs.YtgpbdocgnfjckaaGreat
