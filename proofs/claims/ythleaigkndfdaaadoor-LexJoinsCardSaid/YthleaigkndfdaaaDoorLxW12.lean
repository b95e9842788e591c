/- The walk of Join. -/
import Derived.Test.YthleaigkndfdaaaDoorLxW11
namespace Go.Proofs.YthleaigkndfdaaaDoor
open Go.RowKit Go.Shelf

theorem builder_below {W W' : World} {B b : Nat} {l : List Value} (h : Lib.IsBuilder 51 5 B b l W) (hb : Below W.heap.size W W') : Lib.IsBuilder 51 5 B b l W' := by
  have key : ∀ p, Lib.BuilderAt 51 5 B b p l W → Lib.BuilderAt 51 5 B b p l W' := fun p ⟨h1, v, h2, h3, h4⟩ =>
    ⟨h1, v, (hb.block b (Array.getElem?_eq_some_iff.1 h2).1).trans h2, row_kept h3 (fun g cur _ hc => hb.block g (Array.getElem?_eq_some_iff.1 hc).1), h4⟩
  exact h.elim (fun h => .inl (key _ h)) (fun h => .inr (key _ h))

theorem write_one (B b c : Nat) (l : Lx.Bs) (x : ByteArray) (W : World) (hc : W.heap.size = c) (h : Lib.IsBuilder 51 5 B b (Lib.byteCells l) W) (hb : b < W.heap.size) (hlen : l.length + x.size ≤ 1000000000000) (hB : B ≤ W.heap.size) :
    Calls Tryd.prog 27 #[.slice (some ⟨c, 0, none⟩) 1 1, .pointer (some ⟨b, 0, none⟩)] (W.alloc (.cells #[.string x] 9)) fun e w' => e = .returned (.tuple #[]) ∧
      Lib.IsBuilder 51 5 B b (Lib.byteCells (l ++ ls x)) w' ∧ Below B (W.alloc (.cells #[.string x] 9)) w' := by
  subst hc
  have e : cat [x] = ls x := by simp [cat]
  have := write_any B b W.heap.size l [x] (W.alloc (.cells #[.string x] 9)) (builder_below h ((Below.refl _ _).alloc (Nat.le_refl _) _)) (Blk.new W _ _) (by omega) (by simp) (by rw [e, ls_len]; exact hlen) (by simp; omega)
  rw [e] at this
  exact this.mono fun _ _ ⟨h1, h2, h3, _⟩ => ⟨h1, h2, h3⟩

theorem write_two (B b c : Nat) (l : Lx.Bs) (x y : ByteArray) (W : World) (hc : W.heap.size = c) (h : Lib.IsBuilder 51 5 B b (Lib.byteCells l) W) (hb : b < W.heap.size) (hlen : l.length + (x.size + y.size) ≤ 1000000000000) (hB : B ≤ W.heap.size) :
    Calls Tryd.prog 27 #[.slice (some ⟨c, 0, none⟩) 2 2, .pointer (some ⟨b, 0, none⟩)] (W.alloc (.cells #[.string x, .string y] 9)) fun e w' => e = .returned (.tuple #[]) ∧
      Lib.IsBuilder 51 5 B b (Lib.byteCells (l ++ (ls x ++ ls y))) w' ∧ Below B (W.alloc (.cells #[.string x, .string y] 9)) w' := by
  subst hc
  have e : cat [x, y] = ls x ++ ls y := by simp [cat]
  have := write_any B b W.heap.size l [x, y] (W.alloc (.cells #[.string x, .string y] 9)) (builder_below h ((Below.refl _ _).alloc (Nat.le_refl _) _)) (Blk.new W _ _) (by omega) (by simp) (by rw [e, List.length_append, ls_len, ls_len]; exact hlen) (by simp; omega)
  rw [e] at this
  exact this.mono fun _ _ ⟨h1, h2, h3, _⟩ => ⟨h1, h2, h3⟩

set_option maxHeartbeats 1000000 in
set_option maxRecDepth 100000 in
theorem join_any (l : List Tok) (p : Option Addr) (cap : Nat) (w : World) (hn : l.length ≤ 1000000) (hc : TCells w p l) (hcost : jcost l ≤ 1000000000) :
    Calls Tryd.prog 14 #[.slice p l.length cap] w fun e w' => e = .returned (.string (bs (jn l).1)) ∧ Below w.heap.size w w' := by
  have HC := Lib.hid hc; clear hc
  have hmf : ∀ (fn : Fn) (first cp : Array Value) (w : World), (Instr.makeFunc fn first cp).run Tryd.prog w = .ok (.func fn first cp) w := fun _ _ _ _ => rfl
  have hcl := fun k => jn_len (l.take k)
  have hct := jcost_take l
  have HCL := Lib.hid (fun k => Nat.le_trans (hcl k) (Nat.le_trans (hct k) hcost))
  clear hcl hct
  go_enter Tryd.func14, Tryd.ntmps14
  go_wp2
  go_loopw [10, 5, 6] (fun i _ _ wr => ∃ k : Nat, k ≤ l.length ∧ i = .int .i64 k ∧ Hid (Lib.IsBuilder 51 5 w.heap.size w.heap.size (Lib.byteCells (jn (l.take k)).1) wr) ∧ Below w.heap.size w wr) (fun i _ _ _ => l.length - (intOf i).toNat)
  case atStart => exact ⟨0, by omega, rfl, Lib.hid (Lib.fresh_isBuilder _ _ _), (Below.refl _ _).alloc (Nat.le_refl _) _⟩
  case round =>
    obtain ⟨k, hk, rfl, hI, hb⟩ := hrel
    have hz := hI.out.elim (fun h => h.lt) (fun h => h.lt)
    by_cases hlt : k < l.length
    · obtain ⟨b, off, rfl, h0, h1, h2, h3⟩ := HC.out k hlt
      have hbl : b < w.heap.size := World.block_lt_of_cell? w _ h0
      have c0 := (hb.cell (p := ⟨b, off + k * 4, none⟩) hbl).trans h0
      have c1 := (hb.cell (p := ⟨b, off + k * 4 + 1, none⟩) hbl).trans h1
      have c2 := (hb.cell (p := ⟨b, off + k * 4 + 2, none⟩) hbl).trans h2
      have c3 := (hb.cell (p := ⟨b, off + k * 4 + 3, none⟩) hbl).trans h3
      have hbne : b ≠ wr.heap.size := by omega
      have hst := jn_snoc (l.take k) l[k]
      rw [← List.take_succ_eq_append_getElem hlt] at hst
      have hl1 := HCL.out (k + 1)
      have hl0 := HCL.out k
      obtain ⟨kd, tx, ln, cl, hx⟩ : ∃ kd tx ln cl, l[k] = (kd, tx, ln, cl) := ⟨_, _, _, _, rfl⟩
      rw [hx] at c0 c1 c2 c3 hst
      dsimp only at c0 c1 c2 c3
      clear h0 h1 h2 h3 hx
      have IA := builder_below hI.out ((Below.refl _ _).alloc (Nat.le_refl _) (.cells #[.int .u8 (kd : Int), .string tx, .int .i64 ln, .int .i64 cl] 27))
      have BA : Below w.heap.size w (wr.alloc (.cells #[.int .u8 (kd : Int), .string tx, .int .i64 ln, .int .i64 cl] 27)) := hb.alloc hb.size _
      have zA : w.heap.size < (wr.alloc (.cells #[.int .u8 (kd : Int), .string tx, .int .i64 ln, .int .i64 cl] 27)).heap.size := by simp; omega
      by_cases h5 : kd = 5
      · subst h5
        have hj := Lib.hid (show (jn (l.take (k + 1))).1 = (jn (l.take k)).1 ++ ls { data := #[10] } by rw [hst]; rfl)
        have CW := Lib.hid (write_one w.heap.size w.heap.size (wr.heap.size + 1) (jn (l.take k)).1 { data := #[10] } _ (by simp) IA zA (by show _ + 1 ≤ _; omega) (by omega))
        clear hst IA
        go_wp2_with fail
        refine CW.out.mono ?_
        rintro e w1 ⟨rfl, i1, b1⟩
        have B1 : Below w.heap.size w w1 := (BA.alloc BA.size _).trans b1
        clear b1 CW
        go_wp2
        go_roundw
        case rel => exact ⟨k + 1, by omega, by go_num, Lib.hid (by rw [hj.out]; exact i1), B1⟩
        case measure => simp [intOf]; omega
      · have e5 : ((kd : Int) == 5) = false := beq_eq_false_iff_ne.2 (by omega)
        have hj0 : (jn (l.take (k + 1))).1 = (jn (l.take k)).1 ++ ((if (jn (l.take k)).2 = true then [32] else []) ++ ls tx) := by
          rw [hst]; unfold jstep; rw [if_neg h5]
        have hone := Lib.hid (show (jn (l.take k)).2 = false → (jn (l.take (k + 1))).1 = (jn (l.take k)).1 ++ ls tx from fun h => by rw [hj0, h]; simp)
        have htwo := Lib.hid (show (jn (l.take k)).2 = true → (jn (l.take (k + 1))).1 = (jn (l.take k)).1 ++ (ls { data := #[32] } ++ ls tx) from fun h => by rw [hj0, h]; rfl)
        have hlx : (jn (l.take k)).1.length + tx.size ≤ 1000000000 := by
          have := congrArg List.length hj0
          rw [List.length_append, List.length_append, ls_len] at this; omega
        have CW1 := Lib.hid (write_one w.heap.size w.heap.size (wr.heap.size + 1) (jn (l.take k)).1 tx _ (by simp) IA zA (by omega) (by omega))
        have CW2 := Lib.hid (write_two w.heap.size w.heap.size (wr.heap.size + 1) (jn (l.take k)).1 { data := #[32] } tx _ (by simp) IA zA (by show _ + (1 + _) ≤ _; omega) (by omega))
        clear hst hj0 IA
        rcases Nat.eq_zero_or_pos k with hk0 | hpos
        · have hop := Lib.hid (hone.out (by rw [hk0]; rfl))
          have hk0' : k ≤ 0 := by omega
          clear hk0 hone htwo CW2
          go_wp2_with fail
          refine CW1.out.mono ?_
          rintro e w1 ⟨rfl, i1, b1⟩
          have B1 : Below w.heap.size w w1 := (BA.alloc BA.size _).trans b1
          clear b1 CW1
          go_wp2
          go_roundw
          case rel => exact ⟨k + 1, by omega, by go_num, Lib.hid (by rw [hop.out]; exact i1), B1⟩
          case measure => simp [intOf]; omega
        · obtain ⟨j, rfl⟩ : ∃ j, k = j + 1 := ⟨k - 1, by omega⟩
          obtain ⟨b', off', hbo, j0, _, _, _⟩ := HC.out j (by omega)
          cases hbo
          have cj := (hb.cell (p := ⟨b, off + j * 4, none⟩) hbl).trans j0
          have hop := jn_op l j (by omega)
          obtain ⟨kj, hkj⟩ : ∃ kj, kj = (l[j]'(by omega)).1 := ⟨_, rfl⟩
          rw [← hkj] at cj hop
          clear hkj j0
          have cj2 : (wr.alloc (.cells #[.int .u8 (kd : Int), .string tx, .int .i64 ln, .int .i64 cl] 27)).cell? ⟨b, off + j * 4, none⟩ = some (.int .u8 (kj : Int)) :=
            (World.cell?_alloc_lt wr _ ⟨b, off + j * 4, none⟩ (by show b < _; omega)).trans cj
          have hj1 : (0 : Int) ≤ (j : Int) := by omega
          by_cases e : kj = 5
          · subst e
            have hj := Lib.hid (hone.out (by rw [hop]; rfl))
            clear hop hone htwo CW2
            go_wp2_with fail
            refine CW1.out.mono ?_
            rintro e w1 ⟨rfl, i1, b1⟩
            have B1 : Below w.heap.size w w1 := (BA.alloc BA.size _).trans b1
            clear b1 CW1
            go_wp2
            go_roundw
            case rel => exact ⟨j + 1 + 1, by omega, by go_num, Lib.hid (by rw [hj.out]; exact i1), B1⟩
            case measure => simp [intOf]; omega
          · have ek : ((kj : Int) == 5) = false := beq_eq_false_iff_ne.2 (by omega)
            have ek2 : ((kj : Int) != 5) = true := bne_iff_ne.2 (by omega)
            have hj := Lib.hid (htwo.out (by rw [hop, ek]; rfl))
            clear hop hone htwo CW1 e
            go_wp2_with fail
            refine CW2.out.mono ?_
            rintro e w1 ⟨rfl, i1, b1⟩
            have B1 : Below w.heap.size w w1 := (BA.alloc BA.size _).trans b1
            clear b1 CW2
            go_wp2
            go_roundw
            case rel => exact ⟨j + 1 + 1, by omega, by go_num, Lib.hid (by rw [hj.out]; exact i1), B1⟩
            case measure => simp [intOf]; omega
    · obtain rfl : k = l.length := by omega
      rw [List.take_length] at hI
      go_wp2_with fail
      refine (Tryd.Builder_String_any _ _ _ _ hI.out hb.size).mono ?_
      rintro e w1 ⟨rfl, b1⟩
      go_wp2
      go_ret
      exact ⟨rfl, hb.trans b1⟩

end Go.Proofs.YthleaigkndfdaaaDoor
