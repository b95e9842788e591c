/- For LexJoins: the reference's tokens, and its Join. -/
import Derived.Test.YthleaigkndfdaaaDoorLxL2
import Derived.Test.YthleaigkndfdaaaDoorLxW12
import Derived.StillTactics
import Derived.Deep.RegionHeld3
import Derived.Deep.AppendLies
import Derived.Maps.AppendAt
namespace Go.Proofs.YthleaigkndfdaaaDoor
open Go.RowKit Go.Shelf

/-- The slice v is the list l of the reference's tokens, in memory of its own. -/
def GOwns (W : World) (base : Nat) (v : Value) (l : List Tok) : Prop := W.ownsRow base 60 4 v l.length (tflat l)
theorem GOwns.form {W : World} {base : Nat} {v : Value} {l : List Tok} (h : GOwns W base v l) : ∃ p cap, v = .slice p l.length cap ∧ TCells W p l := by
  obtain ⟨hl, hv⟩ := h
  rcases hv with ⟨rfl, h0⟩ | ⟨g, cap, cur, rfl, _, hg, hc, _, _, ht⟩
  · have : l = [] := List.eq_nil_of_length_eq_zero h0
    subst this
    exact ⟨none, 0, rfl, fun i hi => by simp at hi⟩
  · refine ⟨_, _, rfl, fun i hi => ⟨g, 0, rfl, ?_⟩⟩
    have hf := tflat_get l i hi
    rw [← ht] at hf
    have e : ∀ j, j < 4 → (cur.toList.take (l.length * 4))[i * 4 + j]? = cur[i * 4 + j]? := fun j hj => by
      rw [List.getElem?_take, if_pos (by omega), Array.getElem?_toList]
    have e0 := e 0 (by omega)
    have e1 := e 1 (by omega)
    have e2 := e 2 (by omega)
    have e3 := e 3 (by omega)
    rw [Nat.add_zero] at e0
    rw [e0, e1, e2, e3] at hf
    simp [World.cell?, hg, hf.1, hf.2.1, hf.2.2.1, hf.2.2.2]

theorem info_gtoken : (Tryd.prog.info? 60).map (fun i => (i.zero, i.size, i.bytes)) = some (some (.agg #[.int .u8 0, .string { data := #[] }, .int .i64 0, .int .i64 0]), 4, 40) := by kernel_rfl
theorem cell_four (w : World) (a b c d : Value) (t : TypeId) (k : Nat) (hk : w.heap.size = k) : ∀ j u, [a, b, c, d][j]? = some u → (w.alloc (.cells #[a, b, c, d] t)).cell? ((⟨k, 0, none⟩ : Addr).add j) = some u := by
  subst hk
  intro j u hj
  rw [WideShapes.add_plain]
  match j, hj with
  | 0, hj => simp at hj; subst hj; simp
  | 1, hj => simp at hj; subst hj; simp
  | 2, hj => simp at hj; subst hj; simp
  | 3, hj => simp at hj; subst hj; simp

set_option maxHeartbeats 2000000 in
set_option maxRecDepth 100000 in
theorem given_any (l : List Tok) (p : Option Addr) (cap : Nat) (w : World) (hn : l.length ≤ 1000) (hc : TCells w p l) :
    Calls Tryd.prog 16 #[.slice p l.length cap] w fun e w' => ∃ v, e = .returned v ∧ GOwns w' w.heap.size v l ∧ Below w.heap.size w w' := by
  have HC := Lib.hid hc; clear hc
  obtain ⟨i0, hi0, hz0, hz1, hz2⟩ := info_parts info_gtoken
  go_enter Tryd.func16, Tryd.ntmps16
  go_wp2
  go_loopw [4, 3] (fun i u wr => ∃ (k : Nat) (v : Value), k ≤ l.length ∧ i = .int .i64 k ∧ v = u ∧ Hid (GOwns wr w.heap.size v (l.take k)) ∧ Below w.heap.size w wr) (fun i _ _ => l.length - (intOf i).toNat)
  case atStart => exact ⟨0, _, by omega, rfl, rfl, Lib.hid (World.ownsRow_nil _ _ _ _), Below.refl _ _⟩
  case round =>
    obtain ⟨k, v, hk, rfl, rfl, hI, hb⟩ := hrel
    by_cases hlt : k < l.length
    · obtain ⟨b, off, rfl, h0, h1, h2, h3⟩ := HC.out k hlt
      have hbl : b < w.heap.size := World.block_lt_of_cell? w _ h0
      have c0 := (hb.cell (p := ⟨b, off + k * 4, none⟩) hbl).trans h0
      have c1 := (hb.cell (p := ⟨b, off + k * 4 + 1, none⟩) hbl).trans h1
      have c2 := (hb.cell (p := ⟨b, off + k * 4 + 2, none⟩) hbl).trans h2
      have c3 := (hb.cell (p := ⟨b, off + k * 4 + 3, none⟩) hbl).trans h3
      have hst := Lib.hid (List.take_succ_eq_append_getElem hlt)
      obtain ⟨x, hx⟩ : ∃ x, x = l[k] := ⟨_, rfl⟩
      rw [← hx] at c0 c1 c2 c3 hst
      obtain ⟨kd, tx, ln, cl⟩ := x
      dsimp only at c0 c1 c2 c3
      clear h0 h1 h2 h3 hx
      have hpl : (l.take k).length = k := by rw [List.length_take]; omega
      have HO := Lib.hid (show wr.ownsRow w.heap.size 60 4 v k (tflat (l.take k)) by have := hI.out; unfold GOwns at this; rw [hpl] at this; exact this)
      have ag : v.ownBlock ≠ some b := by
        rcases HO.out.2 with ⟨rfl, _⟩ | ⟨g, _, _, rfl, hg, _⟩
        · simp [Value.ownBlock]
        · simp [Value.ownBlock]; omega
      have hsz := hb.size
      have hk0 : (0 : Int) ≤ (k : Int) := by omega
      have hk1 : (k : Int) < (l.length : Int) := by omega
      go_wp2_with fail
      go_region_held3 (fun w' => w'.cell? ⟨b, off + k * 4, none⟩ = some (.int .u8 (kd : Int)) ∧ w'.cell? ⟨b, off + k * 4 + 1, none⟩ = some (.string tx) ∧ w'.cell? ⟨b, off + k * 4 + 2, none⟩ = some (.int .i64 ln) ∧ w'.cell? ⟨b, off + k * 4 + 3, none⟩ = some (.int .i64 cl))
        (first
          | go_keep
          | (go_split_ands
             refine ⟨?_, ?_, ?_, ?_⟩ <;> (rw [hgrow.cell_far _ (by simp; omega) (Ne.symm ag)]; assumption)))
        ((refine step_append_lies _ (by rfl) _ _ _ (by rfl) w.heap.size 60 i0 _ 4 40 Tryd.underlying30 hi0 hz0 hz1 hz2 rfl (by omega) v k (tflat (l.take k)) (by rfl) ((HO.out.alloc _).drew)
            ⟨wr.heap.size, 0, none⟩ 1 1 [.int .u8 (kd : Int), .string tx, .int .i64 ln, .int .i64 cl] (by rfl) (by rfl) (World.news_of_block (cs := #[.int .u8 (kd : Int), .string tx, .int .i64 ln, .int .i64 cl]) (t := 60) (fr := (0, 0)) (heap_alloc_new wr _)) (by simp [Value.oneCell'])
            (by omega) (by unfold maxLen; omega) (by omega) (by simp; omega) (wr.heap.size + 1) (by simp) ?_; intro gg cap' w1 hown1 hgrow hat hlt'))
      have hN : Hid (GOwns w1 w.heap.size (.slice (some ⟨gg, 0, none⟩) (k + 1) cap') (l.take (k + 1))) := Lib.hid (by
        unfold GOwns
        rw [hst.out, List.length_append, hpl, tflat_snoc]
        exact hown1)
      have hB : Below w.heap.size w w1 := ((hb.alloc hb.size _).drew).grown hgrow (Nat.le_trans hb.size (by simp)) (fun g hg => by
        rcases HO.out.2 with ⟨rfl, _⟩ | ⟨g', _, _, rfl, hg', _⟩
        · simp [Value.ownBlock] at hg
        · simp [Value.ownBlock] at hg; omega)
      clear hown1 hgrow hat hlt'
      go_wp2
      go_roundw
      case rel => exact ⟨k + 1, _, by omega, by go_num, rfl, hN, hB⟩
      case measure => simp [intOf]; omega
    · obtain rfl : k = l.length := by omega
      rw [List.take_length] at hI
      go_wp2
      go_ret
      exact ⟨_, rfl, hI.out, hb⟩

set_option maxHeartbeats 1000000 in
set_option maxRecDepth 100000 in
theorem joinR_any (l : List Tok) (p : Option Addr) (cap : Nat) (w : World) (hn : l.length ≤ 1000000) (hc : TCells w p l) (hcost : jcost l ≤ 1000000000) :
    Calls Tryd.prog 15 #[.slice p l.length cap] w fun e w' => e = .returned (.string (bs (jn l).1)) ∧ w = w' := by
  have HC := Lib.hid hc; clear hc
  have hcl := fun k => jn_len (l.take k)
  have hct := jcost_take l
  have HCL := Lib.hid (fun k => Nat.le_trans (hcl k) (Nat.le_trans (hct k) hcost))
  clear hcl hct
  go_enter Tryd.func15, Tryd.ntmps15
  go_wp2
  go_loop [4, 3] (fun i s => ∃ (k : Nat) (t : ByteArray), k ≤ l.length ∧ i = .int .i64 k ∧ s = .string t ∧ Hid (ls t = (jn (l.take k)).1)) (fun i _ => l.length - (intOf i).toNat)
  case atStart => exact ⟨0, _, by omega, rfl, rfl, Lib.hid rfl⟩
  case round =>
    obtain ⟨k, t, hk, rfl, rfl, hI⟩ := hrel
    by_cases hlt : k < l.length
    · obtain ⟨b, off, rfl, c0, c1, _, _⟩ := HC.out k hlt
      have hst := jn_snoc (l.take k) l[k]
      rw [← List.take_succ_eq_append_getElem hlt] at hst
      have hl1 := HCL.out (k + 1)
      have hl0 := HCL.out k
      have hts : t.size ≤ 1000000000 := by rw [size_ls, hI.out]; exact hl0
      obtain ⟨x, hx⟩ : ∃ x, x = l[k] := ⟨_, rfl⟩
      rw [← hx] at c0 c1 hst
      obtain ⟨kd, tx, ln, cl⟩ := x
      dsimp only at c0 c1
      clear hx
      by_cases h5 : kd = 5
      · subst h5
        have hj := Lib.hid (show ls (t ++ { data := #[10] }) = (jn (l.take (k + 1))).1 by rw [ls_app, hI.out, hst]; rfl)
        clear hst
        go_wp2
        go_round
        case rel => exact ⟨k + 1, _, by omega, by go_num, rfl, hj⟩
        case measure => simp [intOf]; omega
      · have e5 : ((kd : Int) == 5) = false := beq_eq_false_iff_ne.2 (by omega)
        have hj0 : (jn (l.take (k + 1))).1 = (jn (l.take k)).1 ++ ((if (jn (l.take k)).2 = true then [32] else []) ++ ls tx) := by
          rw [hst]; unfold jstep; rw [if_neg h5]
        have hone := Lib.hid (show (jn (l.take k)).2 = false → ls (t ++ tx) = (jn (l.take (k + 1))).1 from fun h => by rw [hj0, h, ls_app, hI.out]; simp)
        have htwo := Lib.hid (show (jn (l.take k)).2 = true → ls (t ++ { data := #[32] } ++ tx) = (jn (l.take (k + 1))).1 from fun h => by rw [hj0, h, ls_app, ls_app, hI.out]; simp [ls])
        have hlx : t.size + tx.size ≤ 1000000000 := by
          have := congrArg List.length hj0
          rw [List.length_append, List.length_append, ls_len] at this
          rw [size_ls, hI.out]; omega
        clear hst hj0
        rcases Nat.eq_zero_or_pos k with hk0 | hpos
        · have hop := Lib.hid (hone.out (by rw [hk0]; rfl))
          have hk0' : k ≤ 0 := by omega
          clear hk0 hone htwo
          go_wp2
          go_round
          case rel => exact ⟨k + 1, _, by omega, by go_num, rfl, hop⟩
          case measure => simp [intOf]; omega
        · obtain ⟨j, rfl⟩ : ∃ j, k = j + 1 := ⟨k - 1, by omega⟩
          obtain ⟨b', off', hbo, j0, _, _, _⟩ := HC.out j (by omega)
          cases hbo
          have hop := jn_op l j (by omega)
          obtain ⟨kj, hkj⟩ : ∃ kj, kj = (l[j]'(by omega)).1 := ⟨_, rfl⟩
          rw [← hkj] at j0 hop
          clear hkj
          have hj1 : (0 : Int) ≤ (j : Int) := by omega
          by_cases e : kj = 5
          · subst e
            have hj := Lib.hid (hone.out (by rw [hop]; rfl))
            clear hop hone htwo
            go_wp2
            go_round
            case rel => exact ⟨j + 1 + 1, _, by omega, by go_num, rfl, hj⟩
            case measure => simp [intOf]; omega
          · have ek : ((kj : Int) == 5) = false := beq_eq_false_iff_ne.2 (by omega)
            have ek2 : ((kj : Int) != 5) = true := bne_iff_ne.2 (by omega)
            have hj := Lib.hid (htwo.out (by rw [hop, ek]; rfl))
            clear hop hone htwo e
            go_wp2
            go_round
            case rel => exact ⟨j + 1 + 1, _, by omega, by go_num, rfl, hj⟩
            case measure => simp [intOf]; omega
    · obtain rfl : k = l.length := by omega
      rw [List.take_length] at hI
      have hv : t = bs (jn l).1 := bs_ls_eq hI.out
      subst hv
      go_wp2
      go_ret
      exact ⟨rfl, rfl⟩

end Go.Proofs.YthleaigkndfdaaaDoor
