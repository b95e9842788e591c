/- The walks of Join and of its closure. -/
import Derived.Test.YthleaigkndfdaaaDoorLxB
namespace Go.Proofs.YthleaigkndfdaaaDoor
open Go.RowKit Go.Shelf

theorem grown_others {W W' : World} {b : Nat} {g : Nat} {t : TypeId} {cs : Array Value} (h : Blk W g t cs) (hk : Lib.OthersKept 5 (some b) W W') (hg : g ≠ b) (ht : t ≠ 5) : Blk W' g t cs :=
  hk g _ h (fun e => hg (by cases e; rfl)) (fun c fz e => by cases e; exact ht rfl)

/-- The bytes of some strings, one behind the other. -/
def cat (ts : List ByteArray) : Lx.Bs := ts.flatMap fun s => ls s
theorem cat_snoc (ts : List ByteArray) (s : ByteArray) : cat (ts ++ [s]) = cat ts ++ ls s := by unfold cat; rw [List.flatMap_append]; simp
theorem byteCells_app (a b : Lx.Bs) : Lib.byteCells (a ++ b) = Lib.byteCells a ++ Lib.byteCells b := by unfold Lib.byteCells; rw [List.map_append]

set_option maxHeartbeats 2000000 in
theorem write_any (B b g : Nat) (l : Lx.Bs) (ts : List ByteArray) (w : World) (h : Lib.IsBuilder 51 5 B b (Lib.byteCells l) w) (hg : Blk w g 9 (ts.map Value.string).toArray) (hgb : g ≠ b) (hn : ts.length ≤ 1000)
    (hlen : l.length + (cat ts).length ≤ 1000000000000) (hBw : B ≤ w.heap.size) :
    Calls Tryd.prog 27 #[.slice (some ⟨g, 0, none⟩) ts.length ts.length, .pointer (some ⟨b, 0, none⟩)] w fun e w' => e = .returned (.tuple #[]) ∧
      Lib.IsBuilder 51 5 B b (Lib.byteCells (l ++ cat ts)) w' ∧ Below B w w' ∧ Lib.OthersKept 5 (some b) w w' := by
  have H := Lib.hid h; clear h
  have HG := Lib.hid hg; clear hg
  go_enter Tryd.func27, Tryd.ntmps27
  go_wp2
  go_loopw [7, 4] (fun i _ wr => ∃ k : Nat, k ≤ ts.length ∧ i = .int .i64 k ∧ Hid (Lib.IsBuilder 51 5 B b (Lib.byteCells (l ++ cat (ts.take k))) wr) ∧ Below B w wr ∧ Hid (Lib.OthersKept 5 (some b) w wr)) (fun i _ _ => ts.length - (intOf i).toNat)
  case atStart => exact ⟨0, by omega, rfl, Lib.hid (by simpa [cat] using H.out), Below.refl _ _, Lib.hid (Lib.OthersKept.refl _ _ _)⟩
  case round =>
    obtain ⟨k, hk, rfl, hI, hb, ho⟩ := hrel
    by_cases hlt : k < ts.length
    · have hc := (grown_others HG.out ho.out hgb (by decide)).cell k
      have hc1 : wr.cell? ⟨g, k, none⟩ = some (.string ts[k]) := by
        rw [hc]; simp [hlt]
      have hst := Lib.hid (show cat (ts.take (k + 1)) = cat (ts.take k) ++ ls ts[k] by rw [List.take_succ_eq_append_getElem hlt, cat_snoc])
      have hle : (cat (ts.take (k + 1))).length ≤ (cat ts).length := by
        have : cat ts = cat (ts.take (k + 1)) ++ cat (ts.drop (k + 1)) := by unfold cat; rw [← List.flatMap_append, List.take_append_drop]
        rw [this, List.length_append]; omega
      rw [hst.out, List.length_append, ls_len] at hle
      clear hc
      go_wp2_with fail
      refine (writeString_any B b _ _ _ hI.out (by rw [Lib.byteCells_length, List.length_append]; omega) (Nat.le_trans hBw hb.size)).mono ?_
      rintro e W1 ⟨rfl, i1, b1, o1⟩
      have I1 := Lib.hid (show Lib.IsBuilder 51 5 B b (Lib.byteCells (l ++ cat (ts.take (k + 1)))) W1 by
        rw [hst.out, ← List.append_assoc, byteCells_app]; exact .inr i1)
      have O1 := Lib.hid (ho.out.trans o1)
      have B1 := hb.trans b1
      clear i1 b1 o1
      go_wp2
      go_roundw
      case rel => exact ⟨k + 1, by omega, by go_num, I1, B1, O1⟩
      case measure => simp [intOf]; omega
    · obtain rfl : k = ts.length := by omega
      rw [List.take_length] at hI
      go_wp2
      go_end0
      exact ⟨rfl, hI.out, hb, ho.out⟩

/-- Tokens in memory. -/
def TCells (W : World) (p : Option Addr) (l : List Tok) : Prop := ∀ i : Nat, (h : i < l.length) → ∃ b off, p = some ⟨b, off, none⟩ ∧ W.cell? ⟨b, off + i * 4, none⟩ = some (.int .u8 (l[i].1 : Int)) ∧ W.cell? ⟨b, off + i * 4 + 1, none⟩ = some (.string l[i].2.1) ∧
  W.cell? ⟨b, off + i * 4 + 2, none⟩ = some (.int .i64 l[i].2.2.1) ∧ W.cell? ⟨b, off + i * 4 + 3, none⟩ = some (.int .i64 l[i].2.2.2)

theorem TCells.below {W W' : World} {p : Option Addr} {l : List Tok} (h : TCells W p l) (hb : Below W.heap.size W W') : TCells W' p l := fun i hi => by
  obtain ⟨b, off, e, h0, h1, h2, h3⟩ := h i hi
  have hl := World.block_lt_of_cell? W _ h0
  exact ⟨b, off, e, (hb.cell (p := ⟨b, off + i * 4, none⟩) hl).trans h0, (hb.cell (p := ⟨b, off + i * 4 + 1, none⟩) hl).trans h1, (hb.cell (p := ⟨b, off + i * 4 + 2, none⟩) hl).trans h2, (hb.cell (p := ⟨b, off + i * 4 + 3, none⟩) hl).trans h3⟩

theorem tflat_get (l : List Tok) : ∀ i : Nat, (h : i < l.length) → (tflat l)[i * 4]? = some (.int .u8 (l[i].1 : Int)) ∧ (tflat l)[i * 4 + 1]? = some (.string l[i].2.1) ∧ (tflat l)[i * 4 + 2]? = some (.int .i64 l[i].2.2.1) ∧ (tflat l)[i * 4 + 3]? = some (.int .i64 l[i].2.2.2) := by
  induction l with
  | nil => intro i h; simp at h
  | cons x l ih =>
    intro i h
    have e : tflat (x :: l) = .int .u8 (x.1 : Int) :: .string x.2.1 :: .int .i64 x.2.2.1 :: .int .i64 x.2.2.2 :: tflat l := rfl
    rw [e]
    cases i with
    | zero => exact ⟨rfl, rfl, rfl, rfl⟩
    | succ i =>
      have := ih i (by simpa using h)
      rw [show (i + 1) * 4 = i * 4 + 1 + 1 + 1 + 1 by omega]
      exact this

theorem TOwns.form {W : World} {base : Nat} {v : Value} {l : List Tok} (h : TOwns W base v l) : ∃ p cap, v = .slice p l.length cap ∧ TCells W p l := by
  obtain ⟨hl, hv⟩ := h
  rcases hv with ⟨rfl, h0⟩ | ⟨g, cap, cur, rfl, _, hg, hc, _, _, ht⟩
  · have : l = [] := List.eq_nil_of_length_eq_zero h0
    subst this
    exact ⟨none, 0, rfl, fun i hi => by simp at hi⟩
  · refine ⟨_, _, rfl, fun i hi => ⟨g, 0, rfl, ?_⟩⟩
    have hf := tflat_get l i hi
    rw [← ht] at hf
    have e : ∀ j, j < 4 → (cur.toList.take (l.length * 4))[i * 4 + j]? = cur[i * 4 + j]? := fun j hj => by
      rw [List.getElem?_take, if_pos (by omega), Array.getElem?_toList]
    have e0 := e 0 (by omega)
    have e1 := e 1 (by omega)
    have e2 := e 2 (by omega)
    have e3 := e 3 (by omega)
    rw [Nat.add_zero] at e0
    rw [e0, e1, e2, e3] at hf
    simp [World.cell?, hg, hf.1, hf.2.1, hf.2.2.1, hf.2.2.2]

/-- What Join writes. -/
def jstep (a : Lx.Bs × Bool) (x : Tok) : Lx.Bs × Bool := if x.1 = 5 then (a.1 ++ [10], false) else (a.1 ++ ((if a.2 then [32] else []) ++ ls x.2.1), true)
def jn (l : List Tok) : Lx.Bs × Bool := l.foldl jstep ([], false)
theorem jn_snoc (l : List Tok) (x : Tok) : jn (l ++ [x]) = jstep (jn l) x := by unfold jn; rw [List.foldl_append]; rfl
theorem jn_op (l : List Tok) (k : Nat) (h : k < l.length) : (jn (l.take (k + 1))).2 = !((l[k].1 : Int) == 5) := by
  rw [List.take_succ_eq_append_getElem h, jn_snoc]
  unfold jstep
  by_cases e : l[k].1 = 5
  · rw [if_pos e, e]; rfl
  · rw [if_neg e, beq_eq_false_iff_ne.2 (by omega)]; rfl
/-- How long it can be. -/
def jcost (l : List Tok) : Nat := (l.map fun x => x.2.1.size + 1).sum
theorem jn_len (l : List Tok) : (jn l).1.length ≤ jcost l := by
  have key : ∀ (l : List Tok) (a : Lx.Bs × Bool), (l.foldl jstep a).1.length ≤ a.1.length + jcost l := by
    intro l
    induction l with
    | nil => intro a; show a.1.length ≤ a.1.length + 0; omega
    | cons x l ih =>
      intro a
      have h := ih (jstep a x)
      have hs : (jstep a x).1.length ≤ a.1.length + (x.2.1.size + 1) := by
        unfold jstep; split
        · simp
        · rw [List.length_append, List.length_append, ls_len]; split <;> simp <;> omega
      show (l.foldl jstep (jstep a x)).1.length ≤ _
      unfold jcost at *
      rw [List.map_cons, List.sum_cons]; omega
  have := key l ([], false)
  unfold jn; simpa using this
theorem jcost_take (l : List Tok) (k : Nat) : jcost (l.take k) ≤ jcost l := by
  have : jcost l = jcost (l.take k) + jcost (l.drop k) := by unfold jcost; rw [← List.sum_append, ← List.map_append, List.take_append_drop]
  omega

end Go.Proofs.YthleaigkndfdaaaDoor
