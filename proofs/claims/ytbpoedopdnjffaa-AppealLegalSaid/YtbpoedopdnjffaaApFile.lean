/- file: the table of the methods, in whatever order its entries are laid. -/
import Derived.Test.YtbpoedopdnjffaaApInv
namespace Go.Proofs.Ytbpoedopdnjffaa
open Go.RowKit Go.Shelf Sp

section
variable {P : Program} {ops : Array Oper} {o : Oper} {a : Act}
theorem yields_move {x : Operand} {v : Value} (hg : o.guard = none) (ho : o.op = .move x) (hx : a.eval x = v) : Yields P ops o v a := by
  refine .inl ⟨by simp [Region.wanted, hg], fun w => ?_⟩
  subst hx; exact BigFrame.run_move x ho w
theorem yields_assign {x : Operand} {v : Value} (hg : o.guard = none) (ho : o.op = .assign x) (hx : a.eval x = v) : Yields P ops o v a := by
  refine .inl ⟨by simp [Region.wanted, hg], fun w => ?_⟩
  subst hx; exact BigFrame.run_assign x ho w
theorem yields_nil {x : Operand} {p : Addr} (hg : o.guard = none) (ho : o.op = .nilCheck x) (hx : a.eval x = .pointer (some p)) : Yields P ops o (.pointer (some p)) a := by
  refine .inl ⟨by simp [Region.wanted, hg], fun w => ?_⟩
  unfold execOp; rw [ho]; simp only [hx]; simp [go_sem]
theorem yields_field {x : Operand} {B : Nat} (hg : o.guard = none) (ho : o.op = .fieldAddr 66 x 0) (hx : a.eval x = .pointer (some ⟨B, 0, none⟩)) : Yields Try.prog ops o (.pointer (some ⟨B, 0, none⟩)) a := by
  refine .inl ⟨by simp [Region.wanted, hg], fun w => ?_⟩
  unfold execOp; rw [ho]; simp only [hx]; simp [go_sem]
theorem yields_func {x : Operand} {f : Fn} {v : Value} (hg : o.guard = none) (ho : o.op = .makeFunc f #[x] #[]) (hx : a.eval x = v) : Yields P ops o (.func f #[v] #[]) a := by
  refine .inl ⟨by simp [Region.wanted, hg], fun w => ?_⟩
  unfold execOp; rw [ho]; simp only [hx, List.map_toArray, List.map_cons, List.map_nil]; simp [go_sem]
theorem wpOp_map {Q : Exit → Act → World → Prop} {K : Act → World → Prop} {i : Nat} {t : TypeId} {w : World} (ho : ops[i]? = some o) (hg : o.guard = none) (hop : o.op = .makeMap t none) (h : K (a.put o.dst (.map (some w.heap.size))) (w.alloc (.map #[] 0))) : wpOp P ops Q i K a w := by
  unfold wpOp
  rw [ho]
  have hw : Region.wanted o (yielded ops a.tmps) = true := by simp [Region.wanted, hg]
  simp only [hw, if_true]
  left
  unfold Oper.wp execOp
  rw [hop]
  simp [run_makeMap, Result.andThen, Oper.upon]
  exact h
end

/-- The frame while the table is laid. -/
def fileFr (B : Nat) (p : Option Addr) (n cap : Nat) (v5 v12 v13 v14 v15 v16 v17 v18 v19 v20 v21 v22 v23 v24 v25 v26 v27 v28 v29 v30 v31 v32 v33 v34 v35 v36 v37 v38 v39 v40 v41 : Value) : Act := { tmps := #[.pointer (some ⟨B, 0, none⟩), .slice p n cap, undef, undef, .slice none 0 0, v5, undef, undef, undef, .pointer (some ⟨B, 0, none⟩), .pointer (some ⟨B, 0, none⟩), .pointer (some ⟨B, 1, none⟩), v12, v13, v14, v15, v16, v17, v18, v19, v20, v21, v22, v23, v24, v25, v26, v27, v28, v29, v30, v31, v32, v33, v34, v35, v36, v37, v38, v39, v40, v41, undef, undef, undef, undef, undef, undef, undef, undef, undef, undef, undef, undef, undef, undef, undef, undef, undef, undef, undef, undef, undef, undef, undef, undef, undef, undef, undef, undef, undef, undef, undef, undef, undef, undef, undef, undef, undef, undef, undef, undef, undef, undef, undef, undef, undef, undef, undef, undef, undef, undef, undef, undef, undef, undef, undef], defers := [] }
def val7 (B k : Nat) : Value := .func (.func (meth7 k)) #[.pointer (some ⟨B, 0, none⟩)] #[]

theorem FCells.at {w : World} {p : Option Addr} {l : List Fl} (h : FCells w p l) (i : Nat) (hi : i < l.length) : ∃ b off, p = some ⟨b, off, none⟩ ∧
    w.cell? ⟨b, off + i * 6, none⟩ = some (.int .u8 l[i].kind) ∧ w.cell? ⟨b, off + i * 6 + 1, none⟩ = some (.int .i64 l[i].day) ∧ w.cell? ⟨b, off + i * 6 + 2, none⟩ = some (.int .i64 l[i].case) ∧
    w.cell? ⟨b, off + i * 6 + 3, none⟩ = some (.int .i64 l[i].n) ∧ w.cell? ⟨b, off + i * 6 + 4, none⟩ = some (.int .i64 l[i].til) ∧ w.cell? ⟨b, off + i * 6 + 5, none⟩ = some (.bool l[i].hold) := by
  rcases h with h | ⟨b, off, hv, hc⟩
  · rw [h] at hi; simp at hi
  · exact ⟨b, off, hv, hc i hi⟩
theorem ek7 (k : Nat) (hk : k < 7) : ∀ args w, (callFunc (meth7 k) args).run Try.prog w = .ok (.enter (meth7 k) args) w := by
  rcases (show k = 0 ∨ k = 1 ∨ k = 2 ∨ k = 3 ∨ k = 4 ∨ k = 5 ∨ k = 6 by omega) with rfl | rfl | rfl | rfl | rfl | rfl | rfl
  · exact enters_of Try.func47 (by kernel_rfl) rfl
  · exact enters_of Try.func48 (by kernel_rfl) rfl
  · exact enters_of Try.func49 (by kernel_rfl) rfl
  · exact enters_of Try.func50 (by kernel_rfl) rfl
  · exact enters_of Try.func51 (by kernel_rfl) rfl
  · exact enters_of Try.func52 (by kernel_rfl) rfl
  · exact enters_of Try.func53 (by kernel_rfl) rfl
theorem inv_start {w W wm : World} {B n : Nat} {es : Array MapEntry} {clock : Nat} {l : List Fl} (hB : w.heap[B]? = some (.cells #[.slice none 0 0, .int .i64 0] 66 (0, 0))) (hW : w.setCell ⟨B, 1, none⟩ (.int .i64 (-1)) = W) (hM : MapAt W.heap.size W.drew wm es clock) (hn : n = l.length) :
    FInv w B W.heap.size wm.heap.size es clock l 0 (wm.alloc (.cells (madeCells #[.int .i64 0] n) 31)) := by
  subst hW
  have h1 := setCell_row (i := 1) (.int .i64 (-1)) hB
  have hBl : B < w.heap.size := (Array.getElem?_eq_some_iff.1 hB).1
  have h2 := (hM.2.block B (by simpa using hBl)).trans h1
  have hal : Below wm.heap.size wm (wm.alloc (.cells (madeCells #[.int .i64 0] n) 31)) := (Below.refl _ _).alloc (Nat.le_refl _) _
  have h3 := (hal.block B (Array.getElem?_eq_some_iff.1 h2).1).trans h2
  refine ⟨⟨.slice none 0 0, [], rfl, by simpa [runD] using h3, CRow.nil _ _⟩, ⟨_, World.alloc_heap_new wm _, by rw [toList_madeCells_one, hn]; simp [errsD, errsFrom]⟩, (hal.block _ (Array.getElem?_eq_some_iff.1 hM.1).1).trans hM.1, ?_⟩
  exact ((((But.refl B w).set_ 1 _).drew).below hM.2).below hal

set_option maxHeartbeats 4000000 in
set_option maxRecDepth 100000 in
theorem file_any (B : Nat) (l : List Fl) (p : Option Addr) (cap : Nat) (w : World) (hB : w.heap[B]? = some (.cells #[.slice none 0 0, .int .i64 0] 66 (0, 0))) (hc : FCells w p l) (bd : ∀ f ∈ l, f.Bd) (hl : l.length ≤ 100000) :
    Calls Try.prog 31 #[.pointer (some ⟨B, 0, none⟩), .slice p l.length cap] w fun e W' => ∃ v, e = .returned v ∧ EOwns W' w.heap.size v (errsD l) ∧ DkAt W' w.heap.size B (runD l).cs (runD l).last ∧ But B w W' := by
  have c1 : w.cell? ⟨B, 1, none⟩ = some (.int .i64 0) := by simp [World.cell?, hB]
  have z1 : w.frozen? ⟨B, 1, none⟩ = false := by simp [World.frozen?, hB]
  have HB := Lib.hid hB
  have HC := Lib.hid hc
  have BD := Lib.hid bd
  have hBl : B < w.heap.size := (Array.getElem?_eq_some_iff.1 hB).1
  obtain ⟨n, hn⟩ : ∃ n, n = l.length := ⟨_, rfl⟩
  rw [← hn] at hl ⊢
  have HN := Lib.hid hn
  have hmk : ∀ W : World, (Instr.makeSlice 27 (.int .i64 (n : Int)) (.int .i64 (n : Int))).run Try.prog W = .ok (.slice (some ⟨W.heap.size, 0, none⟩) n n) (W.alloc (.cells (madeCells #[.int .i64 0] n) 31)) := fun W => run_make_row' (P := Try.prog) 27 31 (.int .i64 0) 8 Try.underlying27 (by kernel_rfl) rfl .i64 .i64 n (by omega) (by omega) W
  clear hB hc bd hn
  go_enter Try.func31, Try.ntmps31
  go_wp2
  generalize hW : w.setCell ⟨B, 1, none⟩ (.int .i64 (-1)) = W
  refine wp_region_noPanic (wp_region_any rfl ?_)

  change wpAny _ _ _ _ 38 #[false, false, false, false, false, false, false, false, false, false, false, false, false, false, false, false, false, false, false, false, false, false, false, false, false, false, false, false, false, false, false, false, false, false, false, false, false, false] (fileFr B p n cap undef undef undef undef undef undef undef undef undef undef undef undef undef undef undef undef undef undef undef undef undef undef undef undef undef undef undef undef undef undef undef) W.drew
  refine wpAny_take (i := 1) rfl (by kernel_rfl) (by kernel_rfl) (by kernel_rfl) (fun _ _ _ h => h) (yields_move rfl rfl rfl) ?_
  change wpAny _ _ _ _ 37 #[false, true, false, false, false, false, false, false, false, false, false, false, false, false, false, false, false, false, false, false, false, false, false, false, false, false, false, false, false, false, false, false, false, false, false, false, false, false] (fileFr B p n cap undef undef (.pointer (some ⟨B, 0, none⟩)) undef undef undef undef undef undef undef undef undef undef undef undef undef undef undef undef undef undef undef undef undef undef undef undef undef undef undef undef) W.drew
  refine wpAny_take (i := 2) rfl (by kernel_rfl) (by kernel_rfl) (by kernel_rfl) (fun _ _ _ h => h) (yields_nil rfl rfl rfl) ?_
  change wpAny _ _ _ _ 36 #[false, true, true, false, false, false, false, false, false, false, false, false, false, false, false, false, false, false, false, false, false, false, false, false, false, false, false, false, false, false, false, false, false, false, false, false, false, false] (fileFr B p n cap undef undef (.pointer (some ⟨B, 0, none⟩)) (.pointer (some ⟨B, 0, none⟩)) undef undef undef undef undef undef undef undef undef undef undef undef undef undef undef undef undef undef undef undef undef undef undef undef undef undef undef) W.drew
  refine wpAny_take (i := 3) rfl (by kernel_rfl) (by kernel_rfl) (by kernel_rfl) (fun _ _ _ h => h) (yields_field rfl rfl rfl) ?_
  change wpAny _ _ _ _ 35 #[false, true, true, true, false, false, false, false, false, false, false, false, false, false, false, false, false, false, false, false, false, false, false, false, false, false, false, false, false, false, false, false, false, false, false, false, false, false] (fileFr B p n cap undef undef (.pointer (some ⟨B, 0, none⟩)) (.pointer (some ⟨B, 0, none⟩)) (.pointer (some ⟨B, 0, none⟩)) undef undef undef undef undef undef undef undef undef undef undef undef undef undef undef undef undef undef undef undef undef undef undef undef undef undef) W.drew
  refine wpAny_take (i := 4) rfl (by kernel_rfl) (by kernel_rfl) (by kernel_rfl) (fun _ _ _ h => h) (yields_func rfl rfl rfl) ?_
  change wpAny _ _ _ _ 34 #[false, true, true, true, true, false, false, false, false, false, false, false, false, false, false, false, false, false, false, false, false, false, false, false, false, false, false, false, false, false, false, false, false, false, false, false, false, false] (fileFr B p n cap undef undef (.pointer (some ⟨B, 0, none⟩)) (.pointer (some ⟨B, 0, none⟩)) (.pointer (some ⟨B, 0, none⟩)) (val7 B 0) undef undef undef undef undef undef undef undef undef undef undef undef undef undef undef undef undef undef undef undef undef undef undef undef undef) W.drew
  refine wpAny_take (i := 6) rfl (by kernel_rfl) (by kernel_rfl) (by kernel_rfl) (fun _ _ _ h => h) (yields_move rfl rfl rfl) ?_
  change wpAny _ _ _ _ 33 #[false, true, true, true, true, false, true, false, false, false, false, false, false, false, false, false, false, false, false, false, false, false, false, false, false, false, false, false, false, false, false, false, false, false, false, false, false, false] (fileFr B p n cap undef undef (.pointer (some ⟨B, 0, none⟩)) (.pointer (some ⟨B, 0, none⟩)) (.pointer (some ⟨B, 0, none⟩)) (val7 B 0) (.pointer (some ⟨B, 0, none⟩)) undef undef undef undef undef undef undef undef undef undef undef undef undef undef undef undef undef undef undef undef undef undef undef undef) W.drew
  refine wpAny_take (i := 7) rfl (by kernel_rfl) (by kernel_rfl) (by kernel_rfl) (fun _ _ _ h => h) (yields_nil rfl rfl rfl) ?_
  change wpAny _ _ _ _ 32 #[false, true, true, true, true, false, true, true, false, false, false, false, false, false, false, false, false, false, false, false, false, false, false, false, false, false, false, false, false, false, false, false, false, false, false, false, false, false] (fileFr B p n cap undef undef (.pointer (some ⟨B, 0, none⟩)) (.pointer (some ⟨B, 0, none⟩)) (.pointer (some ⟨B, 0, none⟩)) (val7 B 0) (.pointer (some ⟨B, 0, none⟩)) (.pointer (some ⟨B, 0, none⟩)) undef undef undef undef undef undef undef undef undef undef undef undef undef undef undef undef undef undef undef undef undef undef undef) W.drew
  refine wpAny_take (i := 8) rfl (by kernel_rfl) (by kernel_rfl) (by kernel_rfl) (fun _ _ _ h => h) (yields_field rfl rfl rfl) ?_
  change wpAny _ _ _ _ 31 #[false, true, true, true, true, false, true, true, true, false, false, false, false, false, false, false, false, false, false, false, false, false, false, false, false, false, false, false, false, false, false, false, false, false, false, false, false, false] (fileFr B p n cap undef undef (.pointer (some ⟨B, 0, none⟩)) (.pointer (some ⟨B, 0, none⟩)) (.pointer (some ⟨B, 0, none⟩)) (val7 B 0) (.pointer (some ⟨B, 0, none⟩)) (.pointer (some ⟨B, 0, none⟩)) (.pointer (some ⟨B, 0, none⟩)) undef undef undef undef undef undef undef undef undef undef undef undef undef undef undef undef undef undef undef undef undef undef) W.drew
  refine wpAny_take (i := 9) rfl (by kernel_rfl) (by kernel_rfl) (by kernel_rfl) (fun _ _ _ h => h) (yields_func rfl rfl rfl) ?_
  change wpAny _ _ _ _ 30 #[false, true, true, true, true, false, true, true, true, true, false, false, false, false, false, false, false, false, false, false, false, false, false, false, false, false, false, false, false, false, false, false, false, false, false, false, false, false] (fileFr B p n cap undef undef (.pointer (some ⟨B, 0, none⟩)) (.pointer (some ⟨B, 0, none⟩)) (.pointer (some ⟨B, 0, none⟩)) (val7 B 0) (.pointer (some ⟨B, 0, none⟩)) (.pointer (some ⟨B, 0, none⟩)) (.pointer (some ⟨B, 0, none⟩)) (val7 B 1) undef undef undef undef undef undef undef undef undef undef undef undef undef undef undef undef undef undef undef undef undef) W.drew
  refine wpAny_take (i := 11) rfl (by kernel_rfl) (by kernel_rfl) (by kernel_rfl) (fun _ _ _ h => h) (yields_move rfl rfl rfl) ?_
  change wpAny _ _ _ _ 29 #[false, true, true, true, true, false, true, true, true, true, false, true, false, false, false, false, false, false, false, false, false, false, false, false, false, false, false, false, false, false, false, false, false, false, false, false, false, false] (fileFr B p n cap undef undef (.pointer (some ⟨B, 0, none⟩)) (.pointer (some ⟨B, 0, none⟩)) (.pointer (some ⟨B, 0, none⟩)) (val7 B 0) (.pointer (some ⟨B, 0, none⟩)) (.pointer (some ⟨B, 0, none⟩)) (.pointer (some ⟨B, 0, none⟩)) (val7 B 1) (.pointer (some ⟨B, 0, none⟩)) undef undef undef undef undef undef undef undef undef undef undef undef undef undef undef undef undef undef undef undef) W.drew
  refine wpAny_take (i := 12) rfl (by kernel_rfl) (by kernel_rfl) (by kernel_rfl) (fun _ _ _ h => h) (yields_nil rfl rfl rfl) ?_
  change wpAny _ _ _ _ 28 #[false, true, true, true, true, false, true, true, true, true, false, true, true, false, false, false, false, false, false, false, false, false, false, false, false, false, false, false, false, false, false, false, false, false, false, false, false, false] (fileFr B p n cap undef undef (.pointer (some ⟨B, 0, none⟩)) (.pointer (some ⟨B, 0, none⟩)) (.pointer (some ⟨B, 0, none⟩)) (val7 B 0) (.pointer (some ⟨B, 0, none⟩)) (.pointer (some ⟨B, 0, none⟩)) (.pointer (some ⟨B, 0, none⟩)) (val7 B 1) (.pointer (some ⟨B, 0, none⟩)) (.pointer (some ⟨B, 0, none⟩)) undef undef undef undef undef undef undef undef undef undef undef undef undef undef undef undef undef undef undef) W.drew
  refine wpAny_take (i := 13) rfl (by kernel_rfl) (by kernel_rfl) (by kernel_rfl) (fun _ _ _ h => h) (yields_field rfl rfl rfl) ?_
  change wpAny _ _ _ _ 27 #[false, true, true, true, true, false, true, true, true, true, false, true, true, true, false, false, false, false, false, false, false, false, false, false, false, false, false, false, false, false, false, false, false, false, false, false, false, false] (fileFr B p n cap undef undef (.pointer (some ⟨B, 0, none⟩)) (.pointer (some ⟨B, 0, none⟩)) (.pointer (some ⟨B, 0, none⟩)) (val7 B 0) (.pointer (some ⟨B, 0, none⟩)) (.pointer (some ⟨B, 0, none⟩)) (.pointer (some ⟨B, 0, none⟩)) (val7 B 1) (.pointer (some ⟨B, 0, none⟩)) (.pointer (some ⟨B, 0, none⟩)) (.pointer (some ⟨B, 0, none⟩)) undef undef undef undef undef undef undef undef undef undef undef undef undef undef undef undef undef undef) W.drew
  refine wpAny_take (i := 14) rfl (by kernel_rfl) (by kernel_rfl) (by kernel_rfl) (fun _ _ _ h => h) (yields_func rfl rfl rfl) ?_
  change wpAny _ _ _ _ 26 #[false, true, true, true, true, false, true, true, true, true, false, true, true, true, true, false, false, false, false, false, false, false, false, false, false, false, false, false, false, false, false, false, false, false, false, false, false, false] (fileFr B p n cap undef undef (.pointer (some ⟨B, 0, none⟩)) (.pointer (some ⟨B, 0, none⟩)) (.pointer (some ⟨B, 0, none⟩)) (val7 B 0) (.pointer (some ⟨B, 0, none⟩)) (.pointer (some ⟨B, 0, none⟩)) (.pointer (some ⟨B, 0, none⟩)) (val7 B 1) (.pointer (some ⟨B, 0, none⟩)) (.pointer (some ⟨B, 0, none⟩)) (.pointer (some ⟨B, 0, none⟩)) (val7 B 2) undef undef undef undef undef undef undef undef undef undef undef undef undef undef undef undef undef) W.drew
  refine wpAny_take (i := 16) rfl (by kernel_rfl) (by kernel_rfl) (by kernel_rfl) (fun _ _ _ h => h) (yields_move rfl rfl rfl) ?_
  change wpAny _ _ _ _ 25 #[false, true, true, true, true, false, true, true, true, true, false, true, true, true, true, false, true, false, false, false, false, false, false, false, false, false, false, false, false, false, false, false, false, false, false, false, false, false] (fileFr B p n cap undef undef (.pointer (some ⟨B, 0, none⟩)) (.pointer (some ⟨B, 0, none⟩)) (.pointer (some ⟨B, 0, none⟩)) (val7 B 0) (.pointer (some ⟨B, 0, none⟩)) (.pointer (some ⟨B, 0, none⟩)) (.pointer (some ⟨B, 0, none⟩)) (val7 B 1) (.pointer (some ⟨B, 0, none⟩)) (.pointer (some ⟨B, 0, none⟩)) (.pointer (some ⟨B, 0, none⟩)) (val7 B 2) (.pointer (some ⟨B, 0, none⟩)) undef undef undef undef undef undef undef undef undef undef undef undef undef undef undef undef) W.drew
  refine wpAny_take (i := 17) rfl (by kernel_rfl) (by kernel_rfl) (by kernel_rfl) (fun _ _ _ h => h) (yields_nil rfl rfl rfl) ?_
  change wpAny _ _ _ _ 24 #[false, true, true, true, true, false, true, true, true, true, false, true, true, true, true, false, true, true, false, false, false, false, false, false, false, false, false, false, false, false, false, false, false, false, false, false, false, false] (fileFr B p n cap undef undef (.pointer (some ⟨B, 0, none⟩)) (.pointer (some ⟨B, 0, none⟩)) (.pointer (some ⟨B, 0, none⟩)) (val7 B 0) (.pointer (some ⟨B, 0, none⟩)) (.pointer (some ⟨B, 0, none⟩)) (.pointer (some ⟨B, 0, none⟩)) (val7 B 1) (.pointer (some ⟨B, 0, none⟩)) (.pointer (some ⟨B, 0, none⟩)) (.pointer (some ⟨B, 0, none⟩)) (val7 B 2) (.pointer (some ⟨B, 0, none⟩)) (.pointer (some ⟨B, 0, none⟩)) undef undef undef undef undef undef undef undef undef undef undef undef undef undef undef) W.drew
  refine wpAny_take (i := 18) rfl (by kernel_rfl) (by kernel_rfl) (by kernel_rfl) (fun _ _ _ h => h) (yields_field rfl rfl rfl) ?_
  change wpAny _ _ _ _ 23 #[false, true, true, true, true, false, true, true, true, true, false, true, true, true, true, false, true, true, true, false, false, false, false, false, false, false, false, false, false, false, false, false, false, false, false, false, false, false] (fileFr B p n cap undef undef (.pointer (some ⟨B, 0, none⟩)) (.pointer (some ⟨B, 0, none⟩)) (.pointer (some ⟨B, 0, none⟩)) (val7 B 0) (.pointer (some ⟨B, 0, none⟩)) (.pointer (some ⟨B, 0, none⟩)) (.pointer (some ⟨B, 0, none⟩)) (val7 B 1) (.pointer (some ⟨B, 0, none⟩)) (.pointer (some ⟨B, 0, none⟩)) (.pointer (some ⟨B, 0, none⟩)) (val7 B 2) (.pointer (some ⟨B, 0, none⟩)) (.pointer (some ⟨B, 0, none⟩)) (.pointer (some ⟨B, 0, none⟩)) undef undef undef undef undef undef undef undef undef undef undef undef undef undef) W.drew
  refine wpAny_take (i := 19) rfl (by kernel_rfl) (by kernel_rfl) (by kernel_rfl) (fun _ _ _ h => h) (yields_func rfl rfl rfl) ?_
  change wpAny _ _ _ _ 22 #[false, true, true, true, true, false, true, true, true, true, false, true, true, true, true, false, true, true, true, true, false, false, false, false, false, false, false, false, false, false, false, false, false, false, false, false, false, false] (fileFr B p n cap undef undef (.pointer (some ⟨B, 0, none⟩)) (.pointer (some ⟨B, 0, none⟩)) (.pointer (some ⟨B, 0, none⟩)) (val7 B 0) (.pointer (some ⟨B, 0, none⟩)) (.pointer (some ⟨B, 0, none⟩)) (.pointer (some ⟨B, 0, none⟩)) (val7 B 1) (.pointer (some ⟨B, 0, none⟩)) (.pointer (some ⟨B, 0, none⟩)) (.pointer (some ⟨B, 0, none⟩)) (val7 B 2) (.pointer (some ⟨B, 0, none⟩)) (.pointer (some ⟨B, 0, none⟩)) (.pointer (some ⟨B, 0, none⟩)) (val7 B 3) undef undef undef undef undef undef undef undef undef undef undef undef undef) W.drew
  refine wpAny_take (i := 21) rfl (by kernel_rfl) (by kernel_rfl) (by kernel_rfl) (fun _ _ _ h => h) (yields_move rfl rfl rfl) ?_
  change wpAny _ _ _ _ 21 #[false, true, true, true, true, false, true, true, true, true, false, true, true, true, true, false, true, true, true, true, false, true, false, false, false, false, false, false, false, false, false, false, false, false, false, false, false, false] (fileFr B p n cap undef undef (.pointer (some ⟨B, 0, none⟩)) (.pointer (some ⟨B, 0, none⟩)) (.pointer (some ⟨B, 0, none⟩)) (val7 B 0) (.pointer (some ⟨B, 0, none⟩)) (.pointer (some ⟨B, 0, none⟩)) (.pointer (some ⟨B, 0, none⟩)) (val7 B 1) (.pointer (some ⟨B, 0, none⟩)) (.pointer (some ⟨B, 0, none⟩)) (.pointer (some ⟨B, 0, none⟩)) (val7 B 2) (.pointer (some ⟨B, 0, none⟩)) (.pointer (some ⟨B, 0, none⟩)) (.pointer (some ⟨B, 0, none⟩)) (val7 B 3) (.pointer (some ⟨B, 0, none⟩)) undef undef undef undef undef undef undef undef undef undef undef undef) W.drew
  refine wpAny_take (i := 22) rfl (by kernel_rfl) (by kernel_rfl) (by kernel_rfl) (fun _ _ _ h => h) (yields_nil rfl rfl rfl) ?_
  change wpAny _ _ _ _ 20 #[false, true, true, true, true, false, true, true, true, true, false, true, true, true, true, false, true, true, true, true, false, true, true, false, false, false, false, false, false, false, false, false, false, false, false, false, false, false] (fileFr B p n cap undef undef (.pointer (some ⟨B, 0, none⟩)) (.pointer (some ⟨B, 0, none⟩)) (.pointer (some ⟨B, 0, none⟩)) (val7 B 0) (.pointer (some ⟨B, 0, none⟩)) (.pointer (some ⟨B, 0, none⟩)) (.pointer (some ⟨B, 0, none⟩)) (val7 B 1) (.pointer (some ⟨B, 0, none⟩)) (.pointer (some ⟨B, 0, none⟩)) (.pointer (some ⟨B, 0, none⟩)) (val7 B 2) (.pointer (some ⟨B, 0, none⟩)) (.pointer (some ⟨B, 0, none⟩)) (.pointer (some ⟨B, 0, none⟩)) (val7 B 3) (.pointer (some ⟨B, 0, none⟩)) (.pointer (some ⟨B, 0, none⟩)) undef undef undef undef undef undef undef undef undef undef undef) W.drew
  refine wpAny_take (i := 23) rfl (by kernel_rfl) (by kernel_rfl) (by kernel_rfl) (fun _ _ _ h => h) (yields_field rfl rfl rfl) ?_
  change wpAny _ _ _ _ 19 #[false, true, true, true, true, false, true, true, true, true, false, true, true, true, true, false, true, true, true, true, false, true, true, true, false, false, false, false, false, false, false, false, false, false, false, false, false, false] (fileFr B p n cap undef undef (.pointer (some ⟨B, 0, none⟩)) (.pointer (some ⟨B, 0, none⟩)) (.pointer (some ⟨B, 0, none⟩)) (val7 B 0) (.pointer (some ⟨B, 0, none⟩)) (.pointer (some ⟨B, 0, none⟩)) (.pointer (some ⟨B, 0, none⟩)) (val7 B 1) (.pointer (some ⟨B, 0, none⟩)) (.pointer (some ⟨B, 0, none⟩)) (.pointer (some ⟨B, 0, none⟩)) (val7 B 2) (.pointer (some ⟨B, 0, none⟩)) (.pointer (some ⟨B, 0, none⟩)) (.pointer (some ⟨B, 0, none⟩)) (val7 B 3) (.pointer (some ⟨B, 0, none⟩)) (.pointer (some ⟨B, 0, none⟩)) (.pointer (some ⟨B, 0, none⟩)) undef undef undef undef undef undef undef undef undef undef) W.drew
  refine wpAny_take (i := 24) rfl (by kernel_rfl) (by kernel_rfl) (by kernel_rfl) (fun _ _ _ h => h) (yields_func rfl rfl rfl) ?_
  change wpAny _ _ _ _ 18 #[false, true, true, true, true, false, true, true, true, true, false, true, true, true, true, false, true, true, true, true, false, true, true, true, true, false, false, false, false, false, false, false, false, false, false, false, false, false] (fileFr B p n cap undef undef (.pointer (some ⟨B, 0, none⟩)) (.pointer (some ⟨B, 0, none⟩)) (.pointer (some ⟨B, 0, none⟩)) (val7 B 0) (.pointer (some ⟨B, 0, none⟩)) (.pointer (some ⟨B, 0, none⟩)) (.pointer (some ⟨B, 0, none⟩)) (val7 B 1) (.pointer (some ⟨B, 0, none⟩)) (.pointer (some ⟨B, 0, none⟩)) (.pointer (some ⟨B, 0, none⟩)) (val7 B 2) (.pointer (some ⟨B, 0, none⟩)) (.pointer (some ⟨B, 0, none⟩)) (.pointer (some ⟨B, 0, none⟩)) (val7 B 3) (.pointer (some ⟨B, 0, none⟩)) (.pointer (some ⟨B, 0, none⟩)) (.pointer (some ⟨B, 0, none⟩)) (val7 B 4) undef undef undef undef undef undef undef undef undef) W.drew
  refine wpAny_take (i := 26) rfl (by kernel_rfl) (by kernel_rfl) (by kernel_rfl) (fun _ _ _ h => h) (yields_move rfl rfl rfl) ?_
  change wpAny _ _ _ _ 17 #[false, true, true, true, true, false, true, true, true, true, false, true, true, true, true, false, true, true, true, true, false, true, true, true, true, false, true, false, false, false, false, false, false, false, false, false, false, false] (fileFr B p n cap undef undef (.pointer (some ⟨B, 0, none⟩)) (.pointer (some ⟨B, 0, none⟩)) (.pointer (some ⟨B, 0, none⟩)) (val7 B 0) (.pointer (some ⟨B, 0, none⟩)) (.pointer (some ⟨B, 0, none⟩)) (.pointer (some ⟨B, 0, none⟩)) (val7 B 1) (.pointer (some ⟨B, 0, none⟩)) (.pointer (some ⟨B, 0, none⟩)) (.pointer (some ⟨B, 0, none⟩)) (val7 B 2) (.pointer (some ⟨B, 0, none⟩)) (.pointer (some ⟨B, 0, none⟩)) (.pointer (some ⟨B, 0, none⟩)) (val7 B 3) (.pointer (some ⟨B, 0, none⟩)) (.pointer (some ⟨B, 0, none⟩)) (.pointer (some ⟨B, 0, none⟩)) (val7 B 4) (.pointer (some ⟨B, 0, none⟩)) undef undef undef undef undef undef undef undef) W.drew
  refine wpAny_take (i := 27) rfl (by kernel_rfl) (by kernel_rfl) (by kernel_rfl) (fun _ _ _ h => h) (yields_nil rfl rfl rfl) ?_
  change wpAny _ _ _ _ 16 #[false, true, true, true, true, false, true, true, true, true, false, true, true, true, true, false, true, true, true, true, false, true, true, true, true, false, true, true, false, false, false, false, false, false, false, false, false, false] (fileFr B p n cap undef undef (.pointer (some ⟨B, 0, none⟩)) (.pointer (some ⟨B, 0, none⟩)) (.pointer (some ⟨B, 0, none⟩)) (val7 B 0) (.pointer (some ⟨B, 0, none⟩)) (.pointer (some ⟨B, 0, none⟩)) (.pointer (some ⟨B, 0, none⟩)) (val7 B 1) (.pointer (some ⟨B, 0, none⟩)) (.pointer (some ⟨B, 0, none⟩)) (.pointer (some ⟨B, 0, none⟩)) (val7 B 2) (.pointer (some ⟨B, 0, none⟩)) (.pointer (some ⟨B, 0, none⟩)) (.pointer (some ⟨B, 0, none⟩)) (val7 B 3) (.pointer (some ⟨B, 0, none⟩)) (.pointer (some ⟨B, 0, none⟩)) (.pointer (some ⟨B, 0, none⟩)) (val7 B 4) (.pointer (some ⟨B, 0, none⟩)) (.pointer (some ⟨B, 0, none⟩)) undef undef undef undef undef undef undef) W.drew
  refine wpAny_take (i := 28) rfl (by kernel_rfl) (by kernel_rfl) (by kernel_rfl) (fun _ _ _ h => h) (yields_field rfl rfl rfl) ?_
  change wpAny _ _ _ _ 15 #[false, true, true, true, true, false, true, true, true, true, false, true, true, true, true, false, true, true, true, true, false, true, true, true, true, false, true, true, true, false, false, false, false, false, false, false, false, false] (fileFr B p n cap undef undef (.pointer (some ⟨B, 0, none⟩)) (.pointer (some ⟨B, 0, none⟩)) (.pointer (some ⟨B, 0, none⟩)) (val7 B 0) (.pointer (some ⟨B, 0, none⟩)) (.pointer (some ⟨B, 0, none⟩)) (.pointer (some ⟨B, 0, none⟩)) (val7 B 1) (.pointer (some ⟨B, 0, none⟩)) (.pointer (some ⟨B, 0, none⟩)) (.pointer (some ⟨B, 0, none⟩)) (val7 B 2) (.pointer (some ⟨B, 0, none⟩)) (.pointer (some ⟨B, 0, none⟩)) (.pointer (some ⟨B, 0, none⟩)) (val7 B 3) (.pointer (some ⟨B, 0, none⟩)) (.pointer (some ⟨B, 0, none⟩)) (.pointer (some ⟨B, 0, none⟩)) (val7 B 4) (.pointer (some ⟨B, 0, none⟩)) (.pointer (some ⟨B, 0, none⟩)) (.pointer (some ⟨B, 0, none⟩)) undef undef undef undef undef undef) W.drew
  refine wpAny_take (i := 29) rfl (by kernel_rfl) (by kernel_rfl) (by kernel_rfl) (fun _ _ _ h => h) (yields_func rfl rfl rfl) ?_
  change wpAny _ _ _ _ 14 #[false, true, true, true, true, false, true, true, true, true, false, true, true, true, true, false, true, true, true, true, false, true, true, true, true, false, true, true, true, true, false, false, false, false, false, false, false, false] (fileFr B p n cap undef undef (.pointer (some ⟨B, 0, none⟩)) (.pointer (some ⟨B, 0, none⟩)) (.pointer (some ⟨B, 0, none⟩)) (val7 B 0) (.pointer (some ⟨B, 0, none⟩)) (.pointer (some ⟨B, 0, none⟩)) (.pointer (some ⟨B, 0, none⟩)) (val7 B 1) (.pointer (some ⟨B, 0, none⟩)) (.pointer (some ⟨B, 0, none⟩)) (.pointer (some ⟨B, 0, none⟩)) (val7 B 2) (.pointer (some ⟨B, 0, none⟩)) (.pointer (some ⟨B, 0, none⟩)) (.pointer (some ⟨B, 0, none⟩)) (val7 B 3) (.pointer (some ⟨B, 0, none⟩)) (.pointer (some ⟨B, 0, none⟩)) (.pointer (some ⟨B, 0, none⟩)) (val7 B 4) (.pointer (some ⟨B, 0, none⟩)) (.pointer (some ⟨B, 0, none⟩)) (.pointer (some ⟨B, 0, none⟩)) (val7 B 5) undef undef undef undef undef) W.drew
  refine wpAny_take (i := 31) rfl (by kernel_rfl) (by kernel_rfl) (by kernel_rfl) (fun _ _ _ h => h) (yields_move rfl rfl rfl) ?_
  change wpAny _ _ _ _ 13 #[false, true, true, true, true, false, true, true, true, true, false, true, true, true, true, false, true, true, true, true, false, true, true, true, true, false, true, true, true, true, false, true, false, false, false, false, false, false] (fileFr B p n cap undef undef (.pointer (some ⟨B, 0, none⟩)) (.pointer (some ⟨B, 0, none⟩)) (.pointer (some ⟨B, 0, none⟩)) (val7 B 0) (.pointer (some ⟨B, 0, none⟩)) (.pointer (some ⟨B, 0, none⟩)) (.pointer (some ⟨B, 0, none⟩)) (val7 B 1) (.pointer (some ⟨B, 0, none⟩)) (.pointer (some ⟨B, 0, none⟩)) (.pointer (some ⟨B, 0, none⟩)) (val7 B 2) (.pointer (some ⟨B, 0, none⟩)) (.pointer (some ⟨B, 0, none⟩)) (.pointer (some ⟨B, 0, none⟩)) (val7 B 3) (.pointer (some ⟨B, 0, none⟩)) (.pointer (some ⟨B, 0, none⟩)) (.pointer (some ⟨B, 0, none⟩)) (val7 B 4) (.pointer (some ⟨B, 0, none⟩)) (.pointer (some ⟨B, 0, none⟩)) (.pointer (some ⟨B, 0, none⟩)) (val7 B 5) (.pointer (some ⟨B, 0, none⟩)) undef undef undef undef) W.drew
  refine wpAny_take (i := 32) rfl (by kernel_rfl) (by kernel_rfl) (by kernel_rfl) (fun _ _ _ h => h) (yields_nil rfl rfl rfl) ?_
  change wpAny _ _ _ _ 12 #[false, true, true, true, true, false, true, true, true, true, false, true, true, true, true, false, true, true, true, true, false, true, true, true, true, false, true, true, true, true, false, true, true, false, false, false, false, false] (fileFr B p n cap undef undef (.pointer (some ⟨B, 0, none⟩)) (.pointer (some ⟨B, 0, none⟩)) (.pointer (some ⟨B, 0, none⟩)) (val7 B 0) (.pointer (some ⟨B, 0, none⟩)) (.pointer (some ⟨B, 0, none⟩)) (.pointer (some ⟨B, 0, none⟩)) (val7 B 1) (.pointer (some ⟨B, 0, none⟩)) (.pointer (some ⟨B, 0, none⟩)) (.pointer (some ⟨B, 0, none⟩)) (val7 B 2) (.pointer (some ⟨B, 0, none⟩)) (.pointer (some ⟨B, 0, none⟩)) (.pointer (some ⟨B, 0, none⟩)) (val7 B 3) (.pointer (some ⟨B, 0, none⟩)) (.pointer (some ⟨B, 0, none⟩)) (.pointer (some ⟨B, 0, none⟩)) (val7 B 4) (.pointer (some ⟨B, 0, none⟩)) (.pointer (some ⟨B, 0, none⟩)) (.pointer (some ⟨B, 0, none⟩)) (val7 B 5) (.pointer (some ⟨B, 0, none⟩)) (.pointer (some ⟨B, 0, none⟩)) undef undef undef) W.drew
  refine wpAny_take (i := 33) rfl (by kernel_rfl) (by kernel_rfl) (by kernel_rfl) (fun _ _ _ h => h) (yields_field rfl rfl rfl) ?_
  change wpAny _ _ _ _ 11 #[false, true, true, true, true, false, true, true, true, true, false, true, true, true, true, false, true, true, true, true, false, true, true, true, true, false, true, true, true, true, false, true, true, true, false, false, false, false] (fileFr B p n cap undef undef (.pointer (some ⟨B, 0, none⟩)) (.pointer (some ⟨B, 0, none⟩)) (.pointer (some ⟨B, 0, none⟩)) (val7 B 0) (.pointer (some ⟨B, 0, none⟩)) (.pointer (some ⟨B, 0, none⟩)) (.pointer (some ⟨B, 0, none⟩)) (val7 B 1) (.pointer (some ⟨B, 0, none⟩)) (.pointer (some ⟨B, 0, none⟩)) (.pointer (some ⟨B, 0, none⟩)) (val7 B 2) (.pointer (some ⟨B, 0, none⟩)) (.pointer (some ⟨B, 0, none⟩)) (.pointer (some ⟨B, 0, none⟩)) (val7 B 3) (.pointer (some ⟨B, 0, none⟩)) (.pointer (some ⟨B, 0, none⟩)) (.pointer (some ⟨B, 0, none⟩)) (val7 B 4) (.pointer (some ⟨B, 0, none⟩)) (.pointer (some ⟨B, 0, none⟩)) (.pointer (some ⟨B, 0, none⟩)) (val7 B 5) (.pointer (some ⟨B, 0, none⟩)) (.pointer (some ⟨B, 0, none⟩)) (.pointer (some ⟨B, 0, none⟩)) undef undef) W.drew
  refine wpAny_take (i := 34) rfl (by kernel_rfl) (by kernel_rfl) (by kernel_rfl) (fun _ _ _ h => h) (yields_func rfl rfl rfl) ?_
  change wpAny _ _ _ _ 10 #[false, true, true, true, true, false, true, true, true, true, false, true, true, true, true, false, true, true, true, true, false, true, true, true, true, false, true, true, true, true, false, true, true, true, true, false, false, false] (fileFr B p n cap undef undef (.pointer (some ⟨B, 0, none⟩)) (.pointer (some ⟨B, 0, none⟩)) (.pointer (some ⟨B, 0, none⟩)) (val7 B 0) (.pointer (some ⟨B, 0, none⟩)) (.pointer (some ⟨B, 0, none⟩)) (.pointer (some ⟨B, 0, none⟩)) (val7 B 1) (.pointer (some ⟨B, 0, none⟩)) (.pointer (some ⟨B, 0, none⟩)) (.pointer (some ⟨B, 0, none⟩)) (val7 B 2) (.pointer (some ⟨B, 0, none⟩)) (.pointer (some ⟨B, 0, none⟩)) (.pointer (some ⟨B, 0, none⟩)) (val7 B 3) (.pointer (some ⟨B, 0, none⟩)) (.pointer (some ⟨B, 0, none⟩)) (.pointer (some ⟨B, 0, none⟩)) (val7 B 4) (.pointer (some ⟨B, 0, none⟩)) (.pointer (some ⟨B, 0, none⟩)) (.pointer (some ⟨B, 0, none⟩)) (val7 B 5) (.pointer (some ⟨B, 0, none⟩)) (.pointer (some ⟨B, 0, none⟩)) (.pointer (some ⟨B, 0, none⟩)) (val7 B 6) undef) W.drew
  refine wpAny_all (rs := [0]) (by kernel_rfl) (by decide) ?_
  intro i hi
  obtain rfl : i = 0 := by simpa using hi
  refine wpOp_map rfl rfl rfl ?_
  change wpAny _ _ _ _ (7 + 2) (lst7 0) (fileFr B p n cap undef (.map (some W.heap.size)) (.pointer (some ⟨B, 0, none⟩)) (.pointer (some ⟨B, 0, none⟩)) (.pointer (some ⟨B, 0, none⟩)) (val7 B 0) (.pointer (some ⟨B, 0, none⟩)) (.pointer (some ⟨B, 0, none⟩)) (.pointer (some ⟨B, 0, none⟩)) (val7 B 1) (.pointer (some ⟨B, 0, none⟩)) (.pointer (some ⟨B, 0, none⟩)) (.pointer (some ⟨B, 0, none⟩)) (val7 B 2) (.pointer (some ⟨B, 0, none⟩)) (.pointer (some ⟨B, 0, none⟩)) (.pointer (some ⟨B, 0, none⟩)) (val7 B 3) (.pointer (some ⟨B, 0, none⟩)) (.pointer (some ⟨B, 0, none⟩)) (.pointer (some ⟨B, 0, none⟩)) (val7 B 4) (.pointer (some ⟨B, 0, none⟩)) (.pointer (some ⟨B, 0, none⟩)) (.pointer (some ⟨B, 0, none⟩)) (val7 B 5) (.pointer (some ⟨B, 0, none⟩)) (.pointer (some ⟨B, 0, none⟩)) (.pointer (some ⟨B, 0, none⟩)) (val7 B 6) undef) (W.drew.alloc (.map #[] 0))
  refine inserts_any (kd := .u8) Try.underlying88 Try.underlying5 (fun k => 5 + 5 * k) (val7 B) W.heap.size W.drew _ ?_ lst7 (fun m k hm hk => lst7_set m k hm hk) (fun m hm hne => ready7 (by kernel_rfl) (by kernel_rfl) (by kernel_rfl) m hm hne) 2 ?_ 7 0 _ #[] 0 (by decide) (by decide) (MapAt.made W.drew) (Laid7.nil _ _)
  · intro k hk
    rcases (show k = 0 ∨ k = 1 ∨ k = 2 ∨ k = 3 ∨ k = 4 ∨ k = 5 ∨ k = 6 by omega) with rfl | rfl | rfl | rfl | rfl | rfl | rfl
    all_goals exact ⟨_, _, _, rfl, rfl, rfl, rfl, rfl, rfl⟩
  intro wm es clock hM hL
  change wpAny _ _ _ _ 2 #[true, true, true, true, true, true, true, true, true, true, true, true, true, true, true, true, true, true, true, true, true, true, true, true, true, true, true, true, true, true, true, true, true, true, true, true, false, false] (fileFr B p n cap undef (.map (some W.heap.size)) (.pointer (some ⟨B, 0, none⟩)) (.pointer (some ⟨B, 0, none⟩)) (.pointer (some ⟨B, 0, none⟩)) (val7 B 0) (.pointer (some ⟨B, 0, none⟩)) (.pointer (some ⟨B, 0, none⟩)) (.pointer (some ⟨B, 0, none⟩)) (val7 B 1) (.pointer (some ⟨B, 0, none⟩)) (.pointer (some ⟨B, 0, none⟩)) (.pointer (some ⟨B, 0, none⟩)) (val7 B 2) (.pointer (some ⟨B, 0, none⟩)) (.pointer (some ⟨B, 0, none⟩)) (.pointer (some ⟨B, 0, none⟩)) (val7 B 3) (.pointer (some ⟨B, 0, none⟩)) (.pointer (some ⟨B, 0, none⟩)) (.pointer (some ⟨B, 0, none⟩)) (val7 B 4) (.pointer (some ⟨B, 0, none⟩)) (.pointer (some ⟨B, 0, none⟩)) (.pointer (some ⟨B, 0, none⟩)) (val7 B 5) (.pointer (some ⟨B, 0, none⟩)) (.pointer (some ⟨B, 0, none⟩)) (.pointer (some ⟨B, 0, none⟩)) (val7 B 6) undef) wm
  refine wpAny_take (i := 36) rfl (by kernel_rfl) (by kernel_rfl) (by kernel_rfl) (fun _ _ _ h => h) (yields_move rfl rfl rfl) ?_
  change wpAny _ _ _ _ 1 #[true, true, true, true, true, true, true, true, true, true, true, true, true, true, true, true, true, true, true, true, true, true, true, true, true, true, true, true, true, true, true, true, true, true, true, true, true, false] (fileFr B p n cap undef (.map (some W.heap.size)) (.pointer (some ⟨B, 0, none⟩)) (.pointer (some ⟨B, 0, none⟩)) (.pointer (some ⟨B, 0, none⟩)) (val7 B 0) (.pointer (some ⟨B, 0, none⟩)) (.pointer (some ⟨B, 0, none⟩)) (.pointer (some ⟨B, 0, none⟩)) (val7 B 1) (.pointer (some ⟨B, 0, none⟩)) (.pointer (some ⟨B, 0, none⟩)) (.pointer (some ⟨B, 0, none⟩)) (val7 B 2) (.pointer (some ⟨B, 0, none⟩)) (.pointer (some ⟨B, 0, none⟩)) (.pointer (some ⟨B, 0, none⟩)) (val7 B 3) (.pointer (some ⟨B, 0, none⟩)) (.pointer (some ⟨B, 0, none⟩)) (.pointer (some ⟨B, 0, none⟩)) (val7 B 4) (.pointer (some ⟨B, 0, none⟩)) (.pointer (some ⟨B, 0, none⟩)) (.pointer (some ⟨B, 0, none⟩)) (val7 B 5) (.pointer (some ⟨B, 0, none⟩)) (.pointer (some ⟨B, 0, none⟩)) (.pointer (some ⟨B, 0, none⟩)) (val7 B 6) (.map (some W.heap.size))) wm
  refine wpAny_take (i := 37) rfl (by kernel_rfl) (by kernel_rfl) (by kernel_rfl) (fun _ _ _ h => h) (yields_assign rfl rfl rfl) ?_
  change wpAny _ _ _ _ 0 #[true, true, true, true, true, true, true, true, true, true, true, true, true, true, true, true, true, true, true, true, true, true, true, true, true, true, true, true, true, true, true, true, true, true, true, true, true, true] (fileFr B p n cap (.map (some W.heap.size)) (.map (some W.heap.size)) (.pointer (some ⟨B, 0, none⟩)) (.pointer (some ⟨B, 0, none⟩)) (.pointer (some ⟨B, 0, none⟩)) (val7 B 0) (.pointer (some ⟨B, 0, none⟩)) (.pointer (some ⟨B, 0, none⟩)) (.pointer (some ⟨B, 0, none⟩)) (val7 B 1) (.pointer (some ⟨B, 0, none⟩)) (.pointer (some ⟨B, 0, none⟩)) (.pointer (some ⟨B, 0, none⟩)) (val7 B 2) (.pointer (some ⟨B, 0, none⟩)) (.pointer (some ⟨B, 0, none⟩)) (.pointer (some ⟨B, 0, none⟩)) (val7 B 3) (.pointer (some ⟨B, 0, none⟩)) (.pointer (some ⟨B, 0, none⟩)) (.pointer (some ⟨B, 0, none⟩)) (val7 B 4) (.pointer (some ⟨B, 0, none⟩)) (.pointer (some ⟨B, 0, none⟩)) (.pointer (some ⟨B, 0, none⟩)) (val7 B 5) (.pointer (some ⟨B, 0, none⟩)) (.pointer (some ⟨B, 0, none⟩)) (.pointer (some ⟨B, 0, none⟩)) (val7 B 6) (.map (some W.heap.size))) wm
  refine wpAny_done (by kernel_rfl) (NoPanic.normal ?_) 0
  unfold fileFr
  go_wp2
  have hsz : W.heap.size = w.heap.size := by rw [← hW]; simp
  have W0 : FInv w B W.heap.size wm.heap.size es clock l 0 (wm.alloc (.cells (madeCells #[.int .i64 0] n) 31)) := inv_start HB.out hW hM HN.out
  have I0 := Lib.hid W0
  have HM := Lib.hid (show W.heap.size ≠ wm.heap.size by have := (Array.getElem?_eq_some_iff.1 hM.1).1; omega)
  have HE := Lib.hid (show w.heap.size ≤ wm.heap.size by have := (Array.getElem?_eq_some_iff.1 hM.1).1; omega)
  have HL := Lib.hid hL
  generalize hEE : wm.heap.size = E at *
  generalize hMM : W.heap.size = M at *
  clear W0 hM hL hmk hW hsz
  go_loopw [47] (fun i wr => ∃ k : Nat, k ≤ n ∧ i = .int .i64 k ∧ Hid (FInv w B M E es clock l k wr)) (fun i _ => n - (intOf i).toNat)
  case atStart => exact ⟨0, by omega, rfl, I0⟩
  case round =>
    obtain ⟨k, hk, rfl, hI⟩ := hrel
    by_cases hlt : k < n
    · have hkl : k < l.length := by have := HN.out; omega
      obtain ⟨f, hf⟩ : ∃ f, f = l[k] := ⟨_, rfl⟩
      have HFE := Lib.hid hf
      have hcells := HC.out.but HB.out hI.out.but
      obtain ⟨b, off, rfl, r0, r1, r2, r3, r4, r5⟩ := hcells.at k hkl
      rw [← hf] at r0 r1 r2 r3 r4 r5
      have hbw : b < wr.heap.size := World.block_lt_of_cell? wr _ r0
      have hbne : b ≠ wr.heap.size := Nat.ne_of_lt hbw
      have BF := Lib.hid (show f.Bd by rw [hf]; exact BD.out _ (List.getElem_mem hkl))
      have IA := Lib.hid (hI.out.later (((Below.refl _ wr).alloc (Nat.le_refl _) (.cells #[.int .u8 f.kind, .int .i64 f.day, .int .i64 f.case, .int .i64 f.n, .int .i64 f.til, .bool f.hold] 30))))
      have hEl : E < wr.heap.size := hI.out.err.lt
      have hBr : B < wr.heap.size := hI.out.dk.lt
      have hnum := runD_num (l.take k)
      rw [List.length_take, Nat.min_eq_left (by omega)] at hnum
      have hErr : errD (runD (l.take k)) f = if 1000 ≤ k then 5 else if wf f = true then (if f.day < (runD (l.take k)).last then 400 else errL (runD (l.take k)).cs f) else 2 := by
        unfold errD; rw [hnum]
      have HERR := Lib.hid hErr
      clear hcells hnum hErr hf
      by_cases h1000 : 1000 ≤ k
      · have he := Lib.hid (show errD (runD (l.take k)) l[k] = 5 by rw [← HFE.out, HERR.out, if_pos h1000])
        obtain ⟨ve, hve⟩ := hI.out.err.cell.1 k hkl
        have zve := hI.out.err.cell.2 k
        go_wp2
        go_roundw
        case rel => exact ⟨k + 1, by omega, by go_num, Lib.hid ((hI.out.bad hkl HE.out HM.out 5 he.out (by decide)).later ((Below.refl _ _).alloc (Nat.le_refl _) _))⟩
        case measure => simp [intOf]; omega
      · have b1000 : ((1000 : Int) ≤ (k : Int)) = False := by simp; omega
        cases hwf : wf f with
        | false =>
          have he := Lib.hid (show errD (runD (l.take k)) l[k] = 2 by rw [← HFE.out, HERR.out, if_neg h1000, if_neg (by rw [hwf]; decide)])
          have CF := Lib.hid (fun W => formed_any f W false hwf)
          unfold flAgg at CF
          clear hwf b1000
          go_wp2_with fail
          refine (CF.out _).mono ?_
          rintro e w1 ⟨rfl, hb⟩
          have I1 := Lib.hid (IA.out.later hb)
          obtain ⟨ve, hve⟩ := I1.out.err.cell.1 k hkl
          have zve := I1.out.err.cell.2 k
          clear hb
          go_wp2
          go_roundw
          case rel => exact ⟨k + 1, by omega, by go_num, Lib.hid (I1.out.bad hkl HE.out HM.out 2 he.out (by decide))⟩
          case measure => simp [intOf]; omega
        | true =>
          have WF := Lib.hid ((wf_iff f).1 hwf)
          have CF := Lib.hid (fun W => formed_any f W true hwf)
          unfold flAgg at CF
          obtain ⟨la, hla⟩ : ∃ la, la = (runD (l.take k)).last := ⟨_, rfl⟩
          have HLA := Lib.hid hla
          by_cases hday : f.day < la
          · have he := Lib.hid (show errD (runD (l.take k)) l[k] = 400 by rw [← HFE.out, HERR.out, if_neg h1000, if_pos hwf, ← HLA.out, if_pos hday])
            clear hwf b1000 hla
            go_wp2_with fail
            refine (CF.out _).mono ?_
            rintro e w1 ⟨rfl, hb⟩
            have I1 := Lib.hid (IA.out.later hb)
            have F1 := (flbox_new wr f).of_block (hb.block wr.heap.size (by simp))
            obtain ⟨q0, q1, q2, q3, q4, q5⟩ := F1.cell
            obtain ⟨pc, cc, d0, d1, dz⟩ := I1.out.dk.cell
            rw [← HLA.out] at d1
            obtain ⟨ve, hve⟩ := I1.out.err.cell.1 k hkl
            have zve := I1.out.err.cell.2 k
            have I2 := Lib.hid (fun nq => I1.out.later (below_drewN (Below.refl _ w1) nq))
            clear hb F1
            go_wp2
            go_quiet (fail)
            go_wp2
            go_roundw
            case rel => exact ⟨k + 1, by omega, by go_num, Lib.hid ((I2.out _).bad hkl HE.out HM.out 400 he.out (by decide))⟩
            case measure => simp [intOf]; omega
          · obtain ⟨ee, hee⟩ : ∃ ee, ee = errL (runD (l.take k)).cs f := ⟨_, rfl⟩
            have HEE := Lib.hid hee
            have he := Lib.hid (show errD (runD (l.take k)) l[k] = errL (runD (l.take k)).cs l[k] by rw [← HFE.out, HERR.out, if_neg h1000, if_pos hwf, ← HLA.out, if_neg hday])
            obtain ⟨kk, hkk⟩ : ∃ kk : Nat, f.kind = (kk : Int) + 1 := ⟨(f.kind - 1).toNat, by have := WF.out.kind; omega⟩
            have hk7 : kk < 7 := by have := WF.out.kind; omega
            obtain ⟨jj, hfn⟩ : ∃ j, Instr.findNow (.int .u8) (.int .u8 f.kind) es.toList 0 = some (some (j, val7 B kk)) := by
              have := HL.out.2 kk hk7
              rw [if_pos (bit_all ⟨kk, hk7⟩)] at this
              rw [hkk]; exact this
            obtain ⟨mf, hmf⟩ : ∃ mf, mf = meth7 kk := ⟨_, rfl⟩
            have ek := ek7 kk hk7
            have hv7 : val7 B kk = .func (.func mf) #[.pointer (some ⟨B, 0, none⟩)] #[] := by unfold val7; rw [hmf]
            rw [hv7] at hfn
            rw [← hmf] at ek
            have HFN := Lib.hid hfn
            have HKK := Lib.hid hkk
            have HMF := Lib.hid hmf
            clear hwf b1000 hla hee hfn hkk hv7 hmf
            go_wp2_with fail
            refine (CF.out _).mono ?_
            rintro e w1 ⟨rfl, hb⟩
            have I1 := Lib.hid (IA.out.later hb)
            have F1 := (flbox_new wr f).of_block (hb.block wr.heap.size (by simp))
            obtain ⟨q0, q1, q2, q3, q4, q5⟩ := F1.cell
            have HF1 := Lib.hid F1
            obtain ⟨pc, cc, d0, d1, dz⟩ := I1.out.dk.cell
            rw [← HLA.out] at d1
            have I2 := Lib.hid (fun nq => I1.out.later (below_drewN (Below.refl _ w1) nq))
            have hlk := fun nq => MapAt.lookup (P := Try.prog) (w := w1.drewN nq) (I2.out nq).map Try.underlying88 Try.underlying5 f.kind jj _ HFN.out
            have hsz1 := hb.size
            have CM := Lib.hid (fun nq => show Calls Try.prog mf #[.pointer (some ⟨B, 0, none⟩), flAgg f] (w1.drewN nq) (MPost w.heap.size B (runD (l.take k)).cs (runD (l.take k)).last f (w1.drewN nq)) from by
              rw [HMF.out]
              have ok := runD_ok (l.take k)
              exact meth_any w.heap.size B _ _ f kk HKK.out WF.out _ (I2.out nq).dk (I2.out nq).but.size ok.len ok.cs)
            unfold flAgg at CM
            clear hb F1 d0 dz
            by_cases h0 : ee = 0
            · subst h0
              go_wp2
              go_quiet (fail)
              go_wp2_with fail
              refine (CM.out _).mono ?_
              rintro e W2 ⟨rfl, hdk, hfr⟩
              rw [← HEE.out]
              have HDN := Lib.hid ((I2.out _).done hBl hkl HE.out HM.out hfr (by rw [he.out]) (by rw [← HFE.out]; exact hdk))
              rw [← HFE.out, ← HEE.out] at HDN
              have HX := Lib.hid (HDN.out.2 rfl)
              obtain ⟨m1, m2, m3⟩ := (I2.out _).meth hfr hBl
              obtain ⟨ve, hve⟩ := m1.cell.1 k hkl
              have zve := m1.cell.2 k
              obtain ⟨q0, q1, q2, q3, q4, q5⟩ := (show FlBox W2 wr.heap.size f from hfr.other (show (w1.drewN _).heap[wr.heap.size]? = _ from HF1.out) (by omega) (fun cs z e => by injection e with _ e _; exact absurd e (by decide))).cell
              obtain ⟨pc, cc, d0, d1, dz⟩ := hdk.cell
              have zl := dz 1
              have hEB : E ≠ B := hdk.ne_err m1
              have hsz2 := hfr.size
              clear hdk hfr m1 m2 m3 dz d0 hlk ek
              go_wp2
              go_roundw
              case rel => exact ⟨k + 1, by omega, by go_num, HX⟩
              case measure => simp [intOf]; omega
            · have b0 : (ee == 0) = false := by simpa using h0
              have H0 := Lib.hid h0
              clear h0
              go_wp2
              go_quiet (fail)
              go_wp2_with fail
              refine (CM.out _).mono ?_
              rintro e W2 ⟨rfl, hdk, hfr⟩
              rw [← HEE.out]
              have HDN := Lib.hid ((I2.out _).done hBl hkl HE.out HM.out hfr (by rw [he.out]) (by rw [← HFE.out]; exact hdk))
              rw [← HFE.out, ← HEE.out] at HDN
              have HX := Lib.hid (HDN.out.1 H0.out)
              obtain ⟨m1, m2, m3⟩ := (I2.out _).meth hfr hBl
              obtain ⟨ve, hve⟩ := m1.cell.1 k hkl
              have zve := m1.cell.2 k
              have hsz2 := hfr.size
              clear hdk hfr m1 m2 m3 hlk ek
              go_wp2
              go_roundw
              case rel => exact ⟨k + 1, by omega, by go_num, HX⟩
              case measure => simp [intOf]; omega
    · obtain rfl : k = n := by omega
      have hD := Lib.hid (show DkAt wr w.heap.size B (runD l).cs (runD l).last by have := hI.out.dk; rw [HN.out, List.take_length] at this; exact this)
      have hO := Lib.hid (show EOwns wr w.heap.size (.slice (some ⟨E, 0, none⟩) k k) (errsD l) by
        have := hI.out.err
        rw [HN.out, List.take_length] at this
        have h2 : (errsD l).length = l.length := errsD_length l
        rw [← h2] at this
        have h3 := this.owns HE.out (by have := HN.out; unfold maxLen; omega)
        rw [h2, ← HN.out] at h3; exact h3)
      have hBu := Lib.hid hI.out.but
      go_wp2
      go_ret
      exact ⟨_, rfl, hO.out, hD.out, hBu.out⟩

end Go.Proofs.Ytbpoedopdnjffaa
