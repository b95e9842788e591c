/- A range over an iterator that writes its own two blocks between two rounds: the law for its caller. -/
import Derived.Test.YthleaigkndfdaaaDoorLxW7
namespace Go.Proofs.YthleaigkndfdaaaDoor
open Go.RowKit Go.Shelf

theorem steps_own {sb : Nat} {A B : World} (h : Steps sb A B) {k : Nat} {o : Obj} (hk : A.heap[k]? = some o) (h1 : k < sb) : B.heap[k]? = some o :=
  (h.block k (Array.getElem?_eq_some_iff.1 hk).1 (by omega) (by omega)).trans hk
theorem Kept.putObj {keep : Nat → Prop} (W : World) (l : Nat) (o : Obj) (hl : ¬ keep l) : Kept keep W (W.putObj l o) :=
  ⟨by simp, fun k _ hk => World.putObj_heap_other (fun e => hl (by rw [← e]; exact hk))⟩

theorem rangeFunc_steps {α : Type} {P : Program} {n : Nat} {g : Operand} {ps : Array Tmp} {assign body : Code} {Q : Exit → Act → World → Prop} {a : Act} {w : World} (h1 : 1 ≤ n)
    {gf : Nat} {lb : Array Value} (hg : a.eval g = .func (.func gf) #[] lb) (eg : ∀ args w, (callFunc gf args).run P w = .ok (.enter gf args) w)
    {encs : α → Array Value} (hps : ∀ x, (encs x).size = ps.size) (E : List α) (keep : Nat → Prop) (G : World → Prop) (hG : ∀ A B, G A → Kept keep A B → G B) (hk1 : ¬ keep (w.heap.size + 1))
    (hseq : ∀ (l : Nat) (J Jx : List α → World → Prop) (W : World), Below w.heap.size w W → W.heap.size = w.heap.size + 2 → (∀ pre A B, J pre A → Steps W.heap.size A B → J pre B) →
      (∀ pre x W1, J pre W1 → (∃ r, E = pre ++ x :: r) → G W1 → YieldAt Fence.wide (n - 1 - 1) P l (encs x) W1 fun e W' =>
        (e = .returned (.bool true) ∧ J (pre ++ [x]) W' ∧ Kept keep W1 W') ∨ (e = .returned (.bool false) ∧ Jx (pre ++ [x]) W')) →
      J [] W → CallsIn Fence.wide (n - 1) P gf (#[.func (.yield l) #[] #[]] ++ lb) W fun e W' => (∃ v, e = .returned v) ∧ ((∃ ys, ys = E ∧ J ys W') ∨ (∃ pre, (∃ r, E = pre ++ r) ∧ Jx pre W')))
    (I : List α → World → Prop) (Ix : Code → List α → World → Prop) (hI : OwnFrom w.heap.size I) (hIx : ∀ c, OwnFrom w.heap.size (Ix c)) (hIs : ∀ pre A B, I pre A → Steps (w.heap.size + 2) A B → I pre B) (h0 : I [] w)
    (Ax : α → Act → World → Prop) (hAx : ∀ x a', OwnFrom w.heap.size (fun (_ : Unit) W => Ax x a' W))
    (hassign : ∀ (l : Nat) (pre : List α) (x : α) (W : World) (K : Act → World → Prop), I pre W → G W → (∀ a' W', KeepsFrom w.heap.size W W' → Kept keep W W' → I pre W' → Ax x a' W' → K a' W') →
      assign.wpIn (Fence.wide.inRound l) (n - 1 - 1) P (Exit.then K (fun _ _ _ => False)) { tmps := (ps.zip (encs x)).foldl (fun t (p, v) => t.setIfInBounds p v) a.tmps, defers := [] } W)
    (hbody : ∀ (l : Nat) (pre : List α) (x : α) (a' : Act) (W : World), I pre W → G W → Ax x a' W → (∃ r, E = pre ++ x :: r) → body.wpIn (Fence.wide.inRound l) (n - 1 - 1) P (ownPostG w.heap.size (Kept keep) I Ix (pre ++ [x]) W) a' W)
    (hdone : ∀ (D : Nat) (W : World), w.heap.size ≤ D → I E W → W.heap[D]? = some (.deferred (some [])) → Q .normal { a with defers := { target := .collected D, args := #[] } :: a.defers } W)
    (hstop : ∀ (D : Nat) (c : Code) (pre : List α) (W : World), w.heap.size ≤ D → (∃ r, E = pre ++ r) → Ix c pre W → W.heap[D]? = some (.deferred (some [])) → c.wpIn Fence.wide n P Q { a with defers := { target := .collected D, args := #[] } :: a.defers } W) :
    (Code.rangeFunc g ps assign body).wpIn Fence.wide n P Q a w := by
  refine wpIn_rangeFunc fun fn hfn => ?_
  obtain ⟨D, hD⟩ : ∃ D, D = w.heap.size := ⟨_, rfl⟩
  obtain ⟨rc, hrc⟩ : ∃ rc : LoopState → Option Code → Loop, rc = fun st pe => { state := st, pending := pe, fn, tmps := a.tmps, params := ps, assign, body, defers := D } := ⟨_, rfl⟩
  obtain ⟨W1, hW1⟩ : ∃ W1, (w.alloc (.deferred (some []))).alloc (.loop (rc .ready none)) = W1 := ⟨_, rfl⟩
  have z1 : W1.heap.size = D + 2 := by rw [← hW1, hD]; simp
  have hL1 : W1.heap[D + 1]? = some (.loop (rc .ready none)) := by
    have := World.alloc_heap_new (w.alloc (.deferred (some []))) (.loop (rc .ready none)); rw [World.size_alloc, ← hD, hW1] at this; exact this
  have hK1 : W1.heap[D]? = some (.deferred (some [])) := by
    rw [← hW1, hD]; exact (Below.heap_alloc _ _ _ (by simp)).trans (World.alloc_heap_new w _)
  have hI1 : I [] W1 := by rw [← hW1]; exact hI.alloc _ (hI.alloc _ h0)
  have hb1 : Below w.heap.size w W1 := by rw [← hW1]; exact ((Below.refl _ w).alloc (Nat.le_refl _) _).alloc (by simp) _
  rw [← hD] at hI hIx hIs hAx hk1 hassign hbody hdone hstop
  have kput : ∀ (W : World) (o : Obj), Kept keep W (W.putObj (D + 1) o) := fun W o => Kept.putObj W _ o hk1
  have hen : (Instr.enterLoop fn a.tmps ps assign body Fence.wide.round).run P w = .ok (D + 1, [{ target := .collected D, args := #[] }]) W1 := by
    rw [← hW1, hrc, hD]; exact run_enterLoop_outer _ _ _ _ _
  refine ⟨D + 1, [{ target := .collected D, args := #[] }], W1, { target := .fn (.func gf) lb, args := #[.func (.yield (D + 1)) #[] #[]] }, W1, gf, #[.func (.yield (D + 1)) #[] #[]] ++ lb, W1, hen, ?_, fun _ _ => trivial, ?_, fun _ => h1, ?_⟩
  · simp only [resolve, hg]
    simp [go_sem]
  · simp [invoke, go_sem, eg]
  · refine (hseq (D + 1) (fun pre W => I pre W ∧ W.heap[D + 1]? = some (.loop (rc .ready none)) ∧ W.heap[D]? = some (.deferred (some [])))
      (fun pre W => ∃ c, Ix c pre W ∧ W.heap[D + 1]? = some (.loop (rc .done (some c))) ∧ W.heap[D]? = some (.deferred (some []))) W1 hb1 (by rw [z1, hD])
      (fun pre A B h st => ⟨hIs pre A B h.1 (by rw [z1] at st; exact st), steps_own st h.2.1 (by omega), steps_own st h.2.2 (by omega)⟩) ?_ ⟨hI1, hL1, hK1⟩).mono ?_
    · rintro pre x W ⟨hi, hl, hk⟩ hE hz
      have hlt : D + 1 < W.heap.size := (Array.getElem?_eq_some_iff.1 hl).1
      have hy := run_yield (P := P) (args := encs x) hl (by rw [hrc]; exact hps x)
      rw [hrc] at hy
      refine ⟨fn, _, assign, body, hy, roundIn_of_wpIn hfn (hassign _ pre x W _ hi hz ?_)⟩
      clear hy
      intro a' V hkf hkp hi2 hax
      have hl2 := hkf.same _ _ (by omega) hl rfl
      have hd2 := hkf.same _ _ (Nat.le_refl _) hk rfl
      have hlt2 : D + 1 < V.heap.size := (Array.getElem?_eq_some_iff.1 hl2).1
      refine ⟨_, run_beginRound hl2 (by rw [hrc]), ?_⟩
      have hl3 : (V.putObj (D + 1) (.loop { rc .ready none with state := .busy })).heap[D + 1]? = some (.loop { rc .ready none with state := .busy }) := World.putObj_heap_same hlt2
      have hd3 : (V.putObj (D + 1) (.loop { rc .ready none with state := .busy })).heap[D]? = some (.deferred (some [])) := (World.putObj_heap_other (by omega)).trans hd2
      refine wpIn_mono (hbody _ pre x a' _ (hI.putObj _ hi2 (by omega) hl2 rfl) (hG _ _ (hG _ _ hz hkp) (kput V _)) ((hAx x a').putObj (s := ()) _ hax (by omega) hl2 rfl) hE) ?_
      have fin : ∀ (jump : Option Code) (X : World), KeepsFrom D (V.putObj (D + 1) (.loop { rc .ready none with state := .busy })) X →
          (Instr.endRound (D + 1) jump).run P X = .ok (.bool jump.isNone) (X.putObj (D + 1) (.loop (rc (if jump.isNone then .ready else .done) jump))) ∧
          X.heap[D + 1]? = some (.loop { rc .ready none with state := .busy }) ∧
          (X.putObj (D + 1) (.loop (rc (if jump.isNone then .ready else .done) jump))).heap[D + 1]? = some (.loop (rc (if jump.isNone then .ready else .done) jump)) ∧
          (X.putObj (D + 1) (.loop (rc (if jump.isNone then .ready else .done) jump))).heap[D]? = some (.deferred (some [])) := fun jump X hX => by
        have hx := hX.same _ _ (by omega) hl3 rfl
        have hrun := run_endRound (P := P) jump hx
        rw [hrc] at hrun hx ⊢
        exact ⟨hrun, hx, World.putObj_heap_same (Array.getElem?_eq_some_iff.1 hx).1, (World.putObj_heap_other (by omega)).trans (hX.same _ _ (Nat.le_refl _) hd3 rfl)⟩
      rintro e a3 X hp
      cases e with
      | normal =>
        obtain ⟨hX, hkX, hiX⟩ := hp
        obtain ⟨hr, hx, hx2, hx3⟩ := fin none X hX
        exact ⟨_, _, hr, .inl ⟨rfl, ⟨hI.putObj _ hiX (by omega) hx rfl, hx2, hx3⟩, hkp.trans (((kput V _).trans hkX).trans (kput X _))⟩⟩
      | ret =>
        obtain ⟨hX, hiX⟩ := hp
        obtain ⟨hr, hx, hx2, hx3⟩ := fin (some .ret) X hX
        exact ⟨_, _, hr, .inr ⟨rfl, .ret, (hIx _).putObj _ hiX (by omega) hx rfl, hx2, hx3⟩⟩
      | exit id =>
        obtain ⟨hX, hiX⟩ := hp
        obtain ⟨hr, hx, hx2, hx3⟩ := fin (some (.exit id)) X hX
        exact ⟨_, _, hr, .inr ⟨rfl, .exit id, (hIx _).putObj _ hiX (by omega) hx rfl, hx2, hx3⟩⟩
      | goto t =>
        obtain ⟨hX, hiX⟩ := hp
        obtain ⟨hr, hx, hx2, hx3⟩ := fin (some (.goto t)) X hX
        exact ⟨_, _, hr, .inr ⟨rfl, .goto t, (hIx _).putObj _ hiX (by omega) hx rfl, hx2, hx3⟩⟩
      | panic ch => exact hp.elim
      | outgrown => exact hp.elim
    · rintro e X ⟨⟨v, rfl⟩, (⟨ys, rfl, hi, hl, hk⟩ | ⟨pre, hE, c, hi, hl, hk⟩)⟩
      · have hr := run_endLoop (P := P) hl (by rw [hrc]; simp)
        rw [hrc] at hr
        exact ⟨none, _, hr, hdone D _ (Nat.le_refl _) (hI.putObj _ hi (by omega) hl rfl) ((World.putObj_heap_other (by omega)).trans hk)⟩
      · have hr := run_endLoop (P := P) hl (by rw [hrc]; simp)
        rw [hrc] at hr
        exact ⟨some c, _, hr, hstop D c pre _ (Nat.le_refl _) hE ((hIx c).putObj _ hi (by omega) hl rfl) ((World.putObj_heap_other (by omega)).trans hk)⟩

end Go.Proofs.YthleaigkndfdaaaDoor
