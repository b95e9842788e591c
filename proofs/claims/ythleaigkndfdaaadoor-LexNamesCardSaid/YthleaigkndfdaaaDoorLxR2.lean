/- A map keyed by integers that a function lays with constant keys, and asks: the laws at the operations. -/
import Derived.Test.YthleaigkndfdaaaDoorLxL2
import Derived.Test.YthleaigkndfdaaaDoorLxPlain6
import Derived.MapFrom
import Derived.Maps.Own
import Derived.Test.YthleaigkndfdaaaDoorShelf
namespace Go.Proofs.YthleaigkndfdaaaDoor
open Go.RowKit Go.Shelf

/-- The map that the call has made. -/
def MapAt (b : Nat) (w0 w : World) (es : Array MapEntry) (clock : Nat) : Prop := w.heap[b]? = some (.map es clock) ∧ Below b w0 w
theorem MapAt.made (w : World) : MapAt w.heap.size w (w.alloc (.map #[] 0)) #[] 0 := ⟨(MapKept.heap_alloc w _).1, (Below.refl _ _).alloc (Nat.le_refl _) _⟩

theorem MapAt.insert {P : Program} {b : Nat} {w0 w : World} {es : Array MapEntry} {clock : Nat} (h : MapAt b w0 w es clock) {mt k e : TypeId} {kd : IntKind} (ht : P.underlying mt = some (.map k e)) (hk : P.underlying k = some (.int kd)) (n : Int) (v : Value)
    (hf : Instr.findNow (.int kd) (.int kd n) es.toList 0 = some none) :
    ∃ w', (Instr.mapUpdate mt (.map (some b)) (.int kd n) v).run P w = .ok () w' ∧ MapAt b w0 w' (es.push { key := .int kd n, val := v, born := clock }) (clock + 1) := by
  have hc : (Instr.checkKey false 10000 k (.int kd n)).run P w = .ok () w := MapKept.run_checkKey (k := .int kd n) hk (by simp [MapKept.IsKey]) false 9999
  refine ⟨{ w with heap := w.heap.setIfInBounds b (.map (es.push { key := .int kd n, val := v, born := clock }) (clock + 1)) }, ?_, ?_, ?_⟩
  · simp [Instr.mapUpdate, run_underlying ht, MapKept.run_getObj_map h.1, hc, MapKept.run_findKey hk hf, MapKept.run_setObj_map _ h.1, Result.andThen]
  · exact (MapKept.heap_set h.1).1
  · refine h.2.trans ⟨rfl, rfl, rfl, by simp, fun i hi => ?_⟩
    exact (MapKept.heap_set h.1).2 i (by omega)

/-- The entry of a literal map, at the operation. -/
theorem wpList_insert {P : Program} (w0 w : World) {ops : Array Oper} {rest : List Oper} {o : Oper} {a : Act} {Q : Exit → Act → World → Prop}
    (hg : o.guard = none) (m x v : Operand) (t : TypeId) (hop : o.op = Op.insert t m x v) (k e : TypeId) (kd : IntKind) (ht : P.underlying t = some (.map k e)) (hk : P.underlying k = some (.int kd))
    (b : Nat) (es : Array MapEntry) (clock : Nat) (hm : a.eval m = .map (some b)) (h : MapAt b w0 w es clock) (n : Int) (val : Value) (hx : a.eval x = .int kd n) (hv : a.eval v = val) (hf : Instr.findNow (.int kd) (.int kd n) es.toList 0 = some none)
    (hK : ∀ w', MapAt b w0 w' (es.push { key := .int kd n, val := val, born := clock }) (clock + 1) → wpList P ops Q rest (a.put o.dst undef) w') :
    wpList P ops Q (o :: rest) a w := by
  refine wpList_plain hg fun K' hK' => ?_
  obtain ⟨w', hrun, r⟩ := h.insert ht hk n val hf
  unfold Oper.wp
  simp [execOp, hop, hm, hx, hv, hrun, Result.andThen]
  exact hK' _ _ (hK w' r)

theorem MapAt.lookup {P : Program} {b : Nat} {w0 w : World} {es : Array MapEntry} {clock : Nat} (h : MapAt b w0 w es clock) {mt k e : TypeId} {kd : IntKind} (ht : P.underlying mt = some (.map k e)) (hk : P.underlying k = some (.int kd)) (n : Int) (i : Nat) (v : Value)
    (hf : Instr.findNow (.int kd) (.int kd n) es.toList 0 = some (some (i, v))) : (Instr.lookup mt (.map (some b)) (.int kd n) false).run P w = .ok v w := by
  have hc : ∀ q, (Instr.checkKey q 10000 k (.int kd n)).run P w = .ok () w := fun q => MapKept.run_checkKey (k := .int kd n) hk (by simp [MapKept.IsKey]) q 9999
  simp [Instr.lookup, run_underlying ht, MapKept.run_getObj_map h.1, hc, MapKept.run_findKey hk hf, Result.andThen]

/-- The map of Reserved: the words of each length, between blanks. -/
def tblMap : Array MapEntry := #[⟨.int .i64 2, .string (bs Lx.tt2), 0⟩, ⟨.int .i64 3, .string (bs Lx.tt3), 1⟩, ⟨.int .i64 4, .string (bs Lx.tt4), 2⟩, ⟨.int .i64 5, .string (bs Lx.tt5), 3⟩, ⟨.int .i64 6, .string (bs Lx.tt6), 4⟩, ⟨.int .i64 7, .string (bs Lx.tt7), 5⟩]
theorem tbl_find (n : Nat) (h2 : 2 ≤ n) (h7 : n ≤ 7) : ∃ i, Instr.findNow (.int .i64) (.int .i64 (n : Int)) tblMap.toList 0 = some (some (i, .string (bs (Lx.tt n)))) := by
  rcases (show n = 2 ∨ n = 3 ∨ n = 4 ∨ n = 5 ∨ n = 6 ∨ n = 7 by omega) with rfl | rfl | rfl | rfl | rfl | rfl <;> exact ⟨_, rfl⟩

/-- The cell of the library's table holds some number. -/
def MaxAt (w : World) : Prop := ∃ m, w.cell? ⟨0, 0, none⟩ = some (.int .i64 m)
theorem MaxAt.below {w W : World} (h : MaxAt w) (hb : Below w.heap.size w W) : MaxAt W := by
  obtain ⟨m, hm⟩ := h
  exact ⟨m, by rw [hb.cell (World.block_lt_of_cell? w _ hm)]; exact hm⟩

theorem let_run {s : ByteArray} (h : (ls s).all Lx.isLet = true) : bs ((ls s).takeWhile Lx.isLet) = s := by rw [(Lx.tw_all _ _).2 h]; rfl
theorem let_run_ne {s : ByteArray} (h : (ls s).all Lx.isLet = false) : bs ((ls s).takeWhile Lx.isLet) ≠ s := by
  intro e
  have : (ls s).takeWhile Lx.isLet = ls s := congrArg ls e
  rw [(Lx.tw_all _ _).1 this] at h; cases h

set_option maxHeartbeats 2000000 in
set_option maxRecDepth 100000 in
theorem reserved_in (s : ByteArray) (w : World) (h2 : 2 ≤ s.size) (h7 : s.size ≤ 7) (hL : (ls s).all Lx.isLet = true) (m : Int) (hM : w.cell? ⟨0, 0, none⟩ = some (.int .i64 m)) :
    Calls Tryd.prog 24 #[.string s] w fun e w' => e = .returned (.bool (Lx.resv (ls s))) ∧ Below w.heap.size w w' := by
  have CR := Lib.hid (fun W => run_letter s W (by omega))
  rw [let_run hL] at CR
  have HF := Lib.hid (tbl_find s.size h2 h7)
  have hmm := @run_makeMap Tryd.prog
  have hmap := MapAt.made w
  go_enter Tryd.func24, Tryd.ntmps24
  go_wp2_with fail
  refine (CR.out _).mono ?_
  rintro e w1 ⟨rfl, rfl⟩
  go_wp2_with (refine wpList_insert w _ rfl _ _ _ _ rfl _ _ _ Tryd.underlying66 Tryd.underlying3 _ _ _ rfl (by assumption) _ _ rfl rfl rfl ?_; clear hmap; intro w' hmap)
  obtain ⟨i, hf⟩ := HF.out
  replace hmap : MapAt w.heap.size w _ tblMap 6 := hmap
  rw [hmap.lookup Tryd.underlying66 Tryd.underlying3 _ i _ hf]
  have q0 := hmap.2.cell (World.block_lt_of_cell? w _ hM)
  rw [hM] at q0
  have hb := hmap.2
  clear hmap
  have hv : Lx.resv (ls s) = Lib.contains (bs (Lx.tt s.size)).data.toList (32 :: (s.data.toList ++ [32])) := by
    unfold Lx.resv Lx.lets
    rw [hL, ls_len, decide_eq_true h2, decide_eq_true h7]; rfl
  have CC := Tryd.strings_Contains (bs (Lx.tt s.size)) ({ data := #[32] } ++ s ++ { data := #[32] } : ByteArray) m w' (by
    show (Lx.tt s.size).length < _
    rcases (show s.size = 2 ∨ s.size = 3 ∨ s.size = 4 ∨ s.size = 5 ∨ s.size = 6 ∨ s.size = 7 by omega) with h | h | h | h | h | h <;> rw [h] <;> decide) q0
  go_wp2_with fail
  refine CC.mono ?_
  rintro e w2 ⟨rfl, rfl⟩
  go_wp2
  go_ret
  exact ⟨ret_bool hv.symm, hb⟩

set_option maxHeartbeats 2000000 in
set_option maxRecDepth 100000 in
theorem reserved_any (s : ByteArray) (w : World) (hs : s.size ≤ 9223372036854775807) (hM : MaxAt w) :
    Calls Tryd.prog 24 #[.string s] w fun e w' => e = .returned (.bool (Lx.resv (ls s))) ∧ Below w.heap.size w w' := by
  by_cases h2 : 2 ≤ s.size
  · by_cases h7 : s.size ≤ 7
    · cases hL : (ls s).all Lx.isLet with
      | true =>
        obtain ⟨m, hm⟩ := hM
        exact reserved_in s w h2 h7 hL m hm
      | false =>
        have hr : Lx.resv (ls s) = false := by unfold Lx.resv Lx.lets; rw [hL]; simp
        rw [hr]
        have CR := run_letter s
        have hne := let_run_ne hL
        generalize bs ((ls s).takeWhile Lx.isLet) = t at CR hne
        replace CR := Lib.hid (fun W => CR W (by omega))
        have hq : (t.toList == s.toList) = false := by
          rw [ls_toList, ls_toList, beq_eq_false_iff_ne]; intro e; exact hne (bs_ls_eq e)
        go_enter Tryd.func24, Tryd.ntmps24
        go_wp2_with fail
        refine (CR.out _).mono ?_
        rintro e w1 ⟨rfl, rfl⟩
        go_wp2_with fail
        go_ret
        exact ⟨rfl, Below.refl _ _⟩
    · have hr : Lx.resv (ls s) = false := by unfold Lx.resv Lx.lets; rw [ls_len, decide_eq_false h7]; simp
      rw [hr]
      go_enter Tryd.func24, Tryd.ntmps24
      go_wp2
      go_ret
      exact ⟨rfl, Below.refl _ _⟩
  · have hr : Lx.resv (ls s) = false := by unfold Lx.resv Lx.lets; rw [ls_len, decide_eq_false h2]; simp
    rw [hr]
    go_enter Tryd.func24, Tryd.ntmps24
    go_wp2
    go_ret
    exact ⟨rfl, Below.refl _ _⟩

end Go.Proofs.YthleaigkndfdaaaDoor
