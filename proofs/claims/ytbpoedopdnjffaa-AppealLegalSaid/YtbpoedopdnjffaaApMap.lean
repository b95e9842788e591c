/- A map literal whose entries are laid in an order that Go leaves open: seven entries with constant keys; what it holds in the end. -/
import Derived.Test.YtbpoedopdnjffaaApMeth
import Derived.MapFrom
import Derived.Maps.Own
namespace Go.Proofs.Ytbpoedopdnjffaa
open Go.RowKit Go.Shelf

/-- The map that the call has made. -/
def MapAt (b : Nat) (w0 w : World) (es : Array MapEntry) (clock : Nat) : Prop := w.heap[b]? = some (.map es clock) ∧ Below b w0 w
theorem MapAt.made (w : World) : MapAt w.heap.size w (w.alloc (.map #[] 0)) #[] 0 := ⟨(MapKept.heap_alloc w _).1, (Below.refl _ _).alloc (Nat.le_refl _) _⟩

theorem MapAt.insert {P : Program} {b : Nat} {w0 w : World} {es : Array MapEntry} {clock : Nat} (h : MapAt b w0 w es clock) {mt k e : TypeId} {kd : IntKind} (ht : P.underlying mt = some (.map k e)) (hk : P.underlying k = some (.int kd)) (n : Int) (v : Value)
    (hf : Instr.findNow (.int kd) (.int kd n) es.toList 0 = some none) :
    ∃ w', (Instr.mapUpdate mt (.map (some b)) (.int kd n) v).run P w = .ok () w' ∧ MapAt b w0 w' (es.push { key := .int kd n, val := v, born := clock }) (clock + 1) := by
  have hc : (Instr.checkKey false 10000 k (.int kd n)).run P w = .ok () w := MapKept.run_checkKey (k := .int kd n) hk (by simp [MapKept.IsKey]) false 9999
  refine ⟨{ w with heap := w.heap.setIfInBounds b (.map (es.push { key := .int kd n, val := v, born := clock }) (clock + 1)) }, ?_, ?_, ?_⟩
  · simp [Instr.mapUpdate, run_underlying ht, MapKept.run_getObj_map h.1, hc, MapKept.run_findKey hk hf, MapKept.run_setObj_map _ h.1, Result.andThen]
  · exact (MapKept.heap_set h.1).1
  · refine h.2.trans ⟨rfl, rfl, rfl, by simp, fun i hi => ?_⟩
    exact (MapKept.heap_set h.1).2 i (by omega)
theorem MapAt.lookup {P : Program} {w : World} {b : Nat} {es : Array MapEntry} {clock : Nat} (h : w.heap[b]? = some (.map es clock)) {mt k e : TypeId} {kd : IntKind} (ht : P.underlying mt = some (.map k e)) (hk : P.underlying k = some (.int kd)) (n : Int) (i : Nat) (v : Value)
    (hf : Instr.findNow (.int kd) (.int kd n) es.toList 0 = some (some (i, v))) : (Instr.lookup mt (.map (some b)) (.int kd n) false).run P w = .ok v w := by
  have hc : ∀ q, (Instr.checkKey q 10000 k (.int kd n)).run P w = .ok () w := fun q => MapKept.run_checkKey (k := .int kd n) hk (by simp [MapKept.IsKey]) q 9999
  simp [Instr.lookup, run_underlying ht, MapKept.run_getObj_map h, hc, MapKept.run_findKey hk hf, Result.andThen]

/-- All keys of a list of entries are integers of kind kd. -/
def IntKeys (kd : IntKind) (es : List MapEntry) : Prop := ∀ e ∈ es, ∃ n, e.key = .int kd n
theorem findNow_snoc {kd : IntKind} (k n : Int) (v : Value) (c : Nat) : ∀ (es : List MapEntry) (i : Nat), IntKeys kd es →
    Instr.findNow (.int kd) (.int kd k) (es ++ [{ key := .int kd n, val := v, born := c }]) i = match Instr.findNow (.int kd) (.int kd k) es i with
      | some none => if k = n then some (some (i + es.length, v)) else some none
      | r => r
  | [], i, _ => by
    by_cases h : k = n
    · subst h; simp [Instr.findNow, Instr.sameNow]
    · have hb : (k == n) = false := by simpa using h
      simp [Instr.findNow, Instr.sameNow, hb, h]
  | e :: es, i, hI => by
    obtain ⟨m, hm⟩ := hI e (List.mem_cons_self ..)
    have ih := findNow_snoc k n v c es (i + 1) (fun x hx => hI x (List.mem_cons_of_mem _ hx))
    by_cases h : k = m
    · subst h; simp [Instr.findNow, Instr.sameNow, hm]
    · have hb : (k == m) = false := by simpa using h
      simp only [List.cons_append, Instr.findNow, Instr.sameNow, hm, if_true, hb]
      rw [ih]
      cases hf : Instr.findNow (.int kd) (.int kd k) es (i + 1) with
      | none => rfl
      | some r =>
        cases r with
        | none => simp only [List.length_cons]; rw [show i + 1 + es.length = i + (es.length + 1) by omega]
        | some q => rfl

/-- How many of seven are still to come. -/
def left7 (m : Nat) : Nat := ((List.range 7).filter fun k => !m.testBit k).length
theorem left7_set : ∀ m : Fin 128, ∀ k : Fin 7, m.val.testBit k.val = false → left7 (m.val ||| 2 ^ k.val) + 1 = left7 m.val ∧ (m.val ||| 2 ^ k.val) < 128 := by decide +kernel
theorem left7_zero : ∀ m : Fin 128, left7 m.val = 0 → m.val = 127 := by decide +kernel
theorem left7_pos : ∀ m : Fin 128, left7 m.val ≠ 0 → m.val ≠ 127 := by decide +kernel
theorem bit_set : ∀ m : Fin 128, ∀ k j : Fin 7, (m.val ||| 2 ^ k.val).testBit j.val = (m.val.testBit j.val || decide (j = k)) := by decide +kernel
theorem bit_all : ∀ j : Fin 7, (127 : Nat).testBit j.val = true := by decide

/-- What lies in the map when the entries of the mask m have been laid. -/
def Laid7 (kd : IntKind) (val : Nat → Value) (m : Nat) (es : List MapEntry) : Prop :=
  IntKeys kd es ∧ ∀ k, k < 7 → if m.testBit k = true then ∃ j, Instr.findNow (.int kd) (.int kd (k + 1 : Nat)) es 0 = some (some (j, val k)) else Instr.findNow (.int kd) (.int kd (k + 1 : Nat)) es 0 = some none
theorem Laid7.nil (kd : IntKind) (val : Nat → Value) : Laid7 kd val 0 [] := ⟨(fun e h => by cases h), fun k _ => by rw [if_neg (by simp)]; rfl⟩
theorem Laid7.step {kd : IntKind} {val : Nat → Value} {m : Nat} {es : List MapEntry} (h : Laid7 kd val m es) (hm : m < 128) {k : Nat} (hk : k < 7) (hb : m.testBit k = false) (c : Nat) :
    Laid7 kd val (m ||| 2 ^ k) (es ++ [{ key := .int kd (k + 1 : Nat), val := val k, born := c }]) := by
  refine ⟨fun e he => ?_, fun j hj => ?_⟩
  · rcases List.mem_append.1 he with he | he
    · exact h.1 e he
    · rw [List.mem_singleton.1 he]; exact ⟨_, rfl⟩
  · have e1 := bit_set ⟨m, hm⟩ ⟨k, hk⟩ ⟨j, hj⟩
    have h1 := h.2 j hj
    dsimp only at e1
    rw [e1, findNow_snoc _ _ _ _ _ _ h.1]
    by_cases hjk : j = k
    · subst hjk
      rw [hb, if_neg (by decide)] at h1
      rw [h1]
      simp
    · have hne : decide ((⟨j, hj⟩ : Fin 7) = ⟨k, hk⟩) = false := by simpa using hjk
      have hne2 : ¬ (((j + 1 : Nat) : Int) = ((k + 1 : Nat) : Int)) := by omega
      rw [hne, Bool.or_false]
      cases hbj : m.testBit j with
      | true =>
        rw [hbj, if_pos rfl] at h1
        obtain ⟨i, hi⟩ := h1
        rw [hi, if_pos rfl]
        exact ⟨i, rfl⟩
      | false =>
        rw [hbj, if_neg (by decide)] at h1
        rw [h1, if_neg (by decide), if_neg hne2]

section
variable {P : Program} {ops : Array Oper} {Q : Exit → Act → World → Prop} {md : Region.Mode}

/-- What has come up, the entries of the mask m among it: the table's region (38 operations). -/
def lst7 (m : Nat) : Array Bool := #[true, true, true, true, true, m.testBit 0, true, true, true, true, m.testBit 1, true, true, true, true, m.testBit 2, true, true, true, true, m.testBit 3, true, true, true, true, m.testBit 4, true, true, true, true, m.testBit 5, true, true, true, true, m.testBit 6, false, false]
theorem lst7_off {m i : Nat} (h : (lst7 m).getD i true = false) : (∃ k, k < 7 ∧ i = 5 + 5 * k ∧ m.testBit k = false) ∨ i = 36 ∨ i = 37 := by
  by_cases hi : i < 38
  · rcases (show i = 5 ∨ i = 10 ∨ i = 15 ∨ i = 20 ∨ i = 25 ∨ i = 30 ∨ i = 35 ∨ i = 36 ∨ i = 37 ∨ (i < 5 ∨ (5 < i ∧ i < 10) ∨ (10 < i ∧ i < 15) ∨ (15 < i ∧ i < 20) ∨ (20 < i ∧ i < 25) ∨ (25 < i ∧ i < 30) ∨ (30 < i ∧ i < 35)) by omega) with rfl | rfl | rfl | rfl | rfl | rfl | rfl | rfl | rfl | h2
    · exact .inl ⟨0, by omega, rfl, h⟩
    · exact .inl ⟨1, by omega, rfl, h⟩
    · exact .inl ⟨2, by omega, rfl, h⟩
    · exact .inl ⟨3, by omega, rfl, h⟩
    · exact .inl ⟨4, by omega, rfl, h⟩
    · exact .inl ⟨5, by omega, rfl, h⟩
    · exact .inl ⟨6, by omega, rfl, h⟩
    · exact .inr (.inl rfl)
    · exact .inr (.inr rfl)
    · exfalso
      rcases (show i = 0 ∨ i = 1 ∨ i = 2 ∨ i = 3 ∨ i = 4 ∨ i = 6 ∨ i = 7 ∨ i = 8 ∨ i = 9 ∨ i = 11 ∨ i = 12 ∨ i = 13 ∨ i = 14 ∨ i = 16 ∨ i = 17 ∨ i = 18 ∨ i = 19 ∨ i = 21 ∨ i = 22 ∨ i = 23 ∨ i = 24 ∨ i = 26 ∨ i = 27 ∨ i = 28 ∨ i = 29 ∨ i = 31 ∨ i = 32 ∨ i = 33 ∨ i = 34 by omega) with
        rfl | rfl | rfl | rfl | rfl | rfl | rfl | rfl | rfl | rfl | rfl | rfl | rfl | rfl | rfl | rfl | rfl | rfl | rfl | rfl | rfl | rfl | rfl | rfl | rfl | rfl | rfl | rfl | rfl <;> exact absurd h (by simp [lst7])
  · exfalso
    have : (lst7 m).size = 38 := rfl
    rw [Array.getD_eq_getD_getElem?, Array.getElem?_eq_none (by omega)] at h
    cases h
theorem lst7_at (m k : Nat) (hk : k < 7) : (lst7 m).getD (5 + 5 * k) true = m.testBit k ∧ (lst7 m).getD (5 + 5 * k) false = m.testBit k ∧ (lst7 m).getD (4 + 5 * k) false = true := by
  rcases (show k = 0 ∨ k = 1 ∨ k = 2 ∨ k = 3 ∨ k = 4 ∨ k = 5 ∨ k = 6 by omega) with rfl | rfl | rfl | rfl | rfl | rfl | rfl <;> exact ⟨rfl, rfl, rfl⟩
theorem all_bits : ∀ m : Fin 128, (∀ k : Fin 7, m.val.testBit k.val = true) → m.val = 127 := by decide +kernel
theorem ready7 (h36 : ((ops[36]?).map fun o => (List.range 7).all fun k => o.after.any fun e => Region.binds md e && e.on == 5 + 5 * k) = some true)
    (h37 : ((ops[37]?).map fun o => o.after.any fun e => Region.binds md e && e.on == 36) = some true)
    (hins : ((List.range 7).all fun k => ((ops[5 + 5 * k]?).map fun o => o.after.all fun e => e.on == 0 || e.on == 4 + 5 * k).getD false) = true)
    (m : Nat) (hm : m < 128) (hne : m ≠ 127) : Region.ready md ops (lst7 m) ≠ [] ∧ ∀ i ∈ Region.ready md ops (lst7 m), ∃ k, k < 7 ∧ i = 5 + 5 * k ∧ m.testBit k = false := by
  have hex : ∃ k, k < 7 ∧ m.testBit k = false := by
    by_cases h : ∃ k, k < 7 ∧ m.testBit k = false
    · exact h
    · exfalso
      refine hne (all_bits ⟨m, hm⟩ fun k => ?_)
      cases hb : m.testBit k.val with
      | true => rfl
      | false => exact absurd ⟨k.val, k.isLt, hb⟩ h
  refine ⟨fun e => ?_, fun i hi => ?_⟩
  · obtain ⟨k, hk, hb⟩ := hex
    have h1 := List.all_eq_true.1 hins k (List.mem_range.2 hk)
    have hin : 5 + 5 * k ∈ Region.ready md ops (lst7 m) := by
      cases ho : ops[5 + 5 * k]? with
      | none => rw [ho] at h1; cases h1
      | some o =>
        rw [ho] at h1
        refine mem_ready.2 ⟨by rw [(lst7_at m k hk).1]; exact hb, o, ho, fun e he _ => ?_⟩
        have h2 := (Array.all_eq_true'.1 (show o.after.all _ = true from h1)) e he
        simp only [Bool.or_eq_true, beq_iff_eq] at h2
        rcases h2 with h2 | h2
        · rw [h2]; rfl
        · rw [h2]; exact (lst7_at m k hk).2.2
    rw [e] at hin
    cases hin
  · obtain ⟨hun, o, ho, hall⟩ := mem_ready.1 hi
    rcases lst7_off hun with h | rfl | rfl
    · exact h
    · exfalso
      obtain ⟨k, hk, hb⟩ := hex
      rw [ho] at h36
      have h1 := List.all_eq_true.1 (Option.some.inj h36) k (List.mem_range.2 hk)
      obtain ⟨e, he, h2⟩ := Array.any_eq_true'.1 h1
      simp only [Bool.and_eq_true, beq_iff_eq] at h2
      have h3 := hall e he h2.1
      rw [h2.2, (lst7_at m k hk).2.1, hb] at h3
      cases h3
    · exfalso
      rw [ho] at h37
      obtain ⟨e, he, h2⟩ := Array.any_eq_true'.1 (Option.some.inj h37)
      simp only [Bool.and_eq_true, beq_iff_eq] at h2
      have h3 := hall e he h2.1
      rw [h2.2] at h3
      cases h3
theorem lst7_set (m k : Nat) (hm : m < 128) (hk : k < 7) : (lst7 m).setIfInBounds (5 + 5 * k) true = lst7 (m ||| 2 ^ k) := by
  have hb := fun j hj => bit_set ⟨m, hm⟩ ⟨k, hk⟩ ⟨j, hj⟩
  have b0 := hb 0 (by omega)
  have b1 := hb 1 (by omega)
  have b2 := hb 2 (by omega)
  have b3 := hb 3 (by omega)
  have b4 := hb 4 (by omega)
  have b5 := hb 5 (by omega)
  have b6 := hb 6 (by omega)
  dsimp only at b0 b1 b2 b3 b4 b5 b6
  unfold lst7
  rw [b0, b1, b2, b3, b4, b5, b6]
  rcases (show k = 0 ∨ k = 1 ∨ k = 2 ∨ k = 3 ∨ k = 4 ∨ k = 5 ∨ k = 6 by omega) with rfl | rfl | rfl | rfl | rfl | rfl | rfl <;> simp

/-- The entries in whatever order. -/
theorem inserts_any {mt kt et : TypeId} {kd : IntKind} (ht : P.underlying mt = some (.map kt et)) (hkt : P.underlying kt = some (.int kd)) (idx : Nat → Nat) (val : Nat → Value) (b : Nat) (w0 : World) (a : Act)
    (hop : ∀ k, k < 7 → ∃ o mo vo, ops[idx k]? = some o ∧ o.guard = none ∧ o.dst = none ∧ o.op = .insert mt mo (.const (.int kd (k + 1 : Nat))) vo ∧ a.eval mo = .map (some b) ∧ a.eval vo = val k)
    (Lst : Nat → Array Bool) (hset : ∀ m k : Nat, m < 128 → k < 7 → (Lst m).setIfInBounds (idx k) true = Lst (m ||| 2 ^ k))
    (hready : ∀ m : Nat, m < 128 → m ≠ 127 → Region.ready md ops (Lst m) ≠ [] ∧ ∀ i ∈ Region.ready md ops (Lst m), ∃ k, k < 7 ∧ i = idx k ∧ m.testBit k = false)
    (r : Nat) (hend : ∀ w es clock, MapAt b w0 w es clock → Laid7 kd val 127 es.toList → wpAny P md ops Q r (Lst 127) a w) :
    ∀ (n m : Nat) (w : World) (es : Array MapEntry) (clock : Nat), m < 128 → left7 m = n → MapAt b w0 w es clock → Laid7 kd val m es.toList → wpAny P md ops Q (n + r) (Lst m) a w := by
  intro n
  induction n with
  | zero =>
    intro m w es clock hm hl hM hL
    have h127 := left7_zero ⟨m, hm⟩ hl
    dsimp only at h127
    subst h127
    rw [Nat.zero_add]
    exact hend w es clock hM hL
  | succ n ih =>
    intro m w es clock hm hl hM hL
    have hne := left7_pos ⟨m, hm⟩ (by dsimp only; omega)
    obtain ⟨hr1, hr2⟩ := hready m hm hne
    rw [show n + 1 + r = (n + r) + 1 by omega]
    refine wpAny_all rfl hr1 ?_
    · intro i hi
      obtain ⟨k, hk7, rfl, hb⟩ := hr2 i hi
      obtain ⟨o, mo, vo, ho, hg, hd, hop', em, ev⟩ := hop k hk7
      have hs := hset m k hm hk7
      have hl7 := left7_set ⟨m, hm⟩ ⟨k, hk7⟩ hb
      dsimp only at hl7
      have hfn := hL.2 k hk7
      rw [hb, if_neg (by decide)] at hfn
      obtain ⟨w', hrun, hM'⟩ := hM.insert ht hkt (k + 1 : Nat) (val k) hfn
      unfold wpOp
      rw [ho]
      have hw : Region.wanted o (yielded ops a.tmps) = true := by simp [Region.wanted, hg]
      simp only [hw, if_true]
      left
      unfold Oper.wp execOp
      have ec : a.eval (.const (.int kd (k + 1 : Nat))) = .int kd (k + 1 : Nat) := rfl
      simp only [hop', em, ev, ec, Sem.run_bind, hrun, Result.andThen_ok, Sem.run_pure]
      unfold Oper.upon
      dsimp only
      rw [hd, hs]
      exact ih (m ||| 2 ^ k) w' _ _ hl7.2 (by omega) hM' (by rw [Array.toList_push]; exact hL.step hm hk7 hb clock)
end

end Go.Proofs.Ytbpoedopdnjffaa
