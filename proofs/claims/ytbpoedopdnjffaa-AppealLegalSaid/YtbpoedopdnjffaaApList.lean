/- The list's methods: change, open. -/
import Derived.Test.YtbpoedopdnjffaaApEff2
namespace Go.Proofs.Ytbpoedopdnjffaa
open Go.RowKit Go.Shelf Sp

/-- One case of a docket, read. -/
theorem DkAt.read {W : World} {base B : Nat} {L : List Cs} {last : Int} (h : DkAt W base B L last) (k : Nat) (hk : k < L.length) :
    ∃ g cap u, W.cell? ⟨B, 0, none⟩ = some (.slice (some ⟨g, 0, none⟩) L.length cap) ∧ W.cell? ⟨B, 1, none⟩ = some (.int .i64 last) ∧ g ≠ B ∧ base ≤ g ∧ CaseCells W g (k * 10) L[k] u ∧ Owns W 0 u L[k].held ∧ ∀ j, W.frozen? ⟨g, j, none⟩ = false := by
  obtain ⟨v, ps, rfl, hB, hc⟩ := h
  obtain ⟨p, cap, rfl, hr⟩ := hc.form
  rw [List.length_map] at hk
  obtain ⟨g, rfl, hb, _, ⟨cur, hg⟩, hcl⟩ := hr (by intro e; subst e; simp at hk)
  obtain ⟨h1, h2⟩ := hcl k hk
  refine ⟨g, cap, ps[k].2, by simp [World.cell?, hB], by simp [World.cell?, hB], ?_, hb, by simpa using h1, by simpa using hc.2 _ (List.getElem_mem hk), h2⟩
  rintro rfl
  rw [hB] at hg
  injection hg with hg
  injection hg with _ e _
  exact absurd e (by decide)
theorem DkAt.cell {W : World} {base B : Nat} {L : List Cs} {last : Int} (h : DkAt W base B L last) :
    ∃ p cap, W.cell? ⟨B, 0, none⟩ = some (.slice p L.length cap) ∧ W.cell? ⟨B, 1, none⟩ = some (.int .i64 last) ∧ ∀ j, W.frozen? ⟨B, j, none⟩ = false := by
  obtain ⟨v, ps, rfl, hB, hc⟩ := h
  obtain ⟨p, cap, rfl, _⟩ := hc.form
  exact ⟨p, cap, by simp [World.cell?, hB], by simp [World.cell?, hB], fun j => by simp [World.frozen?, hB]⟩

theorem caseAt_new {W : World} {c : Cs} {u : Value} {k : Nat} (ho : Owns W 0 u c.held) (hk : W.heap.size = k) :
    CaseAt (W.alloc (.cells #[.bool c.el, .int .u8 c.st, .int .i64 c.opened, .int .i64 c.days, .int .i64 c.choice, .int .i64 c.level, .int .i64 c.due, .bool c.hold, .int .i64 c.since, u] 39)) k c := by
  subst hk
  exact ⟨u, World.alloc_heap_new W _, World.ownsRow.alloc ho _⟩
theorem ownP_at {L : List Cs} {f : Fl} {k : Nat} (hk : f.case = (k : Int) + 1) (hkl : k < L.length) : ownP L f = passP L[k] f.day := by
  unfold ownP
  rw [show f.case.toNat - 1 = k by omega, List.getD_eq_getElem?_getD, List.getElem?_eq_getElem hkl]; rfl

theorem flbox_mid {w W1 : World} {f : Fl} {o : Obj} {n C : Nat} (q : But C (((w.alloc (.cells #[.int .u8 f.kind, .int .i64 f.day, .int .i64 f.case, .int .i64 f.n, .int .i64 f.til, .bool f.hold] 30)).drewN n).alloc o) W1) (hC : w.heap.size ≠ C) : FlBox W1 w.heap.size f := by
  have h1 : FlBox (w.alloc (.cells #[.int .u8 f.kind, .int .i64 f.day, .int .i64 f.case, .int .i64 f.n, .int .i64 f.til, .bool f.hold] 30)) w.heap.size f := World.alloc_heap_new w _
  have h2 := h1.of_block (((Below.refl _ ((w.alloc (.cells #[.int .u8 f.kind, .int .i64 f.day, .int .i64 f.case, .int .i64 f.n, .int .i64 f.til, .bool f.hold] 30)).drewN n)).alloc (Nat.le_refl _) o).block w.heap.size h1.lt)
  exact h2.of_block (q.block _ h2.lt hC)

theorem DkAt.drew {W : World} {base B : Nat} {L : List Cs} {last : Int} (h : DkAt W base B L last) : DkAt W.drew base B L last := h
theorem DFr.drew {base B : Nat} {w w' : World} (h : DFr base B w w') : DFr base B w w'.drew := ⟨h.os, h.tape, h.output, h.size, h.block⟩
/-- Ten cells of a row, written one by one. -/
def setCase (W : World) (g i : Nat) (c : Cs) (u : Value) : World :=
  (((((((((W.setCell ⟨g, i, none⟩ (.bool c.el)).setCell ⟨g, i + 1, none⟩ (.int .u8 c.st)).setCell ⟨g, i + 2, none⟩ (.int .i64 c.opened)).setCell ⟨g, i + 3, none⟩ (.int .i64 c.days)).setCell ⟨g, i + 4, none⟩ (.int .i64 c.choice)).setCell ⟨g, i + 5, none⟩ (.int .i64 c.level)).setCell ⟨g, i + 6, none⟩ (.int .i64 c.due)).setCell ⟨g, i + 7, none⟩ (.bool c.hold)).setCell ⟨g, i + 8, none⟩ (.int .i64 c.since)).setCell ⟨g, i + 9, none⟩ u
theorem setCase_but (W : World) (g i : Nat) (c : Cs) (u : Value) : But g W (setCase W g i c u) :=
  (((((((((But.refl g W).set_ _ _).set_ _ _).set_ _ _).set_ _ _).set_ _ _).set_ _ _).set_ _ _).set_ _ _).set_ _ _ |>.set_ _ _
theorem setCell_row {W : World} {g i : Nat} {cur : Array Value} {t : TypeId} (v : Value) (h : W.heap[g]? = some (.cells cur t (0, 0))) : (W.setCell ⟨g, i, none⟩ v).heap[g]? = some (.cells (cur.setIfInBounds i v) t (0, 0)) := by
  simp only [World.setCell, Array.getElem?_modify, h]; rfl
def set10 (xs : List Value) (i : Nat) (c : Cs) (u : Value) : List Value :=
  (((((((((xs.set i (.bool c.el)).set (i + 1) (.int .u8 c.st)).set (i + 2) (.int .i64 c.opened)).set (i + 3) (.int .i64 c.days)).set (i + 4) (.int .i64 c.choice)).set (i + 5) (.int .i64 c.level)).set (i + 6) (.int .i64 c.due)).set (i + 7) (.bool c.hold)).set (i + 8) (.int .i64 c.since)).set (i + 9) u
theorem setCase_row {W : World} {g i : Nat} {cur : Array Value} {t : TypeId} (c : Cs) (u : Value) (h : W.heap[g]? = some (.cells cur t (0, 0))) : ∃ cur', (setCase W g i c u).heap[g]? = some (.cells cur' t (0, 0)) ∧ cur'.toList = set10 cur.toList i c u := by
  unfold setCase
  refine ⟨_, setCell_row _ (setCell_row _ (setCell_row _ (setCell_row _ (setCell_row _ (setCell_row _ (setCell_row _ (setCell_row _ (setCell_row _ (setCell_row _ h))))))))), ?_⟩
  unfold set10
  simp only [Array.toList_setIfInBounds]
theorem set10_cons (x : Value) (xs : List Value) (i : Nat) (c : Cs) (u : Value) : set10 (x :: xs) (i + 1) c u = x :: set10 xs i c u := by
  unfold set10
  simp only [List.set_cons_succ, show ∀ j, i + 1 + j = (i + j) + 1 from fun j => by omega]
theorem set10_flat (ps : List (Cs × Value)) (c : Cs) (u : Value) : ∀ k : Nat, k < ps.length → set10 (cflat ps) (k * 10) c u = cflat (ps.set k (c, u)) := by
  induction ps with
  | nil => intro k h; simp at h
  | cons p ps ih =>
    intro k h
    cases k with
    | zero => rfl
    | succ k =>
      rw [show (k + 1) * 10 = k * 10 + 1 + 1 + 1 + 1 + 1 + 1 + 1 + 1 + 1 + 1 by omega, List.set_cons_succ, cflat_cons, cflat_cons, ← ih k (by simpa using h)]
      unfold csRow
      simp only [List.cons_append, List.nil_append, set10_cons]
theorem set10_take (xs : List Value) (m i : Nat) (c : Cs) (u : Value) : (set10 xs i c u).take m = set10 (xs.take m) i c u := by
  unfold set10; simp only [List.take_set]
theorem set10_length (xs : List Value) (i : Nat) (c : Cs) (u : Value) : (set10 xs i c u).length = xs.length := by unfold set10; simp only [List.length_set]

theorem Owns.butCase {W W' : World} {g : Nat} {cur : Array Value} (hg : W.heap[g]? = some (.cells cur 39 (0, 0))) (hb : But g W W') {b0 : Nat} {v : Value} {l : Sps} (ho : Owns W b0 v l) : Owns W' b0 v l := by
  refine ⟨ho.1, ?_⟩
  rcases ho.2 with h1 | ⟨g', cap, cur', e, hb', hg', rest⟩
  · exact .inl h1
  · refine .inr ⟨g', cap, cur', e, hb', (hb.block g' (Array.getElem?_eq_some_iff.1 hg').1 ?_).trans hg', rest⟩
    rintro rfl
    rw [hg] at hg'
    injection hg' with hg'
    injection hg' with _ e _
    exact absurd e (by decide)

/-- A case of a row is written. -/
theorem CRow.store {W : World} {base : Nat} {v : Value} {ps : List (Cs × Value)} (h : CRow W base v ps) {g k : Nat} (hv : v.ownBlock = some g) (hk : k < ps.length) (c : Cs) (u : Value) (ho : Owns W 0 u c.held) :
    CRow (setCase W g (k * 10) c u) base v (ps.set k (c, u)) := by
  rcases h.1.2 with ⟨_, h0⟩ | ⟨g', cap, cur, rfl, hb, hg, hn, hm, hs, ht⟩
  · omega
  · obtain rfl : g' = g := by simpa [Value.ownBlock] using hv
    obtain ⟨cur', hc1, hc2⟩ := setCase_row (i := k * 10) c u hg
    have hbut := setCase_but W g' (k * 10) c u
    refine ⟨⟨by rw [cflat_length, List.length_set], .inr ⟨g', cap, cur', by rw [List.length_set], hb, hc1, by rw [List.length_set]; exact hn, hm, ?_, ?_⟩⟩, fun p hp => ?_⟩
    · rw [← Array.length_toList, hc2, set10_length, Array.length_toList]; exact hs
    · rw [List.length_set, hc2, set10_take, ht, set10_flat ps c u k hk]
    · rcases List.mem_or_eq_of_mem_set hp with hp | rfl
      · exact (h.2 p hp).butCase hg hbut
      · exact Owns.butCase hg hbut ho

/-- A docket's case is written. -/
theorem DkAt.store {W : World} {base B : Nat} {L : List Cs} {last : Int} (h : DkAt W base B L last) {g k cap : Nat} (hc : W.cell? ⟨B, 0, none⟩ = some (.slice (some ⟨g, 0, none⟩) L.length cap)) (hk : k < L.length) (c : Cs) (u : Value) (ho : Owns W 0 u c.held) :
    DkAt (setCase W g (k * 10) c u) base B (L.set k c) last ∧ DFr base B W (setCase W g (k * 10) c u) := by
  obtain ⟨v, ps, rfl, hB, hr⟩ := h
  have e : v = .slice (some ⟨g, 0, none⟩) (ps.map Prod.fst).length cap := by simpa [World.cell?, hB] using hc
  rw [List.length_map] at hk
  have hv : v.ownBlock = some g := by rw [e]; rfl
  obtain ⟨p, cap', e2, hr2⟩ := hr.form
  obtain ⟨g2, rfl, hbg, hv2, ⟨cur, hg⟩, _⟩ := hr2 (by intro e; subst e; simp at hk)
  obtain rfl : g2 = g := by rw [hv] at hv2; exact (Option.some.inj hv2).symm
  have hne : B ≠ g2 := by
    rintro rfl
    rw [hB] at hg
    injection hg with hg
    injection hg with _ e _
    exact absurd e (by decide)
  have hbut := setCase_but W g2 (k * 10) c u
  refine ⟨⟨v, ps.set k (c, u), by rw [List.map_set], (hbut.block B (Array.getElem?_eq_some_iff.1 hB).1 hne).trans hB, hr.store hv hk c u ho⟩, ⟨hbut.os, hbut.tape, hbut.output, hbut.size, fun j hj hjB hcs => hbut.block j hj ?_⟩⟩
  intro ej
  rw [ej] at hcs
  rcases hcs with hcs | hcs
  · omega
  · exact hcs cur (0, 0) hg

set_option maxHeartbeats 2000000 in
set_option maxRecDepth 100000 in
theorem change_go (base B F : Nat) (L : List Cs) (last : Int) (f : Fl) (kf : Nat) (ek : ∀ args w, (callFunc kf args).run Try.prog w = .ok (.enter kf args) w) (he : EffOf kf f) (w : World) (h : DkAt w base B L last) (hf : FlBox w F f) (h1 : 1 ≤ f.case) (h2 : f.case ≤ L.length) (hL : L.length ≤ 100) (okc : ∀ c ∈ L, c.Ok)
    (hst : (ownP L f).st = needP f.kind) (hch : ¬ ((ownP L f).days < f.n ∧ f.kind = 2)) :
    Calls Try.prog 66 #[.pointer (some ⟨B, 0, none⟩), flAgg f, .int .u8 (needP f.kind), .func (.func kf) #[] #[.pointer (some ⟨F, 0, none⟩)]] w fun e w' => e = .returned (.int .i64 0) ∧ DkAt w' base B (L.set (f.case.toNat - 1) (effP f (ownP L f))) last ∧ DFr base B w w' := by
  obtain ⟨k, hk⟩ : ∃ k : Nat, f.case = (k : Int) + 1 := ⟨(f.case - 1).toNat, by omega⟩
  have hkl : k < L.length := by omega
  have EO := Lib.hid (ownP_at hk hkl)
  rw [EO.out] at hst hch
  have HE := Lib.hid he
  have HD := Lib.hid h
  have HF := Lib.hid hf
  have HST := Lib.hid hst
  have HCH := Lib.hid hch
  have OK := Lib.hid (okc _ (List.getElem_mem hkl))
  obtain ⟨g, cap, u, c0, _, hgB, hbg, hcc, ho, hz⟩ := h.read k hkl
  obtain ⟨pu, cu, rfl, _⟩ := ho.form
  have HO := Lib.hid ho
  have C0 := Lib.hid c0
  have CC := Lib.hid hcc
  have HZ := Lib.hid hz
  obtain ⟨r0, r1, r2, r3, r4, r5, r6, r7, r8, r9⟩ := hcc
  have hBl := h.lt
  have hgl := World.block_lt_of_cell? w _ r0
  have hFl := hf.lt
  unfold flAgg
  rw [hk]
  obtain ⟨nd, hnd⟩ : ∃ nd, nd = needP f.kind := ⟨_, rfl⟩
  rw [← hnd]
  have HND := Lib.hid hnd
  clear h hf ho hst hch he hnd hk
  go_enter Try.func66, Try.ntmps66
  go_wp2
  go_quiet (fail)
  go_wp2
  go_region
  go_wp2_with fail
  refine (pass_any (w.heap.size + 1) L[k] f.day _ (caseAt_new ?_ ?_) OK.out).mono ?_
  · exact World.ownsRow.alloc HO.out _
  · simp
  rintro e W1 ⟨rfl, q1, q2⟩
  have HB1 := Lib.hid (q2.belowOf (base := w.heap.size) (w0 := w) ((below_drewN ((Below.refl _ _).alloc (Nat.le_refl _) _) _).alloc (by simp) _) (by simp; omega) (by omega))
  have e2 := (flbox_mid (f := { f with case := (k : Int) + 1 }) q2 (by omega)).cell.2.2.1
  dsimp only at e2
  have ok1 := Lib.hid (passP_ok OK.out f.day)
  have D1 := Lib.hid (HD.out.later HB1.out)
  have F1 := Lib.hid (HF.out.of_block (HB1.out.block F hFl))
  have Q1 := Lib.hid q1
  have z1 := HB1.out.size
  have hC1 : w.heap.size + 1 < W1.heap.size := by
    obtain ⟨_, A1, _⟩ := q1; exact A1.lt
  obtain ⟨v1, A1, _⟩ := q1
  have g1 := A1.cell.2.1
  rw [HST.out, ← HND.out] at g1
  clear q2 A1 c0 r0 r1 r2 r3 r4 r5 r6 r7 r8 r9 hz
  go_wp2_with fail
  refine ((HE.out (w.heap.size + 1) F (passP L[k] f.day) W1 Q1.out F1.out ok1.out HST.out).2 HCH.out).mono ?_
  rintro e W2 ⟨rfl, q3, q4⟩
  have HB2 := Lib.hid (q4.belowOf (base := w.heap.size) (w0 := w) HB1.out z1 (by omega))
  have D2 := Lib.hid (HD.out.later HB2.out)
  have e3 : W2.cell? ⟨w.heap.size, 2, none⟩ = some (.int .i64 ((k : Int) + 1)) := by
    rw [World.cell?_of_block (a := ⟨w.heap.size, 2, none⟩) (q4.block w.heap.size (by omega) (by omega))]
    exact e2
  have Q3 := Lib.hid q3
  obtain ⟨v3, A3, O3⟩ := q3
  obtain ⟨pv, cv, rfl, _⟩ := O3.form
  obtain ⟨t0, t1, t2, t3, t4, t5, t6, t7, t8, t9⟩ := A3.cell
  have c0 : W2.cell? ⟨B, 0, none⟩ = some (.slice (some ⟨g, 0, none⟩) L.length cap) := (HB2.out.cell (p := ⟨B, 0, none⟩) hBl).trans C0.out
  obtain ⟨r0, r1, r2, r3, r4, r5, r6, r7, r8, r9⟩ := CC.out.of_block (HB2.out.block g hgl)
  have hz' : ∀ j, W2.frozen? ⟨g, j, none⟩ = false := fun j => (HB2.out.frozen (p := ⟨g, j, none⟩) hgl).trans (HZ.out j)
  have x0 := hz' (k * 10)
  have x1 := hz' (k * 10 + 1)
  have x2 := hz' (k * 10 + 2)
  have x3 := hz' (k * 10 + 3)
  have x4 := hz' (k * 10 + 4)
  have x5 := hz' (k * 10 + 5)
  have x6 := hz' (k * 10 + 6)
  have x7 := hz' (k * 10 + 7)
  have x8 := hz' (k * 10 + 8)
  have x9 := hz' (k * 10 + 9)
  have s3 := D2.out.store c0 hkl (effP f (passP L[k] f.day)) _ O3
  unfold setCase at s3
  have S3 := Lib.hid s3
  clear s3
  have hgC : g ≠ w.heap.size + 1 := by omega
  clear hz' e2 g1 q4 O3
  go_wp2
  go_region
  go_wp2
  go_ret
  refine ⟨rfl, ?_, ?_⟩
  · rw [EO.out, show ((k : Int) + 1).toNat - 1 = k by omega]; exact S3.out.1.drew
  · exact ((DFr.of_below HB2.out).trans S3.out.2).drew

end Go.Proofs.Ytbpoedopdnjffaa
