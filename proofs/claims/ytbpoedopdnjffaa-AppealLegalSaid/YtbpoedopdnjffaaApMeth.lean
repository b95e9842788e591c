/- The list's methods: what each filing does to a docket. -/
import Derived.Test.YtbpoedopdnjffaaApOpen
namespace Go.Proofs.Ytbpoedopdnjffaa
open Go.RowKit Go.Shelf Sp

set_option maxHeartbeats 2000000 in
set_option maxRecDepth 100000 in
theorem change_none (base B F : Nat) (L : List Cs) (last : Int) (f : Fl) (kf : Nat) (w : World) (h : DkAt w base B L last) (hc2 : (L.length : Int) < f.case) :
    Calls Try.prog 66 #[.pointer (some ⟨B, 0, none⟩), flAgg f, .int .u8 (needP f.kind), .func (.func kf) #[] #[.pointer (some ⟨F, 0, none⟩)]] w fun e w' => e = .returned (.int .i64 6) ∧ Below w.heap.size w w' := by
  obtain ⟨p, cap, c0, _, _⟩ := h.cell
  have hBl := h.lt
  unfold flAgg
  obtain ⟨nd, hnd⟩ : ∃ nd, nd = needP f.kind := ⟨_, rfl⟩
  rw [← hnd]
  clear h hnd
  go_enter Try.func66, Try.ntmps66
  go_wp2
  go_quiet (fail)
  go_wp2
  go_ret
  exact ⟨rfl, below_drewN ((Below.refl _ _).alloc (Nat.le_refl _) _) _⟩

set_option maxHeartbeats 2000000 in
set_option maxRecDepth 100000 in
theorem change_bad (base B F : Nat) (L : List Cs) (last : Int) (f : Fl) (kf : Nat) (ek : ∀ args w, (callFunc kf args).run Try.prog w = .ok (.enter kf args) w) (he : EffOf kf f) (w : World) (h : DkAt w base B L last) (hf : FlBox w F f) (h1 : 1 ≤ f.case) (h2 : f.case ≤ L.length) (hL : L.length ≤ 100) (okc : ∀ c ∈ L, c.Ok)
    (hbad : (ownP L f).st ≠ needP f.kind ∨ ((ownP L f).st = needP f.kind ∧ (ownP L f).days < f.n ∧ f.kind = 2)) :
    Calls Try.prog 66 #[.pointer (some ⟨B, 0, none⟩), flAgg f, .int .u8 (needP f.kind), .func (.func kf) #[] #[.pointer (some ⟨F, 0, none⟩)]] w fun e w' => e = .returned (.int .i64 (if (ownP L f).st ≠ needP f.kind then 401 else 402)) ∧ Below w.heap.size w w' := by
  obtain ⟨k, hk⟩ : ∃ k : Nat, f.case = (k : Int) + 1 := ⟨(f.case - 1).toNat, by omega⟩
  have hkl : k < L.length := by omega
  have EO := Lib.hid (ownP_at hk hkl)
  rw [EO.out] at hbad ⊢
  have HE := Lib.hid he
  have HD := Lib.hid h
  have HF := Lib.hid hf
  have OK := Lib.hid (okc _ (List.getElem_mem hkl))
  obtain ⟨g, cap, u, c0, _, hgB, hbg, hcc, ho, hz⟩ := h.read k hkl
  obtain ⟨pu, cu, rfl, _⟩ := ho.form
  have HO := Lib.hid ho
  obtain ⟨r0, r1, r2, r3, r4, r5, r6, r7, r8, r9⟩ := hcc
  have hBl := h.lt
  have hgl := World.block_lt_of_cell? w _ r0
  have hFl := hf.lt
  unfold flAgg
  rw [hk]
  obtain ⟨nd, hnd⟩ : ∃ nd, nd = needP f.kind := ⟨_, rfl⟩
  rw [← hnd] at hbad ⊢
  have HND := Lib.hid hnd
  have HB := Lib.hid hbad
  obtain ⟨ee, hee⟩ : ∃ ee : Int, ee = if (passP L[k] f.day).st ≠ nd then 401 else 402 := ⟨_, rfl⟩
  rw [← hee]
  have HEE := Lib.hid hee
  clear h hf ho he hnd hk hbad hee
  go_enter Try.func66, Try.ntmps66
  go_wp2
  go_quiet (fail)
  go_wp2
  go_region
  go_wp2_with fail
  refine (pass_any (w.heap.size + 1) L[k] f.day _ (caseAt_new ?_ ?_) OK.out).mono ?_
  · exact World.ownsRow.alloc HO.out _
  · simp
  rintro e W1 ⟨rfl, q1, q2⟩
  have HB1 := Lib.hid (q2.belowOf (base := w.heap.size) (w0 := w) ((below_drewN ((Below.refl _ _).alloc (Nat.le_refl _) _) _).alloc (by simp) _) (by simp; omega) (by omega))
  have ok1 := Lib.hid (passP_ok OK.out f.day)
  have F1 := Lib.hid (HF.out.of_block (HB1.out.block F hFl))
  have Q1 := Lib.hid q1
  have z1 := HB1.out.size
  obtain ⟨v1, A1, _⟩ := q1
  have g1 := A1.cell.2.1
  by_cases hst : (passP L[k] f.day).st = nd
  · have hch : (passP L[k] f.day).days < f.n ∧ f.kind = 2 := by
      rcases HB.out with h | h
      · exact absurd hst h
      · exact h.2
    have HCH := Lib.hid hch
    have HST := Lib.hid hst
    rw [hst] at g1
    have E := Lib.hid (show ee = 402 by rw [HEE.out, if_neg (by simpa using hst)])
    clear q2 A1 c0 r0 r1 r2 r3 r4 r5 r6 r7 r8 r9 hz hch hst
    go_wp2_with fail
    refine ((HE.out (w.heap.size + 1) F (passP L[k] f.day) W1 Q1.out F1.out ok1.out (HST.out.trans HND.out)).1 HCH.out).mono ?_
    rintro e W2 ⟨rfl, q4⟩
    have HB2 := Lib.hid (q4.belowOf (base := w.heap.size) (w0 := w) HB1.out z1 (by omega))
    clear q4
    go_wp2
    go_ret
    exact ⟨ret_int E.out.symm, HB2.out⟩
  · have bst : ((passP L[k] f.day).st != nd) = true := by simpa using hst
    have E := Lib.hid (show ee = 401 by rw [HEE.out, if_pos hst])
    clear q2 A1 c0 r0 r1 r2 r3 r4 r5 r6 r7 r8 r9 hz hst
    go_wp2
    go_ret
    exact ⟨ret_int E.out.symm, HB1.out⟩

/-- What a method leaves: the error, the docket, all else. -/
def MPost (base B : Nat) (L : List Cs) (last : Int) (f : Fl) (w : World) (e : Ending) (w' : World) : Prop :=
  e = .returned (.int .i64 (errL L f)) ∧ DkAt w' base B (if errL L f = 0 then effL L f else L) last ∧ DFr base B w w'

theorem change_any (base B F : Nat) (L : List Cs) (last : Int) (f : Fl) (kf : Nat) (ek : ∀ args w, (callFunc kf args).run Try.prog w = .ok (.enter kf args) w) (he : EffOf kf f) (w : World) (h : DkAt w base B L last) (hf : FlBox w F f) (ho : opensP f = false) (h1 : 1 ≤ f.case) (hL : L.length ≤ 100) (okc : ∀ c ∈ L, c.Ok) :
    Calls Try.prog 66 #[.pointer (some ⟨B, 0, none⟩), flAgg f, .int .u8 (needP f.kind), .func (.func kf) #[] #[.pointer (some ⟨F, 0, none⟩)]] w (MPost base B L last f w) := by
  have hno : ¬ opensP f = true := by rw [ho]; decide
  by_cases h2 : (L.length : Int) < f.case
  · have e : errL L f = 6 := by unfold errL; rw [if_neg hno, if_pos h2]
    refine (change_none base B F L last f kf w h h2).mono fun e' W ⟨he, hb⟩ => ⟨by rw [e]; exact he, by rw [e, if_neg (by decide)]; exact h.later hb, .of_below hb⟩
  · by_cases h3 : (ownP L f).st = needP f.kind
    · by_cases h4 : (ownP L f).days < f.n ∧ f.kind = 2
      · have e : errL L f = 402 := by unfold errL; rw [if_neg hno, if_neg h2, if_neg (by simpa using h3), if_pos ⟨h4.2, h4.1⟩]
        refine (change_bad base B F L last f kf ek he w h hf h1 (by omega) hL okc (.inr ⟨h3, h4⟩)).mono fun e' W ⟨he, hb⟩ => ⟨by rw [e, he, if_neg (by simpa using h3)], by rw [e, if_neg (by decide)]; exact h.later hb, .of_below hb⟩
      · have e : errL L f = 0 := by unfold errL; rw [if_neg hno, if_neg h2, if_neg (by simpa using h3), if_neg (fun h => h4 ⟨h.2, h.1⟩)]
        refine (change_go base B F L last f kf ek he w h hf h1 (by omega) hL okc h3 h4).mono fun e' W ⟨he, hd, hb⟩ => ⟨by rw [e, he], by rw [e, if_pos rfl, effL, if_neg hno]; exact hd, hb⟩
    · have e : errL L f = 401 := by unfold errL; rw [if_neg hno, if_neg h2, if_pos h3]
      refine (change_bad base B F L last f kf ek he w h hf h1 (by omega) hL okc (.inl h3)).mono fun e' W ⟨he, hb⟩ => ⟨by rw [e, he, if_pos h3], by rw [e, if_neg (by decide)]; exact h.later hb, .of_below hb⟩

set_option maxHeartbeats 2000000 in
theorem open_full (base B : Nat) (L : List Cs) (last : Int) (c : Cs) (w : World) (h : DkAt w base B L last) (hL : 100 ≤ L.length) (hL2 : L.length ≤ 100) :
    Calls Try.prog 65 #[.pointer (some ⟨B, 0, none⟩), .agg #[.bool c.el, .int .u8 c.st, .int .i64 c.opened, .int .i64 c.days, .int .i64 c.choice, .int .i64 c.level, .int .i64 c.due, .bool c.hold, .int .i64 c.since, .slice none 0 0]] w
      fun e w' => e = .returned (.int .i64 4) ∧ Below w.heap.size w w' := by
  obtain ⟨p, cap, c0, _, _⟩ := h.cell
  have hBl := h.lt
  clear h
  go_enter Try.func65, Try.ntmps65
  go_wp2
  go_ret
  exact ⟨rfl, (Below.refl _ _).alloc (Nat.le_refl _) _⟩

theorem open_any (base B : Nat) (L : List Cs) (last : Int) (f : Fl) (ho : opensP f = true) (w : World) (h : DkAt w base B L last) (hb : base ≤ w.heap.size) (hL : L.length ≤ 100) :
    Calls Try.prog 65 #[.pointer (some ⟨B, 0, none⟩), .agg #[.bool (newCase f).el, .int .u8 (newCase f).st, .int .i64 (newCase f).opened, .int .i64 (newCase f).days, .int .i64 (newCase f).choice, .int .i64 (newCase f).level, .int .i64 (newCase f).due, .bool (newCase f).hold, .int .i64 (newCase f).since, .slice none 0 0]] w
      (MPost base B L last f w) := by
  by_cases h1 : 100 ≤ L.length
  · have e : errL L f = 4 := by unfold errL; rw [if_pos ho, if_pos h1]
    refine (open_full base B L last (newCase f) w h h1 hL).mono fun e' W ⟨he, hb⟩ => ⟨by rw [e]; exact he, by rw [e, if_neg (by decide)]; exact h.later hb, .of_below hb⟩
  · have e : errL L f = 0 := by unfold errL; rw [if_pos ho, if_neg h1]
    refine (open_go base B L last (newCase f) (by unfold newCase; split <;> rfl) w h hb (by omega)).mono fun e' W ⟨he, hd, hf⟩ => ⟨by rw [e]; exact he, by rw [e, if_pos rfl, effL, if_pos ho]; exact hd, hf⟩

theorem MPost.pre {base B : Nat} {L : List Cs} {last : Int} {f : Fl} {w w0 : World} {e : Ending} {w' : World} (h : MPost base B L last f w0 e w') (hb : Below w.heap.size w w0) : MPost base B L last f w e w' := ⟨h.1, h.2.1, (DFr.of_below hb).trans h.2.2⟩
theorem flbox_new (w : World) (f : Fl) : FlBox (w.alloc (.cells #[.int .u8 f.kind, .int .i64 f.day, .int .i64 f.case, .int .i64 f.n, .int .i64 f.til, .bool f.hold] 30)) w.heap.size f := World.alloc_heap_new w _

set_option maxHeartbeats 2000000 in
theorem choose_any (base B : Nat) (L : List Cs) (last : Int) (f : Fl) (hk : f.kind = 2) (hw : f.Wf) (w : World) (h : DkAt w base B L last) (hL : L.length ≤ 100) (okc : ∀ c ∈ L, c.Ok) :
    Calls Try.prog 48 #[.pointer (some ⟨B, 0, none⟩), flAgg f] w (MPost base B L last f w) := by
  have hn : needP f.kind = 1 := by rw [hk]; decide
  have HC := Lib.hid (change_any base B w.heap.size L last f 67 (enters_of Try.func67 (by kernel_rfl) rfl) (choose1_eff f hk) (w.alloc (.cells #[.int .u8 f.kind, .int .i64 f.day, .int .i64 f.case, .int .i64 f.n, .int .i64 f.til, .bool f.hold] 30))
    (h.later ((Below.refl _ _).alloc (Nat.le_refl _) _)) (flbox_new w f) (by unfold opensP; rw [hk]; rfl) (hw.kc (by omega) (by omega)).1 hL okc)
  rw [hn] at HC
  unfold flAgg at HC ⊢
  clear h hk hw hn okc hL
  go_enter Try.func48, Try.ntmps48
  go_wp2_with fail
  refine HC.out.mono ?_
  rintro e W ⟨rfl, hd, hfr⟩
  have R := Lib.hid (show MPost base B L last f w (.returned (.int .i64 (errL L f))) W from MPost.pre ⟨rfl, hd, hfr⟩ ((Below.refl _ _).alloc (Nat.le_refl _) _))
  clear hd hfr
  obtain ⟨ee, hee⟩ : ∃ ee, ee = errL L f := ⟨_, rfl⟩
  rw [← hee] at R ⊢
  clear hee
  go_wp2
  go_ret
  exact R.out

set_option maxHeartbeats 2000000 in
theorem lock_any (base B : Nat) (L : List Cs) (last : Int) (f : Fl) (hk : f.kind = 3) (hw : f.Wf) (w : World) (h : DkAt w base B L last) (hL : L.length ≤ 100) (okc : ∀ c ∈ L, c.Ok) :
    Calls Try.prog 49 #[.pointer (some ⟨B, 0, none⟩), flAgg f] w (MPost base B L last f w) := by
  have hn : needP f.kind = 1 := by rw [hk]; decide
  have HC := Lib.hid (change_any base B w.heap.size L last f 68 (enters_of Try.func68 (by kernel_rfl) rfl) (lock1_eff f hk) (w.alloc (.cells #[.int .u8 f.kind, .int .i64 f.day, .int .i64 f.case, .int .i64 f.n, .int .i64 f.til, .bool f.hold] 30))
    (h.later ((Below.refl _ _).alloc (Nat.le_refl _) _)) (flbox_new w f) (by unfold opensP; rw [hk]; rfl) (hw.kc (by omega) (by omega)).1 hL okc)
  rw [hn] at HC
  unfold flAgg at HC ⊢
  clear h hk hw hn okc hL
  go_enter Try.func49, Try.ntmps49
  go_wp2_with fail
  refine HC.out.mono ?_
  rintro e W ⟨rfl, hd, hfr⟩
  have R := Lib.hid (show MPost base B L last f w (.returned (.int .i64 (errL L f))) W from MPost.pre ⟨rfl, hd, hfr⟩ ((Below.refl _ _).alloc (Nat.le_refl _) _))
  clear hd hfr
  obtain ⟨ee, hee⟩ : ∃ ee, ee = errL L f := ⟨_, rfl⟩
  rw [← hee] at R ⊢
  clear hee
  go_wp2
  go_ret
  exact R.out

set_option maxHeartbeats 2000000 in
theorem appeal_any (base B : Nat) (L : List Cs) (last : Int) (f : Fl) (hk : f.kind = 5) (hw : f.Wf) (w : World) (h : DkAt w base B L last) (hL : L.length ≤ 100) (okc : ∀ c ∈ L, c.Ok) :
    Calls Try.prog 51 #[.pointer (some ⟨B, 0, none⟩), flAgg f] w (MPost base B L last f w) := by
  have hn : needP f.kind = 2 := by rw [hk]; decide
  have HC := Lib.hid (change_any base B w.heap.size L last f 69 (enters_of Try.func69 (by kernel_rfl) rfl) (appeal1_eff f hk hw.day) (w.alloc (.cells #[.int .u8 f.kind, .int .i64 f.day, .int .i64 f.case, .int .i64 f.n, .int .i64 f.til, .bool f.hold] 30))
    (h.later ((Below.refl _ _).alloc (Nat.le_refl _) _)) (flbox_new w f) (by unfold opensP; rw [hk]; rfl) (hw.kc (by omega) (by omega)).1 hL okc)
  rw [hn] at HC
  unfold flAgg at HC ⊢
  clear h hk hw hn okc hL
  go_enter Try.func51, Try.ntmps51
  go_wp2_with fail
  refine HC.out.mono ?_
  rintro e W ⟨rfl, hd, hfr⟩
  have R := Lib.hid (show MPost base B L last f w (.returned (.int .i64 (errL L f))) W from MPost.pre ⟨rfl, hd, hfr⟩ ((Below.refl _ _).alloc (Nat.le_refl _) _))
  clear hd hfr
  obtain ⟨ee, hee⟩ : ∃ ee, ee = errL L f := ⟨_, rfl⟩
  rw [← hee] at R ⊢
  clear hee
  go_wp2
  go_ret
  exact R.out

set_option maxHeartbeats 2000000 in
theorem rule_any (base B : Nat) (L : List Cs) (last : Int) (f : Fl) (hk : f.kind = 6) (hw : f.Wf) (w : World) (h : DkAt w base B L last) (hL : L.length ≤ 100) (okc : ∀ c ∈ L, c.Ok) :
    Calls Try.prog 52 #[.pointer (some ⟨B, 0, none⟩), flAgg f] w (MPost base B L last f w) := by
  have hn : needP f.kind = 3 := by rw [hk]; decide
  have HC := Lib.hid (change_any base B w.heap.size L last f 70 (enters_of Try.func70 (by kernel_rfl) rfl) (rule1_eff f hk hw.day) (w.alloc (.cells #[.int .u8 f.kind, .int .i64 f.day, .int .i64 f.case, .int .i64 f.n, .int .i64 f.til, .bool f.hold] 30))
    (h.later ((Below.refl _ _).alloc (Nat.le_refl _) _)) (flbox_new w f) (by unfold opensP; rw [hk]; rfl) (hw.kc (by omega) (by omega)).1 hL okc)
  rw [hn] at HC
  unfold flAgg at HC ⊢
  clear h hk hw hn okc hL
  go_enter Try.func52, Try.ntmps52
  go_wp2_with fail
  refine HC.out.mono ?_
  rintro e W ⟨rfl, hd, hfr⟩
  have R := Lib.hid (show MPost base B L last f w (.returned (.int .i64 (errL L f))) W from MPost.pre ⟨rfl, hd, hfr⟩ ((Below.refl _ _).alloc (Nat.le_refl _) _))
  clear hd hfr
  obtain ⟨ee, hee⟩ : ∃ ee, ee = errL L f := ⟨_, rfl⟩
  rw [← hee] at R ⊢
  clear hee
  go_wp2
  go_ret
  exact R.out

set_option maxHeartbeats 2000000 in
theorem withdraw_any (base B : Nat) (L : List Cs) (last : Int) (f : Fl) (hk : f.kind = 7) (hw : f.Wf) (w : World) (h : DkAt w base B L last) (hL : L.length ≤ 100) (okc : ∀ c ∈ L, c.Ok) :
    Calls Try.prog 53 #[.pointer (some ⟨B, 0, none⟩), flAgg f] w (MPost base B L last f w) := by
  have hn : needP f.kind = 3 := by rw [hk]; decide
  have HC := Lib.hid (change_any base B w.heap.size L last f 72 (enters_of Try.func72 (by kernel_rfl) rfl) (withdraw1_eff f hk) (w.alloc (.cells #[.int .u8 f.kind, .int .i64 f.day, .int .i64 f.case, .int .i64 f.n, .int .i64 f.til, .bool f.hold] 30))
    (h.later ((Below.refl _ _).alloc (Nat.le_refl _) _)) (flbox_new w f) (by unfold opensP; rw [hk]; rfl) (hw.kc (by omega) (by omega)).1 hL okc)
  rw [hn] at HC
  unfold flAgg at HC ⊢
  clear h hk hw hn okc hL
  go_enter Try.func53, Try.ntmps53
  go_wp2_with fail
  refine HC.out.mono ?_
  rintro e W ⟨rfl, hd, hfr⟩
  have R := Lib.hid (show MPost base B L last f w (.returned (.int .i64 (errL L f))) W from MPost.pre ⟨rfl, hd, hfr⟩ ((Below.refl _ _).alloc (Nat.le_refl _) _))
  clear hd hfr
  obtain ⟨ee, hee⟩ : ∃ ee, ee = errL L f := ⟨_, rfl⟩
  rw [← hee] at R ⊢
  clear hee
  go_wp2
  go_ret
  exact R.out

set_option maxHeartbeats 2000000 in
theorem elect_any (base B : Nat) (L : List Cs) (last : Int) (f : Fl) (hk : f.kind = 1) (hw : f.Wf) (w : World) (h : DkAt w base B L last) (hb : base ≤ w.heap.size) (hL : L.length ≤ 100) :
    Calls Try.prog 47 #[.pointer (some ⟨B, 0, none⟩), flAgg f] w (MPost base B L last f w) := by
  have hd := hw.day
  have hn := hw.k1 hk
  have HC := Lib.hid (open_any base B L last f (by unfold opensP; rw [hk]; rfl) (w.alloc (.cells #[.int .u8 f.kind, .int .i64 f.day, .int .i64 f.case, .int .i64 f.n, .int .i64 f.til, .bool f.hold] 30))
    (h.later ((Below.refl _ _).alloc (Nat.le_refl _) _)) (by simp; omega) hL)
  have hnc : newCase f = ⟨true, 1, f.day, f.n, 1, 0, f.til, false, 0, []⟩ := by unfold newCase; rw [if_pos hk]
  rw [hnc] at HC
  unfold flAgg
  have b1 : 0 ≤ f.n ∧ f.n ≤ 400 := by omega
  clear h hk hw hnc hL hn hb
  go_enter Try.func47, Try.ntmps47
  go_wp2_with fail
  refine HC.out.mono ?_
  rintro e W ⟨rfl, hd, hfr⟩
  have R := Lib.hid (show MPost base B L last f w (.returned (.int .i64 (errL L f))) W from MPost.pre ⟨rfl, hd, hfr⟩ ((Below.refl _ _).alloc (Nat.le_refl _) _))
  clear hd hfr
  obtain ⟨ee, hee⟩ : ∃ ee, ee = errL L f := ⟨_, rfl⟩
  rw [← hee] at R ⊢
  clear hee
  go_wp2
  go_ret
  exact R.out

set_option maxHeartbeats 2000000 in
theorem decide_any (base B : Nat) (L : List Cs) (last : Int) (f : Fl) (hk : f.kind = 4) (hw : f.Wf) (w : World) (h : DkAt w base B L last) (hb : base ≤ w.heap.size) (hL : L.length ≤ 100) :
    Calls Try.prog 50 #[.pointer (some ⟨B, 0, none⟩), flAgg f] w (MPost base B L last f w) := by
  have hd := hw.day
  have hn := hw.k4 hk
  have HC := Lib.hid (open_any base B L last f (by unfold opensP; rw [hk]; rfl) (w.alloc (.cells #[.int .u8 f.kind, .int .i64 f.day, .int .i64 f.case, .int .i64 f.n, .int .i64 f.til, .bool f.hold] 30))
    (h.later ((Below.refl _ _).alloc (Nat.le_refl _) _)) (by simp; omega) hL)
  have hnc : newCase f = ⟨false, 2, f.day, f.n, 0, 0, f.day + f.n, false, 0, []⟩ := by unfold newCase; rw [if_neg (by omega)]
  rw [hnc] at HC
  unfold flAgg
  have b1 : 0 ≤ f.n ∧ f.n ≤ 400 := by omega
  clear h hk hw hnc hL hn hb
  go_enter Try.func50, Try.ntmps50
  go_wp2_with fail
  refine HC.out.mono ?_
  rintro e W ⟨rfl, hd, hfr⟩
  have R := Lib.hid (show MPost base B L last f w (.returned (.int .i64 (errL L f))) W from MPost.pre ⟨rfl, hd, hfr⟩ ((Below.refl _ _).alloc (Nat.le_refl _) _))
  clear hd hfr
  obtain ⟨ee, hee⟩ : ∃ ee, ee = errL L f := ⟨_, rfl⟩
  rw [← hee] at R ⊢
  clear hee
  go_wp2
  go_ret
  exact R.out

end Go.Proofs.Ytbpoedopdnjffaa
