/- The walks of offset and At; the law LexErrors. -/
import Derived.Test.YthleaigkndfdaaaDoorLxL2
import Derived.Test.YthleaigkndfdaaaDoorSpLater
namespace Go.Proofs.YthleaigkndfdaaaDoor
open Go.RowKit Go.Shelf

theorem pl_ge (s : Lx.Bs) (o : Nat) (h : s.length ≤ o) : Lx.pl s o = Lx.pl s s.length := by
  unfold Lx.pl; rw [List.take_of_length_le h, List.take_of_length_le (Nat.le_refl _)]

set_option maxHeartbeats 2000000 in
/-- The offset of a place that is there. -/
theorem offset_at (s : ByteArray) (o : Nat) (w : World) (ho : o ≤ s.size) (hs : s.size ≤ 100000) :
    Calls Tryd.prog 19 #[.string s, .agg #[.int .i64 ((Lx.pl (ls s) o).1 : Int), .int .i64 ((Lx.pl (ls s) o).2 : Int)]] w fun e w' => e = .returned (.int .i64 (o : Int)) ∧ Below w.heap.size w w' := by
  have hbo := pl_bd (ls s) o
  go_enter Tryd.func19, Tryd.ntmps19
  go_wp2
  go_loop [5, 6, 7] (fun a b i => ∃ k : Nat, k ≤ o ∧ i = .int .i64 k ∧ a = .int .i64 ((Lx.pl (ls s) k).1 : Int) ∧ b = .int .i64 ((Lx.pl (ls s) k).2 : Int)) (fun _ _ i => s.size + 1 - (intOf i).toNat)
  case atStart => exact ⟨0, by omega, rfl, rfl, rfl⟩
  case round =>
    obtain ⟨k, hk, rfl, rfl, rfl⟩ := hrel
    have hbk := pl_bd (ls s) k
    have g0 : k ≤ s.size := by omega
    by_cases hlt : k < o
    · have hne := Lx.pl_lt (ls s) k (o - k - 1) (by rw [ls_len]; omega)
      rw [show k + (o - k - 1) + 1 = o by omega] at hne
      have hks : k < s.size := by omega
      have hst := Lib.hid (show Lx.pl (ls s) (k + 1) = Lx.pstep (Lx.pl (ls s) k) s[k] from Lx.pl_succ (ls s) k (by simpa using hks))
      obtain ⟨po, hpo⟩ : ∃ po, po = Lx.pl (ls s) o := ⟨_, rfl⟩
      obtain ⟨pk, hpk⟩ : ∃ pk, pk = Lx.pl (ls s) k := ⟨_, rfl⟩
      rw [← hpo] at hne hbo ⊢
      rw [← hpk] at hne hbk hst ⊢
      clear hpo hpk
      have hcase : (((pk.1 : Int) == (po.1 : Int)) = false) ∨ ((((pk.1 : Int) == (po.1 : Int)) = true) ∧ (((pk.2 : Int) == (po.2 : Int)) = false)) := by
        rcases hne with h | ⟨h, h'⟩
        · left; exact beq_eq_false_iff_ne.2 (by omega)
        · right; exact ⟨beq_iff_eq.2 (by omega), beq_eq_false_iff_ne.2 (by omega)⟩
      clear hne
      by_cases h10 : s[k] = 10
      · have e10 : ((s[k].toNat : Int) == 10) = true := by rw [h10]; rfl
        have hst2 := Lib.hid (show Lx.pl (ls s) (k + 1) = (pk.1 + 1, 1) by rw [hst.out, h10]; rfl)
        clear hst h10
        rcases hcase with h | ⟨h, h'⟩
        all_goals
          go_wp2
          go_round
          case rel => exact ⟨k + 1, by omega, by go_num, by rw [hst2.out]; go_num, by rw [hst2.out]; rfl⟩
          case measure => simp [intOf]; omega
      · have e10 : ((s[k].toNat : Int) == 10) = false := beq_eq_false_iff_ne.2 (fun h => h10 (UInt8.toNat_inj.1 (Int.ofNat_inj.1 h)))
        have hst2 := Lib.hid (show Lx.pl (ls s) (k + 1) = (pk.1, pk.2 + 1) by rw [hst.out]; unfold Lx.pstep; rw [if_neg h10])
        clear hst h10
        rcases hcase with h | ⟨h, h'⟩
        all_goals
          go_wp2
          go_round
          case rel => exact ⟨k + 1, by omega, by go_num, by rw [hst2.out], by rw [hst2.out]; go_num⟩
          case measure => simp [intOf]; omega
    · obtain rfl : k = o := by omega
      go_wp2
      go_ret
      exact ⟨rfl, (Below.refl _ _).alloc (Nat.le_refl _) _⟩

theorem pl_lastIdx (s : ByteArray) : ((Lx.pl (ls s) s.size).1 : Int) = (Lib.countByte (ls s) 10 : Int) + 1 ∧ ((Lx.pl (ls s) s.size).2 : Int) = (s.size : Int) - Lib.lastIndexByte s 10 := by
  have e : Lx.pl (ls s) s.size = Lx.plF (1, 1) (ls s) := by unfold Lx.pl; rw [ls_take_all]
  rw [e]
  refine ⟨by rw [Lx.plF_fst]; unfold Lib.countByte; simp only []; omega, ?_⟩
  have hg : ∀ j (h : j < s.size), s.data[j]! = s[j] := fun j h => by
    have h' : j < s.data.size := h
    rw [getElem!_pos s.data j h']; rfl
  have hn : ∀ c : UInt8, ((c.toNat : Int) ≠ 10) → c ≠ 10 := fun c h e => h (by rw [e]; rfl)
  unfold Lib.lastIndexByte
  rcases Lib.lastIdx_spec s 10 s.size with ⟨h1, h2⟩ | ⟨i, hi, h1, h2, h3⟩
  · rw [h1, Lx.plF_flat]
    · simp only [ls_len]; omega
    · intro c hc
      obtain ⟨j, hj, rfl⟩ := List.mem_iff_getElem.1 hc
      have hj' : j < s.size := by rw [ls_len] at hj; exact hj
      have := h2 j hj'
      rw [hg j hj'] at this
      exact hn _ this
  · have hsplit : ls s = (ls s).take i ++ 10 :: (ls s).drop (i + 1) := by
      have hd : (ls s).drop i = s[i] :: (ls s).drop (i + 1) := List.drop_eq_getElem_cons (by simpa using hi)
      have h10 : s[i] = 10 := by
        rw [hg i hi] at h2
        exact UInt8.toNat_inj.1 (Int.ofNat_inj.1 (show ((s[i].toNat : Nat) : Int) = ((10 : Nat) : Int) from h2))
      rw [h10] at hd
      rw [← hd, List.take_append_drop]
    have hflat : ∀ c ∈ (ls s).drop (i + 1), c ≠ 10 := fun c hc => by
      obtain ⟨j, hj, rfl⟩ := List.mem_iff_getElem.1 hc
      rw [List.length_drop, ls_len] at hj
      have := h3 (i + 1 + j) (by omega) (by omega)
      rw [hg (i + 1 + j) (by omega)] at this
      rw [List.getElem_drop]
      exact hn _ this
    rw [h1]
    conv => lhs; rw [hsplit]
    rw [Lx.plF_app]
    show (((Lx.plF (Lx.pstep (Lx.plF (1, 1) ((ls s).take i)) 10) ((ls s).drop (i + 1))).2 : Nat) : Int) = _
    rw [Lx.plF_flat _ hflat]
    simp only [Lx.pstep, if_true, List.length_drop, ls_len]
    omega

/-- What At answers. -/
def atv (s : ByteArray) (o : Int) : Nat × Nat := if o < 0 then (0, 0) else Lx.pl (ls s) o.toNat

set_option maxHeartbeats 2000000 in
set_option maxRecDepth 100000 in
theorem at_any (s : ByteArray) (o : Int) (w : World) (hs : s.size ≤ 100000) (ho : o ≤ 9223372036854775807) :
    Calls Tryd.prog 26 #[.string s, .int .i64 o] w fun e w' => e = .returned (.agg #[.int .i64 ((atv s o).1 : Int), .int .i64 ((atv s o).2 : Int)]) ∧ Below w.heap.size w w' := by
  by_cases h0 : o < 0
  · have hv := Lib.hid (show atv s o = (0, 0) by unfold atv; rw [if_pos h0])
    go_enter Tryd.func26, Tryd.ntmps26
    go_wp2
    rw [hv.out]
    refine bodyPost_ret (v := .agg #[.int .i64 0, .int .i64 0]) (by simp [results, Tryd.results26, go_sem]; done) rfl ⟨rfl, (Below.refl _ _).alloc (Nat.le_refl _) _⟩
  · obtain ⟨n, rfl⟩ := Int.eq_ofNat_of_zero_le (Int.not_lt.1 h0)
    obtain ⟨m, hm⟩ : ∃ m : Nat, m = min n s.size := ⟨_, rfl⟩
    have hms : m ≤ s.size := by omega
    have hv0 : atv s (n : Int) = Lx.pl (ls s) m := by
      unfold atv
      rw [if_neg h0, Int.toNat_natCast]
      by_cases h : n ≤ s.size
      · rw [hm, Nat.min_eq_left h]
      · rw [hm, Nat.min_eq_right (by omega), pl_ge _ _ (by rw [ls_len]; omega), ls_len]
    have hp := pl_lastIdx (s.extract 0 m)
    have hz : (s.extract 0 m).size = m := by simp; omega
    have hl : ls (s.extract 0 m) = (ls s).take m := by rw [ls_ext, List.drop_zero]
    have hpl : Lx.pl (ls (s.extract 0 m)) (s.extract 0 m).size = Lx.pl (ls s) m := by
      rw [hz, hl]; unfold Lx.pl; rw [List.take_take, Nat.min_self]
    rw [hpl] at hp
    obtain ⟨t, ht⟩ : ∃ t, t = s.extract 0 m := ⟨_, rfl⟩
    rw [← ht] at hp hz
    have CC := Lib.hid (fun W => Tryd.strings_Count_one t 10 W)
    have CL := Lib.hid (fun W => Tryd.strings_LastIndexByte t 10 (by omega) W)
    have hcb : (Lib.countByte (ls t) 10 : Int) ≤ 100000 := by
      have : Lib.countByte (ls t) 10 ≤ (ls t).length := List.count_le_length
      rw [ls_len] at this; omega
    have hlb : (Lx.pl (ls s) m).2 ≤ m + 1 := (pl_bd (ls s) m).2.1
    obtain ⟨x, hx⟩ : ∃ x : Int, x = Lib.lastIndexByte t 10 := ⟨_, rfl⟩
    obtain ⟨c, hc⟩ : ∃ c : Nat, c = Lib.countByte (ls t) 10 := ⟨_, rfl⟩
    rw [← hx] at hp CL
    rw [← hc] at hp hcb
    have CC' : Hid (∀ W, Calls Tryd.prog 37 #[.string t, .string { data := #[10] }] W fun e w' => e = .returned (.int .i64 (c : Int)) ∧ W = w') := fun W => (CC.out W).mono fun _ _ ⟨a, b⟩ => ⟨by rw [a, hc], b.symm⟩
    have CL' : Hid (∀ W, Calls Tryd.prog 38 #[.string t, .int .u8 10] W fun e w' => e = .returned (.int .i64 x) ∧ W = w') := fun W => (CL.out W).mono fun _ _ ⟨a, b⟩ => ⟨a, b.symm⟩
    have hx1 : x ≤ 100000 := by omega
    have hx2 : -2 ≤ x := by omega
    have HV := Lib.hid hv0
    have HP := Lib.hid hp
    have HT := Lib.hid ht.symm
    have hzz : (t.size : Int) ≤ 100000 := by omega
    have hmin : (min (n : Int) (s.size : Int)) = (m : Int) := by omega
    have HMIN := Lib.hid hmin
    have n0 : (0 : Int) ≤ (n : Int) := by omega
    have hc0 : (0 : Int) ≤ (c : Int) := by omega
    clear hv0 hp ht hpl hl CC CL hx hc hz hlb hmin h0
    go_enter Tryd.func26, Tryd.ntmps26
    go_wp2_with fail
    rw [HMIN.out, Int.toNat_natCast, HT.out]
    refine (CC'.out _).mono ?_
    rintro e w' ⟨rfl, rfl⟩
    go_wp2_with fail
    refine (CL'.out _).mono ?_
    rintro e w' ⟨rfl, rfl⟩
    go_wp2
    rw [HV.out, HP.out.1, HP.out.2]
    refine bodyPost_ret (v := .agg #[.int .i64 ((c : Int) + 1), .int .i64 ((t.size : Int) - x)]) (by simp [results, Tryd.results26, go_sem]; done) rfl ⟨rfl, ?_⟩
    exact (Below.refl _ _).alloc (Nat.le_refl _) _

/-- The first error, its place and what is ahead of it and behind. -/
theorem errors (s : ByteArray) (hs : s.size ≤ 3000) (x : Lx.Ev) (hx : Lx.erOf (evsOf s) = some x) :
    x.2 < s.size ∧ 110 ≤ x.1.1 ∧ x.1.1 ≤ 113 ∧ lexE' (s.extract 0 x.2) = 0 ∧ lexE' (s.extract x.2 s.size) = x.1.1 ∧ lexP' (s.extract x.2 s.size) = (1, 1) := by
  obtain ⟨m, e, hm, h1, h2, h3, h4⟩ := Lx.ev_errs gd (ls s).length (ls s) (Nat.le_refl _) 0 none x hx
  rw [Nat.zero_add] at e
  rw [ls_len] at hm
  rw [e]
  refine ⟨hm, h3, h4, ?_, ?_⟩
  · have hok : Lx.okE (evsOf (s.extract 0 m)) = true := by
      unfold evsOf; rw [ls_ext, List.drop_zero]; exact h1
    rcases lex_cases (s.extract 0 m) (by simp; omega) with ⟨a1, _⟩ | ⟨y, a1, _⟩
    · exact a1
    · rw [Lx.erOf_none.2 hok] at a1; cases a1
  · have hev : evsOf (s.extract m s.size) = [(x.1, 0)] := by unfold evsOf; rw [ls_rest]; exact h2 0 none
    have hne : x.1.1 ≠ 0 := by omega
    have her : Lx.erOf (evsOf (s.extract m s.size)) = some (x.1, 0) := by
      rw [hev]; unfold Lx.erOf; rw [List.find?_cons_of_pos (by simpa using hne)]
    rcases lex_cases (s.extract m s.size) (by simp; omega) with ⟨_, _, _, _, a5⟩ | ⟨y, a1, a2, _, a4, _⟩
    · rw [her] at a5; cases a5
    · rw [her] at a1
      obtain rfl := Option.some.inj a1
      exact ⟨a2, by rw [a4]; rfl⟩

set_option maxHeartbeats 4000000 in
set_option maxRecDepth 100000 in
theorem errors_law (s : ByteArray) (w : World) (hL : Lens w) (hs : s.size ≤ 9223372036854775807) :
    Calls Tryd.prog 12 #[.string s] w fun e w' => e = .returned (.bool true) ∧ Below w.heap.size w w' := by
  have HL := Lib.hid hL; clear hL
  have CA := Lib.hid (awake_any w HL.out)
  by_cases h3 : 3000 < s.size
  · go_enter Tryd.func12, Tryd.ntmps12
    go_wp2_with fail
    refine CA.out.mono ?_
    rintro e w1 ⟨rfl, b1⟩
    go_wp2
    go_ret
    exact ⟨rfl, b1⟩
  have h3' : s.size ≤ 3000 := by omega
  clear h3
  have CX := Lib.hid (fun W h => lex_form s W h hs)
  rcases lex_cases s (by omega) with ⟨e1, e2, e3, _, _⟩ | ⟨x, hx, e1, hne, e2, e3⟩
  · rw [e1, e2, e3] at CX
    clear e1 e2 e3
    go_enter Tryd.func12, Tryd.ntmps12
    go_wp2_with fail
    refine CA.out.mono ?_
    rintro e w1 ⟨rfl, b1⟩
    go_wp2_with fail
    refine (CX.out _ (HL.out.below b1)).mono ?_
    rintro e w2 ⟨p, cap, rfl, _, b2⟩
    have B2 := below_next b1 b2
    go_wp2
    go_ret
    exact ⟨rfl, B2.alloc B2.size _⟩
  · obtain ⟨k1, k2, k3, k4, k5, k6⟩ := errors s h3' x hx
    rw [e1, e2, e3] at CX
    obtain ⟨o, ho⟩ : ∃ o, o = x.2 := ⟨_, rfl⟩
    obtain ⟨er, her⟩ : ∃ er, er = x.1.1 := ⟨_, rfl⟩
    rw [← ho] at k1 k4 k5 k6 CX
    rw [← her] at k2 k3 k5 CX hne
    clear hx ho her e1 e2 e3
    have CO := Lib.hid (fun W => offset_at s o W (by omega) (by omega))
    have CT := at_any s (o : Int)
    rw [show atv s (o : Int) = Lx.pl (ls s) o by unfold atv; rw [if_neg (by omega), Int.toNat_natCast]] at CT
    have CT' := Lib.hid (fun W => CT W (by omega) (by omega))
    have C1 := Lib.hid (fun W h => lex_form (s.extract 0 o) W h (by simp; omega))
    have C2 := Lib.hid (fun W h => lex_form (s.extract o s.size) W h (by simp; omega))
    rw [k4] at C1
    rw [k5, k6] at C2
    clear CT k4 k5 k6
    obtain ⟨a, ha⟩ : ∃ a, a = (Lx.pl (ls s) o).1 := ⟨_, rfl⟩
    obtain ⟨b, hb⟩ : ∃ b, b = (Lx.pl (ls s) o).2 := ⟨_, rfl⟩
    rw [← ha, ← hb] at CX CO CT'
    clear ha hb
    have g0 : (0 : Int) ≤ (o : Int) := by omega
    have g1 : (o : Int) ≤ (s.size : Int) := by omega
    have g2 : (o : Int) < (s.size : Int) := by omega
    have d0 : decide ((o : Int) < 0) = false := decide_eq_false (by omega)
    have d1 : decide ((s.size : Int) ≤ (o : Int)) = false := decide_eq_false (by omega)
    have d2 : decide (s.size ≤ o) = false := decide_eq_false (by omega)
    have hcode : (er : Int) = 110 ∨ (er : Int) = 111 ∨ (er : Int) = 112 ∨ (er : Int) = 113 := by omega
    obtain ⟨ei, hei⟩ : ∃ ei : Int, ei = (er : Int) := ⟨_, rfl⟩
    rw [← hei] at CX C2 hcode
    clear k2 k3 hne hei
    rcases hcode with rfl | rfl | rfl | rfl
    all_goals
      go_enter Tryd.func12, Tryd.ntmps12
      go_wp2_with fail
      refine CA.out.mono ?_
      rintro e w1 ⟨rfl, b1⟩
      go_wp2_with fail
      refine (CX.out _ (HL.out.below b1)).mono ?_
      rintro e w2 ⟨p, cap, rfl, _, b2⟩
      have B2 := below_next b1 b2
      have B2a := B2.alloc B2.size (.cells #[.int .i64 (a : Int), .int .i64 (b : Int)] 25)
      have K2 := Blk.new w2 25 #[.int .i64 (a : Int), .int .i64 (b : Int)]
      clear b2
      go_wp2_with fail
      refine (CO.out _).mono ?_
      rintro e w3 ⟨rfl, b3⟩
      have K3 := boxed_below K2 b3
      have B3 := B2a.trans (b3.mono B2a.size)
      have q0 : w3.cell? ⟨w2.heap.size, 0, none⟩ = some (.int .i64 (a : Int)) := K3.cell 0
      have q1 : w3.cell? ⟨w2.heap.size, 1, none⟩ = some (.int .i64 (b : Int)) := K3.cell 1
      clear b3 K2
      go_wp2_with fail
      refine wp_region_laterS (fun W => W.cell? ⟨w2.heap.size, 0, none⟩ = some (.int .i64 (a : Int)) ∧ W.cell? ⟨w2.heap.size, 1, none⟩ = some (.int .i64 (b : Int)) ∧ Hid (Below w.heap.size w W)) (by kernel_rfl) (by kernel_rfl) (fun p => ⟨p.cell _ _ q0, p.cell _ _ q1, p.since B3⟩) ?_
      intro hS
      repeat (go_big_quiet_step ((go_at_call 26; exact Later.call (CT'.out _))))
      refine wpQuiet_nil ?_
      rintro _ ⟨q, rfl⟩
      have B4 := (hS q).2.2.out
      clear hS
      go_wp2_with fail
      refine (C1.out _ (HL.out.below B4)).mono ?_
      rintro e w5 ⟨p5, cap5, rfl, _, b5⟩
      have B5 := B4.trans (b5.mono B4.size)
      have B5a := B5.alloc B5.size (.cells #[.int .i64 ((lexP' (s.extract 0 o)).1 : Int), .int .i64 ((lexP' (s.extract 0 o)).2 : Int)] 25)
      clear b5
      go_wp2_with fail
      refine (C2.out _ (HL.out.below B5a)).mono ?_
      rintro e w6 ⟨p6, cap6, rfl, _, b6⟩
      have B6 := B5a.trans (b6.mono B5a.size)
      clear b6
      go_wp2
      go_ret
      exact ⟨rfl, B6.alloc B6.size _⟩

end Go.Proofs.YthleaigkndfdaaaDoor
