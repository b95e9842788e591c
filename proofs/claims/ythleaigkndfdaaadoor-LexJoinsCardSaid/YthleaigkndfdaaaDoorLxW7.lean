/- The walk of the iterator of tokens. Printed by gen_iter.py. -/
import Derived.Test.YthleaigkndfdaaaDoorLxW6
namespace Go.Proofs.YthleaigkndfdaaaDoor
open Go.RowKit Go.Shelf

attribute [local go_sem] Oper.semAt_some

set_option maxRecDepth 100000 in
set_option maxHeartbeats 4000000 in
theorem tokens1_in (n : Nat) (hn : 1 ≤ n) (l Bs : Nat) (s : ByteArray) (hs : s.size ≤ 65536) (J Jx : List Lx.Ev → World → Prop) (W : World)
    (hJ : ∀ pre A B, J pre A → Steps W.heap.size A B → J pre B)
    (hY : ∀ pre x W1, J pre W1 → (∃ r, evsOf s = pre ++ x :: r) → Two W.heap.size W1 → YieldAt Fence.wide (n - 1) Tryd.prog l (encv s x) W1 fun e W' =>
      (e = .returned (.bool true) ∧ J (pre ++ [x]) W' ∧ Kept (keeps Bs W.heap.size) W1 W') ∨ (e = .returned (.bool false) ∧ Jx (pre ++ [x]) W'))
    (hB : Boxed W Bs 9 (.string s)) (hL : Lens W) (h0 : J [] W) :
    CallsIn Fence.wide n Tryd.prog 40 #[.func (.yield l) #[] #[], .pointer (some ⟨Bs, 0, none⟩)] W fun e W' => (∃ v, e = .returned v) ∧
      ((∃ ys, ys = evsOf s ∧ J ys W') ∨ (∃ pre, (∃ r, evsOf s = pre ++ r) ∧ Jx pre W')) := by
  refine callsIn_of_wp Tryd.func40 rfl trivial ?_ rfl
  simp only [Tryd.ntmps40, List.size_toArray, List.length_cons, List.length_nil, Nat.reduceAdd, Nat.reduceSub, Array.replicate_succ, Array.replicate_zero, List.push_toArray, List.append_toArray, List.nil_append, List.cons_append]
  have HY := Lib.hid hY; clear hY
  have HJ := Lib.hid hJ; clear hJ
  have HB := Lib.hid hB
  have HL := Lib.hid hL
  have cB0 := hB.cell
  have hBl := hB.lt
  have hLl := hL.1
  clear hB hL
  have H0 := Lib.hid h0; clear h0
  gi_wp2
  obtain ⟨W0, hW0⟩ : ∃ W0, (W.alloc (.cells #[.int .i64 1, .int .i64 1, .string s, .int .i64 0] 72)).alloc (.cells #[.int .i64 0, .int .i64 0] 25) = W0 := ⟨_, rfl⟩
  have T0 : TI s Bs W.heap.size 0 none W0 := by
    subst hW0
    refine ⟨(Blk.new W _ _).alloc _, ⟨0, 0, ?_, fun j e => by cases e⟩, (HB.out.alloc _).alloc _, (HL.out.alloc _).alloc _⟩
    have := Blk.new (W.alloc (.cells #[.int .i64 1, .int .i64 1, .string s, .int .i64 0] 72)) 25 #[.int .i64 0, .int .i64 0]
    rw [World.size_alloc] at this; exact this
  have J0 : J [] W0 := by subst hW0; exact HJ.out _ _ _ H0.out ((Steps.alloc _ _ _).trans (Steps.alloc _ _ _))
  have z0 : W.heap.size + 2 ≤ W0.heap.size := by subst hW0; simp
  rw [hW0]
  have HT0 := Lib.hid T0
  have HJ0 := Lib.hid J0
  clear hW0 T0 J0 cB0
  gi_loopw [5] (fun vo wr => ∃ (off : Nat) (op : Option Nat) (pre : List Lx.Ev), off ≤ s.size ∧ vo = .bool op.isSome ∧ Hid (evsOf s = pre ++ Lx.ev gd ((ls s).drop off) 0 off op) ∧ Hid (J pre wr) ∧ Hid (TI s Bs W.heap.size off op wr) ∧ W.heap.size + 2 ≤ wr.heap.size)
    (fun _ wr => leftOf s W.heap.size wr)
  case atStart => exact ⟨0, none, [], by omega, rfl, Lib.hid rfl, HJ0, HT0, z0⟩
  case round =>
    obtain ⟨off, op, pre, ho, rfl, hE, hJp, hT, hz⟩ := hrel
    clear HJ0 HT0 z0
    have c3 := hT.out.sc.c3
    have cs := hT.out.src.cell
    have hne : Bs ≠ W.heap.size := Nat.ne_of_lt hBl
    have hne1 : Bs ≠ W.heap.size + 1 := by omega
    have hLn : W.heap.size ≠ 1 := Nat.ne_of_gt hLl
    have hLn1 : W.heap.size + 1 ≠ 1 := by omega
    have g0 : (0 : Int) ≤ (off : Int) := by omega
    by_cases hlt : off < s.size
    · have g1 : (off : Int) < (s.size : Int) := by omega
      have hd := Lib.hid (show (ls s).drop off = s[off] :: (ls s).drop (off + 1) from List.drop_eq_getElem_cons (by simpa using hlt))
      have hpl := Lib.hid (show Lx.pl (ls s) (off + 1) = Lx.pstep (Lx.pl (ls s) off) s[off] from Lx.pl_succ (ls s) off (by simpa using hlt))
      have hbd := pl_bd (ls s) off
      have hleft := Lib.hid (leftOf_is hT.out)
      rw [hd.out] at hE
      by_cases h10 : s[off] = 10
      · have e10 : ((s[off].toNat : Int) == 10) = true := by rw [h10]; rfl
        rw [h10] at hE hpl hd
        rw [Lx.ev_line] at hE
        have hpl' := Lib.hid (show Lx.pl (ls s) (off + 1) = ((Lx.pl (ls s) off).1 + 1, 1) from hpl.out)
        have CN := Lib.hid (fun (W1 : World) (h : Scn W1 W.heap.size (Lx.pl (ls s) off).1 (Lx.pl (ls s) off).2 s off) => newline_any W.heap.size (Lx.pl (ls s) off).1 (Lx.pl (ls s) off).2 s off W1 h (by omega) (by omega) (by omega) (by omega))
        clear hpl h10
        cases op with
        | none =>
          have hE' := Lib.hid (show evsOf s = pre ++ Lx.ev gd ((ls s).drop (off + 1)) 0 (off + 1) none from hE.out)
          clear hE
          gi_wp2_with (with_reducible refine And.intro no_leads ?_)
          refine ⟨trivial, ?_⟩
          gi_at_call 41
          refine (callsIn_wide.2 (CN.out _ hT.out.sc)).mono ?_
          rintro e W1 ⟨rfl, s1, g1⟩
          have T1 := Lib.hid (hT.out.turned g1 hne hLn (off' := off + 1) (by rw [hpl'.out]; exact s1))
          have J1 := Lib.hid (HJ.out _ _ _ hJp.out (Steps.of_grown g1 (fun r e => by cases e; exact .inl rfl)))
          have z1 := Nat.le_trans hz g1.size
          clear s1 g1
          gi_wp2
          go_roundw
          case rel => exact ⟨off + 1, none, pre, by omega, rfl, hE', J1, T1, z1⟩
          case measure => rw [hleft.out, leftOf_is T1.out]; omega
        | some j =>
          have hE' := Lib.hid (show evsOf s = pre ++ ((0, 5, []), j) :: Lx.ev gd ((ls s).drop (off + 1)) 0 (off + 1) none from hE.out)
          have hE2 := Lib.hid (show evsOf s = pre ++ [((0, 5, []), j)] ++ Lx.ev gd ((ls s).drop (off + 1)) 0 (off + 1) none by rw [hE'.out]; simp)
          clear hE
          obtain ⟨fn, tmps, assign, body, hy, hR⟩ := HY.out pre ((0, 5, []), j) wr hJp.out ⟨_, hE'.out⟩ hT.out.two
          have hy' : (Instr.yield l #[.agg #[.int .u8 5, .string { data := #[] }, .int .i64 ((Lx.pl (ls s) j).1 : Int), .int .i64 ((Lx.pl (ls s) j).2 : Int)], .int .i64 0]).run Tryd.prog wr = .ok (.round l fn tmps assign body) wr := hy
          clear hy
          obtain ⟨pa, pb, hbk, hpj⟩ := hT.out.bh
          obtain ⟨rfl, rfl⟩ := hpj j rfl
          have q0 : wr.cell? ⟨W.heap.size + 1, 0, none⟩ = some (.int .i64 ((Lx.pl (ls s) j).1 : Int)) := hbk.cell 0
          have q1 : wr.cell? ⟨W.heap.size + 1, 1, none⟩ = some (.int .i64 ((Lx.pl (ls s) j).2 : Int)) := hbk.cell 1
          clear hbk hpj
          gi_wp2_with (with_reducible refine And.intro no_leads ?_)
          refine hR.mono ?_
          rintro e W3 (⟨rfl, hJ3, hk3⟩ | ⟨rfl, hJx3⟩)
          · have T3 := Lib.hid (hT.out.kept hk3)
            have z3 := Nat.le_trans hz hk3.size
            have HJ3 := Lib.hid hJ3
            clear hk3 hJ3
            gi_wp2_with fail
            refine ⟨trivial, ?_⟩
            gi_at_call 41
            refine (callsIn_wide.2 (CN.out _ T3.out.sc)).mono ?_
            rintro e W1 ⟨rfl, s1, g1⟩
            have T1 := Lib.hid ((T3.out.turned g1 hne hLn (off' := off + 1) (by rw [hpl'.out]; exact s1)).shut)
            have J1 := Lib.hid (HJ.out _ _ _ HJ3.out (Steps.of_grown g1 (fun r e => by cases e; exact .inl rfl)))
            have z1 := Nat.le_trans z3 g1.size
            clear s1 g1
            gi_wp2
            go_roundw
            case rel => exact ⟨off + 1, none, _, by omega, rfl, hE2, J1, T1, z1⟩
            case measure => rw [hleft.out, leftOf_is T1.out]; omega
          · gi_wp2
            refine bodyPost_ret (results_none rfl _ _ _) rfl ?_
            exact ⟨⟨_, rfl⟩, .inr ⟨_, ⟨_, hE2.out⟩, hJx3⟩⟩
      · have e10 : ((s[off].toNat : Int) == 10) = false := beq_eq_false_iff_ne.2 (fun h => h10 (UInt8.toNat_inj.1 (Int.ofNat_inj.1 h)))
        by_cases hbl : s[off] = 32 ∨ s[off] = 9
        · have hE' := Lib.hid (hE.out.trans (by rw [Lx.ev_blank gd hbl]))
          have hpl' := Lib.hid (show Lx.pl (ls s) (off + 1) = ((Lx.pl (ls s) off).1, (Lx.pl (ls s) off).2 + 1) by rw [hpl.out]; unfold Lx.pstep; rw [if_neg h10])
          have CN := Lib.hid (fun (W1 : World) (h : Scn W1 W.heap.size (Lx.pl (ls s) off).1 (Lx.pl (ls s) off).2 s off) => skip_any W.heap.size (Lx.pl (ls s) off).1 (Lx.pl (ls s) off).2 s off 1 W1 h (by omega) (by omega) (by omega) (by omega) (by omega) (by omega))
          have eb : ((s[off].toNat : Int) == 32) = true ∨ (((s[off].toNat : Int) == 32) = false ∧ ((s[off].toNat : Int) == 9) = true) := by
            rcases hbl with h | h
            · left; rw [h]; rfl
            · right; rw [h]; exact ⟨rfl, rfl⟩
          clear hE hpl h10 hbl
          rcases eb with e32 | ⟨e32, e9⟩
          all_goals
            gi_wp2_with (with_reducible refine And.intro no_leads ?_)
            refine ⟨trivial, ?_⟩
            gi_at_call 42
            refine (callsIn_wide.2 (CN.out _ hT.out.sc)).mono ?_
            rintro e W1 ⟨rfl, s1, g1⟩
            have T1 := Lib.hid (hT.out.turned g1 hne hLn (off' := off + 1) (by rw [hpl'.out]; exact s1))
            have J1 := Lib.hid (HJ.out _ _ _ hJp.out (Steps.of_grown g1 (fun r e => by cases e; exact .inl rfl)))
            have z1 := Nat.le_trans hz g1.size
            clear s1 g1
            gi_wp2
            go_roundw
            case rel => exact ⟨off + 1, op, pre, by omega, rfl, hE', J1, T1, z1⟩
            case measure => rw [hleft.out, leftOf_is T1.out]; omega
        · have e32 : ((s[off].toNat : Int) == 32) = false := beq_eq_false_iff_ne.2 (fun h => hbl (.inl (UInt8.toNat_inj.1 (Int.ofNat_inj.1 h))))
          have e9 : ((s[off].toNat : Int) == 9) = false := beq_eq_false_iff_ne.2 (fun h => hbl (.inr (UInt8.toNat_inj.1 (Int.ofNat_inj.1 h))))
          by_cases h35 : s[off] = 35
          · have e35 : ((s[off].toNat : Int) == 35) = true := by rw [h35]; rfl
            have hr := ls_rest s off
            obtain ⟨m, hm⟩ : ∃ m, m = (((ls s).drop off).takeWhile (· != 10)).length := ⟨_, rfl⟩
            have hm1 := (Lx.takeWhile_pre (· != 10) ((ls s).drop off)).length_le
            rw [← hm, List.length_drop, ls_len] at hm1
            have hE' := Lib.hid (show evsOf s = pre ++ Lx.ev gd ((ls s).drop (off + m)) 0 (off + m) op by
              have h := hE.out
              rw [h35, Lx.ev_remark, ← h35, ← hd.out, ← hm, List.drop_drop] at h
              exact h)
            have hpl' := Lib.hid (show Lx.pl (ls s) (off + m) = ((Lx.pl (ls s) off).1, (Lx.pl (ls s) off).2 + m) from
              Lx.pl_skip (ls s) off m (fun c hc => by
                rw [hm, Lx.takeWhile_drop] at hc
                simpa using Lx.takeWhile_all (· != 10) _ c hc) (by rw [ls_len]; omega))
            have hm2 : 1 ≤ m := by
              rw [hm, hd.out, List.takeWhile_cons_of_pos (by rw [h35]; decide)]; simp
            have hzr : (s.extract off s.size).size ≤ 9223372036854775807 := by simp; omega
            have CRn := Lib.hid (fun W1 => run_noline (s.extract off s.size) W1 hzr)
            rw [hr] at CRn
            obtain ⟨tt, htt⟩ : ∃ tt, tt = bs (((ls s).drop off).takeWhile (· != 10)) := ⟨_, rfl⟩
            have htz : (tt.size : Int) = (m : Int) := by rw [htt, hm]; rfl
            have htl : tt.size ≤ 65536 := by omega
            rw [← htt] at CRn
            have HTZ := Lib.hid htz
            have CN := Lib.hid (fun (W1 : World) (h : Scn W1 W.heap.size (Lx.pl (ls s) off).1 (Lx.pl (ls s) off).2 s off) => skip_any W.heap.size (Lx.pl (ls s) off).1 (Lx.pl (ls s) off).2 s off tt.size W1 h (by omega) (by omega) (by omega) (by omega) (by omega) (by omega))
            have CR := Lib.hid (rest_any W.heap.size (Lx.pl (ls s) off).1 (Lx.pl (ls s) off).2 s off wr hT.out.sc (by omega))
            clear hE hpl h10 hbl h35 hm htt htz hr hzr
            gi_wp2_with (with_reducible refine And.intro no_leads ?_)
            refine ⟨trivial, ?_⟩
            gi_at_call 43
            refine (callsIn_wide.2 CR.out).mono ?_
            rintro e W1 ⟨rfl, n1, rfl⟩
            gi_wp2_with (with_reducible refine And.intro no_leads ?_)
            refine ⟨trivial, ?_⟩
            gi_at_call 34
            refine (callsIn_wide.2 (CRn.out _)).mono ?_
            rintro e W1 ⟨rfl, rfl⟩
            gi_wp2_with (with_reducible refine And.intro no_leads ?_)
            refine ⟨trivial, ?_⟩
            gi_at_call 42
            refine (callsIn_wide.2 (CN.out _ (hT.out.drewN _).sc)).mono ?_
            rintro e W1 ⟨rfl, s1, g1⟩
            have T1 := Lib.hid ((hT.out.drewN n1).turned g1 hne hLn (off' := off + m) (by rw [hpl'.out]; rw [HTZ.out] at s1; exact s1))
            have J1 := Lib.hid (HJ.out _ _ _ hJp.out ((Steps.drewN _ _ n1).trans (Steps.of_grown g1 (fun r e => by cases e; exact .inl rfl))))
            have z1 : W.heap.size + 2 ≤ W1.heap.size := Nat.le_trans hz g1.size
            clear s1 g1
            gi_wp2
            go_roundw
            case rel => exact ⟨off + m, op, pre, by omega, rfl, hE', J1, T1, z1⟩
            case measure => rw [hleft.out, leftOf_is T1.out]; omega
          · have e35 : ((s[off].toNat : Int) == 35) = false := beq_eq_false_iff_ne.2 (fun h => h35 (UInt8.toNat_inj.1 (Int.ofNat_inj.1 h)))
            have htb : Lx.tb s[off] := ⟨h10, fun h => hbl (.inl h), fun h => hbl (.inr h), h35⟩
            obtain ⟨er, k, t, hv⟩ : ∃ er k t, Lx.tokv gd ((ls s).drop off) = (er, k, t) := ⟨_, _, _, rfl⟩
            have ct := token_any W.heap.size (Lx.pl (ls s) off).1 (Lx.pl (ls s) off).2 s off wr hT.out.sc hT.out.ln hlt hLn (by omega) (by omega) (by omega) k t er hv
            dsimp only [tkval] at ct
            by_cases her : er = 0
            · subst her
              have htx := Lx.tok_text gd hv
              have hE' : evsOf s = pre ++ ((0, k, t), off) :: Lx.ev gd ((ls s).drop (off + t.length)) 0 (off + t.length) (some (off + t.length)) := by
                have h := hE.out
                have hv2 := hv
                rw [hd.out] at hv2
                rw [Lx.ev_tok gd htb hv2, ← hd.out, List.drop_drop] at h
                exact h
              have hE2 := Lib.hid (show evsOf s = pre ++ [((0, k, t), off)] ++ Lx.ev gd ((ls s).drop (off + t.length)) 0 (off + t.length) (some (off + t.length)) by rw [hE']; simp)
              have hE3 := Lib.hid hE'
              have hln : off + t.length ≤ s.size := by have := htx.1.length_le; rw [List.length_drop, ls_len] at this; omega
              have hlen1 := htx.2.1
              have hpl' : Lx.pl (ls s) (off + t.length) = ((Lx.pl (ls s) off).1, (Lx.pl (ls s) off).2 + t.length) :=
                Lx.pl_skip (ls s) off t.length (fun c hc => by
                  rw [← List.prefix_iff_eq_take.1 htx.1] at hc
                  exact (htx.2.2.1 c hc).1) (by rw [ls_len]; omega)
              obtain ⟨off', ho'⟩ : ∃ off', off' = off + t.length := ⟨_, rfl⟩
              rw [← ho'] at hE2 hE3 hpl'
              have hpl2 : (((Lx.pl (ls s) off).1 : Nat) : Int) = ((Lx.pl (ls s) off').1 : Int) ∧ (((Lx.pl (ls s) off).2 : Nat) : Int) + (t.length : Int) = ((Lx.pl (ls s) off').2 : Int) ∧ (off : Int) + (t.length : Int) = (off' : Int) := by
                rw [hpl']; simp; omega
              rw [hpl2.2.1, hpl2.2.2] at ct
              have HP := Lib.hid hpl2.1
              have hln' : off' ≤ s.size := by omega
              have hlo : off < off' := by omega
              have CT := Lib.hid ct
              clear ho' hln hlen1
              clear ct hE hE' h10 hbl h35 hpl htb htx hv hpl' hpl2
              gi_wp2_with (with_reducible refine And.intro no_leads ?_)
              refine ⟨trivial, ?_⟩
              gi_at_call 45
              refine (callsIn_wide.2 CT.out).mono ?_
              rintro e W1 ⟨rfl, s1, g1⟩
              rw [HP.out] at s1
              have T1 := Lib.hid (hT.out.turned g1 hne hLn s1)
              obtain ⟨W2, hW2⟩ : ∃ W2, W1.alloc (.cells #[.int .u8 (k : Int), .string (bs t), .int .i64 ((Lx.pl (ls s) off).1 : Int), .int .i64 ((Lx.pl (ls s) off).2 : Int)] 27) = W2 := ⟨_, rfl⟩
              have T2 : Hid (TI s Bs W.heap.size off' op W2) := by rw [← hW2]; exact T1.out.alloc _
              have J2 : Hid (J pre W2) := by rw [← hW2]; exact HJ.out _ _ _ hJp.out ((Steps.of_grown g1 (fun r e => by cases e; exact .inl rfl)).trans (Steps.alloc _ _ _))
              have z2 : W.heap.size + 2 ≤ W2.heap.size := by rw [← hW2]; simp; have := g1.size; omega
              have K2 : Hid (Blk W2 W1.heap.size 27 #[.int .u8 (k : Int), .string (bs t), .int .i64 ((Lx.pl (ls s) off).1 : Int), .int .i64 ((Lx.pl (ls s) off).2 : Int)]) := by rw [← hW2]; exact Blk.new _ _ _
              have HW2 := Lib.hid hW2
              clear hW2 s1 g1 T1
              obtain ⟨fn, tmps, assign, body, hy, hR⟩ := HY.out pre ((0, k, t), off) W2 J2.out ⟨_, hE3.out⟩ T2.out.two
              have hy' : (Instr.yield l #[.agg #[.int .u8 (k : Int), .string (bs t), .int .i64 ((Lx.pl (ls s) off).1 : Int), .int .i64 ((Lx.pl (ls s) off).2 : Int)], .int .i64 0]).run Tryd.prog W2 = .ok (.round l fn tmps assign body) W2 := hy
              clear hy
              rw [← HW2.out] at hy' hR
              gi_wp2_with (with_reducible refine And.intro no_leads ?_)
              refine hR.mono ?_
              rintro e W3 (⟨rfl, hJ3, hk3⟩ | ⟨rfl, hJx3⟩)
              · have T3 : Hid (TI s Bs W.heap.size off' op W3) := by rw [HW2.out] at hk3; exact T2.out.kept hk3
                have z3 : W.heap.size + 2 ≤ W3.heap.size := by rw [HW2.out] at hk3; exact Nat.le_trans z2 hk3.size
                have HJ3 := Lib.hid hJ3
                clear hk3 hJ3
                have d0 := T3.out.sc.c0
                have d1 := T3.out.sc.c1
                obtain ⟨pa, pb, hbk, _⟩ := T3.out.bh
                have b0 : W3.cell? ⟨W.heap.size + 1, 0, none⟩ = some (.int .i64 pa) := hbk.cell 0
                have b1 : W3.cell? ⟨W.heap.size + 1, 1, none⟩ = some (.int .i64 pb) := hbk.cell 1
                have f0 : W3.frozen? ⟨W.heap.size + 1, 0, none⟩ = false := hbk.frozen 0
                have f1 : W3.frozen? ⟨W.heap.size + 1, 1, none⟩ = false := hbk.frozen 1
                clear hbk
                gi_wp2_with (with_reducible refine And.intro no_leads ?_)
                gi_region
                gi_wp2
                have N3 := Lib.hid (T3.out.noted hne1 hLn1)
                have J3 := Lib.hid (HJ.out _ _ _ HJ3.out ((Steps.set W.heap.size W3 (W.heap.size + 1) 0 (.inr rfl) (.int .i64 ((Lx.pl (ls s) off').1 : Int))).trans (Steps.set W.heap.size _ (W.heap.size + 1) 1 (.inr rfl) (.int .i64 ((Lx.pl (ls s) off').2 : Int)))))
                have z4 : W.heap.size + 2 ≤ ((W3.setCell ⟨W.heap.size + 1, 0, none⟩ (.int .i64 ((Lx.pl (ls s) off').1 : Int))).setCell ⟨W.heap.size + 1, 1, none⟩ (.int .i64 ((Lx.pl (ls s) off').2 : Int))).heap.size := by
                  have h1 := (Steps.set W.heap.size W3 (W.heap.size + 1) 0 (.inr rfl) (.int .i64 ((Lx.pl (ls s) off').1 : Int))).size
                  have h2 := (Steps.set W.heap.size (W3.setCell ⟨W.heap.size + 1, 0, none⟩ (.int .i64 ((Lx.pl (ls s) off').1 : Int))) (W.heap.size + 1) 1 (.inr rfl) (.int .i64 ((Lx.pl (ls s) off').2 : Int))).size
                  omega
                go_roundw
                case rel => exact ⟨off', some off', _, by omega, rfl, hE2, Lib.hid (HJ.out _ _ _ J3.out (Steps.drewN _ _ 1)), Lib.hid (N3.out.drewN 1), z4⟩
                case measure => rw [hleft.out]; exact Nat.lt_of_le_of_lt (Nat.le_of_eq (leftOf_is (N3.out.drewN 1))) (by omega)
              · gi_wp2
                refine bodyPost_ret (results_none rfl _ _ _) rfl ?_
                exact ⟨⟨_, rfl⟩, .inr ⟨_, ⟨_, hE2.out⟩, hJx3⟩⟩
            · have hE' : evsOf s = pre ++ [((er, k, t), off)] := by
                have h := hE.out
                have hv2 := hv
                rw [hd.out] at hv2
                rw [Lx.ev_err gd htb (by rw [hv2]; exact her), hv2] at h
                exact h
              have hE2 := Lib.hid hE'
              have hene : ((er : Int) != 0) = true := bne_iff_ne.2 (by omega)
              have CT := Lib.hid ct
              clear ct hE hE' h10 hbl h35 hpl htb hv her
              gi_wp2_with (with_reducible refine And.intro no_leads ?_)
              refine ⟨trivial, ?_⟩
              gi_at_call 45
              refine (callsIn_wide.2 CT.out).mono ?_
              rintro e W1 ⟨rfl, s1, g1⟩
              obtain ⟨W2, hW2⟩ : ∃ W2, W1.alloc (.cells #[.int .u8 (k : Int), .string (bs t), .int .i64 ((Lx.pl (ls s) off).1 : Int), .int .i64 ((Lx.pl (ls s) off).2 : Int)] 27) = W2 := ⟨_, rfl⟩
              have J2 : Hid (J pre W2) := by rw [← hW2]; exact HJ.out _ _ _ hJp.out ((Steps.of_grown g1 (fun r e => by cases e; exact .inl rfl)).trans (Steps.alloc _ _ _))
              have z2 : Hid (Two W.heap.size W2) := by rw [← hW2]; exact (hT.out.two.turned g1 s1).alloc _
              have HW2 := Lib.hid hW2
              clear hW2 s1 g1
              obtain ⟨fn, tmps, assign, body, hy, hR⟩ := HY.out pre ((er, k, t), off) W2 J2.out ⟨[], hE2.out⟩ z2.out
              have hy' : (Instr.yield l #[.agg #[.int .u8 (k : Int), .string (bs t), .int .i64 ((Lx.pl (ls s) off).1 : Int), .int .i64 ((Lx.pl (ls s) off).2 : Int)], .int .i64 (er : Int)]).run Tryd.prog W2 = .ok (.round l fn tmps assign body) W2 := hy
              clear hy
              rw [← HW2.out] at hy' hR
              gi_wp2_with (with_reducible refine And.intro no_leads ?_)
              refine hR.mono ?_
              rintro e W3 (⟨rfl, hJ3, _⟩ | ⟨rfl, hJx3⟩)
              · gi_wp2
                refine bodyPost_ret (results_none rfl _ _ _) rfl ?_
                exact ⟨⟨_, rfl⟩, .inl ⟨_, hE2.out.symm, hJ3⟩⟩
              · gi_wp2
                refine bodyPost_ret (results_none rfl _ _ _) rfl ?_
                exact ⟨⟨_, rfl⟩, .inr ⟨_, ⟨[], by rw [hE2.out]; simp⟩, hJx3⟩⟩
    · obtain rfl : off = s.size := by omega
      have hE' := Lib.hid (show evsOf s = pre ++ Lx.endOf op by
        have h := hE.out
        rw [List.drop_of_length_le (by rw [ls_len]; exact Nat.le_refl _), Lx.ev_nil] at h
        exact h)
      clear hE
      cases op with
      | none =>
        have hE2 := Lib.hid (show evsOf s = pre by rw [hE'.out]; simp [Lx.endOf])
        gi_wp2_with (with_reducible refine And.intro no_leads ?_)
        go_end0
        exact ⟨⟨_, rfl⟩, .inl ⟨pre, hE2.out.symm, hJp.out⟩⟩
      | some j =>
        have hE2 := Lib.hid (show evsOf s = pre ++ [((0, 5, []), j)] from hE'.out)
        clear hE'
        obtain ⟨fn, tmps, assign, body, hy, hR⟩ := HY.out pre ((0, 5, []), j) wr hJp.out ⟨[], hE2.out⟩ hT.out.two
        have hy' : (Instr.yield l #[.agg #[.int .u8 5, .string { data := #[] }, .int .i64 ((Lx.pl (ls s) j).1 : Int), .int .i64 ((Lx.pl (ls s) j).2 : Int)], .int .i64 0]).run Tryd.prog wr = .ok (.round l fn tmps assign body) wr := hy
        clear hy
        obtain ⟨pa, pb, hbk, hpj⟩ := hT.out.bh
        obtain ⟨rfl, rfl⟩ := hpj j rfl
        have q0 : wr.cell? ⟨W.heap.size + 1, 0, none⟩ = some (.int .i64 ((Lx.pl (ls s) j).1 : Int)) := hbk.cell 0
        have q1 : wr.cell? ⟨W.heap.size + 1, 1, none⟩ = some (.int .i64 ((Lx.pl (ls s) j).2 : Int)) := hbk.cell 1
        clear hbk hpj
        gi_wp2_with (with_reducible refine And.intro no_leads ?_)
        refine hR.mono ?_
        rintro e W3 (⟨rfl, hJ3, hk3⟩ | ⟨rfl, hJx3⟩)
        · gi_wp2
          go_end0
          exact ⟨⟨_, rfl⟩, .inl ⟨_, hE2.out.symm, hJ3⟩⟩
        · gi_wp2
          go_end0
          exact ⟨⟨_, rfl⟩, .inr ⟨_, ⟨[], by rw [hE2.out]; simp⟩, hJx3⟩⟩

end Go.Proofs.YthleaigkndfdaaaDoor
