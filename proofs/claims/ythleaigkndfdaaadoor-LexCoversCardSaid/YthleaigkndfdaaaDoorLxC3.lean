/- The walk of LexCovers. -/
import Derived.Test.YthleaigkndfdaaaDoorLxC2
namespace Go.Proofs.YthleaigkndfdaaaDoor
open Go.RowKit Go.Shelf

theorem tok_cells (s : ByteArray) (W : World) (p : Option Addr) (h : TCells W p ((evsOf s).map (tokOf s))) (i : Nat) (hi : i < (evsOf s).length) : ∃ b off, p = some ⟨b, off, none⟩ ∧ W.cell? ⟨b, off + i * 4, none⟩ = some (.int .u8 ((evsOf s)[i].1.2.1 : Int)) ∧ W.cell? ⟨b, off + i * 4 + 1, none⟩ = some (.string (bs (evsOf s)[i].1.2.2)) ∧
    W.cell? ⟨b, off + i * 4 + 2, none⟩ = some (.int .i64 (Lx.line (ls s) (evsOf s)[i].2 : Int)) ∧ W.cell? ⟨b, off + i * 4 + 3, none⟩ = some (.int .i64 ((Lx.pl (ls s) (evsOf s)[i].2).2 : Int)) := by
  obtain ⟨b, off, e, h0, h1, h2, h3⟩ := h i (by rw [List.length_map]; exact hi)
  rw [List.getElem_map] at h0 h1 h2 h3
  exact ⟨b, off, e, h0, h1, h2, h3⟩

theorem kind_le (s : ByteArray) (i e : Nat) (op : Option Nat) (h : CInv s i e op) (hi : i < (evsOf s).length) : (evsOf s)[i].2 ≤ s.size := by
  rcases cov_step s i e op h hi with ⟨_, _, ho, _⟩ | ⟨_, _, _, h1, h2, _⟩
  · rw [ho]; exact h.le
  · omega

set_option maxHeartbeats 40000000 in
set_option maxRecDepth 100000 in
theorem covers_law (s : ByteArray) (w : World) (hL : Lens w) (hs : s.size ≤ 9223372036854775807) :
    Calls Tryd.prog 5 #[.string s] w fun e w' => e = .returned (.bool true) ∧ Below w.heap.size w w' := by
  have HL := Lib.hid hL; clear hL
  have CA := Lib.hid (awake_any w HL.out)
  by_cases h3 : 1000 < s.size
  · go_enter Tryd.func5, Tryd.ntmps5
    go_wp2_with fail
    refine CA.out.mono ?_
    rintro e w1 ⟨rfl, b1⟩
    go_wp2
    go_ret
    exact ⟨rfl, b1⟩
  have h3' : s.size ≤ 1000 := by omega
  clear h3
  have CX := fun W h => lex_form s W h hs
  rcases lex_cases s (by omega) with ⟨e1, e2, e3, hok, _⟩ | ⟨x, _, e1, hx, e2, e3⟩
  · rw [e1, e2, e3, List.length_map] at CX
    have hevl := evs_length s
    have HC0 := Lib.hid (cov_start s hok)
    clear e1 e2 e3 hok
    obtain ⟨n, hn⟩ : ∃ n, n = (evsOf s).length := ⟨_, rfl⟩
    rw [← hn] at CX hevl
    have HN := Lib.hid hn
    replace CX := Lib.hid CX
    clear hn
    go_enter Tryd.func5, Tryd.ntmps5
    go_wp2_with fail
    refine CA.out.mono ?_
    rintro e w1 ⟨rfl, b1⟩
    go_wp2_with fail
    refine (CX.out _ (HL.out.below b1)).mono ?_
    rintro e w2 ⟨p, cap, rfl, t2, b2⟩
    have B2 := below_next b1 b2
    have B2a := B2.alloc B2.size (.cells #[.int .i64 0, .int .i64 0] 25)
    have T2 := t2.below ((Below.refl _ _).alloc (Nat.le_refl _) (.cells #[.int .i64 0, .int .i64 0] 25))
    have HI := Lib.hid (And.intro B2a T2)
    clear t2 b2 B2 b1 B2a T2 CX CA
    go_wp2
    go_loopw [6, 7] (fun d i wr => ∃ (k e : Nat) (op : Option Nat), k ≤ n ∧ e ≤ s.size ∧ i = .int .i64 k ∧ d = .int .i64 e ∧ Hid (CInv s k e op) ∧ Hid (Below w.heap.size w wr ∧ TCells wr p ((evsOf s).map (tokOf s)))) (fun _ i _ => n - (intOf i).toNat)
    case atStart => exact ⟨0, 0, none, by omega, by omega, rfl, rfl, HC0, HI⟩
    case round =>
      obtain ⟨k, e, op, hk, he, rfl, rfl, hC, hI⟩ := hrel
      clear HI HC0
      by_cases hlt : k < n
      · have hlt2 : k < (evsOf s).length := by rw [← HN.out]; exact hlt
        have hok2 := kind_le s k e op hC.out hlt2
        have hst := cov_step s k e op hC.out hlt2
        obtain ⟨b, off, hp, _, _, c2, c3⟩ := tok_cells s wr p hI.out.2 k hlt2
        subst hp
        obtain ⟨x, hx⟩ : ∃ x, x = (evsOf s)[k] := ⟨_, rfl⟩
        rw [← hx] at hst hok2 c2 c3
        obtain ⟨⟨er, kd, t⟩, o⟩ := x
        dsimp only at hst hok2 c2 c3
        have g0 : (0 : Int) ≤ (k : Int) := by omega
        have g1 : (k : Int) < (n : Int) := by omega
        have CO := Lib.hid (fun W => offset_at s o W hok2 (by omega))
        have HX := Lib.hid hx
        have HST := Lib.hid hst
        clear hst hx
        go_wp2_with fail
        refine (CO.out _).mono ?_
        rintro e' w3 ⟨rfl, b3⟩
        have hI3 := Lib.hid (And.intro (below_next hI.out.1 b3) (hI.out.2.below b3))
        clear c2 c3 b3 hI
        obtain ⟨b', off', hp', d0, d1, d2, d3⟩ := tok_cells s w3 _ hI3.out.2 k hlt2
        cases hp'
        rw [← HX.out] at d0 d1 d2 d3
        dsimp only at d0 d1 d2 d3
        rcases HST.out with ⟨rfl, rfl, hoe, hi0, hprev, hnext, hC2⟩ | ⟨k5, k4, heo, ht1, htl, hxt, hemp, ⟨hi2, hln⟩, hC2⟩
        · subst hoe
          obtain ⟨j, hj⟩ : ∃ j : Nat, (k : Int) - 1 = (j : Int) := ⟨k - 1, by omega⟩
          have hj2 : k - 1 = j := by omega
          have p1 : (0 : Int) ≤ (j : Int) ∧ (j : Int) < (n : Int) := by omega
          have d1' : w3.cell? ⟨b, off + k * 4 + 1, none⟩ = some (.string { data := #[] }) := d1
          clear d1
          obtain ⟨b2, off2, hp2, f0, _, _, _⟩ := tok_cells s w3 _ hI3.out.2 j (by omega)
          cases hp2
          have hpr := hprev (by omega)
          simp only [hj2] at hpr
          generalize (evsOf s)[j].1.2.1 = kj at f0 hpr
          have hkj : ((kj : Int) == 5) = false := beq_eq_false_iff_ne.2 (by omega)
          have hC3 := Lib.hid hC2
          have f00 : IntKind.i64.wrap ((k : Int) + 1) = (k : Int) + 1 := IntWalk.i64_in _ (by omega)
          have f01 : IntKind.i64.wrap ((k : Int) - 1) = (j : Int) := by rw [IntWalk.i64_in _ (by omega)]; exact hj
          have p2 : ((k : Int) == 0) = false := beq_eq_false_iff_ne.2 (by omega)
          by_cases hn2 : k + 1 < n
          · have hn3 : k + 1 < (evsOf s).length := by rw [← HN.out]; exact hn2
            obtain ⟨b4, off4, hp4, _, _, n2, _⟩ := tok_cells s w3 _ hI3.out.2 (k + 1) hn3
            cases hp4
            have hnx := hnext hn3
            generalize Lx.line (ls s) (evsOf s)[k + 1].2 = lx at n2 hnx
            generalize Lx.line (ls s) o = lo at d2 hnx
            have hle : decide (lx ≤ lo) = false := by simp; omega
            have p5 : (0 : Int) ≤ (k : Int) + 1 ∧ (k : Int) + 1 < (n : Int) := by omega
            have hgd : decide ((k : Int) + 1 < (n : Int)) = true := by simp; omega
            clear hnx hnext hprev hC2 HST CO hpr
            go_wp2
            go_quiet (fail)
            go_wp2
            go_roundw
            case rel => exact ⟨k + 1, o, none, by omega, by omega, by go_num, rfl, hC3, Lib.hid ⟨below_drewN hI3.out.1 _, hI3.out.2⟩⟩
            case measure => simp [intOf]; omega
          · have hgd : decide ((k : Int) + 1 < (n : Int)) = false := by simp; omega
            clear hnext hprev hC2 HST CO hpr
            go_wp2
            go_quiet (fail)
            go_wp2
            go_roundw
            case rel => exact ⟨k + 1, o, none, by omega, by omega, by go_num, rfl, hC3, Lib.hid ⟨below_drewN hI3.out.1 _, hI3.out.2⟩⟩
            case measure => simp [intOf]; omega
        · obtain ⟨tx, htx⟩ : ∃ tx, tx = bs t := ⟨_, rfl⟩
          have hz : t.length = tx.size := by rw [htx, bs_size]
          rw [hz] at ht1 htl hxt hC2
          rw [← htx] at hxt d1
          obtain ⟨b4, off4, hp4, _, _, n2, _⟩ := tok_cells s w3 _ hI3.out.2 (k + 1) hi2
          cases hp4
          rw [hln] at n2
          generalize Lx.line (ls s) o = lo at d2 n2
          have hkj : ((kd : Int) == 5) = false := beq_eq_false_iff_ne.2 (by omega)
          have f1 : decide (o < e) = false := by simp; omega
          have f0 : IntKind.i64.wrap ((o : Int) + (tx.size : Int)) = (o : Int) + (tx.size : Int) := IntWalk.i64_in _ (by omega)
          have hx2 : ((s.extract o ((o : Int) + (tx.size : Int)).toNat).toList == tx.toList) = true := by
            rw [show ((o : Int) + (tx.size : Int)).toNat = o + tx.size by omega, hxt]; exact beq_self_eq_true _
          have f00 : IntKind.i64.wrap ((k : Int) + 1) = (k : Int) + 1 := IntWalk.i64_in _ (by omega)
          have f2a : tx.toList.isEmpty = false := by
            rw [ls_toList, ← Bool.not_eq_true, List.isEmpty_iff]; intro h; rw [size_ls, h] at ht1; simp at ht1
          have f2b : (tx.toList == []) = false := by
            rw [ls_toList]; cases h : ls tx with
            | nil => rw [size_ls, h] at ht1; simp at ht1
            | cons c r => rfl
          have f3 : decide ((s.size : Int) < (o : Int) + (tx.size : Int)) = false := by simp; omega
          have f6 : ((k : Int) + 1 == (n : Int)) = false := beq_eq_false_iff_ne.2 (by have := HN.out; omega)
          have hC3 := Lib.hid hC2
          have CE := Lib.hid (fun W => empty_any (s.extract e o) W (by simp; omega) hemp)
          have q0 : (0 : Int) ≤ (o : Int) ∧ (o : Int) ≤ (o : Int) + (tx.size : Int) ∧ (o : Int) + (tx.size : Int) ≤ (s.size : Int) := by omega
          have q1 : (0 : Int) ≤ (e : Int) ∧ (e : Int) ≤ (o : Int) ∧ (o : Int) ≤ (s.size : Int) := by omega
          have q2 : (0 : Int) ≤ (k : Int) + 1 ∧ (k : Int) + 1 < (n : Int) := by have := HN.out; omega
          clear hln hC2 HST CO hz htx hemp hxt
          go_wp2
          go_quiet ((go_at_call 20; first | (exact quiet_left (CE.out _)) | (exact quiet_any (CE.out _)) | (exact Calls.quiet_of_same (CE.out _)) | (exact quiet_left ((CE.out _).mono fun e W h => ⟨h.1, h.2.symm⟩))))
          go_wp2
          go_roundw
          case rel => exact ⟨k + 1, o + tx.size, some (o + tx.size), by omega, by omega, by go_num, by go_num, hC3, Lib.hid ⟨below_drewN hI3.out.1 _, hI3.out.2⟩⟩
          case measure => simp [intOf]; omega
      · obtain rfl : k = n := by omega
        have hfin : Lx.emp (ls (s.extract e s.size)) = true := cov_end s e op (by have := hC.out; rw [HN.out] at this; exact this)
        have CE := Lib.hid (fun W => empty_any (s.extract e s.size) W (by simp; omega) hfin)
        have B := Lib.hid hI.out.1
        have h0 : (0 : Int) ≤ (e : Int) ∧ (e : Int) ≤ (s.size : Int) := by omega
        go_wp2_with fail
        refine (CE.out _).mono ?_
        rintro e' w3 ⟨rfl, rfl⟩
        go_wp2
        go_ret
        exact ⟨rfl, B.out⟩
  · have hne : ((x.1.1 : Int) != 0) = true := bne_iff_ne.2 (by omega)
    rw [e1, e2, e3] at CX
    generalize x.1.1 = er at CX hne
    replace CX := Lib.hid CX
    clear e1 e2 e3 hx
    go_enter Tryd.func5, Tryd.ntmps5
    go_wp2_with fail
    refine CA.out.mono ?_
    rintro e w1 ⟨rfl, b1⟩
    go_wp2_with fail
    refine (CX.out _ (HL.out.below b1)).mono ?_
    rintro e w2 ⟨p, cap, rfl, t2, b2⟩
    have B2 := below_next b1 b2
    go_wp2
    go_ret
    exact ⟨rfl, B2.alloc B2.size _⟩

end Go.Proofs.YthleaigkndfdaaaDoor
