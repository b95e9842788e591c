/- Settles. -/
import Derived.Test.YtbpoedopdnjffaaApApi2
namespace Go.Proofs.Ytbpoedopdnjffaa
open Go.RowKit Go.Shelf Sp

theorem ends_go {c : Cs} (h : c.Ok) (he : endsP c = true) : goP c 100000 = true := (goP_iff c 100000).2 ⟨he, by have := h.due; omega⟩
theorem setl_next {c : Cs} (h : c.Ok) (he : endsP c = true) : setlP (nextP c) = setlP c := passP_next h (ends_go h he)
theorem setl_stop {c : Cs} (he : ¬ endsP c = true) : setlP c = c := passP_stop (fun h => he ((goP_iff c _).1 h).1)

/-- The answer of Settles. -/
def setlD (l : List Fl) (n : Int) : Int × Bool := if 1 ≤ n ∧ n ≤ (runD l).cs.length then ((setlP ((runD l).cs.getD (n.toNat - 1) ⟨false, 4, 0, 0, 0, 0, 0, false, 0, []⟩)).due, true) else (0, false)
theorem setlD_no {l : List Fl} {n : Int} (h : ¬ (1 ≤ n ∧ n ≤ (runD l).cs.length)) : setlD l n = (0, false) := if_neg h
theorem setlD_yes {l : List Fl} {k : Nat} (hk : k < (runD l).cs.length) : setlD l ((k : Int) + 1) = ((setlP (runD l).cs[k]).due, true) := by
  unfold setlD
  rw [if_pos (by omega), show ((k : Int) + 1).toNat - 1 = k by omega, List.getD_eq_getElem?_getD, List.getElem?_eq_getElem hk]
  rfl

theorem settle_mid {w W1 W2 : World} {C : Nat} {o : Obj} (hB : Below w.heap.size w W1) (hC : W1.heap.size = C) (q : But C (W1.alloc o) W2) : Below w.heap.size w W2 :=
  q.belowOf (hB.alloc hB.size o) (by simp; have := hB.size; omega) (by have := hB.size; omega)

set_option maxHeartbeats 4000000 in
set_option maxRecDepth 100000 in
theorem settles_any (l : List Fl) (n : Int) (p : Option Addr) (cap : Nat) (w : World) (hc : FCells w p l) (bd : ∀ f ∈ l, f.Bd) (hl : l.length ≤ 100000) :
    Calls Try.prog 25 #[.slice p l.length cap, .int .i64 n] w fun e w' => e = .returned (.tuple #[.int .i64 (setlD l n).1, .bool (setlD l n).2]) ∧ Below w.heap.size w w' := by
  have CF := Lib.hid (file_new l p cap w hc bd hl)
  have DO := Lib.hid (runD_ok l)
  have hlen := DO.out.len
  obtain ⟨la, hla⟩ : ∃ la, la = (runD l).last := ⟨_, rfl⟩
  obtain ⟨L, hLL⟩ : ∃ L, L = (runD l).cs := ⟨_, rfl⟩
  rw [← hla, ← hLL] at CF
  rw [← hLL] at hlen
  have HLL := Lib.hid hLL
  clear hc bd hla hLL
  by_cases hn1 : n < 1
  · have HR := Lib.hid (setlD_no (l := l) (n := n) (by omega))
    go_enter Try.func25, Try.ntmps25
    go_wp2_with fail
    refine CF.out.mono ?_
    rintro e W ⟨v, rfl, _, hdk, hb⟩
    obtain ⟨pc, cc, d0, d1, _⟩ := hdk.cell
    clear hdk
    go_wp2
    go_ret2
    exact ⟨ret_two (by rw [HR.out]; rfl) (by rw [HR.out]; rfl), hb⟩
  · by_cases hn2 : (L.length : Int) < n
    · have HR := Lib.hid (setlD_no (l := l) (n := n) (by rw [← HLL.out]; omega))
      go_enter Try.func25, Try.ntmps25
      go_wp2_with fail
      refine CF.out.mono ?_
      rintro e W ⟨v, rfl, _, hdk, hb⟩
      obtain ⟨pc, cc, d0, d1, _⟩ := hdk.cell
      clear hdk
      go_wp2
      go_ret2
      exact ⟨ret_two (by rw [HR.out]; rfl) (by rw [HR.out]; rfl), hb⟩
    · obtain ⟨k, rfl⟩ : ∃ k : Nat, n = (k : Int) + 1 := ⟨(n - 1).toNat, by omega⟩
      have hkl : k < L.length := by omega
      have HOK := Lib.hid (show (L[k]).Ok from DO.out.cs _ (by rw [← HLL.out]; exact List.getElem_mem hkl))
      have HR := Lib.hid (show setlD l ((k : Int) + 1) = ((setlP L[k]).due, true) from by
        have e := setlD_yes (l := l) (k := k) (by rw [← HLL.out]; exact hkl)
        rw [e]
        simp only [HLL.out])
      go_enter Try.func25, Try.ntmps25
      go_wp2_with fail
      refine CF.out.mono ?_
      rintro e W1 ⟨v, rfl, _, hdk, hb⟩
      obtain ⟨g, cap', u, c0, _, hgB, hbg, hcc, ho, hz⟩ := hdk.read k hkl
      obtain ⟨pu, cu, rfl, _⟩ := ho.form
      have HO := Lib.hid ho
      obtain ⟨r0, r1, r2, r3, r4, r5, r6, r7, r8, r9⟩ := hcc
      have hgl : g < W1.heap.size := World.block_lt_of_cell? W1 _ r0
      have hgw : g ≠ W1.heap.size := by omega
      have hsz := hb.size
      have HB := Lib.hid hb
      obtain ⟨C, hC⟩ : ∃ C, C = W1.heap.size := ⟨_, rfl⟩
      have HC := Lib.hid hC
      clear hdk ho hb hz
      go_wp2
      rw [← HC.out]
      have C0 := Lib.hid (caseAt_new (W := W1) (k := C) HO.out HC.out.symm)
      generalize hX : W1.alloc _ = X at *
      have HX := Lib.hid hX
      clear hX hC
      go_loopw [] (fun wr => ∃ c' : Cs, Hid (CaseAt wr C c' ∧ c'.Ok ∧ setlP c' = setlP L[k] ∧ But C X wr)) (fun wr => rankAt wr C)
      case atStart => exact ⟨L[k], Lib.hid ⟨C0.out, HOK.out, rfl, But.refl _ _⟩⟩
      case round =>
        obtain ⟨c', hI⟩ := hrel
        obtain ⟨v', A1, _⟩ := hI.out.1
        have CE := Lib.hid (ends_any C c' v' wr A1)
        obtain ⟨_, _, _, _, _, _, g6, _, _, _⟩ := A1.cell
        clear A1
        by_cases he : endsP c' = true
        · rw [he] at CE
          have CN := Lib.hid (next_any C c' wr hI.out.1 hI.out.2.1)
          have hrk := Lib.hid (rankP_next hI.out.2.1 he)
          have hR0 := Lib.hid (rankAt_of hI.out.1)
          go_wp2_with fail
          refine CE.out.mono ?_
          rintro e w1 ⟨rfl, rfl⟩
          go_wp2_with fail
          refine CN.out.mono ?_
          rintro e W2 ⟨rfl, h4, h5⟩
          have J := Lib.hid (show CaseAt W2 C (nextP c') ∧ (nextP c').Ok ∧ setlP (nextP c') = setlP L[k] ∧ But C X W2 from ⟨h4, (nextP_ok hI.out.2.1 he).1, (setl_next hI.out.2.1 he).trans hI.out.2.2.1, hI.out.2.2.2.trans h5⟩)
          have hR1 := Lib.hid (rankAt_of h4)
          clear h4 h5 hI CE CN
          go_wp2
          go_roundw
          case rel => exact ⟨_, J⟩
          case measure => rw [hR0.out, hR1.out]; exact hrk.out
        · have hs := Lib.hid (setl_stop he)
          have he' : endsP c' = false := by simpa using he
          rw [he'] at CE
          have HD := Lib.hid (show c'.due = (setlD l ((k : Int) + 1)).1 ∧ (setlD l ((k : Int) + 1)).2 = true by rw [HR.out, ← hI.out.2.2.1, hs.out]; exact ⟨rfl, rfl⟩)
          have HF := Lib.hid (settle_mid HB.out HC.out.symm (by rw [HX.out]; exact hI.out.2.2.2))
          clear hs hI he he'
          go_wp2_with fail
          refine CE.out.mono ?_
          rintro e w1 ⟨rfl, rfl⟩
          go_wp2
          go_ret2
          exact ⟨ret_two (congrArg (Value.int .i64) HD.out.1) (congrArg Value.bool HD.out.2.symm), HF.out⟩

end Go.Proofs.Ytbpoedopdnjffaa
