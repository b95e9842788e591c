/- The reference's Set. -/
import Derived.Test.YtgpbdocgnfjckaaGreatSpRf1
namespace Go.Proofs.YtgpbdocgnfjckaaGreat
open Go.RowKit Go.Shelf Sp

set_option maxHeartbeats 4000000 in
set_option maxRecDepth 100000 in
theorem setR_in (f : Nat → Bool) (g N : Nat) (w : World) (hN : Hid (N = 65536)) (hm : MkRow 65536 w g f) :
    Calls Tryz.prog 43 #[.slice (some ⟨g, 0, none⟩) N N] w fun e w' => ∃ v, e = .returned v ∧ Owns w' w.heap.size v (runs f N) ∧ Below w.heap.size w w' := by
  have HM := Lib.hid hm
  clear hm
  obtain ⟨i0, hi0, hz0, hz1, hz2⟩ := info_parts info_span
  go_enter Tryz.func43, Tryz.ntmps43
  go_wp2
  go_loopw [4, 3] (fun i u wr => ∃ (e : Int) (v : Value), 0 ≤ e ∧ e ≤ 65536 ∧ i = .int .i64 e ∧ v = u ∧ Hid (Owns wr w.heap.size v (runs f e.toNat)) ∧ Below w.heap.size w wr) (fun i _ _ => (65536 - intOf i).toNat)
  case atStart => exact ⟨0, _, by omega, by omega, rfl, rfl, Lib.hid (Owns.nil _ _), Below.refl _ _⟩
  case round =>
    obtain ⟨e, v, he0, he1, rfl, rfl, hI, hb⟩ := hrel
    by_cases hlt : e < 65536
    · have c0 : wr.cell? ⟨g, e.toNat, none⟩ = some (.bool (f e.toNat)) := (hb.cell (p := ⟨g, e.toNat, none⟩) HM.out.lt).trans (HM.out.cell e.toNat (by omega))
      have c1' : 0 < e → wr.cell? ⟨g, e.toNat - 1, none⟩ = some (.bool (f (e.toNat - 1))) := fun h =>
        (hb.cell (p := ⟨g, e.toNat - 1, none⟩) HM.out.lt).trans (HM.out.cell (e.toNat - 1) (by omega))
      have hlen := runs_length f e.toNat
      have hcast : ((e.toNat : Nat) : Int) = e := Int.toNat_of_nonneg he0
      have RA := Lib.hid (runs_are f e.toNat (by omega))
      have hsuc : (e + 1).toNat = e.toNat + 1 := by omega
      have hno := Lib.hid (fun h : f e.toNat = false => runs_no h)
      have hnew := Lib.hid (fun (h : f e.toNat = true) (h' : ¬ (0 < e.toNat ∧ f (e.toNat - 1) = true)) => runs_new h h')
      have hon := Lib.hid (fun (h : f e.toNat = true) (h' : 0 < e.toNat ∧ f (e.toNat - 1) = true) (s : Sps) (t : Int × Int) (hs : runs f e.toNat = s ++ [t]) => runs_on h h' hs)
      rw [← hsuc] at hno hnew hon
      obtain ⟨pre, hpre⟩ : ∃ pre, pre = runs f e.toNat := ⟨_, rfl⟩
      rw [← hpre] at hlen RA hno hnew hon hI
      clear hpre
      have hl65 : ∃ q : Int, (pre.length : Int) ≤ q ∧ q ≤ 65536 := ⟨e, by omega, by omega⟩
      obtain ⟨q, hq0, hq1⟩ := hl65
      have k1 : e < (N : Int) := by have := hN.out; omega
      obtain ⟨b, hfk⟩ : ∃ b, b = f e.toNat := ⟨_, rfl⟩
      rw [← hfk] at c0
      have HB := Lib.hid hfk
      have HC := Lib.hid hcast
      have HP : Hid (0 < e → 0 < e.toNat) := Lib.hid (by omega)
      have HP0 : Hid (e ≤ 0 → ¬ 0 < e.toNat) := Lib.hid (by omega)
      clear hfk HM hN hlen hcast hsuc
      cases b with
      | false =>
        go_wp2
        go_roundw
        case rel => exact ⟨e + 1, v, by omega, by omega, by go_num, rfl, Lib.hid (by rw [hno.out HB.out.symm]; exact hI.out), hb⟩
        case measure => simp [intOf]; omega
      | true =>
        by_cases hk0 : e ≤ 0
        · have e1 := Lib.hid (hnew.out HB.out.symm (fun h => HP0.out hk0 h.1))
          rw [HC.out] at e1
          clear RA hno hnew hon c1'
          go_wp2_with (first | (at_builtin; refine wpList_append_own _ rfl _ _ 22 rfl w.heap.size 30 i0 (.agg #[.int .i64 0, .int .i64 0]) 2 16 Tryz.underlying22 hi0 hz0 hz1 hz2 rfl (by decide) _ _ _ rfl (hI.out.alloc _) ⟨wr.heap.size, 0, none⟩ 1 1 [.int .i64 e, .int .i64 (e + 1)] rfl rfl (cell_two_new _ _ _ _ _ rfl) (by simp [Value.oneCell']) (by unfold maxLen; omega) (by omega) (by simp; have := hb.size; omega) ?_; intro v' w1 hown' hgrow _; obtain ⟨g', cap', rfl⟩ := ownsRow_succ hown'))
          go_roundw
          case rel => exact ⟨e + 1, _, by omega, by omega, by go_num, rfl, Lib.hid (by rw [e1.out]; show World.ownsRow _ _ _ _ _ _ _; rw [flat_snoc, List.length_append]; exact hown'), hI.out.grown (Nat.le_refl _) hb hb.size _ hgrow⟩
          case measure => simp [intOf]; omega
        · have j1 : 0 < e := by omega
          have c1 := c1' j1
          obtain ⟨b1, hfk1⟩ : ∃ b1, b1 = f (e.toNat - 1) := ⟨_, rfl⟩
          rw [← hfk1] at c1
          have HB1 := Lib.hid hfk1
          have j2 : e - 1 < (N : Int) := by omega
          have j0 : 0 ≤ e - 1 := by omega
          clear hfk1 c1'
          cases b1 with
          | false =>
            have e1 := Lib.hid (hnew.out HB.out.symm (by intro h; rw [← HB1.out] at h; exact absurd h.2 (by decide)))
            rw [HC.out] at e1
            clear RA hno hnew hon
            go_wp2_with (first | (at_builtin; refine wpList_append_own _ rfl _ _ 22 rfl w.heap.size 30 i0 (.agg #[.int .i64 0, .int .i64 0]) 2 16 Tryz.underlying22 hi0 hz0 hz1 hz2 rfl (by decide) _ _ _ rfl (hI.out.alloc _) ⟨wr.heap.size, 0, none⟩ 1 1 [.int .i64 e, .int .i64 (e + 1)] rfl rfl (cell_two_new _ _ _ _ _ rfl) (by simp [Value.oneCell']) (by unfold maxLen; omega) (by omega) (by simp; have := hb.size; omega) ?_; intro v' w1 hown' hgrow _; obtain ⟨g', cap', rfl⟩ := ownsRow_succ hown'))
            go_roundw
            case rel => exact ⟨e + 1, _, by omega, by omega, by go_num, rfl, Lib.hid (by rw [e1.out]; show World.ownsRow _ _ _ _ _ _ _; rw [flat_snoc, List.length_append]; exact hown'), hI.out.grown (Nat.le_refl _) hb hb.size _ hgrow⟩
            case measure => simp [intOf]; omega
          | true =>
            obtain ⟨s0, t, hst, ht⟩ := RA.out.open_ (HP.out j1) HB1.out.symm
            have e1 := Lib.hid (hon.out HB.out.symm ⟨HP.out j1, HB1.out.symm⟩ s0 t hst)
            rw [HC.out] at e1
            subst hst
            obtain ⟨g2, cap2, rfl, r1, r2, r3, r4, r5, r6⟩ := hI.out.last
            have p3 : ((s0.length : Int)).toNat = s0.length := by omega
            have hpos : (0 : Int) < (s0.length : Int) + 1 := by omega
            have p0 : (0 : Int) ≤ (s0.length : Int) := by omega
            have p1 : (s0.length : Int) < (s0.length : Int) + 1 := by omega
            have p2 : (s0.length : Int) ≤ q := by simp at hq0; omega
            clear RA hno hnew hon hq0 ht
            go_wp2_with fail
            go_roundw
            case rel => exact ⟨e + 1, _, by omega, by omega, by go_num, rfl, Lib.hid (by rw [e1.out]; exact r6 _), hb.setCell (p := ⟨g2, s0.length * 2 + 1, none⟩) r1 _⟩
            case measure => simp [intOf]; omega
    · obtain rfl : e = 65536 := by omega
      have hv : Hid ((65536 : Int).toNat = N) := Lib.hid (by rw [hN.out]; rfl)
      clear HM hN
      obtain ⟨n1, hn1⟩ : ∃ n1, n1 = (65536 : Int).toNat := ⟨_, rfl⟩
      rw [← hn1] at hv hI
      clear hn1
      obtain rfl := hv.out
      clear hv
      go_wp2
      go_ret
      exact ⟨_, rfl, hI.out, hb⟩

theorem setR_any (f : Nat → Bool) (g : Nat) (w : World) (hm : MkRow 65536 w g f) :
    Calls Tryz.prog 43 #[.slice (some ⟨g, 0, none⟩) 65536 65536] w fun e w' => ∃ v m, e = .returned v ∧ IsSet (mk65 f) m ∧ m.length ≤ 65536 ∧ Owns w' w.heap.size v m ∧ Below w.heap.size w w' :=
  (setR_in f g 65536 w (Lib.hid rfl) hm).mono fun _ _ ⟨v, he, ho, hb⟩ => ⟨v, _, he, runs_set f, runs_length f _, ho, hb⟩

end Go.Proofs.YtgpbdocgnfjckaaGreat
