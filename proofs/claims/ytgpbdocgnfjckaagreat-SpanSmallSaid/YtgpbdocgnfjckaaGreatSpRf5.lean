/- The reference's Bridge. -/
import Derived.Test.YtgpbdocgnfjckaaGreatSpRf4
import Derived.Test.YtgpbdocgnfjckaaGreatSpRf3
import Derived.Test.YtgpbdocgnfjckaaGreatSpPlain8
namespace Go.Proofs.YtgpbdocgnfjckaaGreat
open Go.RowKit Go.Shelf Sp

def brF (n : Int) (l : Sps) (k : Nat) (d : Int) : Bool := mem l d || mem (brg n (l.take k)) d
theorem mem_take {l : Sps} {k : Nat} {d : Int} (h : mem (l.take k) d = true) : mem l d = true := by
  rw [← List.take_append_drop k l, mem_append, h]; rfl
theorem brF_one {n : Int} {l : Sps} (hv : validB l = true) (d : Int) : brF n l 1 d = mem l d := by
  unfold brF
  cases h : mem (brg n (l.take 1)) d with
  | false => rw [Bool.or_false]
  | true =>
    rcases Nat.eq_zero_or_pos l.length with h0 | h0
    · rw [List.eq_nil_of_length_eq_zero h0] at h; cases h
    · rcases (brg_mem hv 1 h0 d).1 h with h | ⟨i, hi, _⟩
      · rw [mem_take h]; rfl
      · omega
theorem brF_step {n : Int} {l : Sps} (hv : validB l = true) (k : Nat) (h1 : 1 ≤ k) (hk : k < l.length) (x y : Int) (hx : (l[k - 1]'(by omega)).2 = x) (hy : l[k].1 = y) (d : Int) :
    brF n l (k + 1) d = (brF n l k d || (decide (y - x ≤ n) && (decide (x ≤ d) && decide (d < y)))) := by
  unfold brF
  rw [Bool.eq_iff_iff]
  simp only [Bool.or_eq_true, Bool.and_eq_true, decide_eq_true_eq]
  rw [brg_mem hv (k + 1) (by omega), brg_mem hv k (by omega)]
  have hg : Gap n l (k + 1) d ↔ Gap n l k d ∨ (y - x ≤ n ∧ x ≤ d ∧ d < y) := by
    constructor
    · rintro ⟨i, hi, hh, h2, h3, h4⟩
      by_cases e : i + 1 < k
      · exact .inl ⟨i, e, hh, h2, h3, h4⟩
      · have e : i = k - 1 := by omega
        subst e
        have e2 : l[k - 1 + 1] = l[k] := by congr 1; omega
        rw [e2] at h3 h4
        right; omega
    · rintro (⟨i, hi, hh, h2, h3, h4⟩ | ⟨h2, h3, h4⟩)
      · exact ⟨i, by omega, hh, h2, h3, h4⟩
      · refine ⟨k - 1, by omega, by omega, by omega, ?_, ?_⟩
        · have e2 : l[k - 1 + 1]'(by omega) = l[k] := by congr 1; omega
          rw [e2]; omega
        · have e2 : l[k - 1 + 1]'(by omega) = l[k] := by congr 1; omega
          rw [e2]; omega
  rw [hg]
  constructor
  · rintro (h | h | h | h)
    · exact .inl (.inl h)
    · exact .inl (.inl (mem_take h))
    · exact .inl (.inr (.inr h))
    · exact .inr h
  · rintro ((h | h | h) | h)
    · exact .inl h
    · exact .inl (mem_take h)
    · exact .inr (.inr (.inl h))
    · exact .inr (.inr (.inr h))
theorem brF_all {n : Int} {l : Sps} (hv : validB l = true) (k : Nat) (hk : l.length ≤ k) (d : Int) : brF n l k d = mem (brg n l) d := by
  unfold brF
  rw [List.take_of_length_le hk]
  cases h : mem l d with
  | false => rw [Bool.false_or]
  | true =>
    have := (brg_mem hv l.length (Nat.le_refl _) d (n := n)).2
    rw [List.take_length] at this
    rw [this (.inl h)]; rfl
theorem brg_isSet {n : Int} {l : Sps} (hv : validB l = true) : IsSet (mem (brg n l)) (brg n l) := by
  refine IsSet.self ?_
  have := (brg_valid (n := n) hv l.length (Nat.le_refl _)).1
  rwa [List.take_length] at this

theorem rset_is {f : Nat → Bool} {l m : Sps} (hs : IsSet (mk65 f) m) (hv : validB l = true) (hf : ∀ i : Nat, f i = mem l (i : Int)) : m = l := by
  have hf' : f = fun i : Nat => mem l (i : Int) := funext hf
  subst hf'
  exact (hs.congr (mk65_mem (p := mem l) fun d hd => by have := mem_bd hv d hd; omega)).uniq (IsSet.self hv)

set_option maxHeartbeats 1000000 in
set_option maxRecDepth 100000 in
theorem rbridge_ok (l : Sps) (n : Int) (p : Option Addr) (cap : Nat) (w : World) (hl : l.length ≤ 10000) (hv : validB l = true) (hn : 0 ≤ n) (hn1 : n ≤ 9223372036854775807) (hc : Cells w p l) :
    Calls Tryz.prog 31 #[.slice p l.length cap, .int .i64 n] w fun e w' => ∃ v, e = .returned (.tuple #[v, .int .i64 0]) ∧ Owns w' w.heap.size v (brg n l) ∧ Below w.heap.size w w' := by
  have HV := Lib.hid hv
  have HC := Lib.hid hc
  have CV := Lib.hid (rvalid_is l true p cap w hv (by omega) hc)
  clear hv hc
  go_enter Tryz.func31, Tryz.ntmps31
  go_wp2_with fail
  refine CV.out.mono ?_
  rintro e W1 ⟨rfl, b1⟩
  have C1 := Lib.hid (HC.out.below b1)
  go_wp2_with fail
  refine (marks_any l p cap W1 (by omega) C1.out (valid_isS HV.out)).mono ?_
  rintro e W2 ⟨rfl, hm, b2⟩
  have B2 := Lib.hid (below_next b1 b2)
  have HM := Lib.hid hm
  have C2 := Lib.hid (C1.out.below b2)
  have gW : w.heap.size ≤ W1.heap.size := b1.size
  obtain ⟨g, hg⟩ : ∃ g, g = W1.heap.size := ⟨_, rfl⟩
  rw [← hg] at HM gW ⊢
  have HG : g < W2.heap.size := HM.out.lt
  have HNE : Hid (∀ b off, p = some ⟨b, off, none⟩ → b < W1.heap.size → b ≠ g) := Lib.hid (fun b off _ h => by omega)
  have hCb : Hid (∀ b off k, p = some ⟨b, off, none⟩ → k < l.length → b < g) := Lib.hid (fun b off k he hk => by
    obtain ⟨b', off', e, hb, _⟩ := C1.out.at k hk
    rw [he] at e; cases e; omega)
  clear b1 b2 hm C1 CV HNE
  subst hg
  go_wp2
  go_loopw [7] (fun i wr => ∃ k : Nat, 1 ≤ k ∧ (k ≤ l.length ∨ k = 1) ∧ i = .int .i64 k ∧ Hid (MkRow 65536 wr W1.heap.size (fun d => brF n l k d)) ∧ But W1.heap.size W2 wr) (fun i _ => l.length - (intOf i).toNat)
  case atStart => exact ⟨1, by omega, .inr rfl, rfl, Lib.hid (HM.out.congr fun i => (brF_one HV.out _).symm), But.refl _ _⟩
  case round =>
    obtain ⟨k, hk1, hkl, rfl, hI, hb⟩ := hrel
    by_cases hlt : k < l.length
    · obtain ⟨b, off, rfl, hbl, x0, y, hxy, h1, h2⟩ := C2.out.at (k - 1) (by omega)
      obtain ⟨b', off', he, _, x, y0, hxy', h3, h4⟩ := C2.out.at k hlt
      cases he
      have hbg : b < W1.heap.size := hCb.out b off (k - 1) rfl (by omega)
      have cellAt : ∀ (V : World) (i : Nat) (u : Value), But W1.heap.size W2 V → W2.cell? ⟨b, i, none⟩ = some u → V.cell? ⟨b, i, none⟩ = some u := fun V i u hB hcell => by
        rw [World.cell?_of_block (w := W2) (a := ⟨b, i, none⟩) (hB.block b hbl (by omega))]; exact hcell
      have HCA := Lib.hid cellAt
      have c1 := cellAt wr _ _ hb h2
      have c2 := cellAt wr _ _ hb h3
      have G1 := valid_get HV.out (k := k - 1) (by omega)
      have G2 := valid_get HV.out hlt
      have G3 := valid_mono HV.out (i := k - 1) (j := k) (by omega) hlt
      have hst := Lib.hid (brF_step (n := n) HV.out k hk1 hlt y x (by rw [hxy]) (by rw [hxy']))
      rw [hxy] at G1 G3
      rw [hxy'] at G2 G3
      dsimp only at G1 G2 G3
      have j1 : (1 : Int) ≤ (k : Int) := by omega
      have j0 : (0 : Int) ≤ (k : Int) - 1 := by omega
      have j2 : (k : Int) - 1 < (l.length : Int) := by omega
      have j3 : ((k : Int) - 1).toNat = k - 1 := by omega
      have j4 : IntKind.i64.wrap ((k : Int) - 1) = (k : Int) - 1 := IntWalk.i64_in _ (by omega)
      have j5 : IntKind.i64.wrap (x - y) = x - y := IntWalk.i64_in _ (by omega)
      clear hxy hxy' cellAt h1 h4
      by_cases hnear : x - y ≤ n
      · go_wp2_with fail
        go_quiet (fail)
        obtain ⟨V, hVe⟩ : ∃ V, wr.drewN nq = V := ⟨_, rfl⟩
        have hb2 : But W1.heap.size W2 V := by subst hVe; exact ⟨hb.os, hb.tape, hb.output, hb.size, hb.block⟩
        have hI2 : Hid (MkRow 65536 V W1.heap.size (fun d => brF n l k d)) := by subst hVe; exact hI
        have c1 := HCA.out V _ _ hb2 h2
        have c2 := HCA.out V _ _ hb2 h3
        rw [hVe]
        clear hVe hb hI
        go_wp2_with fail
        go_loopw [8] (fun d U => ∃ e : Int, y ≤ e ∧ e ≤ x ∧ d = .int .i64 e ∧ Hid (MkRow 65536 U W1.heap.size (fun d => brF n l k d || (decide (y ≤ (d : Int)) && decide ((d : Int) < e)))) ∧ But W1.heap.size W2 U) (fun d _ => (x - intOf d).toNat)
        case atStart => exact ⟨y, by omega, by omega, rfl, Lib.hid (hI2.out.congr fun i => by
          have : (decide (y ≤ (i : Int)) && decide ((i : Int) < y)) = false := by simp
          rw [this, Bool.or_false]), hb2⟩
        case round =>
          obtain ⟨e, he0, he1, rfl, hJ, hB⟩ := hrel
          have c2 := HCA.out _ _ _ hB h3
          by_cases hey : e < x
          · have m0 : (0 : Int) ≤ e := by omega
            have m1 : e < 65536 := by omega
            have q0 := hJ.out.cell e.toNat (by omega)
            have f0 := hJ.out.frozen e.toNat
            have hN := Lib.hid ((hJ.out.set_ e.toNat true).congr (f' := fun d => brF n l k d || (decide (y ≤ (d : Int)) && decide ((d : Int) < e + 1))) fun i => by
              by_cases hi : i = e.toNat
              · rw [if_pos hi]
                have h9 : (decide (y ≤ (i : Int)) && decide ((i : Int) < e + 1)) = true := by simp; omega
                rw [h9, Bool.or_true]
              · rw [if_neg hi]
                have h9 : (decide (y ≤ (i : Int)) && decide ((i : Int) < e + 1)) = (decide (y ≤ (i : Int)) && decide ((i : Int) < e)) := by
                  rw [show decide ((i : Int) < e + 1) = decide ((i : Int) < e) from decide_eq_decide.2 (by omega)]
                rw [h9])
            have hBN := Lib.hid (hB.set_ e.toNat (.bool true))
            clear hB hJ
            go_wp2
            go_roundw
            case rel => exact ⟨e + 1, by omega, by omega, by go_num, hN, hBN.out⟩
            case measure => simp [intOf]; omega
          · obtain rfl : e = x := by omega
            have hN := Lib.hid (hJ.out.congr (f' := fun d => brF n l (k + 1) d) fun i => by
              rw [hst.out, decide_eq_true hnear, Bool.true_and])
            clear hJ
            go_wp2
            go_roundw
            case rel => exact ⟨k + 1, by omega, by omega, by go_num, hN, hB⟩
            case measure => simp [intOf]; omega
      · have hN := Lib.hid (hI.out.congr (f' := fun d => brF n l (k + 1) d) fun i => by
          rw [hst.out, decide_eq_false hnear, Bool.false_and, Bool.or_false])
        go_wp2_with fail
        go_quiet (fail)
        obtain ⟨V, hVe⟩ : ∃ V, wr.drewN nq = V := ⟨_, rfl⟩
        have hb2 : But W1.heap.size W2 V := by subst hVe; exact ⟨hb.os, hb.tape, hb.output, hb.size, hb.block⟩
        have hI2 : Hid (MkRow 65536 V W1.heap.size (fun d => brF n l (k + 1) d)) := by subst hVe; exact hN
        rw [hVe]
        clear hVe hb hI hN
        go_wp2_with fail
        go_roundw
        case rel => exact ⟨k + 1, by omega, by omega, by go_num, hI2, hb2⟩
        case measure => simp [intOf]; omega
    · have hN := Lib.hid (hI.out.congr (f' := fun d => mem (brg n l) d) fun i => brF_all HV.out k (by omega) i)
      go_wp2_with fail
      refine (setR_any _ _ wr hN.out).mono ?_
      rintro e W3 ⟨v, m, rfl, hs, _, ho, hb3⟩
      have heq := Lib.hid (rset_is hs (brg_isSet HV.out).valid (fun i => rfl))
      have B3 := hb.belowOf B2.out gW
      have B4 := B3.trans (hb3.mono B3.size)
      have HO := Lib.hid (ho.mono B3.size)
      clear hs ho hb3
      go_wp2
      go_ret2
      exact ⟨v, rfl, by rw [← heq.out]; exact HO.out, B4⟩

theorem rbridge_bad (l : Sps) (n : Int) (p : Option Addr) (cap : Nat) (w : World) (hl : l.length ≤ 10000) (hv : validB l = false ∨ n < 0) (hc : Cells w p l) :
    Calls Tryz.prog 31 #[.slice p l.length cap, .int .i64 n] w fun e w' => e = .returned (.tuple #[.slice none 0 0, .int .i64 2]) ∧ Below w.heap.size w w' := by
  cases hb : validB l with
  | false =>
    have CV := Lib.hid (rvalid_is l false p cap w hb (by omega) hc)
    clear hc hv hb
    go_enter Tryz.func31, Tryz.ntmps31
    go_wp2_with fail
    refine CV.out.mono ?_
    rintro e W1 ⟨rfl, b1⟩
    go_wp2
    go_ret2
    exact ⟨rfl, b1⟩
  | true =>
    have hn : n < 0 := by rcases hv with h | h; rw [hb] at h; cases h; exact h
    have CV := Lib.hid (rvalid_is l true p cap w hb (by omega) hc)
    clear hc hv hb
    go_enter Tryz.func31, Tryz.ntmps31
    go_wp2_with fail
    refine CV.out.mono ?_
    rintro e W1 ⟨rfl, b1⟩
    go_wp2
    go_ret2
    exact ⟨rfl, b1⟩

end Go.Proofs.YtgpbdocgnfjckaaGreat
