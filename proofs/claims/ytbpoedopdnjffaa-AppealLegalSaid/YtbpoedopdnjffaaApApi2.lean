/- At, Held, Settles. -/
import Derived.Test.YtbpoedopdnjffaaApApi
namespace Go.Proofs.Ytbpoedopdnjffaa
open Go.RowKit Go.Shelf Sp

/-- The slice v is the cases L, all of it in memory of its own at base or beyond. -/
def AParts (W : World) (base : Nat) (v : Value) (ps : List (Cs × Value)) : Prop :=
  W.ownsRow base 39 10 v ps.length (cflat ps) ∧ (∀ p ∈ ps, Owns W base p.2 p.1.held) ∧ ps.Pairwise fun p q => p.2.ownBlock = none ∨ p.2.ownBlock ≠ q.2.ownBlock
def ARow (W : World) (base : Nat) (v : Value) (L : List Cs) : Prop := ∃ ps, ps.map Prod.fst = L ∧ AParts W base v ps
theorem ARow.nil (W : World) (base : Nat) : ARow W base (.slice none 0 0) [] := ⟨[], rfl, World.ownsRow_nil _ _ _ _, by simp, List.Pairwise.nil⟩
theorem Owns.base {W : World} {b b2 : Nat} {v : Value} {l : Sps} (h : Owns W b v l) (hb : b2 ≤ b) : Owns W b2 v l := by
  refine ⟨h.1, ?_⟩
  rcases h.2 with h1 | ⟨g, cap, cur, e, hb', rest⟩
  · exact .inl h1
  · exact .inr ⟨g, cap, cur, e, by omega, rest⟩
theorem ownsRow_low {W : World} {e : TypeId} {s b b2 : Nat} {v : Value} {n : Nat} {xs : List Value} (h : W.ownsRow b e s v n xs) (hb : b2 ≤ b) : W.ownsRow b2 e s v n xs := by
  refine ⟨h.1, ?_⟩
  rcases h.2 with h1 | ⟨g, cap, cur, e, hb', rest⟩
  · exact .inl h1
  · exact .inr ⟨g, cap, cur, e, by omega, rest⟩
theorem ARow.low {W : World} {base b2 : Nat} {v : Value} {L : List Cs} (h : ARow W base v L) (hb : b2 ≤ base) : ARow W b2 v L := by
  obtain ⟨ps, h1, h2, h3, h4⟩ := h
  exact ⟨ps, h1, ownsRow_low h2 hb, fun p hp => (h3 p hp).base hb, h4⟩
theorem ownsRow_later {W W' : World} {e : TypeId} {s base : Nat} {v : Value} {n : Nat} {xs : List Value} (h : W.ownsRow base e s v n xs) (hb : Below W.heap.size W W') : W'.ownsRow base e s v n xs :=
  World.ownsRow.kept h (row := none) ⟨hb.os, hb.tape, hb.output, hb.size, fun k hk _ => hb.block k hk⟩ (by cases v.ownBlock <;> simp)
theorem ARow.later {W W' : World} {base : Nat} {v : Value} {L : List Cs} (h : ARow W base v L) (hb : Below W.heap.size W W') : ARow W' base v L := by
  obtain ⟨ps, h1, h2, h3, h4⟩ := h
  exact ⟨ps, h1, ownsRow_later h2 hb, fun p hp => (h3 p hp).later hb, h4⟩

/-- Held days stay where a row of cases grows. -/
theorem Owns.grownCase {W w' : World} {ps : List (Cs × Value)} {v : Value} {base : Nat} (hr : W.ownsRow base 39 10 v ps.length (cflat ps)) (hg : W.grownBy w' v.ownBlock) {b0 : Nat} {u : Value} {l : Sps} (ho : Owns W b0 u l) : Owns w' b0 u l := by
  refine World.ownsRow.kept ho hg ?_
  cases hu : u.ownBlock with
  | none => exact .inl rfl
  | some k =>
    right
    intro e
    rcases hr.2 with ⟨rfl, _⟩ | ⟨g, cap, cur, rfl, _, hgb, _⟩
    · simp [Value.ownBlock] at e
    · obtain rfl : k = g := by simpa [Value.ownBlock] using e
      rcases ho.2 with ⟨rfl, _⟩ | ⟨g2, cap2, cur2, rfl, _, hgb2, _⟩
      · simp [Value.ownBlock] at hu
      · obtain rfl : g2 = k := by simpa [Value.ownBlock] using hu
        rw [hgb] at hgb2
        injection hgb2 with hgb2
        injection hgb2 with _ e2 _
        exact absurd e2 (by decide)

theorem AParts.step {wr W2 w' : World} {base : Nat} {v v' : Value} {ps : List (Cs × Value)} (h : AParts wr base v ps) (hb : Below wr.heap.size wr W2) (hbase : base ≤ wr.heap.size) {c : Cs} {u : Value} (ho : Owns W2 wr.heap.size u c.held) (o : Obj)
    (hg : (W2.alloc o).grownBy w' v.ownBlock) (hown : w'.ownsRow base 39 10 v' (ps.length + 1) (cflat ps ++ csRow c u)) : AParts w' base v' (ps ++ [(c, u)]) := by
  obtain ⟨h2, h3, h4⟩ := h
  have hr : (W2.alloc o).ownsRow base 39 10 v ps.length (cflat ps) := (ownsRow_later h2 hb).alloc o
  refine ⟨by rw [List.length_append, List.length_singleton, cflat_append]; simpa [cflat] using hown, fun p hp => ?_, List.pairwise_append.2 ⟨h4, List.pairwise_singleton .., fun p hp q hq => ?_⟩⟩
  · rcases List.mem_append.1 hp with hp | hp
    · exact Owns.grownCase hr hg (World.ownsRow.alloc ((h3 p hp).later hb) o)
    · rw [List.mem_singleton.1 hp]
      exact (Owns.grownCase hr hg (World.ownsRow.alloc ho o)).base hbase
  · rw [List.mem_singleton.1 hq]
    cases hk : p.2.ownBlock with
    | none => exact .inl rfl
    | some k =>
      right
      intro e
      have l1 := (World.ownsRow.lt (h3 p hp) k hk).2
      have l2 := (World.ownsRow.lt ho k e.symm).1
      omega
theorem AParts.below {wr W2 w' W1 : World} {v : Value} {ps : List (Cs × Value)} (h : AParts wr W1.heap.size v ps) (hb1 : Below W1.heap.size W1 wr) (hb : Below wr.heap.size wr W2) (o : Obj) (hg : (W2.alloc o).grownBy w' v.ownBlock) : Below W1.heap.size W1 w' :=
  (((hb1.trans (hb.mono hb1.size)).alloc (Nat.le_trans hb1.size hb.size) o)).grown hg (by have := hb1.size; have := hb.size; simp; omega) fun g e => (World.ownsRow.lt h.1 g e).1

theorem cell_case (w : World) (c : Cs) (u : Value) (k : Nat) (hk : w.heap.size = k) : ∀ j x, (csRow c u)[j]? = some x → (w.alloc (.cells #[.bool c.el, .int .u8 c.st, .int .i64 c.opened, .int .i64 c.days, .int .i64 c.choice, .int .i64 c.level, .int .i64 c.due, .bool c.hold, .int .i64 c.since, u] 39)).cell? ((⟨k, 0, none⟩ : Addr).add j) = some x := by
  subst hk
  exact World.news_of_block (World.alloc_heap_new w _)

theorem atErr_bad {l : List Fl} {d : Int} (h : ¬ (0 ≤ d ∧ d ≤ 65535)) : atErr l d = 2 := by unfold atErr; rw [if_neg h]
theorem atErr_day {l : List Fl} {d : Int} (h : 0 ≤ d ∧ d ≤ 65535) (h2 : d < (runD l).last) : atErr l d = 400 := by unfold atErr; rw [if_pos h, if_pos h2]
theorem atErr_ok {l : List Fl} {d : Int} (h : 0 ≤ d ∧ d ≤ 65535) (h2 : ¬ d < (runD l).last) : atErr l d = 0 := by unfold atErr; rw [if_pos h, if_neg h2]
theorem ret_err {v : Value} {a b : Int} (h : a = b) : Ending.returned (.tuple #[v, .int .i64 a]) = .returned (.tuple #[v, .int .i64 b]) := by rw [h]
/-- What At hands back. -/
def AtAll (l : List Fl) (d : Int) (w : World) (e : Ending) (w' : World) : Prop := ∃ v, e = .returned (.tuple #[v, .int .i64 (atErr l d)]) ∧ ARow w' w.heap.size v (atD l d) ∧ Below w.heap.size w w'

set_option maxHeartbeats 4000000 in
set_option maxRecDepth 100000 in
theorem atAll_any (l : List Fl) (d : Int) (p : Option Addr) (cap : Nat) (w : World) (hc : FCells w p l) (bd : ∀ f ∈ l, f.Bd) (hl : l.length ≤ 100000) :
    Calls Try.prog 16 #[.slice p l.length cap, .int .i64 d] w (AtAll l d w) := by
  by_cases hd : 0 ≤ d ∧ d ≤ 65535
  · have CD := Lib.hid (isDay_is d true (by simp [hd.1, hd.2]))
    have CF := Lib.hid (file_new l p cap w hc bd hl)
    have DO := Lib.hid (runD_ok l)
    have hlen := DO.out.len
    obtain ⟨la, hla⟩ : ∃ la, la = (runD l).last := ⟨_, rfl⟩
    obtain ⟨L, hLL⟩ : ∃ L, L = (runD l).cs := ⟨_, rfl⟩
    rw [← hla, ← hLL] at CF
    rw [← hLL] at hlen
    have HLA := Lib.hid hla
    have HLL := Lib.hid hLL
    clear hc bd hla hLL
    by_cases h2 : d < la
    · have HE := Lib.hid (atErr_day hd (by rw [← HLA.out]; exact h2))
      have HX := Lib.hid (show atD l d = [] by unfold atD; rw [HE.out, if_neg (by decide)])
      go_enter Try.func16, Try.ntmps16
      go_wp2_with fail
      refine (CD.out _).mono ?_
      rintro e w1 ⟨rfl, rfl⟩
      go_wp2_with fail
      refine CF.out.mono ?_
      rintro e W ⟨v, rfl, _, hdk, hb⟩
      obtain ⟨pc, cc, d0, d1, _⟩ := hdk.cell
      clear hdk
      go_wp2
      go_ret2
      exact ⟨_, ret_err HE.out.symm, by rw [HX.out]; exact ARow.nil _ _, hb⟩
    · have HE := Lib.hid (atErr_ok hd (by rw [← HLA.out]; exact h2))
      have HX := Lib.hid (show atD l d = L.map fun c => atP c d by unfold atD; rw [HE.out, if_pos rfl, ← HLL.out])
      obtain ⟨i0, hi0, hz0, hz1, hz2⟩ := info_parts info_case
      go_enter Try.func16, Try.ntmps16
      go_wp2_with fail
      refine (CD.out _).mono ?_
      rintro e w1 ⟨rfl, rfl⟩
      go_wp2_with fail
      refine CF.out.mono ?_
      rintro e W1 ⟨v, rfl, _, hdk, hb⟩
      have HD := Lib.hid hdk
      obtain ⟨pc, cc, d0, d1, _⟩ := hdk.cell
      have HB := Lib.hid hb
      have hws : w.heap.size < W1.heap.size := hdk.lt
      clear hdk hb
      go_wp2
      go_loopw [22, 7] (fun i u wr => ∃ (k : Nat) (v : Value), k ≤ L.length ∧ i = .int .i64 k ∧ v = u ∧ Hid (ARow wr W1.heap.size v ((L.take k).map fun c => atP c d)) ∧ Hid (Below W1.heap.size W1 wr)) (fun i _ _ => L.length - (intOf i).toNat)
      case atStart => exact ⟨0, _, by omega, rfl, rfl, Lib.hid (ARow.nil _ _), Lib.hid (Below.refl _ _)⟩
      case round =>
        obtain ⟨k, v, hk, rfl, rfl, hI, hb⟩ := hrel
        by_cases hlt : k < L.length
        · have hst := Lib.hid (show (L.take (k + 1)).map (fun c => atP c d) = (L.take k).map (fun c => atP c d) ++ [atP L[k] d] by rw [List.take_succ_eq_append_getElem hlt, List.map_append]; rfl)
          obtain ⟨ps, hm, hA⟩ := hI.out
          have hpl : ps.length = k := by
            have := congrArg List.length hm
            rw [List.length_map, List.length_map, List.length_take] at this; omega
          have HM := Lib.hid hm
          have HA := Lib.hid hA
          have HPL := Lib.hid hpl
          have CA := Lib.hid (at_any (w.heap.size + 1) w.heap.size k L la d wr (HD.out.later hb.out) hlt (DO.out.cs _ (by rw [← HLL.out]; exact List.getElem_mem hlt)) hd hlen)
          have hsz := hb.out.size
          clear hm hA hpl hI
          obtain ⟨c, hc⟩ : ∃ c, c = atP L[k] d := ⟨_, rfl⟩
          rw [← hc] at CA hst
          clear hc
          go_wp2_with fail
          refine CA.out.mono ?_
          rintro e W2 ⟨u, rfl, ho, hb2⟩
          obtain ⟨pu, cu, rfl, _⟩ := ho.form
          have HO := Lib.hid ho
          have HB2 := Lib.hid hb2
          have hsz2 := hb2.size
          clear ho hb2
          have HR := Lib.hid (show W2.ownsRow W1.heap.size 39 10 v k (cflat ps) from by have := ownsRow_later HA.out.1 HB2.out; rw [HPL.out] at this; exact this)
          go_wp2_with (first | (at_builtin; refine wpList_append_own _ rfl _ _ 33 rfl W1.heap.size 39 i0 _ 10 88 Try.underlying33 hi0 hz0 hz1 hz2 rfl (by decide) _ _ (cflat ps) rfl (HR.out.alloc _) ⟨W2.heap.size, 0, none⟩ 1 1 (csRow c (.slice pu c.held.length cu)) rfl rfl (cell_case W2 c _ _ rfl) (by simp [csRow, Value.oneCell']) (by unfold maxLen; omega) (by omega) (by simp; omega) ?_; intro v' w1 hown' hgrow _) | fail)
          have H1 := Lib.hid (AParts.step HA.out HB2.out hsz HO.out _ hgrow (by rw [HPL.out]; exact hown'))
          have H2 := Lib.hid (AParts.below HA.out hb.out HB2.out _ hgrow)
          clear hown' hgrow
          go_roundw
          case rel => exact ⟨k + 1, _, by omega, by go_num, rfl, Lib.hid ⟨_, by rw [hst.out, List.map_append, HM.out]; rfl, H1.out⟩, H2⟩
          case measure => simp [intOf]; omega
        · obtain rfl : k = L.length := by omega
          have H1 := Lib.hid (show ARow wr w.heap.size v (atD l d) by rw [HX.out]; have := hI.out; rw [List.take_length] at this; exact this.low (by omega))
          have H2 := Lib.hid (show Below w.heap.size w wr from HB.out.trans (hb.out.mono (by omega)))
          go_wp2
          go_ret2
          exact ⟨v, ret_err HE.out.symm, H1.out, H2.out⟩
  · have hd' : (decide (0 ≤ d) && decide (d ≤ 65535)) = false := by rw [← Bool.not_eq_true]; simpa using hd
    have CD := Lib.hid (isDay_is d false hd')
    have HE := Lib.hid (atErr_bad (l := l) hd)
    have HX := Lib.hid (show atD l d = [] by unfold atD; rw [HE.out, if_neg (by decide)])
    clear hd hd' hc bd hl
    go_enter Try.func16, Try.ntmps16
    go_wp2_with fail
    refine (CD.out _).mono ?_
    rintro e w1 ⟨rfl, rfl⟩
    go_wp2
    go_ret2
    exact ⟨_, ret_err HE.out.symm, by rw [HX.out]; exact ARow.nil _ _, Below.refl _ _⟩

theorem run_field9 (a0 a1 a2 a3 a4 a5 a6 a7 a8 : Value) (p : Option Addr) (n c : Nat) (W : World) : (Instr.field 39 (.agg #[a0, a1, a2, a3, a4, a5, a6, a7, a8, .slice p n c]) 9).run Try.prog W = .ok (.slice p n c) W := by
  kernel_rfl

/-- An index of a case, or none. -/
theorem heldD_no {l : List Fl} {n d : Int} (h : ¬ (1 ≤ n ∧ n ≤ (runD l).cs.length) ∨ ¬ (0 ≤ max d (runD l).last ∧ max d (runD l).last ≤ 65535)) : heldD l n d = false := by
  unfold heldD
  dsimp only
  rcases h with h | h
  · have : (decide (1 ≤ n) && decide (n ≤ ((runD l).cs.length : Int))) = false := by rw [← Bool.not_eq_true]; simpa using h
    rw [this]; simp
  · have : (decide (0 ≤ max d (runD l).last) && decide (max d (runD l).last ≤ 65535)) = false := by rw [← Bool.not_eq_true]; simpa using h
    rw [this]; simp
theorem heldD_yes {l : List Fl} {k : Nat} {d : Int} (hk : k < (runD l).cs.length) (hx : 0 ≤ max d (runD l).last ∧ max d (runD l).last ≤ 65535) : heldD l ((k : Int) + 1) d = mem (atP (runD l).cs[k] (max d (runD l).last)).held d := by
  unfold heldD
  dsimp only
  have e1 : (decide (0 ≤ max d (runD l).last) && decide (max d (runD l).last ≤ 65535)) = true := by simpa using hx
  have e2 : (decide (1 ≤ (k : Int) + 1) && decide ((k : Int) + 1 ≤ ((runD l).cs.length : Int))) = true := by simp; omega
  rw [e1, e2, show ((k : Int) + 1).toNat - 1 = k by omega, List.getD_eq_getElem?_getD, List.getElem?_eq_getElem hk]
  rfl

set_option maxHeartbeats 4000000 in
set_option maxRecDepth 100000 in
theorem heldAll_any (l : List Fl) (n d : Int) (p : Option Addr) (cap : Nat) (w : World) (hc : FCells w p l) (bd : ∀ f ∈ l, f.Bd) (hl : l.length ≤ 100000) :
    Calls Try.prog 22 #[.slice p l.length cap, .int .i64 n, .int .i64 d] w fun e w' => e = .returned (.bool (heldD l n d)) ∧ Below w.heap.size w w' := by
  have CF := Lib.hid (file_new l p cap w hc bd hl)
  have DO := Lib.hid (runD_ok l)
  have hlen := DO.out.len
  obtain ⟨la, hla⟩ : ∃ la, la = (runD l).last := ⟨_, rfl⟩
  obtain ⟨L, hLL⟩ : ∃ L, L = (runD l).cs := ⟨_, rfl⟩
  rw [← hla, ← hLL] at CF
  rw [← hLL] at hlen
  have HLA := Lib.hid hla
  have HLL := Lib.hid hLL
  obtain ⟨x, hx⟩ : ∃ x, x = max d la := ⟨_, rfl⟩
  have hmx : (if d < la then la else d) = x := by rw [hx]; split <;> omega
  have HX := Lib.hid hx
  clear hc bd hla hLL hx
  by_cases hxd : 0 ≤ x ∧ x ≤ 65535
  · have CD := Lib.hid (isDay_is x true (by simp [hxd.1, hxd.2]))
    by_cases hn1 : n < 1
    · have HR := Lib.hid (show heldD l n d = false from heldD_no (.inl (by omega)))
      go_enter Try.func22, Try.ntmps22
      go_wp2_with fail
      refine CF.out.mono ?_
      rintro e W ⟨v, rfl, _, hdk, hb⟩
      obtain ⟨pc, cc, d0, d1, _⟩ := hdk.cell
      clear hdk
      go_wp2_with fail
      refine (CD.out _).mono ?_
      rintro e w1 ⟨rfl, rfl⟩
      go_wp2
      go_ret
      exact ⟨ret_bool HR.out.symm, hb⟩
    · by_cases hn2 : (L.length : Int) < n
      · have HR := Lib.hid (show heldD l n d = false from heldD_no (.inl (by rw [← HLL.out]; omega)))
        go_enter Try.func22, Try.ntmps22
        go_wp2_with fail
        refine CF.out.mono ?_
        rintro e W ⟨v, rfl, _, hdk, hb⟩
        obtain ⟨pc, cc, d0, d1, _⟩ := hdk.cell
        clear hdk
        go_wp2_with fail
        refine (CD.out _).mono ?_
        rintro e w1 ⟨rfl, rfl⟩
        go_wp2
        go_ret
        exact ⟨ret_bool HR.out.symm, hb⟩
      · obtain ⟨k, rfl⟩ : ∃ k : Nat, n = (k : Int) + 1 := ⟨(n - 1).toNat, by omega⟩
        have hkl : k < L.length := by omega
        have HOK := Lib.hid (show (L[k]).Ok from DO.out.cs _ (by rw [← HLL.out]; exact List.getElem_mem hkl))
        have HR := Lib.hid (show heldD l ((k : Int) + 1) d = mem (atP L[k] x).held d from by
          have e := heldD_yes (l := l) (k := k) (d := d) (by rw [← HLL.out]; exact hkl) (by rw [← HLA.out, ← HX.out]; exact hxd)
          rw [← HLA.out, ← HX.out] at e
          rw [e]
          simp only [HLL.out])
        have CA := Lib.hid (fun W h => at_any (w.heap.size + 1) w.heap.size k L la x W h hkl HOK.out hxd hlen)
        have hfl := run_field9
        have HV := Lib.hid (atP_held_valid HOK.out x)
        have HL14 := Lib.hid (show (atP L[k] x).held.length ≤ 14 from Nat.le_trans (heldP_len (passP_ok HOK.out x) _) hb_max)
        obtain ⟨c, hcc⟩ : ∃ c, c = atP L[k] x := ⟨_, rfl⟩
        rw [← hcc] at HR CA HV HL14
        clear hcc
        go_enter Try.func22, Try.ntmps22
        go_wp2_with fail
        refine CF.out.mono ?_
        rintro e W ⟨v, rfl, _, hdk, hb⟩
        obtain ⟨pc, cc, d0, d1, _⟩ := hdk.cell
        have HD := Lib.hid hdk
        have HB := Lib.hid hb
        clear hdk hb
        go_wp2_with fail
        refine (CD.out _).mono ?_
        rintro e w1 ⟨rfl, rfl⟩
        go_wp2_with fail
        refine (CA.out _ HD.out).mono ?_
        rintro e W2 ⟨u, rfl, ho, hb2⟩
        obtain ⟨pu, cu, rfl, hcu⟩ := ho.form
        have HS := Lib.hid (has_ok c.held d pu cu W2 (by have := HL14.out; omega) HV.out hcu)
        have HB2 := Lib.hid (below_next HB.out hb2)
        clear ho hcu hb2
        go_wp2_with fail
        refine HS.out.mono ?_
        rintro e W3 ⟨rfl, hb3⟩
        go_wp2
        go_ret
        exact ⟨ret_bool HR.out.symm, below_next HB2.out hb3⟩
  · have hd' : (decide (0 ≤ x) && decide (x ≤ 65535)) = false := by rw [← Bool.not_eq_true]; simpa using hxd
    have CD := Lib.hid (isDay_is x false hd')
    have HR := Lib.hid (show heldD l n d = false from heldD_no (.inr (by rw [← HLA.out, ← HX.out]; exact hxd)))
    clear hd' hxd
    go_enter Try.func22, Try.ntmps22
    go_wp2_with fail
    refine CF.out.mono ?_
    rintro e W ⟨v, rfl, _, hdk, hb⟩
    obtain ⟨pc, cc, d0, d1, _⟩ := hdk.cell
    clear hdk
    go_wp2_with fail
    refine (CD.out _).mono ?_
    rintro e w1 ⟨rfl, rfl⟩
    go_wp2
    go_ret
    exact ⟨ret_bool HR.out.symm, hb⟩

end Go.Proofs.Ytbpoedopdnjffaa
