/- The reference's Make; SpanMakes. -/
import Derived.Test.YtgpbdocgnfjckaaGreatSpRf2
import Derived.Test.YtgpbdocgnfjckaaGreatSpLent2
namespace Go.Proofs.YtgpbdocgnfjckaaGreat
open Go.RowKit Go.Shelf Sp

theorem mem_fine {l : Sps} (h : ∀ s ∈ l, isS s.1 s.2 = true) (d : Int) (hd : mem l d = true) : 0 ≤ d ∧ d < 65536 := by
  obtain ⟨s, hs, h1, h2⟩ := (mem_iff l d).1 hd
  have := isS_iff.1 (h s hs)
  omega
theorem mk65_mem {p : Int → Bool} (h : ∀ d, p d = true → 0 ≤ d ∧ d < 65536) (d : Int) : mk65 (fun i => p i) d = p d := by
  unfold mk65
  rw [Bool.eq_iff_iff]
  simp only [Bool.and_eq_true, decide_eq_true_eq]
  constructor
  · rintro ⟨⟨h0, _⟩, h2⟩; rw [Int.toNat_of_nonneg h0] at h2; exact h2
  · intro hd
    have := h d hd
    exact ⟨this, by rw [Int.toNat_of_nonneg this.1]; exact hd⟩
theorem Cells.left {W : World} {p : Option Addr} {a b : Sps} (h : Cells W p (a ++ b)) : Cells W p a := by
  rcases h with h | ⟨g, off, e, hc⟩
  · left; exact (List.append_eq_nil_iff.1 h).1
  · refine .inr ⟨g, off, e, fun i hi => ?_⟩
    have := hc i (by rw [List.length_append]; omega)
    rwa [List.getElem_append_left hi] at this

set_option maxHeartbeats 2000000 in
set_option maxRecDepth 100000 in
theorem rmake_loop (l : Sps) (p : Option Addr) (cap : Nat) (w : World) (hl : l.length ≤ 10000) (hc : Cells w p l) :
    Calls Tryz.prog 25 #[.slice p l.length cap] w fun e w' =>
      ((∀ s ∈ l, isS s.1 s.2 = true) ∧ ∃ v m, e = .returned (.tuple #[v, .int .i64 0]) ∧ IsSet (mem l) m ∧ Owns w' w.heap.size v m ∧ Below w.heap.size w w') ∨
      ((l.all fun s => isS s.1 s.2) = false ∧ e = .returned (.tuple #[.slice none 0 0, .int .i64 2]) ∧ Below w.heap.size w w') := by
  have HC := Lib.hid hc
  clear hc
  go_enter Tryz.func25, Tryz.ntmps25
  go_wp2
  go_loopw [4] (fun i wr => ∃ k : Nat, k ≤ l.length ∧ i = .int .i64 k ∧ Below w.heap.size w wr ∧ Hid (∀ s ∈ l.take k, isS s.1 s.2 = true)) (fun i _ => l.length - (intOf i).toNat)
  case atStart => exact ⟨0, by omega, rfl, Below.refl _ _, Lib.hid (fun s hs => by simp at hs)⟩
  case round =>
    obtain ⟨k, hk, rfl, hb, hI⟩ := hrel
    by_cases hlt : k < l.length
    · obtain ⟨b, off, rfl, hbl, x, y, hxy, h1, h2⟩ := HC.out.at k hlt
      have c1 := (hb.cell (p := ⟨b, off + k * 2, none⟩) hbl).trans h1
      have c2 := (hb.cell (p := ⟨b, off + k * 2 + 1, none⟩) hbl).trans h2
      have hst := Lib.hid (take_succ_snoc hlt)
      rw [hxy] at hst
      have hmem := Lib.hid (show (x, y) ∈ l by rw [← hxy]; exact List.getElem_mem hlt)
      clear hxy h1 h2
      by_cases hS : isS x y = true
      · have CS := Lib.hid (fun W => right_is x y true W hS)
        have HS := Lib.hid hS
        clear hS
        go_wp2_with fail
        refine (CS.out _).mono ?_
        rintro e W2 ⟨rfl, hb2⟩
        have B2 := hb.trans (hb2.mono hb.size)
        clear hb2 c1 c2
        have hN := Lib.hid (show ∀ s ∈ l.take (k + 1), isS s.1 s.2 = true from fun s hs => by
          rw [hst.out, List.mem_append] at hs
          rcases hs with hs | hs
          · exact hI.out s hs
          · simp at hs; rw [hs]; exact HS.out)
        go_wp2
        go_roundw
        case rel => exact ⟨k + 1, by omega, by go_num, B2, hN⟩
        case measure => simp [intOf]; omega
      · have hS' : isS x y = false := by simpa using hS
        have CS := Lib.hid (fun W => right_is x y false W hS')
        have hbad := Lib.hid (show (l.all fun s => isS s.1 s.2) = false by
          rw [← Bool.not_eq_true, List.all_eq_true]; intro h; exact hS (h _ hmem.out))
        clear hS hS'
        go_wp2_with fail
        refine (CS.out _).mono ?_
        rintro e W2 ⟨rfl, hb2⟩
        have B2 := hb.trans (hb2.mono hb.size)
        clear hb2 c1 c2
        go_wp2
        go_ret2
        exact .inr ⟨hbad.out, rfl, B2⟩
    · obtain rfl : k = l.length := by omega
      rw [List.take_length] at hI
      go_wp2_with fail
      refine (marks_any l p cap wr (by omega) (HC.out.below hb) hI.out).mono ?_
      rintro e W2 ⟨rfl, hm, hb2⟩
      have B2 := hb.trans (hb2.mono hb.size)
      have HM := Lib.hid hm
      clear hm hb2
      go_wp2_with fail
      refine (setR_any _ _ W2 HM.out).mono ?_
      rintro e W3 ⟨v, m, rfl, hs, _, ho, hb3⟩
      have B3 := B2.trans (hb3.mono B2.size)
      have HS := Lib.hid (hs.congr (mk65_mem (mem_fine hI.out)))
      have HO := Lib.hid (ho.mono B2.size)
      clear hs ho hb3 HM
      go_wp2
      go_ret2
      exact .inl ⟨hI.out, v, m, rfl, HS.out, HO.out, B3⟩

theorem rmake_ok (l : Sps) (p : Option Addr) (cap : Nat) (w : World) (hl : l.length ≤ 10000) (hv : ∀ s ∈ l, isS s.1 s.2 = true) (hc : Cells w p l) :
    Calls Tryz.prog 25 #[.slice p l.length cap] w fun e w' => ∃ v m, e = .returned (.tuple #[v, .int .i64 0]) ∧ IsSet (mem l) m ∧ Owns w' w.heap.size v m ∧ Below w.heap.size w w' :=
  (rmake_loop l p cap w hl hc).mono fun e W' h => by
    rcases h with ⟨_, h⟩ | ⟨h, _⟩
    · exact h
    · rw [← Bool.not_eq_true, List.all_eq_true] at h; exact absurd (fun s hs => hv s hs) h
theorem rmake_bad (l : Sps) (p : Option Addr) (cap : Nat) (w : World) (hl : l.length ≤ 10000) (hv : (l.all fun s => isS s.1 s.2) = false) (hc : Cells w p l) :
    Calls Tryz.prog 25 #[.slice p l.length cap] w fun e w' => e = .returned (.tuple #[.slice none 0 0, .int .i64 2]) ∧ Below w.heap.size w w' :=
  (rmake_loop l p cap w hl hc).mono fun e W' h => by
    rcases h with ⟨h, _⟩ | ⟨_, h⟩
    · rw [← Bool.not_eq_true, List.all_eq_true] at hv; exact absurd (fun s hs => h s hs) hv
    · exact h

theorem cellsOf {W : World} {base : Nat} {p : Option Addr} {n c : Nat} {l : Sps} (h : Owns W base (.slice p n c) l) : Cells W p l := by
  obtain ⟨q, d, e, hc⟩ := h.form
  injection e with e1 _ _
  subst e1
  exact hc

set_option maxHeartbeats 8000000 in
set_option maxRecDepth 100000 in
theorem makes_ok_true (l : Sps) (p : Option Addr) (cap : Nat) (w : World) (hl : l.length ≤ 100) (hv : ∀ s ∈ l, isS s.1 s.2 = true) (hb : validB l = true) (hc : Cells w p l) :
    Calls Tryz.prog 7 #[.slice p l.length cap] w fun e w' => e = .returned (.bool true) ∧ Below w.heap.size w w' := by
  have B0 := Lib.hid (Below.refl w.heap.size w)
  have Cl0 := Lib.hid hc
  have HV := Lib.hid hv
  have HB := Lib.hid hb
  clear hc hv hb
  go_enter Tryz.func7, Tryz.ntmps7
  go_wp2_with fail
  refine (lent_any l p cap _ hl Cl0.out).mono ?_
  rintro e W1 ⟨g, c, rfl, h12, hg, ho, hb⟩
  have ci := (show Cells W1 (some ⟨g, 0, none⟩) (l ++ mks) by obtain ⟨q9, c9, e9, h9⟩ := ho.form; injection e9 with e1 _ _; subst e1; exact h9).left
  have hov := ho.ovr (by rw [List.length_append, mks_len])
  have hgl := hov.lt
  have B1 := Lib.hid (below_next B0.out hb)
  have Cl1 := Lib.hid (Cells.below Cl0.out hb)
  clear hb B0 Cl0
  have Cn1 := Lib.hid ci
  have Ci1 := Lib.hid ho
  clear ci ho hov
  have B1le : g < W1.heap.size := hgl
  go_wp2_with fail
  refine (make_ok l _ c _ (by omega) HV.out Cn1.out).mono ?_
  rintro e W2 ⟨v, m, rfl, hs, hml, ho, hb⟩
  have B2le := hb.size
  have B2 := Lib.hid (below_next B1.out hb)
  have Cl2 := Lib.hid (Cells.below Cl1.out hb)
  have Cn2 := Lib.hid (Cells.below Cn1.out hb)
  have Ci2 := Lib.hid (Owns.below Ci1.out hb)
  clear hb B1 Cl1 Cn1 Ci1
  obtain ⟨pa, ca, rfl, _⟩ := ho.form
  have Ca2 := Lib.hid ho
  have HS := Lib.hid hs
  clear ho hs
  go_wp2_with fail
  refine (rmake_ok l p cap _ (by omega) HV.out Cl2.out).mono ?_
  rintro e W3 ⟨v2, m2, rfl, hs2, ho, hb⟩
  obtain rfl := HS.out.uniq hs2
  have B3 := Lib.hid (below_next B2.out hb)
  have Cl3 := Lib.hid (Cells.below Cl2.out hb)
  have Cn3 := Lib.hid (Cells.below Cn2.out hb)
  have Ci3 := Lib.hid (Owns.below Ci2.out hb)
  have Ca3 := Lib.hid (Owns.below Ca2.out hb)
  clear hb B2 Cl2 Cn2 Ci2 Ca2
  obtain ⟨pb, cb, rfl, _⟩ := ho.form
  have Cb3 := Lib.hid ho
  clear ho hs2 HS
  go_wp2_with fail
  refine (same_yes m pa pb ca cb _ (by omega) (cellsOf Ca3.out) (cellsOf Cb3.out)).mono ?_
  rintro e W4 ⟨rfl, hb⟩
  have B4 := Lib.hid (below_next B3.out hb)
  have Cl4 := Lib.hid (Cells.below Cl3.out hb)
  have Cn4 := Lib.hid (Cells.below Cn3.out hb)
  have Ci4 := Lib.hid (Owns.below Ci3.out hb)
  have Ca4 := Lib.hid (Owns.below Ca3.out hb)
  have Cb4 := Lib.hid (Owns.below Cb3.out hb)
  clear hb B3 Cl3 Cn3 Ci3 Ca3 Cb3
  go_wp2_with fail
  refine (valid_is l true _ _ _ HB.out (by omega) Cn4.out).mono ?_
  rintro e W5 ⟨rfl, hb⟩
  have B5 := Lib.hid (below_next B4.out hb)
  have Cl5 := Lib.hid (Cells.below Cl4.out hb)
  have Cn5 := Lib.hid (Cells.below Cn4.out hb)
  have Ci5 := Lib.hid (Owns.below Ci4.out hb)
  have Ca5 := Lib.hid (Owns.below Ca4.out hb)
  have Cb5 := Lib.hid (Owns.below Cb4.out hb)
  clear hb B4 Cl4 Cn4 Ci4 Ca4 Cb4
  go_wp2_with fail
  refine (rvalid_is l true _ _ _ HB.out (by omega) Cl5.out).mono ?_
  rintro e W6 ⟨rfl, hb⟩
  have B6 := Lib.hid (below_next B5.out hb)
  have Cl6 := Lib.hid (Cells.below Cl5.out hb)
  have Cn6 := Lib.hid (Cells.below Cn5.out hb)
  have Ci6 := Lib.hid (Owns.below Ci5.out hb)
  have Ca6 := Lib.hid (Owns.below Ca5.out hb)
  have Cb6 := Lib.hid (Owns.below Cb5.out hb)
  clear hb B5 Cl5 Cn5 Ci5 Ca5 Cb5
  go_wp2_with fail
  refine (kept_any l g c l.length p cap _ w.heap.size rfl hl Ci6.out h12 Cl6.out).mono ?_
  rintro e W7 ⟨rfl, hb⟩
  have B7 := Lib.hid (below_next B6.out hb)
  have Cl7 := Lib.hid (Cells.below Cl6.out hb)
  have Cn7 := Lib.hid (Cells.below Cn6.out hb)
  have Ci7 := Lib.hid (Owns.below Ci6.out hb)
  have Ca7 := Lib.hid (Owns.below Ca6.out hb)
  have Cb7 := Lib.hid (Owns.below Cb6.out hb)
  clear hb B6 Cl6 Cn6 Ci6 Ca6 Cb6
  go_wp2_with fail
  refine (over_any g c l.length _ hl h12 (Ci7.out.ovr (by rw [List.length_append, mks_len]))).mono ?_
  rintro e W8 ⟨rfl, hbut⟩
  have B8 := Lib.hid (hbut.belowOf B7.out hg)
  have Ca8 := Lib.hid (hbut.owns Ca7.out (by have := B1le; have := B2le; omega))
  have Cb8 := Lib.hid (hbut.owns Cb7.out (by have := B1le; have := B2le; omega))
  clear hbut B7 Cl7 Cn7 Ci7 Ca7 Cb7
  go_wp2_with fail
  refine (same_yes m pa pb ca cb _ (by omega) (cellsOf Ca8.out) (cellsOf Cb8.out)).mono ?_
  rintro e W9 ⟨rfl, hb⟩
  have B9 := Lib.hid (below_next B8.out hb)
  have Ca9 := Lib.hid (Owns.below Ca8.out hb)
  have Cb9 := Lib.hid (Owns.below Cb8.out hb)
  clear hb B8 Ca8 Cb8
  go_wp2_with fail
  go_ret
  exact ⟨rfl, B9.out⟩

set_option maxHeartbeats 8000000 in
set_option maxRecDepth 100000 in
theorem makes_ok_false (l : Sps) (p : Option Addr) (cap : Nat) (w : World) (hl : l.length ≤ 100) (hv : ∀ s ∈ l, isS s.1 s.2 = true) (hb : validB l = false) (hc : Cells w p l) :
    Calls Tryz.prog 7 #[.slice p l.length cap] w fun e w' => e = .returned (.bool true) ∧ Below w.heap.size w w' := by
  have B0 := Lib.hid (Below.refl w.heap.size w)
  have Cl0 := Lib.hid hc
  have HV := Lib.hid hv
  have HB := Lib.hid hb
  clear hc hv hb
  go_enter Tryz.func7, Tryz.ntmps7
  go_wp2_with fail
  refine (lent_any l p cap _ hl Cl0.out).mono ?_
  rintro e W1 ⟨g, c, rfl, h12, hg, ho, hb⟩
  have ci := (show Cells W1 (some ⟨g, 0, none⟩) (l ++ mks) by obtain ⟨q9, c9, e9, h9⟩ := ho.form; injection e9 with e1 _ _; subst e1; exact h9).left
  have hov := ho.ovr (by rw [List.length_append, mks_len])
  have hgl := hov.lt
  have B1 := Lib.hid (below_next B0.out hb)
  have Cl1 := Lib.hid (Cells.below Cl0.out hb)
  clear hb B0 Cl0
  have Cn1 := Lib.hid ci
  have Ci1 := Lib.hid ho
  clear ci ho hov
  have B1le : g < W1.heap.size := hgl
  go_wp2_with fail
  refine (make_ok l _ c _ (by omega) HV.out Cn1.out).mono ?_
  rintro e W2 ⟨v, m, rfl, hs, hml, ho, hb⟩
  have B2le := hb.size
  have B2 := Lib.hid (below_next B1.out hb)
  have Cl2 := Lib.hid (Cells.below Cl1.out hb)
  have Cn2 := Lib.hid (Cells.below Cn1.out hb)
  have Ci2 := Lib.hid (Owns.below Ci1.out hb)
  clear hb B1 Cl1 Cn1 Ci1
  obtain ⟨pa, ca, rfl, _⟩ := ho.form
  have Ca2 := Lib.hid ho
  have HS := Lib.hid hs
  clear ho hs
  go_wp2_with fail
  refine (rmake_ok l p cap _ (by omega) HV.out Cl2.out).mono ?_
  rintro e W3 ⟨v2, m2, rfl, hs2, ho, hb⟩
  obtain rfl := HS.out.uniq hs2
  have B3 := Lib.hid (below_next B2.out hb)
  have Cl3 := Lib.hid (Cells.below Cl2.out hb)
  have Cn3 := Lib.hid (Cells.below Cn2.out hb)
  have Ci3 := Lib.hid (Owns.below Ci2.out hb)
  have Ca3 := Lib.hid (Owns.below Ca2.out hb)
  clear hb B2 Cl2 Cn2 Ci2 Ca2
  obtain ⟨pb, cb, rfl, _⟩ := ho.form
  have Cb3 := Lib.hid ho
  clear ho hs2 HS
  go_wp2_with fail
  refine (same_yes m pa pb ca cb _ (by omega) (cellsOf Ca3.out) (cellsOf Cb3.out)).mono ?_
  rintro e W4 ⟨rfl, hb⟩
  have B4 := Lib.hid (below_next B3.out hb)
  have Cl4 := Lib.hid (Cells.below Cl3.out hb)
  have Cn4 := Lib.hid (Cells.below Cn3.out hb)
  have Ci4 := Lib.hid (Owns.below Ci3.out hb)
  have Ca4 := Lib.hid (Owns.below Ca3.out hb)
  have Cb4 := Lib.hid (Owns.below Cb3.out hb)
  clear hb B3 Cl3 Cn3 Ci3 Ca3 Cb3
  go_wp2_with fail
  refine (valid_is l false _ _ _ HB.out (by omega) Cn4.out).mono ?_
  rintro e W5 ⟨rfl, hb⟩
  have B5 := Lib.hid (below_next B4.out hb)
  have Cl5 := Lib.hid (Cells.below Cl4.out hb)
  have Cn5 := Lib.hid (Cells.below Cn4.out hb)
  have Ci5 := Lib.hid (Owns.below Ci4.out hb)
  have Ca5 := Lib.hid (Owns.below Ca4.out hb)
  have Cb5 := Lib.hid (Owns.below Cb4.out hb)
  clear hb B4 Cl4 Cn4 Ci4 Ca4 Cb4
  go_wp2_with fail
  refine (rvalid_is l false _ _ _ HB.out (by omega) Cl5.out).mono ?_
  rintro e W6 ⟨rfl, hb⟩
  have B6 := Lib.hid (below_next B5.out hb)
  have Cl6 := Lib.hid (Cells.below Cl5.out hb)
  have Cn6 := Lib.hid (Cells.below Cn5.out hb)
  have Ci6 := Lib.hid (Owns.below Ci5.out hb)
  have Ca6 := Lib.hid (Owns.below Ca5.out hb)
  have Cb6 := Lib.hid (Owns.below Cb5.out hb)
  clear hb B5 Cl5 Cn5 Ci5 Ca5 Cb5
  go_wp2_with fail
  refine (kept_any l g c l.length p cap _ w.heap.size rfl hl Ci6.out h12 Cl6.out).mono ?_
  rintro e W7 ⟨rfl, hb⟩
  have B7 := Lib.hid (below_next B6.out hb)
  have Cl7 := Lib.hid (Cells.below Cl6.out hb)
  have Cn7 := Lib.hid (Cells.below Cn6.out hb)
  have Ci7 := Lib.hid (Owns.below Ci6.out hb)
  have Ca7 := Lib.hid (Owns.below Ca6.out hb)
  have Cb7 := Lib.hid (Owns.below Cb6.out hb)
  clear hb B6 Cl6 Cn6 Ci6 Ca6 Cb6
  go_wp2_with fail
  refine (over_any g c l.length _ hl h12 (Ci7.out.ovr (by rw [List.length_append, mks_len]))).mono ?_
  rintro e W8 ⟨rfl, hbut⟩
  have B8 := Lib.hid (hbut.belowOf B7.out hg)
  have Ca8 := Lib.hid (hbut.owns Ca7.out (by have := B1le; have := B2le; omega))
  have Cb8 := Lib.hid (hbut.owns Cb7.out (by have := B1le; have := B2le; omega))
  clear hbut B7 Cl7 Cn7 Ci7 Ca7 Cb7
  go_wp2_with fail
  refine (same_yes m pa pb ca cb _ (by omega) (cellsOf Ca8.out) (cellsOf Cb8.out)).mono ?_
  rintro e W9 ⟨rfl, hb⟩
  have B9 := Lib.hid (below_next B8.out hb)
  have Ca9 := Lib.hid (Owns.below Ca8.out hb)
  have Cb9 := Lib.hid (Owns.below Cb8.out hb)
  clear hb B8 Ca8 Cb8
  go_wp2_with fail
  go_ret
  exact ⟨rfl, B9.out⟩

set_option maxHeartbeats 8000000 in
set_option maxRecDepth 100000 in
theorem makes_bad_true (l : Sps) (p : Option Addr) (cap : Nat) (w : World) (hl : l.length ≤ 100) (hv : (l.all fun s => isS s.1 s.2) = false) (hb : validB l = true) (hc : Cells w p l) :
    Calls Tryz.prog 7 #[.slice p l.length cap] w fun e w' => e = .returned (.bool true) ∧ Below w.heap.size w w' := by
  have B0 := Lib.hid (Below.refl w.heap.size w)
  have Cl0 := Lib.hid hc
  have HV := Lib.hid hv
  have HB := Lib.hid hb
  clear hc hv hb
  go_enter Tryz.func7, Tryz.ntmps7
  go_wp2_with fail
  refine (lent_any l p cap _ hl Cl0.out).mono ?_
  rintro e W1 ⟨g, c, rfl, h12, hg, ho, hb⟩
  have ci := (show Cells W1 (some ⟨g, 0, none⟩) (l ++ mks) by obtain ⟨q9, c9, e9, h9⟩ := ho.form; injection e9 with e1 _ _; subst e1; exact h9).left
  have hov := ho.ovr (by rw [List.length_append, mks_len])
  have hgl := hov.lt
  have B1 := Lib.hid (below_next B0.out hb)
  have Cl1 := Lib.hid (Cells.below Cl0.out hb)
  clear hb B0 Cl0
  have Cn1 := Lib.hid ci
  have Ci1 := Lib.hid ho
  clear ci ho hov
  have B1le : g < W1.heap.size := hgl
  go_wp2_with fail
  refine (make_bad l _ c _ (by omega) HV.out Cn1.out).mono ?_
  rintro e W2 ⟨rfl, hb⟩
  have B2 := Lib.hid (below_next B1.out hb)
  have Cl2 := Lib.hid (Cells.below Cl1.out hb)
  have Cn2 := Lib.hid (Cells.below Cn1.out hb)
  have Ci2 := Lib.hid (Owns.below Ci1.out hb)
  clear hb B1 Cl1 Cn1 Ci1
  go_wp2_with fail
  refine (rmake_bad l p cap _ (by omega) HV.out Cl2.out).mono ?_
  rintro e W3 ⟨rfl, hb⟩
  have B3 := Lib.hid (below_next B2.out hb)
  have Cl3 := Lib.hid (Cells.below Cl2.out hb)
  have Cn3 := Lib.hid (Cells.below Cn2.out hb)
  have Ci3 := Lib.hid (Owns.below Ci2.out hb)
  clear hb B2 Cl2 Cn2 Ci2
  go_wp2_with fail
  refine (same_yes [] none none 0 0 _ (by decide) (Cells.nil _ _) (Cells.nil _ _)).mono ?_
  rintro e W4 ⟨rfl, hb⟩
  have B4 := Lib.hid (below_next B3.out hb)
  have Cl4 := Lib.hid (Cells.below Cl3.out hb)
  have Cn4 := Lib.hid (Cells.below Cn3.out hb)
  have Ci4 := Lib.hid (Owns.below Ci3.out hb)
  clear hb B3 Cl3 Cn3 Ci3
  go_wp2_with fail
  refine (valid_is l true _ _ _ HB.out (by omega) Cn4.out).mono ?_
  rintro e W5 ⟨rfl, hb⟩
  have B5 := Lib.hid (below_next B4.out hb)
  have Cl5 := Lib.hid (Cells.below Cl4.out hb)
  have Cn5 := Lib.hid (Cells.below Cn4.out hb)
  have Ci5 := Lib.hid (Owns.below Ci4.out hb)
  clear hb B4 Cl4 Cn4 Ci4
  go_wp2_with fail
  refine (rvalid_is l true _ _ _ HB.out (by omega) Cl5.out).mono ?_
  rintro e W6 ⟨rfl, hb⟩
  have B6 := Lib.hid (below_next B5.out hb)
  have Cl6 := Lib.hid (Cells.below Cl5.out hb)
  have Cn6 := Lib.hid (Cells.below Cn5.out hb)
  have Ci6 := Lib.hid (Owns.below Ci5.out hb)
  clear hb B5 Cl5 Cn5 Ci5
  go_wp2_with fail
  refine (kept_any l g c l.length p cap _ w.heap.size rfl hl Ci6.out h12 Cl6.out).mono ?_
  rintro e W7 ⟨rfl, hb⟩
  have B7 := Lib.hid (below_next B6.out hb)
  have Cl7 := Lib.hid (Cells.below Cl6.out hb)
  have Cn7 := Lib.hid (Cells.below Cn6.out hb)
  have Ci7 := Lib.hid (Owns.below Ci6.out hb)
  clear hb B6 Cl6 Cn6 Ci6
  go_wp2_with fail
  refine (over_any g c l.length _ hl h12 (Ci7.out.ovr (by rw [List.length_append, mks_len]))).mono ?_
  rintro e W8 ⟨rfl, hbut⟩
  have B8 := Lib.hid (hbut.belowOf B7.out hg)
  clear hbut B7 Cl7 Cn7 Ci7
  go_wp2_with fail
  refine (same_yes [] none none 0 0 _ (by decide) (Cells.nil _ _) (Cells.nil _ _)).mono ?_
  rintro e W9 ⟨rfl, hb⟩
  have B9 := Lib.hid (below_next B8.out hb)
  clear hb B8 
  go_wp2_with fail
  go_ret
  exact ⟨rfl, B9.out⟩

set_option maxHeartbeats 8000000 in
set_option maxRecDepth 100000 in
theorem makes_bad_false (l : Sps) (p : Option Addr) (cap : Nat) (w : World) (hl : l.length ≤ 100) (hv : (l.all fun s => isS s.1 s.2) = false) (hb : validB l = false) (hc : Cells w p l) :
    Calls Tryz.prog 7 #[.slice p l.length cap] w fun e w' => e = .returned (.bool true) ∧ Below w.heap.size w w' := by
  have B0 := Lib.hid (Below.refl w.heap.size w)
  have Cl0 := Lib.hid hc
  have HV := Lib.hid hv
  have HB := Lib.hid hb
  clear hc hv hb
  go_enter Tryz.func7, Tryz.ntmps7
  go_wp2_with fail
  refine (lent_any l p cap _ hl Cl0.out).mono ?_
  rintro e W1 ⟨g, c, rfl, h12, hg, ho, hb⟩
  have ci := (show Cells W1 (some ⟨g, 0, none⟩) (l ++ mks) by obtain ⟨q9, c9, e9, h9⟩ := ho.form; injection e9 with e1 _ _; subst e1; exact h9).left
  have hov := ho.ovr (by rw [List.length_append, mks_len])
  have hgl := hov.lt
  have B1 := Lib.hid (below_next B0.out hb)
  have Cl1 := Lib.hid (Cells.below Cl0.out hb)
  clear hb B0 Cl0
  have Cn1 := Lib.hid ci
  have Ci1 := Lib.hid ho
  clear ci ho hov
  have B1le : g < W1.heap.size := hgl
  go_wp2_with fail
  refine (make_bad l _ c _ (by omega) HV.out Cn1.out).mono ?_
  rintro e W2 ⟨rfl, hb⟩
  have B2 := Lib.hid (below_next B1.out hb)
  have Cl2 := Lib.hid (Cells.below Cl1.out hb)
  have Cn2 := Lib.hid (Cells.below Cn1.out hb)
  have Ci2 := Lib.hid (Owns.below Ci1.out hb)
  clear hb B1 Cl1 Cn1 Ci1
  go_wp2_with fail
  refine (rmake_bad l p cap _ (by omega) HV.out Cl2.out).mono ?_
  rintro e W3 ⟨rfl, hb⟩
  have B3 := Lib.hid (below_next B2.out hb)
  have Cl3 := Lib.hid (Cells.below Cl2.out hb)
  have Cn3 := Lib.hid (Cells.below Cn2.out hb)
  have Ci3 := Lib.hid (Owns.below Ci2.out hb)
  clear hb B2 Cl2 Cn2 Ci2
  go_wp2_with fail
  refine (same_yes [] none none 0 0 _ (by decide) (Cells.nil _ _) (Cells.nil _ _)).mono ?_
  rintro e W4 ⟨rfl, hb⟩
  have B4 := Lib.hid (below_next B3.out hb)
  have Cl4 := Lib.hid (Cells.below Cl3.out hb)
  have Cn4 := Lib.hid (Cells.below Cn3.out hb)
  have Ci4 := Lib.hid (Owns.below Ci3.out hb)
  clear hb B3 Cl3 Cn3 Ci3
  go_wp2_with fail
  refine (valid_is l false _ _ _ HB.out (by omega) Cn4.out).mono ?_
  rintro e W5 ⟨rfl, hb⟩
  have B5 := Lib.hid (below_next B4.out hb)
  have Cl5 := Lib.hid (Cells.below Cl4.out hb)
  have Cn5 := Lib.hid (Cells.below Cn4.out hb)
  have Ci5 := Lib.hid (Owns.below Ci4.out hb)
  clear hb B4 Cl4 Cn4 Ci4
  go_wp2_with fail
  refine (rvalid_is l false _ _ _ HB.out (by omega) Cl5.out).mono ?_
  rintro e W6 ⟨rfl, hb⟩
  have B6 := Lib.hid (below_next B5.out hb)
  have Cl6 := Lib.hid (Cells.below Cl5.out hb)
  have Cn6 := Lib.hid (Cells.below Cn5.out hb)
  have Ci6 := Lib.hid (Owns.below Ci5.out hb)
  clear hb B5 Cl5 Cn5 Ci5
  go_wp2_with fail
  refine (kept_any l g c l.length p cap _ w.heap.size rfl hl Ci6.out h12 Cl6.out).mono ?_
  rintro e W7 ⟨rfl, hb⟩
  have B7 := Lib.hid (below_next B6.out hb)
  have Cl7 := Lib.hid (Cells.below Cl6.out hb)
  have Cn7 := Lib.hid (Cells.below Cn6.out hb)
  have Ci7 := Lib.hid (Owns.below Ci6.out hb)
  clear hb B6 Cl6 Cn6 Ci6
  go_wp2_with fail
  refine (over_any g c l.length _ hl h12 (Ci7.out.ovr (by rw [List.length_append, mks_len]))).mono ?_
  rintro e W8 ⟨rfl, hbut⟩
  have B8 := Lib.hid (hbut.belowOf B7.out hg)
  clear hbut B7 Cl7 Cn7 Ci7
  go_wp2_with fail
  refine (same_yes [] none none 0 0 _ (by decide) (Cells.nil _ _) (Cells.nil _ _)).mono ?_
  rintro e W9 ⟨rfl, hb⟩
  have B9 := Lib.hid (below_next B8.out hb)
  clear hb B8 
  go_wp2_with fail
  go_ret
  exact ⟨rfl, B9.out⟩


theorem makes_any (l : Sps) (p : Option Addr) (cap : Nat) (w : World) (hl : l.length ≤ 100) (hc : Cells w p l) :
    Calls Tryz.prog 7 #[.slice p l.length cap] w fun e w' => e = .returned (.bool true) ∧ Below w.heap.size w w' := by
  cases hv : (l.all fun s => isS s.1 s.2) with
  | true =>
    rw [List.all_eq_true] at hv
    cases hb : validB l with
    | true => exact makes_ok_true l p cap w hl hv hb hc
    | false => exact makes_ok_false l p cap w hl hv hb hc
  | false =>
    cases hb : validB l with
    | true => exact makes_bad_true l p cap w hl hv hb hc
    | false => exact makes_bad_false l p cap w hl hv hb hc


end Go.Proofs.YtgpbdocgnfjckaaGreat
