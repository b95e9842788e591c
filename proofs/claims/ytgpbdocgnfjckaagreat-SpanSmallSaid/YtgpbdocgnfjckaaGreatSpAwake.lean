/- The examples of the chapter: awake. -/
import Derived.Test.YtgpbdocgnfjckaaGreatSpW10
namespace Go.Proofs.YtgpbdocgnfjckaaGreat
open Go.RowKit Go.Shelf Sp

theorem cells_new1 (W : World) (x y : Int) : Cells (W.alloc (.cells #[.int .i64 x, .int .i64 y] 30)) (some ⟨W.heap.size, 0, none⟩) [(x, y)] :=
  .inr ⟨_, 0, rfl, fun i hi => by
    match i, hi with
    | 0, _ => exact ⟨by simp, by simp⟩⟩
theorem cells_new2 (W : World) (x y x' y' : Int) : Cells (W.alloc (.cells #[.int .i64 x, .int .i64 y, .int .i64 x', .int .i64 y'] 30)) (some ⟨W.heap.size, 0, none⟩) [(x, y), (x', y')] :=
  .inr ⟨_, 0, rfl, fun i hi => by
    match i, hi with
    | 0, _ => exact ⟨by simp, by simp⟩
    | 1, _ => exact ⟨by simp, by simp⟩⟩
theorem cells_new3 (W : World) (x y x' y' x'' y'' : Int) : Cells (W.alloc (.cells #[.int .i64 x, .int .i64 y, .int .i64 x', .int .i64 y', .int .i64 x'', .int .i64 y''] 30)) (some ⟨W.heap.size, 0, none⟩) [(x, y), (x', y'), (x'', y'')] :=
  .inr ⟨_, 0, rfl, fun i hi => by
    match i, hi with
    | 0, _ => exact ⟨by simp, by simp⟩
    | 1, _ => exact ⟨by simp, by simp⟩
    | 2, _ => exact ⟨by simp, by simp⟩⟩
theorem below_step {w W W' : World} {o : Obj} (h : Below w.heap.size w W) (hb : Below (W.alloc o).heap.size (W.alloc o) W') : Below w.heap.size w W' :=
  (h.alloc h.size o).trans (hb.mono (by simp; have := h.size; omega))
theorem Cells.step {W W' : World} {o : Obj} {p : Option Addr} {l : Sps} (h : Cells W p l) (hb : Below (W.alloc o).heap.size (W.alloc o) W') : Cells W' p l :=
  (h.below ((Below.refl _ _).alloc (Nat.le_refl _) o)).below hb
theorem to_b (a b : Int) (w : World) : Calls Tryz.prog 10 #[.int .i64 a, .int .i64 b] w fun e w' => e = .returned (.agg #[.int .i64 a, .int .i64 b]) ∧ Below w.heap.size w w' :=
  (to_any a b w).mono fun _ _ ⟨he, hw⟩ => ⟨he, by rw [hw]; exact (Below.refl _ _).alloc (Nat.le_refl _) _⟩
theorem set_b (p : Option Addr) (n cap : Nat) (w : World) : Calls Tryz.prog 9 #[.slice p n cap] w fun e w' => e = .returned (.slice p n cap) ∧ Below w.heap.size w w' :=
  (set_any p n cap w).mono fun _ _ ⟨he, hw⟩ => ⟨he, by rw [hw]; exact Below.refl _ _⟩
theorem same_yes (a : Sps) (pa pb : Option Addr) (ca cb : Nat) (w : World) (la : a.length ≤ 100000) (hA : Cells w pa a) (hB : Cells w pb a) :
    Calls Tryz.prog 22 #[.slice pa a.length ca, .slice pb a.length cb] w fun e w' => e = .returned (.bool true) ∧ Below w.heap.size w w' :=
  (same_any a a pa pb ca cb w la hA hB).mono fun _ _ ⟨he, hb⟩ => ⟨by rw [he]; simp, hb⟩
theorem nth_is (l : Sps) (n : Int) (p : Option Addr) (cap : Nat) (w : World) (r : Option Int) (hr : nth l n = r) (hl : l.length ≤ 100000) (hv : validB l = true) (hn : 0 ≤ n) (hn1 : n < 9223372036854775808) (hc : Cells w p l) :
    Calls Tryz.prog 28 #[.slice p l.length cap, .int .i64 n] w fun e w' => e = .returned (.tuple #[.int .i64 (r.getD 0), .bool r.isSome]) ∧ Below w.heap.size w w' := by
  subst hr; exact nth_ok l n p cap w hl hv hn hn1 hc
theorem days_is (l : Sps) (p : Option Addr) (cap : Nat) (w : World) (r : Int) (hr : befv l 65536 = r) (hl : l.length ≤ 100000) (hc : Cells w p l) :
    Calls Tryz.prog 36 #[.slice p l.length cap] w fun e w' => e = .returned (.int .i64 r) ∧ Below w.heap.size w w' := by
  subst hr; exact days_any l p cap w hl hc
theorem before_is (l : Sps) (d : Int) (p : Option Addr) (cap : Nat) (w : World) (r : Int) (hr : befv l d = r) (hl : l.length ≤ 100000) (hc : Cells w p l) :
    Calls Tryz.prog 34 #[.slice p l.length cap, .int .i64 d] w fun e w' => e = .returned (.int .i64 r) ∧ Below w.heap.size w w' := by
  subst hr; exact before_any l d p cap w hl hc
theorem bridge_is (l : Sps) (n : Int) (p : Option Addr) (cap : Nat) (w : World) (r : Sps) (hr : brg n l = r) (hl : l.length ≤ 10000) (hv : validB l = true) (hn : 0 ≤ n) (hc : Cells w p l) :
    Calls Tryz.prog 30 #[.slice p l.length cap, .int .i64 n] w fun e w' => ∃ v, e = .returned (.tuple #[v, .int .i64 0]) ∧ Owns w' w.heap.size v r ∧ Below w.heap.size w w' := by
  subst hr; exact bridge_ok l n p cap w hl hv hn hc

theorem aw_union : IsSet (fun d => mem [(0, 10), (20, 30)] d || mem [(5, 25)] d) [(0, 30)] := ⟨by decide, fun d => by rw [Bool.eq_iff_iff]; simp [mem_cons, mem_nil]; omega⟩
theorem aw_meet : IsSet (fun d => mem [(0, 10), (20, 30)] d && mem [(5, 25)] d) [(5, 10), (20, 25)] := ⟨by decide, fun d => by rw [Bool.eq_iff_iff]; simp [mem_cons, mem_nil]; omega⟩
theorem aw_minus : IsSet (fun d => mem [(0, 10), (20, 30)] d && !mem [(5, 25)] d) [(0, 5), (25, 30)] := ⟨by decide, fun d => by rw [Bool.eq_iff_iff]; simp [mem_cons, mem_nil]; omega⟩
theorem aw_make : IsSet (mem [(5, 8), (3, 5), (9, 9)]) [(3, 8)] := ⟨by decide, fun d => by rw [Bool.eq_iff_iff]; simp [mem_cons, mem_nil]; omega⟩

set_option maxHeartbeats 8000000 in
set_option maxRecDepth 100000 in
theorem awake_any (w : World) : Calls Tryz.prog 11 #[] w fun e w' => e = .returned (.bool true) ∧ Below w.heap.size w w' := by
  have B0 := Lib.hid (Below.refl w.heap.size w)
  go_enter Tryz.func11, Tryz.ntmps11
  go_wp2_with fail
  refine (to_b 0 10 _).mono ?_
  rintro e W1 ⟨rfl, hb⟩
  have B1 := Lib.hid (below_next B0.out hb)
  clear hb B0 
  go_wp2_with fail
  refine (to_b 20 30 _).mono ?_
  rintro e W2 ⟨rfl, hb⟩
  have B2 := Lib.hid (below_next B1.out hb)
  clear hb B1 
  go_wp2_with fail
  refine (set_b _ _ _ _).mono ?_
  rintro e W3 ⟨rfl, hb⟩
  have B3 := Lib.hid (below_step B2.out hb)
  have Ca3 := Lib.hid ((cells_new2 W2 _ _ _ _).below hb)
  clear hb B2 
  go_wp2_with fail
  refine (to_b 5 25 _).mono ?_
  rintro e W4 ⟨rfl, hb⟩
  have B4 := Lib.hid (below_next B3.out hb)
  have Ca4 := Lib.hid (Cells.below Ca3.out hb)
  clear hb B3 Ca3
  go_wp2_with fail
  refine (set_b _ _ _ _).mono ?_
  rintro e W5 ⟨rfl, hb⟩
  have B5 := Lib.hid (below_step B4.out hb)
  have Ca5 := Lib.hid (Cells.step Ca4.out hb)
  have Cb5 := Lib.hid ((cells_new1 W4 _ _).below hb)
  clear hb B4 Ca4
  go_wp2_with fail
  refine (union_ok [(0, 10), (20, 30)] [(5, 25)] _ _ _ _ (by decide) (by decide) (by decide) (by decide) _ Ca5.out Cb5.out).mono ?_
  rintro e W6 ⟨v, l, rfl, hs, _, ho, hb⟩
  obtain rfl := hs.uniq aw_union
  obtain ⟨pu, cu, rfl, hcu⟩ := ho.form
  have B6 := Lib.hid (below_next B5.out hb)
  have Ca6 := Lib.hid (Cells.below Ca5.out hb)
  have Cb6 := Lib.hid (Cells.below Cb5.out hb)
  have Cu6 := Lib.hid (hcu)
  clear hb B5 Ca5 Cb5 hcu ho hs
  go_wp2_with fail
  refine (meet_ok [(0, 10), (20, 30)] [(5, 25)] _ _ _ _ (by decide) (by decide) (by decide) (by decide) _ Ca6.out Cb6.out).mono ?_
  rintro e W7 ⟨v, l, rfl, hs, _, ho, hb⟩
  obtain rfl := hs.uniq aw_meet
  obtain ⟨pm, cm, rfl, hcm⟩ := ho.form
  have B7 := Lib.hid (below_next B6.out hb)
  have Ca7 := Lib.hid (Cells.below Ca6.out hb)
  have Cb7 := Lib.hid (Cells.below Cb6.out hb)
  have Cu7 := Lib.hid (Cells.below Cu6.out hb)
  have Cm7 := Lib.hid (hcm)
  clear hb B6 Ca6 Cb6 Cu6 hcm ho hs
  go_wp2_with fail
  refine (minus_ok [(0, 10), (20, 30)] [(5, 25)] _ _ _ _ (by decide) (by decide) (by decide) (by decide) _ Ca7.out Cb7.out).mono ?_
  rintro e W8 ⟨v, l, rfl, hs, _, ho, hb⟩
  obtain rfl := hs.uniq aw_minus
  obtain ⟨pd, cd, rfl, hcd⟩ := ho.form
  have B8 := Lib.hid (below_next B7.out hb)
  have Ca8 := Lib.hid (Cells.below Ca7.out hb)
  have Cb8 := Lib.hid (Cells.below Cb7.out hb)
  have Cu8 := Lib.hid (Cells.below Cu7.out hb)
  have Cm8 := Lib.hid (Cells.below Cm7.out hb)
  have Cd8 := Lib.hid (hcd)
  clear hb B7 Ca7 Cb7 Cu7 Cm7 hcd ho hs
  go_wp2_with fail
  refine (bridge_is [(0, 10), (20, 30)] 10 _ _ _ [(0, 30)] (by decide) (by decide) (by decide) (by decide) Ca8.out).mono ?_
  rintro e W9 ⟨v, rfl, ho, hb⟩
  obtain ⟨pg, cg, rfl, hcg⟩ := ho.form
  have B9 := Lib.hid (below_next B8.out hb)
  have Ca9 := Lib.hid (Cells.below Ca8.out hb)
  have Cu9 := Lib.hid (Cells.below Cu8.out hb)
  have Cm9 := Lib.hid (Cells.below Cm8.out hb)
  have Cd9 := Lib.hid (Cells.below Cd8.out hb)
  have Cg9 := Lib.hid (hcg)
  clear hb B8 Ca8 Cu8 Cm8 Cd8 hcg ho
  go_wp2_with fail
  refine (bridge_is [(0, 10), (20, 30)] 9 _ _ _ [(0, 10), (20, 30)] (by decide) (by decide) (by decide) (by decide) Ca9.out).mono ?_
  rintro e W10 ⟨v, rfl, ho, hb⟩
  obtain ⟨ph, ch, rfl, hch⟩ := ho.form
  have B10 := Lib.hid (below_next B9.out hb)
  have Ca10 := Lib.hid (Cells.below Ca9.out hb)
  have Cu10 := Lib.hid (Cells.below Cu9.out hb)
  have Cm10 := Lib.hid (Cells.below Cm9.out hb)
  have Cd10 := Lib.hid (Cells.below Cd9.out hb)
  have Cg10 := Lib.hid (Cells.below Cg9.out hb)
  have Ch10 := Lib.hid (hch)
  clear hb B9 Ca9 Cu9 Cm9 Cd9 Cg9 hch ho
  go_wp2_with fail
  refine (to_b 5 8 _).mono ?_
  rintro e W11 ⟨rfl, hb⟩
  have B11 := Lib.hid (below_next B10.out hb)
  have Ca11 := Lib.hid (Cells.below Ca10.out hb)
  have Cu11 := Lib.hid (Cells.below Cu10.out hb)
  have Cm11 := Lib.hid (Cells.below Cm10.out hb)
  have Cd11 := Lib.hid (Cells.below Cd10.out hb)
  have Cg11 := Lib.hid (Cells.below Cg10.out hb)
  have Ch11 := Lib.hid (Cells.below Ch10.out hb)
  clear hb B10 Ca10 Cu10 Cm10 Cd10 Cg10 Ch10
  go_wp2_with fail
  refine (to_b 3 5 _).mono ?_
  rintro e W12 ⟨rfl, hb⟩
  have B12 := Lib.hid (below_next B11.out hb)
  have Ca12 := Lib.hid (Cells.below Ca11.out hb)
  have Cu12 := Lib.hid (Cells.below Cu11.out hb)
  have Cm12 := Lib.hid (Cells.below Cm11.out hb)
  have Cd12 := Lib.hid (Cells.below Cd11.out hb)
  have Cg12 := Lib.hid (Cells.below Cg11.out hb)
  have Ch12 := Lib.hid (Cells.below Ch11.out hb)
  clear hb B11 Ca11 Cu11 Cm11 Cd11 Cg11 Ch11
  go_wp2_with fail
  refine (to_b 9 9 _).mono ?_
  rintro e W13 ⟨rfl, hb⟩
  have B13 := Lib.hid (below_next B12.out hb)
  have Ca13 := Lib.hid (Cells.below Ca12.out hb)
  have Cu13 := Lib.hid (Cells.below Cu12.out hb)
  have Cm13 := Lib.hid (Cells.below Cm12.out hb)
  have Cd13 := Lib.hid (Cells.below Cd12.out hb)
  have Cg13 := Lib.hid (Cells.below Cg12.out hb)
  have Ch13 := Lib.hid (Cells.below Ch12.out hb)
  clear hb B12 Ca12 Cu12 Cm12 Cd12 Cg12 Ch12
  go_wp2_with fail
  refine (set_b _ _ _ _).mono ?_
  rintro e W14 ⟨rfl, hb⟩
  have B14 := Lib.hid (below_step B13.out hb)
  have Ca14 := Lib.hid (Cells.step Ca13.out hb)
  have Cu14 := Lib.hid (Cells.step Cu13.out hb)
  have Cm14 := Lib.hid (Cells.step Cm13.out hb)
  have Cd14 := Lib.hid (Cells.step Cd13.out hb)
  have Cg14 := Lib.hid (Cells.step Cg13.out hb)
  have Ch14 := Lib.hid (Cells.step Ch13.out hb)
  have Cq14 := Lib.hid ((cells_new3 W13 _ _ _ _ _ _).below hb)
  clear hb B13 Ca13 Cu13 Cm13 Cd13 Cg13 Ch13
  go_wp2_with fail
  refine (make_ok [(5, 8), (3, 5), (9, 9)] _ _ _ (by decide) (by decide) Cq14.out).mono ?_
  rintro e W15 ⟨v, l, rfl, hs, _, ho, hb⟩
  obtain rfl := hs.uniq aw_make
  obtain ⟨pk, ck, rfl, hck⟩ := ho.form
  have B15 := Lib.hid (below_next B14.out hb)
  have Ca15 := Lib.hid (Cells.below Ca14.out hb)
  have Cu15 := Lib.hid (Cells.below Cu14.out hb)
  have Cm15 := Lib.hid (Cells.below Cm14.out hb)
  have Cd15 := Lib.hid (Cells.below Cd14.out hb)
  have Cg15 := Lib.hid (Cells.below Cg14.out hb)
  have Ch15 := Lib.hid (Cells.below Ch14.out hb)
  have Cq15 := Lib.hid (Cells.below Cq14.out hb)
  have Ck15 := Lib.hid (hck)
  clear hb B14 Ca14 Cu14 Cm14 Cd14 Cg14 Ch14 Cq14 hck ho hs
  go_wp2_with fail
  refine (nth_is [(0, 10), (20, 30)] 10 _ _ _ (some 20) (by decide) (by decide) (by decide) (by decide) (by decide) Ca15.out).mono ?_
  rintro e W16 ⟨rfl, hb⟩
  have B16 := Lib.hid (below_next B15.out hb)
  have Ca16 := Lib.hid (Cells.below Ca15.out hb)
  have Cu16 := Lib.hid (Cells.below Cu15.out hb)
  have Cm16 := Lib.hid (Cells.below Cm15.out hb)
  have Cd16 := Lib.hid (Cells.below Cd15.out hb)
  have Cg16 := Lib.hid (Cells.below Cg15.out hb)
  have Ch16 := Lib.hid (Cells.below Ch15.out hb)
  have Ck16 := Lib.hid (Cells.below Ck15.out hb)
  clear hb B15 Ca15 Cu15 Cm15 Cd15 Cg15 Ch15 Ck15
  go_wp2_with fail
  refine (nth_is [(0, 10), (20, 30)] 20 _ _ _ none (by decide) (by decide) (by decide) (by decide) (by decide) Ca16.out).mono ?_
  rintro e W17 ⟨rfl, hb⟩
  have B17 := Lib.hid (below_next B16.out hb)
  have Ca17 := Lib.hid (Cells.below Ca16.out hb)
  have Cu17 := Lib.hid (Cells.below Cu16.out hb)
  have Cm17 := Lib.hid (Cells.below Cm16.out hb)
  have Cd17 := Lib.hid (Cells.below Cd16.out hb)
  have Cg17 := Lib.hid (Cells.below Cg16.out hb)
  have Ch17 := Lib.hid (Cells.below Ch16.out hb)
  have Ck17 := Lib.hid (Cells.below Ck16.out hb)
  clear hb B16 Ca16 Cu16 Cm16 Cd16 Cg16 Ch16 Ck16
  go_wp2_with fail
  refine (days_is [(0, 10), (20, 30)] _ _ _ 20 (by decide) (by decide) Ca17.out).mono ?_
  rintro e W18 ⟨rfl, hb⟩
  have B18 := Lib.hid (below_next B17.out hb)
  have Ca18 := Lib.hid (Cells.below Ca17.out hb)
  have Cu18 := Lib.hid (Cells.below Cu17.out hb)
  have Cm18 := Lib.hid (Cells.below Cm17.out hb)
  have Cd18 := Lib.hid (Cells.below Cd17.out hb)
  have Cg18 := Lib.hid (Cells.below Cg17.out hb)
  have Ch18 := Lib.hid (Cells.below Ch17.out hb)
  have Ck18 := Lib.hid (Cells.below Ck17.out hb)
  clear hb B17 Ca17 Cu17 Cm17 Cd17 Cg17 Ch17 Ck17
  go_wp2_with fail
  refine (before_is [(0, 10), (20, 30)] 25 _ _ _ 15 (by decide) (by decide) Ca18.out).mono ?_
  rintro e W19 ⟨rfl, hb⟩
  have B19 := Lib.hid (below_next B18.out hb)
  have Ca19 := Lib.hid (Cells.below Ca18.out hb)
  have Cu19 := Lib.hid (Cells.below Cu18.out hb)
  have Cm19 := Lib.hid (Cells.below Cm18.out hb)
  have Cd19 := Lib.hid (Cells.below Cd18.out hb)
  have Cg19 := Lib.hid (Cells.below Cg18.out hb)
  have Ch19 := Lib.hid (Cells.below Ch18.out hb)
  have Ck19 := Lib.hid (Cells.below Ck18.out hb)
  clear hb B18 Ca18 Cu18 Cm18 Cd18 Cg18 Ch18 Ck18
  go_wp2_with fail
  refine (to_b 0 10 _).mono ?_
  rintro e W20 ⟨rfl, hb⟩
  have B20 := Lib.hid (below_next B19.out hb)
  have Ca20 := Lib.hid (Cells.below Ca19.out hb)
  have Cu20 := Lib.hid (Cells.below Cu19.out hb)
  have Cm20 := Lib.hid (Cells.below Cm19.out hb)
  have Cd20 := Lib.hid (Cells.below Cd19.out hb)
  have Cg20 := Lib.hid (Cells.below Cg19.out hb)
  have Ch20 := Lib.hid (Cells.below Ch19.out hb)
  have Ck20 := Lib.hid (Cells.below Ck19.out hb)
  clear hb B19 Ca19 Cu19 Cm19 Cd19 Cg19 Ch19 Ck19
  go_wp2_with fail
  refine (to_b 10 20 _).mono ?_
  rintro e W21 ⟨rfl, hb⟩
  have B21 := Lib.hid (below_next B20.out hb)
  have Ca21 := Lib.hid (Cells.below Ca20.out hb)
  have Cu21 := Lib.hid (Cells.below Cu20.out hb)
  have Cm21 := Lib.hid (Cells.below Cm20.out hb)
  have Cd21 := Lib.hid (Cells.below Cd20.out hb)
  have Cg21 := Lib.hid (Cells.below Cg20.out hb)
  have Ch21 := Lib.hid (Cells.below Ch20.out hb)
  have Ck21 := Lib.hid (Cells.below Ck20.out hb)
  clear hb B20 Ca20 Cu20 Cm20 Cd20 Cg20 Ch20 Ck20
  go_wp2_with fail
  refine (set_b _ _ _ _).mono ?_
  rintro e W22 ⟨rfl, hb⟩
  have B22 := Lib.hid (below_step B21.out hb)
  have Ca22 := Lib.hid (Cells.step Ca21.out hb)
  have Cu22 := Lib.hid (Cells.step Cu21.out hb)
  have Cm22 := Lib.hid (Cells.step Cm21.out hb)
  have Cd22 := Lib.hid (Cells.step Cd21.out hb)
  have Cg22 := Lib.hid (Cells.step Cg21.out hb)
  have Ch22 := Lib.hid (Cells.step Ch21.out hb)
  have Ck22 := Lib.hid (Cells.step Ck21.out hb)
  have Cx22 := Lib.hid ((cells_new2 W21 _ _ _ _).below hb)
  clear hb B21 Ca21 Cu21 Cm21 Cd21 Cg21 Ch21 Ck21
  go_wp2_with fail
  refine (valid_is [(0, 10), (10, 20)] false _ _ _ (by decide) (by decide) Cx22.out).mono ?_
  rintro e W23 ⟨rfl, hb⟩
  have B23 := Lib.hid (below_next B22.out hb)
  have Ca23 := Lib.hid (Cells.below Ca22.out hb)
  have Cu23 := Lib.hid (Cells.below Cu22.out hb)
  have Cm23 := Lib.hid (Cells.below Cm22.out hb)
  have Cd23 := Lib.hid (Cells.below Cd22.out hb)
  have Cg23 := Lib.hid (Cells.below Cg22.out hb)
  have Ch23 := Lib.hid (Cells.below Ch22.out hb)
  have Ck23 := Lib.hid (Cells.below Ck22.out hb)
  have Cx23 := Lib.hid (Cells.below Cx22.out hb)
  clear hb B22 Ca22 Cu22 Cm22 Cd22 Cg22 Ch22 Ck22 Cx22
  go_wp2_with fail
  refine (to_b 0 30 _).mono ?_
  rintro e W24 ⟨rfl, hb⟩
  have B24 := Lib.hid (below_next B23.out hb)
  have Ca24 := Lib.hid (Cells.below Ca23.out hb)
  have Cu24 := Lib.hid (Cells.below Cu23.out hb)
  have Cm24 := Lib.hid (Cells.below Cm23.out hb)
  have Cd24 := Lib.hid (Cells.below Cd23.out hb)
  have Cg24 := Lib.hid (Cells.below Cg23.out hb)
  have Ch24 := Lib.hid (Cells.below Ch23.out hb)
  have Ck24 := Lib.hid (Cells.below Ck23.out hb)
  clear hb B23 Ca23 Cu23 Cm23 Cd23 Cg23 Ch23 Ck23
  go_wp2_with fail
  refine (set_b _ _ _ _).mono ?_
  rintro e W25 ⟨rfl, hb⟩
  have B25 := Lib.hid (below_step B24.out hb)
  have Ca25 := Lib.hid (Cells.step Ca24.out hb)
  have Cu25 := Lib.hid (Cells.step Cu24.out hb)
  have Cm25 := Lib.hid (Cells.step Cm24.out hb)
  have Cd25 := Lib.hid (Cells.step Cd24.out hb)
  have Cg25 := Lib.hid (Cells.step Cg24.out hb)
  have Ch25 := Lib.hid (Cells.step Ch24.out hb)
  have Ck25 := Lib.hid (Cells.step Ck24.out hb)
  have Cy25 := Lib.hid ((cells_new1 W24 _ _).below hb)
  clear hb B24 Ca24 Cu24 Cm24 Cd24 Cg24 Ch24 Ck24
  go_wp2_with fail
  refine (same_yes [(0, 30)] _ _ _ _ _ (by decide) Cu25.out Cy25.out).mono ?_
  rintro e W26 ⟨rfl, hb⟩
  have B26 := Lib.hid (below_next B25.out hb)
  have Ca26 := Lib.hid (Cells.below Ca25.out hb)
  have Cu26 := Lib.hid (Cells.below Cu25.out hb)
  have Cm26 := Lib.hid (Cells.below Cm25.out hb)
  have Cd26 := Lib.hid (Cells.below Cd25.out hb)
  have Cg26 := Lib.hid (Cells.below Cg25.out hb)
  have Ch26 := Lib.hid (Cells.below Ch25.out hb)
  have Ck26 := Lib.hid (Cells.below Ck25.out hb)
  have Cy26 := Lib.hid (Cells.below Cy25.out hb)
  clear hb B25 Ca25 Cu25 Cm25 Cd25 Cg25 Ch25 Ck25 Cy25
  go_wp2_with fail
  refine (to_b 5 10 _).mono ?_
  rintro e W27 ⟨rfl, hb⟩
  have B27 := Lib.hid (below_next B26.out hb)
  have Ca27 := Lib.hid (Cells.below Ca26.out hb)
  have Cu27 := Lib.hid (Cells.below Cu26.out hb)
  have Cm27 := Lib.hid (Cells.below Cm26.out hb)
  have Cd27 := Lib.hid (Cells.below Cd26.out hb)
  have Cg27 := Lib.hid (Cells.below Cg26.out hb)
  have Ch27 := Lib.hid (Cells.below Ch26.out hb)
  have Ck27 := Lib.hid (Cells.below Ck26.out hb)
  clear hb B26 Ca26 Cu26 Cm26 Cd26 Cg26 Ch26 Ck26
  go_wp2_with fail
  refine (to_b 20 25 _).mono ?_
  rintro e W28 ⟨rfl, hb⟩
  have B28 := Lib.hid (below_next B27.out hb)
  have Ca28 := Lib.hid (Cells.below Ca27.out hb)
  have Cu28 := Lib.hid (Cells.below Cu27.out hb)
  have Cm28 := Lib.hid (Cells.below Cm27.out hb)
  have Cd28 := Lib.hid (Cells.below Cd27.out hb)
  have Cg28 := Lib.hid (Cells.below Cg27.out hb)
  have Ch28 := Lib.hid (Cells.below Ch27.out hb)
  have Ck28 := Lib.hid (Cells.below Ck27.out hb)
  clear hb B27 Ca27 Cu27 Cm27 Cd27 Cg27 Ch27 Ck27
  go_wp2_with fail
  refine (set_b _ _ _ _).mono ?_
  rintro e W29 ⟨rfl, hb⟩
  have B29 := Lib.hid (below_step B28.out hb)
  have Ca29 := Lib.hid (Cells.step Ca28.out hb)
  have Cu29 := Lib.hid (Cells.step Cu28.out hb)
  have Cm29 := Lib.hid (Cells.step Cm28.out hb)
  have Cd29 := Lib.hid (Cells.step Cd28.out hb)
  have Cg29 := Lib.hid (Cells.step Cg28.out hb)
  have Ch29 := Lib.hid (Cells.step Ch28.out hb)
  have Ck29 := Lib.hid (Cells.step Ck28.out hb)
  have Cy29 := Lib.hid ((cells_new2 W28 _ _ _ _).below hb)
  clear hb B28 Ca28 Cu28 Cm28 Cd28 Cg28 Ch28 Ck28
  go_wp2_with fail
  refine (same_yes [(5, 10), (20, 25)] _ _ _ _ _ (by decide) Cm29.out Cy29.out).mono ?_
  rintro e W30 ⟨rfl, hb⟩
  have B30 := Lib.hid (below_next B29.out hb)
  have Ca30 := Lib.hid (Cells.below Ca29.out hb)
  have Cu30 := Lib.hid (Cells.below Cu29.out hb)
  have Cm30 := Lib.hid (Cells.below Cm29.out hb)
  have Cd30 := Lib.hid (Cells.below Cd29.out hb)
  have Cg30 := Lib.hid (Cells.below Cg29.out hb)
  have Ch30 := Lib.hid (Cells.below Ch29.out hb)
  have Ck30 := Lib.hid (Cells.below Ck29.out hb)
  have Cy30 := Lib.hid (Cells.below Cy29.out hb)
  clear hb B29 Ca29 Cu29 Cm29 Cd29 Cg29 Ch29 Ck29 Cy29
  go_wp2_with fail
  refine (to_b 0 5 _).mono ?_
  rintro e W31 ⟨rfl, hb⟩
  have B31 := Lib.hid (below_next B30.out hb)
  have Ca31 := Lib.hid (Cells.below Ca30.out hb)
  have Cu31 := Lib.hid (Cells.below Cu30.out hb)
  have Cm31 := Lib.hid (Cells.below Cm30.out hb)
  have Cd31 := Lib.hid (Cells.below Cd30.out hb)
  have Cg31 := Lib.hid (Cells.below Cg30.out hb)
  have Ch31 := Lib.hid (Cells.below Ch30.out hb)
  have Ck31 := Lib.hid (Cells.below Ck30.out hb)
  clear hb B30 Ca30 Cu30 Cm30 Cd30 Cg30 Ch30 Ck30
  go_wp2_with fail
  refine (to_b 25 30 _).mono ?_
  rintro e W32 ⟨rfl, hb⟩
  have B32 := Lib.hid (below_next B31.out hb)
  have Ca32 := Lib.hid (Cells.below Ca31.out hb)
  have Cu32 := Lib.hid (Cells.below Cu31.out hb)
  have Cm32 := Lib.hid (Cells.below Cm31.out hb)
  have Cd32 := Lib.hid (Cells.below Cd31.out hb)
  have Cg32 := Lib.hid (Cells.below Cg31.out hb)
  have Ch32 := Lib.hid (Cells.below Ch31.out hb)
  have Ck32 := Lib.hid (Cells.below Ck31.out hb)
  clear hb B31 Ca31 Cu31 Cm31 Cd31 Cg31 Ch31 Ck31
  go_wp2_with fail
  refine (set_b _ _ _ _).mono ?_
  rintro e W33 ⟨rfl, hb⟩
  have B33 := Lib.hid (below_step B32.out hb)
  have Ca33 := Lib.hid (Cells.step Ca32.out hb)
  have Cu33 := Lib.hid (Cells.step Cu32.out hb)
  have Cm33 := Lib.hid (Cells.step Cm32.out hb)
  have Cd33 := Lib.hid (Cells.step Cd32.out hb)
  have Cg33 := Lib.hid (Cells.step Cg32.out hb)
  have Ch33 := Lib.hid (Cells.step Ch32.out hb)
  have Ck33 := Lib.hid (Cells.step Ck32.out hb)
  have Cy33 := Lib.hid ((cells_new2 W32 _ _ _ _).below hb)
  clear hb B32 Ca32 Cu32 Cm32 Cd32 Cg32 Ch32 Ck32
  go_wp2_with fail
  refine (same_yes [(0, 5), (25, 30)] _ _ _ _ _ (by decide) Cd33.out Cy33.out).mono ?_
  rintro e W34 ⟨rfl, hb⟩
  have B34 := Lib.hid (below_next B33.out hb)
  have Ca34 := Lib.hid (Cells.below Ca33.out hb)
  have Cu34 := Lib.hid (Cells.below Cu33.out hb)
  have Cm34 := Lib.hid (Cells.below Cm33.out hb)
  have Cd34 := Lib.hid (Cells.below Cd33.out hb)
  have Cg34 := Lib.hid (Cells.below Cg33.out hb)
  have Ch34 := Lib.hid (Cells.below Ch33.out hb)
  have Ck34 := Lib.hid (Cells.below Ck33.out hb)
  have Cy34 := Lib.hid (Cells.below Cy33.out hb)
  clear hb B33 Ca33 Cu33 Cm33 Cd33 Cg33 Ch33 Ck33 Cy33
  go_wp2_with fail
  refine (to_b 0 30 _).mono ?_
  rintro e W35 ⟨rfl, hb⟩
  have B35 := Lib.hid (below_next B34.out hb)
  have Ca35 := Lib.hid (Cells.below Ca34.out hb)
  have Cu35 := Lib.hid (Cells.below Cu34.out hb)
  have Cm35 := Lib.hid (Cells.below Cm34.out hb)
  have Cd35 := Lib.hid (Cells.below Cd34.out hb)
  have Cg35 := Lib.hid (Cells.below Cg34.out hb)
  have Ch35 := Lib.hid (Cells.below Ch34.out hb)
  have Ck35 := Lib.hid (Cells.below Ck34.out hb)
  clear hb B34 Ca34 Cu34 Cm34 Cd34 Cg34 Ch34 Ck34
  go_wp2_with fail
  refine (set_b _ _ _ _).mono ?_
  rintro e W36 ⟨rfl, hb⟩
  have B36 := Lib.hid (below_step B35.out hb)
  have Ca36 := Lib.hid (Cells.step Ca35.out hb)
  have Cu36 := Lib.hid (Cells.step Cu35.out hb)
  have Cm36 := Lib.hid (Cells.step Cm35.out hb)
  have Cd36 := Lib.hid (Cells.step Cd35.out hb)
  have Cg36 := Lib.hid (Cells.step Cg35.out hb)
  have Ch36 := Lib.hid (Cells.step Ch35.out hb)
  have Ck36 := Lib.hid (Cells.step Ck35.out hb)
  have Cy36 := Lib.hid ((cells_new1 W35 _ _).below hb)
  clear hb B35 Ca35 Cu35 Cm35 Cd35 Cg35 Ch35 Ck35
  go_wp2_with fail
  refine (same_yes [(0, 30)] _ _ _ _ _ (by decide) Cg36.out Cy36.out).mono ?_
  rintro e W37 ⟨rfl, hb⟩
  have B37 := Lib.hid (below_next B36.out hb)
  have Ca37 := Lib.hid (Cells.below Ca36.out hb)
  have Cu37 := Lib.hid (Cells.below Cu36.out hb)
  have Cm37 := Lib.hid (Cells.below Cm36.out hb)
  have Cd37 := Lib.hid (Cells.below Cd36.out hb)
  have Cg37 := Lib.hid (Cells.below Cg36.out hb)
  have Ch37 := Lib.hid (Cells.below Ch36.out hb)
  have Ck37 := Lib.hid (Cells.below Ck36.out hb)
  have Cy37 := Lib.hid (Cells.below Cy36.out hb)
  clear hb B36 Ca36 Cu36 Cm36 Cd36 Cg36 Ch36 Ck36 Cy36
  go_wp2_with fail
  refine (same_yes [(0, 10), (20, 30)] _ _ _ _ _ (by decide) Ch37.out Ca37.out).mono ?_
  rintro e W38 ⟨rfl, hb⟩
  have B38 := Lib.hid (below_next B37.out hb)
  have Ca38 := Lib.hid (Cells.below Ca37.out hb)
  have Cu38 := Lib.hid (Cells.below Cu37.out hb)
  have Cm38 := Lib.hid (Cells.below Cm37.out hb)
  have Cd38 := Lib.hid (Cells.below Cd37.out hb)
  have Cg38 := Lib.hid (Cells.below Cg37.out hb)
  have Ch38 := Lib.hid (Cells.below Ch37.out hb)
  have Ck38 := Lib.hid (Cells.below Ck37.out hb)
  clear hb B37 Ca37 Cu37 Cm37 Cd37 Cg37 Ch37 Ck37
  go_wp2_with fail
  refine (to_b 3 8 _).mono ?_
  rintro e W39 ⟨rfl, hb⟩
  have B39 := Lib.hid (below_next B38.out hb)
  have Ca39 := Lib.hid (Cells.below Ca38.out hb)
  have Cu39 := Lib.hid (Cells.below Cu38.out hb)
  have Cm39 := Lib.hid (Cells.below Cm38.out hb)
  have Cd39 := Lib.hid (Cells.below Cd38.out hb)
  have Cg39 := Lib.hid (Cells.below Cg38.out hb)
  have Ch39 := Lib.hid (Cells.below Ch38.out hb)
  have Ck39 := Lib.hid (Cells.below Ck38.out hb)
  clear hb B38 Ca38 Cu38 Cm38 Cd38 Cg38 Ch38 Ck38
  go_wp2_with fail
  refine (set_b _ _ _ _).mono ?_
  rintro e W40 ⟨rfl, hb⟩
  have B40 := Lib.hid (below_step B39.out hb)
  have Ca40 := Lib.hid (Cells.step Ca39.out hb)
  have Cu40 := Lib.hid (Cells.step Cu39.out hb)
  have Cm40 := Lib.hid (Cells.step Cm39.out hb)
  have Cd40 := Lib.hid (Cells.step Cd39.out hb)
  have Cg40 := Lib.hid (Cells.step Cg39.out hb)
  have Ch40 := Lib.hid (Cells.step Ch39.out hb)
  have Ck40 := Lib.hid (Cells.step Ck39.out hb)
  have Cy40 := Lib.hid ((cells_new1 W39 _ _).below hb)
  clear hb B39 Ca39 Cu39 Cm39 Cd39 Cg39 Ch39 Ck39
  go_wp2_with fail
  refine (same_yes [(3, 8)] _ _ _ _ _ (by decide) Ck40.out Cy40.out).mono ?_
  rintro e W41 ⟨rfl, hb⟩
  have B41 := Lib.hid (below_next B40.out hb)
  have Ca41 := Lib.hid (Cells.below Ca40.out hb)
  have Cu41 := Lib.hid (Cells.below Cu40.out hb)
  have Cm41 := Lib.hid (Cells.below Cm40.out hb)
  have Cd41 := Lib.hid (Cells.below Cd40.out hb)
  have Cg41 := Lib.hid (Cells.below Cg40.out hb)
  have Ch41 := Lib.hid (Cells.below Ch40.out hb)
  have Ck41 := Lib.hid (Cells.below Ck40.out hb)
  have Cy41 := Lib.hid (Cells.below Cy40.out hb)
  clear hb B40 Ca40 Cu40 Cm40 Cd40 Cg40 Ch40 Ck40 Cy40
  go_wp2
  go_ret
  exact ⟨rfl, B41.out⟩

end Go.Proofs.YtgpbdocgnfjckaaGreat
