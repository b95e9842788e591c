/- SpanLaws: the walk of the law. -/
import Derived.Test.YtgpbdocgnfjckaaSpLawA
namespace Go.Proofs.Ytgpbdocgnfjckaa
open Go.RowKit Go.Shelf Sp

theorem isSet_same {p q : Int → Bool} {x y : Sps} (h1 : IsSet p x) (h2 : IsSet q y) (h : ∀ d, p d = q d) : x = y := (h1.congr h).uniq h2

theorem boxed_later {W W' : World} {B : Nat} {t : TypeId} {v : Value} (h : Boxed W B t v) (hb : Below W.heap.size W W') : Boxed W' B t v := (hb.block B h.lt).trans h

theorem below_setSame {W W1 : World} {B : Nat} {t : TypeId} {v : Value} (hB : Boxed W B t v) (hb : Below W.heap.size W W1) : Below W.heap.size W (W1.setCell ⟨B, 0, none⟩ v) := by
  have hB1 : Boxed W1 B t v := (hb.block B hB.lt).trans hB
  refine ⟨hb.os, hb.tape, hb.output, by simpa using hb.size, fun k hk => ?_⟩
  by_cases e : k = B
  · subst e; exact (show _ = _ from hB1.set v).trans (show _ = _ from hB).symm
  · rw [Below.heap_setCell _ _ _ _ e]; exact hb.block k hk

set_option maxHeartbeats 1000000 in
theorem do_union (a b : Sps) (pa pb : Option Addr) (ca cb B : Nat) (la : a.length ≤ 10000) (lb : b.length ≤ 10000) (va : validB a = true) (vb : validB b = true) (w : World) (hA : Cells w pa a) (hB : Cells w pb b) (hX : Boxed w B 30 (.int .i64 0)) :
    Calls Try.prog 26 #[.func (.func 14) #[] #[], .slice pa a.length ca, .slice pb b.length cb, .pointer (some ⟨B, 0, none⟩)] w fun e W' => ∃ v l, e = .returned v ∧ IsSet (fun d => mem a d || mem b d) l ∧ l.length ≤ 2 * (a.length + b.length) ∧ Owns W' w.heap.size v l ∧ Below w.heap.size w W' := by
  have C := Lib.hid (union_ok a b pa pb ca cb la lb va vb w hA hB)
  have HX := Lib.hid hX
  clear hA hB va vb hX
  go_enter Try.func26, Try.ntmps26
  go_wp2_with fail
  refine C.out.mono ?_
  rintro e W1 ⟨v, l, rfl, hs, hl, ho, hb⟩
  have hX1 : Boxed W1 B 30 (.int .i64 0) := (hb.block B HX.out.lt).trans HX.out
  have c1 := hX1.cell
  have f1 := hX1.frozen
  have H1 := Lib.hid hX1
  have HS := Lib.hid hs
  have HO := Lib.hid ho
  have HB := Lib.hid hb
  clear hX1 hs ho hb
  obtain ⟨p, cap, rfl, _⟩ := HO.out.form
  go_wp2
  go_ret
  exact ⟨_, l, rfl, HS.out, hl, World.ownsRow.kept HO.out (grownBy_setCell' W1 B _) (.inr (H1.out.not_row (by decide) HO.out).symm), below_setSame HX.out HB.out⟩

set_option maxHeartbeats 1000000 in
theorem do_meet (a b : Sps) (pa pb : Option Addr) (ca cb B : Nat) (la : a.length ≤ 10000) (lb : b.length ≤ 10000) (va : validB a = true) (vb : validB b = true) (w : World) (hA : Cells w pa a) (hB : Cells w pb b) (hX : Boxed w B 30 (.int .i64 0)) :
    Calls Try.prog 26 #[.func (.func 15) #[] #[], .slice pa a.length ca, .slice pb b.length cb, .pointer (some ⟨B, 0, none⟩)] w fun e W' => ∃ v l, e = .returned v ∧ IsSet (fun d => mem a d && mem b d) l ∧ l.length ≤ 2 * (a.length + b.length) ∧ Owns W' w.heap.size v l ∧ Below w.heap.size w W' := by
  have C := Lib.hid (meet_ok a b pa pb ca cb la lb va vb w hA hB)
  have HX := Lib.hid hX
  clear hA hB va vb hX
  go_enter Try.func26, Try.ntmps26
  go_wp2_with fail
  refine C.out.mono ?_
  rintro e W1 ⟨v, l, rfl, hs, hl, ho, hb⟩
  have hX1 : Boxed W1 B 30 (.int .i64 0) := (hb.block B HX.out.lt).trans HX.out
  have c1 := hX1.cell
  have f1 := hX1.frozen
  have H1 := Lib.hid hX1
  have HS := Lib.hid hs
  have HO := Lib.hid ho
  have HB := Lib.hid hb
  clear hX1 hs ho hb
  obtain ⟨p, cap, rfl, _⟩ := HO.out.form
  go_wp2
  go_ret
  exact ⟨_, l, rfl, HS.out, hl, World.ownsRow.kept HO.out (grownBy_setCell' W1 B _) (.inr (H1.out.not_row (by decide) HO.out).symm), below_setSame HX.out HB.out⟩

set_option maxHeartbeats 1000000 in
theorem do_minus (a b : Sps) (pa pb : Option Addr) (ca cb B : Nat) (la : a.length ≤ 10000) (lb : b.length ≤ 10000) (va : validB a = true) (vb : validB b = true) (w : World) (hA : Cells w pa a) (hB : Cells w pb b) (hX : Boxed w B 30 (.int .i64 0)) :
    Calls Try.prog 26 #[.func (.func 16) #[] #[], .slice pa a.length ca, .slice pb b.length cb, .pointer (some ⟨B, 0, none⟩)] w fun e W' => ∃ v l, e = .returned v ∧ IsSet (fun d => mem a d && !mem b d) l ∧ l.length ≤ 2 * (a.length + b.length) ∧ Owns W' w.heap.size v l ∧ Below w.heap.size w W' := by
  have C := Lib.hid (minus_ok a b pa pb ca cb la lb va vb w hA hB)
  have HX := Lib.hid hX
  clear hA hB va vb hX
  go_enter Try.func26, Try.ntmps26
  go_wp2_with fail
  refine C.out.mono ?_
  rintro e W1 ⟨v, l, rfl, hs, hl, ho, hb⟩
  have hX1 : Boxed W1 B 30 (.int .i64 0) := (hb.block B HX.out.lt).trans HX.out
  have c1 := hX1.cell
  have f1 := hX1.frozen
  have H1 := Lib.hid hX1
  have HS := Lib.hid hs
  have HO := Lib.hid ho
  have HB := Lib.hid hb
  clear hX1 hs ho hb
  obtain ⟨p, cap, rfl, _⟩ := HO.out.form
  go_wp2
  go_ret
  exact ⟨_, l, rfl, HS.out, hl, World.ownsRow.kept HO.out (grownBy_setCell' W1 B _) (.inr (H1.out.not_row (by decide) HO.out).symm), below_setSame HX.out HB.out⟩

/-- What the rounds have collected. -/
structure Mixed (a b : Sps) (i : Nat) (set : Sps) : Prop where
  from_ : ∀ s ∈ set, s ∈ a ∨ s ∈ b
  hasA : ∀ j, (h : j < a.length) → a.length ≤ j + i → a[j] ∈ set
  hasB : ∀ j, (h : j < b.length) → b.length ≤ j + i → b[j] ∈ set

theorem Mixed.nil (a b : Sps) : Mixed a b 0 [] := ⟨fun _ h => absurd h (by simp), fun j h h' => by omega, fun j h h' => by omega⟩

theorem Mixed.more {a b : Sps} {i : Nat} {set : Sps} (h : Mixed a b i set) {s : Int × Int} (hs : s ∈ a ∨ s ∈ b) : Mixed a b i (set ++ [s]) :=
  ⟨fun t ht => by rcases List.mem_append.1 ht with c | c
                  · exact h.from_ t c
                  · have := List.mem_singleton.1 c; subst this; exact hs,
   fun j hj hi => List.mem_append_left _ (h.hasA j hj hi), fun j hj hi => List.mem_append_left _ (h.hasB j hj hi)⟩

theorem Mixed.up {a b : Sps} {i : Nat} {set : Sps} (h : Mixed a b i set) (hb : ∀ h : i < b.length, b[b.length - 1 - i]'(by omega) ∈ set) (ha : ∀ h : i < a.length, a[a.length - 1 - i]'(by omega) ∈ set) : Mixed a b (i + 1) set :=
  ⟨h.from_, fun j hj hi => by
    by_cases c : a.length ≤ j + i
    · exact h.hasA j hj c
    · have h1 := ha (by omega)
      have e : a.length - 1 - i = j := by omega
      simpa only [e] using h1,
   fun j hj hi => by
    by_cases c : b.length ≤ j + i
    · exact h.hasB j hj c
    · have h1 := hb (by omega)
      have e : b.length - 1 - i = j := by omega
      simpa only [e] using h1⟩

theorem Mixed.mem {a b : Sps} {i : Nat} {set : Sps} (h : Mixed a b i set) (ha : a.length ≤ i) (hb : b.length ≤ i) (d : Int) : Sp.mem set d = (Sp.mem a d || Sp.mem b d) := by
  rw [Bool.eq_iff_iff, Bool.or_eq_true, mem_iff, mem_iff, mem_iff]
  constructor
  · rintro ⟨s, hs, h'⟩
    rcases h.from_ s hs with c | c
    · exact .inl ⟨s, c, h'⟩
    · exact .inr ⟨s, c, h'⟩
  · rintro (⟨s, hs, h'⟩ | ⟨s, hs, h'⟩)
    · obtain ⟨j, hj, rfl⟩ := List.getElem_of_mem hs
      exact ⟨a[j], h.hasA j hj (by omega), h'⟩
    · obtain ⟨j, hj, rfl⟩ := List.getElem_of_mem hs
      exact ⟨b[j], h.hasB j hj (by omega), h'⟩

theorem Mixed.fine {a b : Sps} {i : Nat} {set : Sps} (h : Mixed a b i set) (va : validB a = true) (vb : validB b = true) : ∀ s ∈ set, isS s.1 s.2 = true := fun s hs => by
  rw [isS_iff]
  rcases h.from_ s hs with c | c
  · obtain ⟨j, hj, rfl⟩ := List.getElem_of_mem c
    have := valid_get va hj; omega
  · obtain ⟨j, hj, rfl⟩ := List.getElem_of_mem c
    have := valid_get vb hj; omega

/-- A block of three cells. -/
def Boxed3 (W : World) (B : Nat) (t : TypeId) (x y z : Value) : Prop := W.heap[B]? = some (.cells #[x, y, z] t (0, 0))
theorem Boxed3.lt {W : World} {B : Nat} {t : TypeId} {x y z : Value} (h : Boxed3 W B t x y z) : B < W.heap.size := (Array.getElem?_eq_some_iff.1 h).1
theorem Boxed3.cell0 {W : World} {B : Nat} {t : TypeId} {x y z : Value} (h : Boxed3 W B t x y z) : W.cell? ⟨B, 0, none⟩ = some x := by simp [World.cell?, show W.heap[B]? = _ from h]
theorem Boxed3.cell1 {W : World} {B : Nat} {t : TypeId} {x y z : Value} (h : Boxed3 W B t x y z) : W.cell? ⟨B, 1, none⟩ = some y := by simp [World.cell?, show W.heap[B]? = _ from h]
theorem Boxed3.cell2 {W : World} {B : Nat} {t : TypeId} {x y z : Value} (h : Boxed3 W B t x y z) : W.cell? ⟨B, 2, none⟩ = some z := by simp [World.cell?, show W.heap[B]? = _ from h]
theorem Boxed3.new (W : World) (t : TypeId) (x y z : Value) : Boxed3 (W.alloc (.cells #[x, y, z] t)) W.heap.size t x y z := World.alloc_heap_new W _
theorem Boxed3.keptRow {W w1 : World} {o1 : Obj} {B : Nat} {t e : TypeId} {x y z : Value} (h : Boxed3 W B t x y z) (hte : t ≠ e) {base size k : Nat} {v : Value} {xs : List Value} (hr : W.ownsRow base e size v k xs) (hg : (W.alloc o1).grownBy w1 v.ownBlock) : Boxed3 w1 B t x y z := by
  refine (hg.block B (by simp; have := h.lt; omega) ?_).trans ((Below.heap_alloc W o1 B h.lt).trans h)
  rcases hr.2 with ⟨rfl, _⟩ | ⟨g, cap, cur, rfl, _, hgb, _⟩
  · simp [Value.ownBlock]
  · intro e'
    obtain rfl : B = g := by simpa [Value.ownBlock] using e'
    have := (show W.heap[B]? = _ from h).symm.trans hgb
    simp at this
    exact hte this.2

set_option maxHeartbeats 16000000 in
set_option maxRecDepth 100000 in
theorem laws_law (pm pn po : Option Addr) (nm cm nn cn no co : Nat) (w : World) (hm : Words w pm nm) (hn : Words w pn nn) (ho : Words w po no) :
    Calls Try.prog 5 #[.slice pm nm cm, .slice pn nn cn, .slice po no co] w fun e w' => e = .returned (.bool true) ∧ Below w.heap.size w w' := by
  have B0 := Lib.hid (Below.refl w.heap.size w)
  have Cm0 := Lib.hid hm
  have Cn0 := Lib.hid hn
  have Co0 := Lib.hid ho
  clear hm hn ho
  obtain ⟨i0, hi0, hz0, hz1, hz2⟩ := info_parts info_span
  go_enter Try.func5, Try.ntmps5
  go_wp2_with fail
  refine (awake_any _).mono ?_
  rintro e W1 ⟨rfl, hb⟩
  have B1 := Lib.hid (below_next B0.out hb)
  have Cm1 := Lib.hid (Words.below Cm0.out hb)
  have Cn1 := Lib.hid (Words.below Cn0.out hb)
  have Co1 := Lib.hid (Words.below Co0.out hb)
  clear hb B0 Cm0 Cn0 Co0
  go_wp2_with fail
  refine (built_any pm nm cm _ Cm1.out).mono ?_
  rintro e W2 ⟨v, a, rfl, hv, hla, ho, hb⟩
  obtain ⟨pa, ca, rfl, hca⟩ := ho.form
  have VA := Lib.hid hv
  clear hv
  have B2 := Lib.hid (below_next B1.out hb)
  have Cm2 := Lib.hid (Words.below Cm1.out hb)
  have Cn2 := Lib.hid (Words.below Cn1.out hb)
  have Co2 := Lib.hid (Words.below Co1.out hb)
  have Ca2 := Lib.hid (hca)
  clear hb B1 Cm1 Cn1 Co1 hca ho
  go_wp2_with fail
  refine (built_any pn nn cn _ Cn2.out).mono ?_
  rintro e W3 ⟨v, b, rfl, hv, hlb, ho, hb⟩
  obtain ⟨pb, cb, rfl, hcb⟩ := ho.form
  have VB := Lib.hid hv
  clear hv
  have B3 := Lib.hid (below_next B2.out hb)
  have Cm3 := Lib.hid (Words.below Cm2.out hb)
  have Cn3 := Lib.hid (Words.below Cn2.out hb)
  have Co3 := Lib.hid (Words.below Co2.out hb)
  have Ca3 := Lib.hid (Cells.below Ca2.out hb)
  have Cb3 := Lib.hid (hcb)
  clear hb B2 Cm2 Cn2 Co2 Ca2 hcb ho
  go_wp2_with fail
  refine (built_any po no co _ Co3.out).mono ?_
  rintro e W4 ⟨v, c, rfl, hv, hlc, ho, hb⟩
  obtain ⟨pc, cc, rfl, hcc⟩ := ho.form
  have VC := Lib.hid hv
  clear hv
  have B4 := Lib.hid (below_next B3.out hb)
  have Cm4 := Lib.hid (Words.below Cm3.out hb)
  have Cn4 := Lib.hid (Words.below Cn3.out hb)
  have Co4 := Lib.hid (Words.below Co3.out hb)
  have Ca4 := Lib.hid (Cells.below Ca3.out hb)
  have Cb4 := Lib.hid (Cells.below Cb3.out hb)
  have Cc4 := Lib.hid (hcc)
  clear hb B3 Cm3 Cn3 Co3 Ca3 Cb3 hcc ho
  clear Cm4
  clear Cn4
  clear Co4
  obtain ⟨n, hnm⟩ : ∃ n : Nat, n = max a.length b.length := ⟨_, rfl⟩
  have hn1 : a.length ≤ n ∧ b.length ≤ n ∧ n ≤ 60 := by omega
  have hmx : max (a.length : Int) (b.length : Int) = (n : Int) := by omega
  have HMX := Lib.hid hmx
  clear hnm hmx
  go_wp2_with fail
  rw [HMX.out]
  obtain ⟨V, hV⟩ : ∃ V, W4.alloc (.cells #[.int .i64 0] 30) = V := ⟨_, rfl⟩
  have BV := Lib.hid (show Below w.heap.size w V by subst hV; exact B4.out.alloc B4.out.size _)
  have Ka := Lib.hid (show Cells V _ a by subst hV; exact Ca4.out.below ((Below.refl _ _).alloc (Nat.le_refl _) _))
  have Kb := Lib.hid (show Cells V _ b by subst hV; exact Cb4.out.below ((Below.refl _ _).alloc (Nat.le_refl _) _))
  have Kc := Lib.hid (show Cells V _ c by subst hV; exact Cc4.out.below ((Below.refl _ _).alloc (Nat.le_refl _) _))
  have XV := Lib.hid (show Boxed V W4.heap.size 30 (.int .i64 0) by subst hV; exact Boxed.new _ _ _)
  rw [hV]
  clear hV HMX
  go_loopw [16, 38] (fun c i wr => ∃ (m : Nat) (set : Sps), m ≤ n ∧ i = .int .i64 m ∧ set.length ≤ 3 * m ∧ Hid (Owns wr V.heap.size c set) ∧ Hid (Mixed a b m set) ∧ Hid (Below V.heap.size V wr)) (fun _ i _ => n - (intOf i).toNat)
  case atStart => exact ⟨0, [], by omega, rfl, by simp, Owns.nil _ _, Mixed.nil _ _, Below.refl _ _⟩
  case round =>
    obtain ⟨m, set, hm, rfl, hsl, hO, hM, hB⟩ := hrel
    by_cases hlt : m < n
    · obtain ⟨wo, rfl⟩ : ∃ wo : World, wo = wr := ⟨_, rfl⟩
      go_wp2_with fail
      obtain ⟨U, hU⟩ : ∃ U, wo.alloc (.cells #[.slice pb b.length cb, .slice pa a.length ca, .slice pb b.length cb] 24) = U := ⟨_, rfl⟩
      have OU := Lib.hid (show Owns U V.heap.size _ set by subst hU; exact hO.out.alloc _)
      have XU := Lib.hid (show Boxed3 U wo.heap.size 24 (.slice pb b.length cb) (.slice pa a.length ca) (.slice pb b.length cb) by subst hU; exact Boxed3.new _ _ _ _ _)
      have BU := Lib.hid (show Below V.heap.size V U by subst hU; exact hB.out.alloc hB.out.size _)
      rw [hU]
      clear hU hO hB
      go_loopw [16, 46] (fun c i wr => ∃ (q : Nat) (set : Sps), q ≤ 3 ∧ i = .int .i64 q ∧ set.length ≤ 3 * m + q ∧ Hid (Owns wr V.heap.size c set) ∧ Hid (Mixed a b m set ∧ (1 ≤ q → ∀ h : m < b.length, b[b.length - 1 - m]'(by omega) ∈ set) ∧ (2 ≤ q → ∀ h : m < a.length, a[a.length - 1 - m]'(by omega) ∈ set)) ∧ Hid (Boxed3 wr wo.heap.size 24 (.slice pb b.length cb) (.slice pa a.length ca) (.slice pb b.length cb)) ∧ Hid (Below V.heap.size V wr)) (fun _ i _ => 3 - (intOf i).toNat)
      case atStart => exact ⟨0, set, by omega, rfl, by omega, OU, ⟨hM.out, fun h => by omega, fun h => by omega⟩, XU, BU⟩
      case round =>
        obtain ⟨q, set2, hq, rfl, hsl2, hO2, hM2, hX2, hB2⟩ := hrel
        have x0 := hX2.out.cell0
        have x1 := hX2.out.cell1
        have x2 := hX2.out.cell2
        have hz9 := hB2.out.size
        by_cases hq0 : q < 1
        · obtain rfl : q = 0 := by omega
          by_cases hin : m < b.length
          · obtain ⟨bb, ob, rfl, hlt3, x, y, hxy, h1, h2⟩ := Kb.out.at (b.length - 1 - m) (by omega)
            have c1 := (hB2.out.cell (p := ⟨bb, ob + (b.length - 1 - m) * 2, none⟩) hlt3).trans h1
            have c2 := (hB2.out.cell (p := ⟨bb, ob + (b.length - 1 - m) * 2 + 1, none⟩) hlt3).trans h2
            have hmem : (x, y) ∈ b := by rw [← hxy]; exact List.getElem_mem _
            have M3 := Lib.hid (show Mixed a b m (set2 ++ [(x, y)]) ∧ (1 ≤ 0 + 1 → ∀ h : m < b.length, b[b.length - 1 - m]'(by omega) ∈ set2 ++ [(x, y)]) ∧ (2 ≤ 0 + 1 → ∀ h : m < a.length, a[a.length - 1 - m]'(by omega) ∈ set2 ++ [(x, y)]) from ⟨hM2.out.1.more (.inr hmem), fun _ _ => List.mem_append_right _ (by rw [hxy]; exact List.mem_singleton.2 rfl), fun h => by omega⟩)
            clear h1 h2 hxy hmem hM2
            have j0 : (0 : Int) ≤ (b.length : Int) - 1 - (m : Int) := by omega
            have j2 : (b.length : Int) - 1 - (m : Int) < (b.length : Int) := by omega
            have j3 : ((b.length : Int) - 1 - (m : Int)).toNat = b.length - 1 - m := by omega
            have j4 : (m : Int) ≤ (b.length : Int) - 1 := by omega
            go_wp2_with (first | (at_builtin; refine wpList_append_own _ rfl _ _ 24 rfl V.heap.size 27 i0 (.agg #[.int .i64 0, .int .i64 0]) 2 16 Try.underlying24 hi0 hz0 hz1 hz2 rfl (by decide) _ _ _ rfl (hO2.out.alloc _) ⟨wr.heap.size, 0, none⟩ 1 1 [.int .i64 x, .int .i64 y] rfl rfl (cell_two_new _ _ _ _ _ rfl) (by simp [Value.oneCell']) (by unfold maxLen; omega) (by omega) (by simp; omega) ?_; intro v' w1 hown' hgrow _))
            have X3 := Lib.hid (hX2.out.keptRow (by decide) hO2.out hgrow)
            have B3 := Lib.hid (hO2.out.grown (Nat.le_refl _) hB2.out hz9 _ hgrow)
            have O3 := Lib.hid (show Owns w1 V.heap.size v' (set2 ++ [(x, y)]) by show World.ownsRow _ _ _ _ _ _ _; rw [flat_snoc, List.length_append]; exact hown')
            clear hown' hgrow hX2 hB2 hO2 x0 x1 x2
            go_roundw
            case rel => first | exact ⟨0 + 1, set2 ++ [(x, y)], by omega, by go_num, by simp; omega, O3, M3, X3, B3⟩ | ((repeat apply Exists.intro); exact ⟨⟨0 + 1, set2 ++ [(x, y)], by omega, by go_num, by simp; omega, O3, M3, X3, B3⟩, rfl⟩)
            case measure => simp [intOf]
          · have M3 := Lib.hid (show Mixed a b m set2 ∧ (1 ≤ 0 + 1 → ∀ h : m < b.length, b[b.length - 1 - m]'(by omega) ∈ set2) ∧ (2 ≤ 0 + 1 → ∀ h : m < a.length, a[a.length - 1 - m]'(by omega) ∈ set2) from ⟨hM2.out.1, fun _ h => absurd h (by omega), fun h => by omega⟩)
            clear hM2
            have j0 : ¬ (0 : Int) ≤ (b.length : Int) - 1 - (m : Int) := by omega
            have j4 : ¬ (m : Int) ≤ (b.length : Int) - 1 := by omega
            go_wp2
            go_roundw
            case rel => first | exact ⟨0 + 1, set2, by omega, by go_num, by omega, hO2, M3, hX2, hB2⟩ | ((repeat apply Exists.intro); exact ⟨⟨0 + 1, set2, by omega, by go_num, by omega, hO2, M3, hX2, hB2⟩, rfl⟩)
            case measure => simp [intOf]
        · by_cases hq1 : q < 2
          · obtain rfl : q = 1 := by omega
            by_cases hin : m < a.length
            · obtain ⟨bb, ob, rfl, hlt3, x, y, hxy, h1, h2⟩ := Ka.out.at (a.length - 1 - m) (by omega)
              have c1 := (hB2.out.cell (p := ⟨bb, ob + (a.length - 1 - m) * 2, none⟩) hlt3).trans h1
              have c2 := (hB2.out.cell (p := ⟨bb, ob + (a.length - 1 - m) * 2 + 1, none⟩) hlt3).trans h2
              have hmem : (x, y) ∈ a := by rw [← hxy]; exact List.getElem_mem _
              have M3 := Lib.hid (show Mixed a b m (set2 ++ [(x, y)]) ∧ (1 ≤ 1 + 1 → ∀ h : m < b.length, b[b.length - 1 - m]'(by omega) ∈ set2 ++ [(x, y)]) ∧ (2 ≤ 1 + 1 → ∀ h : m < a.length, a[a.length - 1 - m]'(by omega) ∈ set2 ++ [(x, y)]) from ⟨hM2.out.1.more (.inl hmem), fun _ h => List.mem_append_left _ (hM2.out.2.1 (by omega) h), fun _ _ => List.mem_append_right _ (by rw [hxy]; exact List.mem_singleton.2 rfl)⟩)
              clear h1 h2 hxy hmem hM2
              have j0 : (0 : Int) ≤ (a.length : Int) - 1 - (m : Int) := by omega
              have j2 : (a.length : Int) - 1 - (m : Int) < (a.length : Int) := by omega
              have j3 : ((a.length : Int) - 1 - (m : Int)).toNat = a.length - 1 - m := by omega
              have j4 : (m : Int) ≤ (a.length : Int) - 1 := by omega
              go_wp2_with (first | (at_builtin; refine wpList_append_own _ rfl _ _ 24 rfl V.heap.size 27 i0 (.agg #[.int .i64 0, .int .i64 0]) 2 16 Try.underlying24 hi0 hz0 hz1 hz2 rfl (by decide) _ _ _ rfl (hO2.out.alloc _) ⟨wr.heap.size, 0, none⟩ 1 1 [.int .i64 x, .int .i64 y] rfl rfl (cell_two_new _ _ _ _ _ rfl) (by simp [Value.oneCell']) (by unfold maxLen; omega) (by omega) (by simp; omega) ?_; intro v' w1 hown' hgrow _))
              have X3 := Lib.hid (hX2.out.keptRow (by decide) hO2.out hgrow)
              have B3 := Lib.hid (hO2.out.grown (Nat.le_refl _) hB2.out hz9 _ hgrow)
              have O3 := Lib.hid (show Owns w1 V.heap.size v' (set2 ++ [(x, y)]) by show World.ownsRow _ _ _ _ _ _ _; rw [flat_snoc, List.length_append]; exact hown')
              clear hown' hgrow hX2 hB2 hO2 x0 x1 x2
              go_roundw
              case rel => first | exact ⟨1 + 1, set2 ++ [(x, y)], by omega, by go_num, by simp; omega, O3, M3, X3, B3⟩ | ((repeat apply Exists.intro); exact ⟨⟨1 + 1, set2 ++ [(x, y)], by omega, by go_num, by simp; omega, O3, M3, X3, B3⟩, rfl⟩)
              case measure => simp [intOf]
            · have M3 := Lib.hid (show Mixed a b m set2 ∧ (1 ≤ 1 + 1 → ∀ h : m < b.length, b[b.length - 1 - m]'(by omega) ∈ set2) ∧ (2 ≤ 1 + 1 → ∀ h : m < a.length, a[a.length - 1 - m]'(by omega) ∈ set2) from ⟨hM2.out.1, fun _ h => hM2.out.2.1 (by omega) h, fun _ h => absurd h (by omega)⟩)
              clear hM2
              have j0 : ¬ (0 : Int) ≤ (a.length : Int) - 1 - (m : Int) := by omega
              have j4 : ¬ (m : Int) ≤ (a.length : Int) - 1 := by omega
              go_wp2
              go_roundw
              case rel => first | exact ⟨1 + 1, set2, by omega, by go_num, by omega, hO2, M3, hX2, hB2⟩ | ((repeat apply Exists.intro); exact ⟨⟨1 + 1, set2, by omega, by go_num, by omega, hO2, M3, hX2, hB2⟩, rfl⟩)
              case measure => simp [intOf]
          · by_cases hq2 : q < 3
            · obtain rfl : q = 2 := by omega
              by_cases hin : m < b.length
              · obtain ⟨bb, ob, rfl, hlt3, x, y, hxy, h1, h2⟩ := Kb.out.at (b.length - 1 - m) (by omega)
                have c1 := (hB2.out.cell (p := ⟨bb, ob + (b.length - 1 - m) * 2, none⟩) hlt3).trans h1
                have c2 := (hB2.out.cell (p := ⟨bb, ob + (b.length - 1 - m) * 2 + 1, none⟩) hlt3).trans h2
                have hmem : (x, y) ∈ b := by rw [← hxy]; exact List.getElem_mem _
                have M3 := Lib.hid (show Mixed a b m (set2 ++ [(x, y)]) ∧ (1 ≤ 2 + 1 → ∀ h : m < b.length, b[b.length - 1 - m]'(by omega) ∈ set2 ++ [(x, y)]) ∧ (2 ≤ 2 + 1 → ∀ h : m < a.length, a[a.length - 1 - m]'(by omega) ∈ set2 ++ [(x, y)]) from ⟨hM2.out.1.more (.inr hmem), fun _ _ => List.mem_append_right _ (by rw [hxy]; exact List.mem_singleton.2 rfl), fun _ h => List.mem_append_left _ (hM2.out.2.2 (by omega) h)⟩)
                clear h1 h2 hxy hmem hM2
                have j0 : (0 : Int) ≤ (b.length : Int) - 1 - (m : Int) := by omega
                have j2 : (b.length : Int) - 1 - (m : Int) < (b.length : Int) := by omega
                have j3 : ((b.length : Int) - 1 - (m : Int)).toNat = b.length - 1 - m := by omega
                have j4 : (m : Int) ≤ (b.length : Int) - 1 := by omega
                go_wp2_with (first | (at_builtin; refine wpList_append_own _ rfl _ _ 24 rfl V.heap.size 27 i0 (.agg #[.int .i64 0, .int .i64 0]) 2 16 Try.underlying24 hi0 hz0 hz1 hz2 rfl (by decide) _ _ _ rfl (hO2.out.alloc _) ⟨wr.heap.size, 0, none⟩ 1 1 [.int .i64 x, .int .i64 y] rfl rfl (cell_two_new _ _ _ _ _ rfl) (by simp [Value.oneCell']) (by unfold maxLen; omega) (by omega) (by simp; omega) ?_; intro v' w1 hown' hgrow _))
                have X3 := Lib.hid (hX2.out.keptRow (by decide) hO2.out hgrow)
                have B3 := Lib.hid (hO2.out.grown (Nat.le_refl _) hB2.out hz9 _ hgrow)
                have O3 := Lib.hid (show Owns w1 V.heap.size v' (set2 ++ [(x, y)]) by show World.ownsRow _ _ _ _ _ _ _; rw [flat_snoc, List.length_append]; exact hown')
                clear hown' hgrow hX2 hB2 hO2 x0 x1 x2
                go_roundw
                case rel => first | exact ⟨2 + 1, set2 ++ [(x, y)], by omega, by go_num, by simp; omega, O3, M3, X3, B3⟩ | ((repeat apply Exists.intro); exact ⟨⟨2 + 1, set2 ++ [(x, y)], by omega, by go_num, by simp; omega, O3, M3, X3, B3⟩, rfl⟩)
                case measure => simp [intOf]
              · have M3 := Lib.hid (show Mixed a b m set2 ∧ (1 ≤ 2 + 1 → ∀ h : m < b.length, b[b.length - 1 - m]'(by omega) ∈ set2) ∧ (2 ≤ 2 + 1 → ∀ h : m < a.length, a[a.length - 1 - m]'(by omega) ∈ set2) from ⟨hM2.out.1, fun _ h => absurd h (by omega), fun _ h => hM2.out.2.2 (by omega) h⟩)
                clear hM2
                have j0 : ¬ (0 : Int) ≤ (b.length : Int) - 1 - (m : Int) := by omega
                have j4 : ¬ (m : Int) ≤ (b.length : Int) - 1 := by omega
                go_wp2
                go_roundw
                case rel => first | exact ⟨2 + 1, set2, by omega, by go_num, by omega, hO2, M3, hX2, hB2⟩ | ((repeat apply Exists.intro); exact ⟨⟨2 + 1, set2, by omega, by go_num, by omega, hO2, M3, hX2, hB2⟩, rfl⟩)
                case measure => simp [intOf]
            · obtain rfl : q = 3 := by omega
              have M3 := Lib.hid (hM2.out.1.up (hM2.out.2.1 (by omega)) (hM2.out.2.2 (by omega)))
              go_wp2
              go_roundw
              case rel => first | exact ⟨m + 1, set2, by omega, by go_num, by omega, hO2, M3, hB2⟩ | ((repeat apply Exists.intro); exact ⟨⟨m + 1, set2, by omega, by go_num, by omega, hO2, M3, hB2⟩, rfl⟩)
              case measure => simp [intOf]; omega
    · obtain rfl : m = n := by omega
      obtain ⟨W5, rfl⟩ : ∃ W5 : World, W5 = wr := ⟨_, rfl⟩
      obtain ⟨pk, ck, rfl, hck⟩ := hO.out.form
      have B5 := Lib.hid (below_next BV.out hB.out)
      have Ca5 := Lib.hid (Ka.out.below hB.out)
      have Cb5 := Lib.hid (Kb.out.below hB.out)
      have Cc5 := Lib.hid (Kc.out.below hB.out)
      have Ck5 := Lib.hid hck
      have Cx5 := Lib.hid (boxed_later XV.out hB.out)
      have hma : a.length ≤ m := by omega
      have hmb : b.length ≤ m := by omega
      have SM := Lib.hid (hM.out.mem hma hmb)
      have SF := Lib.hid (hM.out.fine VA.out VB.out)
      clear hck hO hM hB XV BV Ka Kb Kc
      go_wp2_with fail
      refine (make_ok set _ _ _ (by omega) SF.out Ck5.out).mono ?_
      rintro e W6 ⟨v, re, rfl, hs, hle, ho, hb⟩
      obtain ⟨pe, ce, rfl, hce⟩ := ho.form
      have SE := Lib.hid (hs.congr SM.out)
      clear hs
      have B6 := Lib.hid (below_next B5.out hb)
      have Ca6 := Lib.hid (Cells.below Ca5.out hb)
      have Cb6 := Lib.hid (Cells.below Cb5.out hb)
      have Cc6 := Lib.hid (Cells.below Cc5.out hb)
      have Ck6 := Lib.hid (Cells.below Ck5.out hb)
      have Cx6 := Lib.hid (boxed_later Cx5.out hb)
      have Ce6 := Lib.hid (hce)
      clear hb B5 Ca5 Cb5 Cc5 Ck5 Cx5 hce ho
      go_wp2_with fail
      refine (do_union a b _ _ _ _ W4.heap.size (by omega) (by omega) VA.out VB.out _ Ca6.out Cb6.out Cx6.out).mono ?_
      rintro e W7 ⟨v, lr1, rfl, hs, hlr1, ho, hb⟩
      obtain ⟨pr1, cr1, rfl, hcr1⟩ := ho.form
      have Sr1 := Lib.hid hs
      clear hs
      have B7 := Lib.hid (below_next B6.out hb)
      have Ca7 := Lib.hid (Cells.below Ca6.out hb)
      have Cb7 := Lib.hid (Cells.below Cb6.out hb)
      have Cc7 := Lib.hid (Cells.below Cc6.out hb)
      have Ck7 := Lib.hid (Cells.below Ck6.out hb)
      have Cx7 := Lib.hid (boxed_later Cx6.out hb)
      have Ce7 := Lib.hid (Cells.below Ce6.out hb)
      have Cr17 := Lib.hid (hcr1)
      clear hb B6 Ca6 Cb6 Cc6 Ck6 Cx6 Ce6 hcr1 ho
      go_wp2_with fail
      refine (do_union b a _ _ _ _ W4.heap.size (by omega) (by omega) VB.out VA.out _ Cb7.out Ca7.out Cx7.out).mono ?_
      rintro e W8 ⟨v, lr2, rfl, hs, hlr2, ho, hb⟩
      obtain ⟨pr2, cr2, rfl, hcr2⟩ := ho.form
      have Sr2 := Lib.hid hs
      clear hs
      have B8 := Lib.hid (below_next B7.out hb)
      have Ca8 := Lib.hid (Cells.below Ca7.out hb)
      have Cb8 := Lib.hid (Cells.below Cb7.out hb)
      have Cc8 := Lib.hid (Cells.below Cc7.out hb)
      have Ck8 := Lib.hid (Cells.below Ck7.out hb)
      have Cx8 := Lib.hid (boxed_later Cx7.out hb)
      have Ce8 := Lib.hid (Cells.below Ce7.out hb)
      have Cr18 := Lib.hid (Cells.below Cr17.out hb)
      have Cr28 := Lib.hid (hcr2)
      clear hb B7 Ca7 Cb7 Cc7 Ck7 Cx7 Ce7 Cr17 hcr2 ho
      obtain rfl : lr1 = lr2 := Eq.symm <| isSet_same Sr2.out Sr1.out fun d => by cases mem a d <;> cases mem b d <;> cases mem c d <;> rfl
      go_wp2_with fail
      refine (same_yes lr1 _ _ _ _ _ (by omega) Cr18.out Cr28.out).mono ?_
      rintro e W9 ⟨rfl, hb⟩
      have B9 := Lib.hid (below_next B8.out hb)
      have Ca9 := Lib.hid (Cells.below Ca8.out hb)
      have Cb9 := Lib.hid (Cells.below Cb8.out hb)
      have Cc9 := Lib.hid (Cells.below Cc8.out hb)
      have Ck9 := Lib.hid (Cells.below Ck8.out hb)
      have Cx9 := Lib.hid (boxed_later Cx8.out hb)
      have Ce9 := Lib.hid (Cells.below Ce8.out hb)
      have Cr19 := Lib.hid (Cells.below Cr18.out hb)
      have Cr29 := Lib.hid (Cells.below Cr28.out hb)
      clear hb B8 Ca8 Cb8 Cc8 Ck8 Cx8 Ce8 Cr18 Cr28
      clear Cr29
      clear Cr19
      go_wp2_with fail
      refine (do_meet a b _ _ _ _ W4.heap.size (by omega) (by omega) VA.out VB.out _ Ca9.out Cb9.out Cx9.out).mono ?_
      rintro e W10 ⟨v, lr3, rfl, hs, hlr3, ho, hb⟩
      obtain ⟨pr3, cr3, rfl, hcr3⟩ := ho.form
      have Sr3 := Lib.hid hs
      clear hs
      have B10 := Lib.hid (below_next B9.out hb)
      have Ca10 := Lib.hid (Cells.below Ca9.out hb)
      have Cb10 := Lib.hid (Cells.below Cb9.out hb)
      have Cc10 := Lib.hid (Cells.below Cc9.out hb)
      have Ck10 := Lib.hid (Cells.below Ck9.out hb)
      have Cx10 := Lib.hid (boxed_later Cx9.out hb)
      have Ce10 := Lib.hid (Cells.below Ce9.out hb)
      have Cr310 := Lib.hid (hcr3)
      clear hb B9 Ca9 Cb9 Cc9 Ck9 Cx9 Ce9 hcr3 ho
      go_wp2_with fail
      refine (do_meet b a _ _ _ _ W4.heap.size (by omega) (by omega) VB.out VA.out _ Cb10.out Ca10.out Cx10.out).mono ?_
      rintro e W11 ⟨v, lr4, rfl, hs, hlr4, ho, hb⟩
      obtain ⟨pr4, cr4, rfl, hcr4⟩ := ho.form
      have Sr4 := Lib.hid hs
      clear hs
      have B11 := Lib.hid (below_next B10.out hb)
      have Ca11 := Lib.hid (Cells.below Ca10.out hb)
      have Cb11 := Lib.hid (Cells.below Cb10.out hb)
      have Cc11 := Lib.hid (Cells.below Cc10.out hb)
      have Ck11 := Lib.hid (Cells.below Ck10.out hb)
      have Cx11 := Lib.hid (boxed_later Cx10.out hb)
      have Ce11 := Lib.hid (Cells.below Ce10.out hb)
      have Cr311 := Lib.hid (Cells.below Cr310.out hb)
      have Cr411 := Lib.hid (hcr4)
      clear hb B10 Ca10 Cb10 Cc10 Ck10 Cx10 Ce10 Cr310 hcr4 ho
      obtain rfl : lr3 = lr4 := Eq.symm <| isSet_same Sr4.out Sr3.out fun d => by cases mem a d <;> cases mem b d <;> cases mem c d <;> rfl
      go_wp2_with fail
      refine (same_yes lr3 _ _ _ _ _ (by omega) Cr311.out Cr411.out).mono ?_
      rintro e W12 ⟨rfl, hb⟩
      have B12 := Lib.hid (below_next B11.out hb)
      have Ca12 := Lib.hid (Cells.below Ca11.out hb)
      have Cb12 := Lib.hid (Cells.below Cb11.out hb)
      have Cc12 := Lib.hid (Cells.below Cc11.out hb)
      have Ck12 := Lib.hid (Cells.below Ck11.out hb)
      have Cx12 := Lib.hid (boxed_later Cx11.out hb)
      have Ce12 := Lib.hid (Cells.below Ce11.out hb)
      have Cr312 := Lib.hid (Cells.below Cr311.out hb)
      have Cr412 := Lib.hid (Cells.below Cr411.out hb)
      clear hb B11 Ca11 Cb11 Cc11 Ck11 Cx11 Ce11 Cr311 Cr411
      clear Cr312
      clear Cr412
      go_wp2_with fail
      refine (do_union a b _ _ _ _ W4.heap.size (by omega) (by omega) VA.out VB.out _ Ca12.out Cb12.out Cx12.out).mono ?_
      rintro e W13 ⟨v, lr5, rfl, hs, hlr5, ho, hb⟩
      obtain ⟨pr5, cr5, rfl, hcr5⟩ := ho.form
      have Sr5 := Lib.hid hs
      clear hs
      have B13 := Lib.hid (below_next B12.out hb)
      have Ca13 := Lib.hid (Cells.below Ca12.out hb)
      have Cb13 := Lib.hid (Cells.below Cb12.out hb)
      have Cc13 := Lib.hid (Cells.below Cc12.out hb)
      have Ck13 := Lib.hid (Cells.below Ck12.out hb)
      have Cx13 := Lib.hid (boxed_later Cx12.out hb)
      have Ce13 := Lib.hid (Cells.below Ce12.out hb)
      have Cr513 := Lib.hid (hcr5)
      clear hb B12 Ca12 Cb12 Cc12 Ck12 Cx12 Ce12 hcr5 ho
      go_wp2_with fail
      refine (do_union lr5 c _ _ _ _ W4.heap.size (by omega) (by omega) Sr5.out.valid VC.out _ Cr513.out Cc13.out Cx13.out).mono ?_
      rintro e W14 ⟨v, lr6, rfl, hs, hlr6, ho, hb⟩
      obtain ⟨pr6, cr6, rfl, hcr6⟩ := ho.form
      have Sr6 := Lib.hid hs
      clear hs
      have B14 := Lib.hid (below_next B13.out hb)
      have Ca14 := Lib.hid (Cells.below Ca13.out hb)
      have Cb14 := Lib.hid (Cells.below Cb13.out hb)
      have Cc14 := Lib.hid (Cells.below Cc13.out hb)
      have Ck14 := Lib.hid (Cells.below Ck13.out hb)
      have Cx14 := Lib.hid (boxed_later Cx13.out hb)
      have Ce14 := Lib.hid (Cells.below Ce13.out hb)
      have Cr514 := Lib.hid (Cells.below Cr513.out hb)
      have Cr614 := Lib.hid (hcr6)
      clear hb B13 Ca13 Cb13 Cc13 Ck13 Cx13 Ce13 Cr513 hcr6 ho
      go_wp2_with fail
      refine (do_union b c _ _ _ _ W4.heap.size (by omega) (by omega) VB.out VC.out _ Cb14.out Cc14.out Cx14.out).mono ?_
      rintro e W15 ⟨v, lr7, rfl, hs, hlr7, ho, hb⟩
      obtain ⟨pr7, cr7, rfl, hcr7⟩ := ho.form
      have Sr7 := Lib.hid hs
      clear hs
      have B15 := Lib.hid (below_next B14.out hb)
      have Ca15 := Lib.hid (Cells.below Ca14.out hb)
      have Cb15 := Lib.hid (Cells.below Cb14.out hb)
      have Cc15 := Lib.hid (Cells.below Cc14.out hb)
      have Ck15 := Lib.hid (Cells.below Ck14.out hb)
      have Cx15 := Lib.hid (boxed_later Cx14.out hb)
      have Ce15 := Lib.hid (Cells.below Ce14.out hb)
      have Cr515 := Lib.hid (Cells.below Cr514.out hb)
      have Cr615 := Lib.hid (Cells.below Cr614.out hb)
      have Cr715 := Lib.hid (hcr7)
      clear hb B14 Ca14 Cb14 Cc14 Ck14 Cx14 Ce14 Cr514 Cr614 hcr7 ho
      go_wp2_with fail
      refine (do_union a lr7 _ _ _ _ W4.heap.size (by omega) (by omega) VA.out Sr7.out.valid _ Ca15.out Cr715.out Cx15.out).mono ?_
      rintro e W16 ⟨v, lr8, rfl, hs, hlr8, ho, hb⟩
      obtain ⟨pr8, cr8, rfl, hcr8⟩ := ho.form
      have Sr8 := Lib.hid hs
      clear hs
      have B16 := Lib.hid (below_next B15.out hb)
      have Ca16 := Lib.hid (Cells.below Ca15.out hb)
      have Cb16 := Lib.hid (Cells.below Cb15.out hb)
      have Cc16 := Lib.hid (Cells.below Cc15.out hb)
      have Ck16 := Lib.hid (Cells.below Ck15.out hb)
      have Cx16 := Lib.hid (boxed_later Cx15.out hb)
      have Ce16 := Lib.hid (Cells.below Ce15.out hb)
      have Cr516 := Lib.hid (Cells.below Cr515.out hb)
      have Cr616 := Lib.hid (Cells.below Cr615.out hb)
      have Cr716 := Lib.hid (Cells.below Cr715.out hb)
      have Cr816 := Lib.hid (hcr8)
      clear hb B15 Ca15 Cb15 Cc15 Ck15 Cx15 Ce15 Cr515 Cr615 Cr715 hcr8 ho
      obtain rfl : lr6 = lr8 := Eq.symm <| isSet_same Sr8.out Sr6.out fun d => by simp only [Sr5.out.mem d, Sr7.out.mem d]; cases mem a d <;> cases mem b d <;> cases mem c d <;> rfl
      go_wp2_with fail
      refine (same_yes lr6 _ _ _ _ _ (by omega) Cr616.out Cr816.out).mono ?_
      rintro e W17 ⟨rfl, hb⟩
      have B17 := Lib.hid (below_next B16.out hb)
      have Ca17 := Lib.hid (Cells.below Ca16.out hb)
      have Cb17 := Lib.hid (Cells.below Cb16.out hb)
      have Cc17 := Lib.hid (Cells.below Cc16.out hb)
      have Ck17 := Lib.hid (Cells.below Ck16.out hb)
      have Cx17 := Lib.hid (boxed_later Cx16.out hb)
      have Ce17 := Lib.hid (Cells.below Ce16.out hb)
      have Cr517 := Lib.hid (Cells.below Cr516.out hb)
      have Cr617 := Lib.hid (Cells.below Cr616.out hb)
      have Cr717 := Lib.hid (Cells.below Cr716.out hb)
      have Cr817 := Lib.hid (Cells.below Cr816.out hb)
      clear hb B16 Ca16 Cb16 Cc16 Ck16 Cx16 Ce16 Cr516 Cr616 Cr716 Cr816
      clear Cr717
      clear Cr817
      clear Cr617
      clear Cr517
      go_wp2_with fail
      refine (do_meet a b _ _ _ _ W4.heap.size (by omega) (by omega) VA.out VB.out _ Ca17.out Cb17.out Cx17.out).mono ?_
      rintro e W18 ⟨v, lr9, rfl, hs, hlr9, ho, hb⟩
      obtain ⟨pr9, cr9, rfl, hcr9⟩ := ho.form
      have Sr9 := Lib.hid hs
      clear hs
      have B18 := Lib.hid (below_next B17.out hb)
      have Ca18 := Lib.hid (Cells.below Ca17.out hb)
      have Cb18 := Lib.hid (Cells.below Cb17.out hb)
      have Cc18 := Lib.hid (Cells.below Cc17.out hb)
      have Ck18 := Lib.hid (Cells.below Ck17.out hb)
      have Cx18 := Lib.hid (boxed_later Cx17.out hb)
      have Ce18 := Lib.hid (Cells.below Ce17.out hb)
      have Cr918 := Lib.hid (hcr9)
      clear hb B17 Ca17 Cb17 Cc17 Ck17 Cx17 Ce17 hcr9 ho
      go_wp2_with fail
      refine (do_meet lr9 c _ _ _ _ W4.heap.size (by omega) (by omega) Sr9.out.valid VC.out _ Cr918.out Cc18.out Cx18.out).mono ?_
      rintro e W19 ⟨v, lr10, rfl, hs, hlr10, ho, hb⟩
      obtain ⟨pr10, cr10, rfl, hcr10⟩ := ho.form
      have Sr10 := Lib.hid hs
      clear hs
      have B19 := Lib.hid (below_next B18.out hb)
      have Ca19 := Lib.hid (Cells.below Ca18.out hb)
      have Cb19 := Lib.hid (Cells.below Cb18.out hb)
      have Cc19 := Lib.hid (Cells.below Cc18.out hb)
      have Ck19 := Lib.hid (Cells.below Ck18.out hb)
      have Cx19 := Lib.hid (boxed_later Cx18.out hb)
      have Ce19 := Lib.hid (Cells.below Ce18.out hb)
      have Cr919 := Lib.hid (Cells.below Cr918.out hb)
      have Cr1019 := Lib.hid (hcr10)
      clear hb B18 Ca18 Cb18 Cc18 Ck18 Cx18 Ce18 Cr918 hcr10 ho
      go_wp2_with fail
      refine (do_meet b c _ _ _ _ W4.heap.size (by omega) (by omega) VB.out VC.out _ Cb19.out Cc19.out Cx19.out).mono ?_
      rintro e W20 ⟨v, lr11, rfl, hs, hlr11, ho, hb⟩
      obtain ⟨pr11, cr11, rfl, hcr11⟩ := ho.form
      have Sr11 := Lib.hid hs
      clear hs
      have B20 := Lib.hid (below_next B19.out hb)
      have Ca20 := Lib.hid (Cells.below Ca19.out hb)
      have Cb20 := Lib.hid (Cells.below Cb19.out hb)
      have Cc20 := Lib.hid (Cells.below Cc19.out hb)
      have Ck20 := Lib.hid (Cells.below Ck19.out hb)
      have Cx20 := Lib.hid (boxed_later Cx19.out hb)
      have Ce20 := Lib.hid (Cells.below Ce19.out hb)
      have Cr920 := Lib.hid (Cells.below Cr919.out hb)
      have Cr1020 := Lib.hid (Cells.below Cr1019.out hb)
      have Cr1120 := Lib.hid (hcr11)
      clear hb B19 Ca19 Cb19 Cc19 Ck19 Cx19 Ce19 Cr919 Cr1019 hcr11 ho
      go_wp2_with fail
      refine (do_meet a lr11 _ _ _ _ W4.heap.size (by omega) (by omega) VA.out Sr11.out.valid _ Ca20.out Cr1120.out Cx20.out).mono ?_
      rintro e W21 ⟨v, lr12, rfl, hs, hlr12, ho, hb⟩
      obtain ⟨pr12, cr12, rfl, hcr12⟩ := ho.form
      have Sr12 := Lib.hid hs
      clear hs
      have B21 := Lib.hid (below_next B20.out hb)
      have Ca21 := Lib.hid (Cells.below Ca20.out hb)
      have Cb21 := Lib.hid (Cells.below Cb20.out hb)
      have Cc21 := Lib.hid (Cells.below Cc20.out hb)
      have Ck21 := Lib.hid (Cells.below Ck20.out hb)
      have Cx21 := Lib.hid (boxed_later Cx20.out hb)
      have Ce21 := Lib.hid (Cells.below Ce20.out hb)
      have Cr921 := Lib.hid (Cells.below Cr920.out hb)
      have Cr1021 := Lib.hid (Cells.below Cr1020.out hb)
      have Cr1121 := Lib.hid (Cells.below Cr1120.out hb)
      have Cr1221 := Lib.hid (hcr12)
      clear hb B20 Ca20 Cb20 Cc20 Ck20 Cx20 Ce20 Cr920 Cr1020 Cr1120 hcr12 ho
      obtain rfl : lr10 = lr12 := Eq.symm <| isSet_same Sr12.out Sr10.out fun d => by simp only [Sr9.out.mem d, Sr11.out.mem d]; cases mem a d <;> cases mem b d <;> cases mem c d <;> rfl
      go_wp2_with fail
      refine (same_yes lr10 _ _ _ _ _ (by omega) Cr1021.out Cr1221.out).mono ?_
      rintro e W22 ⟨rfl, hb⟩
      have B22 := Lib.hid (below_next B21.out hb)
      have Ca22 := Lib.hid (Cells.below Ca21.out hb)
      have Cb22 := Lib.hid (Cells.below Cb21.out hb)
      have Cc22 := Lib.hid (Cells.below Cc21.out hb)
      have Ck22 := Lib.hid (Cells.below Ck21.out hb)
      have Cx22 := Lib.hid (boxed_later Cx21.out hb)
      have Ce22 := Lib.hid (Cells.below Ce21.out hb)
      have Cr922 := Lib.hid (Cells.below Cr921.out hb)
      have Cr1022 := Lib.hid (Cells.below Cr1021.out hb)
      have Cr1122 := Lib.hid (Cells.below Cr1121.out hb)
      have Cr1222 := Lib.hid (Cells.below Cr1221.out hb)
      clear hb B21 Ca21 Cb21 Cc21 Ck21 Cx21 Ce21 Cr921 Cr1021 Cr1121 Cr1221
      clear Cr1122
      clear Cr1022
      clear Cr1222
      clear Cr922
      go_wp2_with fail
      refine (do_union b c _ _ _ _ W4.heap.size (by omega) (by omega) VB.out VC.out _ Cb22.out Cc22.out Cx22.out).mono ?_
      rintro e W23 ⟨v, lr13, rfl, hs, hlr13, ho, hb⟩
      obtain ⟨pr13, cr13, rfl, hcr13⟩ := ho.form
      have Sr13 := Lib.hid hs
      clear hs
      have B23 := Lib.hid (below_next B22.out hb)
      have Ca23 := Lib.hid (Cells.below Ca22.out hb)
      have Cb23 := Lib.hid (Cells.below Cb22.out hb)
      have Cc23 := Lib.hid (Cells.below Cc22.out hb)
      have Ck23 := Lib.hid (Cells.below Ck22.out hb)
      have Cx23 := Lib.hid (boxed_later Cx22.out hb)
      have Ce23 := Lib.hid (Cells.below Ce22.out hb)
      have Cr1323 := Lib.hid (hcr13)
      clear hb B22 Ca22 Cb22 Cc22 Ck22 Cx22 Ce22 hcr13 ho
      go_wp2_with fail
      refine (do_meet a lr13 _ _ _ _ W4.heap.size (by omega) (by omega) VA.out Sr13.out.valid _ Ca23.out Cr1323.out Cx23.out).mono ?_
      rintro e W24 ⟨v, lr14, rfl, hs, hlr14, ho, hb⟩
      obtain ⟨pr14, cr14, rfl, hcr14⟩ := ho.form
      have Sr14 := Lib.hid hs
      clear hs
      have B24 := Lib.hid (below_next B23.out hb)
      have Ca24 := Lib.hid (Cells.below Ca23.out hb)
      have Cb24 := Lib.hid (Cells.below Cb23.out hb)
      have Cc24 := Lib.hid (Cells.below Cc23.out hb)
      have Ck24 := Lib.hid (Cells.below Ck23.out hb)
      have Cx24 := Lib.hid (boxed_later Cx23.out hb)
      have Ce24 := Lib.hid (Cells.below Ce23.out hb)
      have Cr1324 := Lib.hid (Cells.below Cr1323.out hb)
      have Cr1424 := Lib.hid (hcr14)
      clear hb B23 Ca23 Cb23 Cc23 Ck23 Cx23 Ce23 Cr1323 hcr14 ho
      go_wp2_with fail
      refine (do_meet a b _ _ _ _ W4.heap.size (by omega) (by omega) VA.out VB.out _ Ca24.out Cb24.out Cx24.out).mono ?_
      rintro e W25 ⟨v, lr15, rfl, hs, hlr15, ho, hb⟩
      obtain ⟨pr15, cr15, rfl, hcr15⟩ := ho.form
      have Sr15 := Lib.hid hs
      clear hs
      have B25 := Lib.hid (below_next B24.out hb)
      have Ca25 := Lib.hid (Cells.below Ca24.out hb)
      have Cb25 := Lib.hid (Cells.below Cb24.out hb)
      have Cc25 := Lib.hid (Cells.below Cc24.out hb)
      have Ck25 := Lib.hid (Cells.below Ck24.out hb)
      have Cx25 := Lib.hid (boxed_later Cx24.out hb)
      have Ce25 := Lib.hid (Cells.below Ce24.out hb)
      have Cr1325 := Lib.hid (Cells.below Cr1324.out hb)
      have Cr1425 := Lib.hid (Cells.below Cr1424.out hb)
      have Cr1525 := Lib.hid (hcr15)
      clear hb B24 Ca24 Cb24 Cc24 Ck24 Cx24 Ce24 Cr1324 Cr1424 hcr15 ho
      go_wp2_with fail
      refine (do_meet a c _ _ _ _ W4.heap.size (by omega) (by omega) VA.out VC.out _ Ca25.out Cc25.out Cx25.out).mono ?_
      rintro e W26 ⟨v, lr16, rfl, hs, hlr16, ho, hb⟩
      obtain ⟨pr16, cr16, rfl, hcr16⟩ := ho.form
      have Sr16 := Lib.hid hs
      clear hs
      have B26 := Lib.hid (below_next B25.out hb)
      have Ca26 := Lib.hid (Cells.below Ca25.out hb)
      have Cb26 := Lib.hid (Cells.below Cb25.out hb)
      have Cc26 := Lib.hid (Cells.below Cc25.out hb)
      have Ck26 := Lib.hid (Cells.below Ck25.out hb)
      have Cx26 := Lib.hid (boxed_later Cx25.out hb)
      have Ce26 := Lib.hid (Cells.below Ce25.out hb)
      have Cr1326 := Lib.hid (Cells.below Cr1325.out hb)
      have Cr1426 := Lib.hid (Cells.below Cr1425.out hb)
      have Cr1526 := Lib.hid (Cells.below Cr1525.out hb)
      have Cr1626 := Lib.hid (hcr16)
      clear hb B25 Ca25 Cb25 Cc25 Ck25 Cx25 Ce25 Cr1325 Cr1425 Cr1525 hcr16 ho
      go_wp2_with fail
      refine (do_union lr15 lr16 _ _ _ _ W4.heap.size (by omega) (by omega) Sr15.out.valid Sr16.out.valid _ Cr1526.out Cr1626.out Cx26.out).mono ?_
      rintro e W27 ⟨v, lr17, rfl, hs, hlr17, ho, hb⟩
      obtain ⟨pr17, cr17, rfl, hcr17⟩ := ho.form
      have Sr17 := Lib.hid hs
      clear hs
      have B27 := Lib.hid (below_next B26.out hb)
      have Ca27 := Lib.hid (Cells.below Ca26.out hb)
      have Cb27 := Lib.hid (Cells.below Cb26.out hb)
      have Cc27 := Lib.hid (Cells.below Cc26.out hb)
      have Ck27 := Lib.hid (Cells.below Ck26.out hb)
      have Cx27 := Lib.hid (boxed_later Cx26.out hb)
      have Ce27 := Lib.hid (Cells.below Ce26.out hb)
      have Cr1327 := Lib.hid (Cells.below Cr1326.out hb)
      have Cr1427 := Lib.hid (Cells.below Cr1426.out hb)
      have Cr1527 := Lib.hid (Cells.below Cr1526.out hb)
      have Cr1627 := Lib.hid (Cells.below Cr1626.out hb)
      have Cr1727 := Lib.hid (hcr17)
      clear hb B26 Ca26 Cb26 Cc26 Ck26 Cx26 Ce26 Cr1326 Cr1426 Cr1526 Cr1626 hcr17 ho
      obtain rfl : lr14 = lr17 := Eq.symm <| isSet_same Sr17.out Sr14.out fun d => by simp only [Sr13.out.mem d, Sr15.out.mem d, Sr16.out.mem d]; cases mem a d <;> cases mem b d <;> cases mem c d <;> rfl
      go_wp2_with fail
      refine (same_yes lr14 _ _ _ _ _ (by omega) Cr1427.out Cr1727.out).mono ?_
      rintro e W28 ⟨rfl, hb⟩
      have B28 := Lib.hid (below_next B27.out hb)
      have Ca28 := Lib.hid (Cells.below Ca27.out hb)
      have Cb28 := Lib.hid (Cells.below Cb27.out hb)
      have Cc28 := Lib.hid (Cells.below Cc27.out hb)
      have Ck28 := Lib.hid (Cells.below Ck27.out hb)
      have Cx28 := Lib.hid (boxed_later Cx27.out hb)
      have Ce28 := Lib.hid (Cells.below Ce27.out hb)
      have Cr1328 := Lib.hid (Cells.below Cr1327.out hb)
      have Cr1428 := Lib.hid (Cells.below Cr1427.out hb)
      have Cr1528 := Lib.hid (Cells.below Cr1527.out hb)
      have Cr1628 := Lib.hid (Cells.below Cr1627.out hb)
      have Cr1728 := Lib.hid (Cells.below Cr1727.out hb)
      clear hb B27 Ca27 Cb27 Cc27 Ck27 Cx27 Ce27 Cr1327 Cr1427 Cr1527 Cr1627 Cr1727
      clear Cr1428
      clear Cr1728
      clear Cr1328
      clear Cr1528
      clear Cr1628
      go_wp2_with fail
      refine (do_meet b c _ _ _ _ W4.heap.size (by omega) (by omega) VB.out VC.out _ Cb28.out Cc28.out Cx28.out).mono ?_
      rintro e W29 ⟨v, lr18, rfl, hs, hlr18, ho, hb⟩
      obtain ⟨pr18, cr18, rfl, hcr18⟩ := ho.form
      have Sr18 := Lib.hid hs
      clear hs
      have B29 := Lib.hid (below_next B28.out hb)
      have Ca29 := Lib.hid (Cells.below Ca28.out hb)
      have Cb29 := Lib.hid (Cells.below Cb28.out hb)
      have Cc29 := Lib.hid (Cells.below Cc28.out hb)
      have Ck29 := Lib.hid (Cells.below Ck28.out hb)
      have Cx29 := Lib.hid (boxed_later Cx28.out hb)
      have Ce29 := Lib.hid (Cells.below Ce28.out hb)
      have Cr1829 := Lib.hid (hcr18)
      clear hb B28 Ca28 Cb28 Cc28 Ck28 Cx28 Ce28 hcr18 ho
      go_wp2_with fail
      refine (do_union a lr18 _ _ _ _ W4.heap.size (by omega) (by omega) VA.out Sr18.out.valid _ Ca29.out Cr1829.out Cx29.out).mono ?_
      rintro e W30 ⟨v, lr19, rfl, hs, hlr19, ho, hb⟩
      obtain ⟨pr19, cr19, rfl, hcr19⟩ := ho.form
      have Sr19 := Lib.hid hs
      clear hs
      have B30 := Lib.hid (below_next B29.out hb)
      have Ca30 := Lib.hid (Cells.below Ca29.out hb)
      have Cb30 := Lib.hid (Cells.below Cb29.out hb)
      have Cc30 := Lib.hid (Cells.below Cc29.out hb)
      have Ck30 := Lib.hid (Cells.below Ck29.out hb)
      have Cx30 := Lib.hid (boxed_later Cx29.out hb)
      have Ce30 := Lib.hid (Cells.below Ce29.out hb)
      have Cr1830 := Lib.hid (Cells.below Cr1829.out hb)
      have Cr1930 := Lib.hid (hcr19)
      clear hb B29 Ca29 Cb29 Cc29 Ck29 Cx29 Ce29 Cr1829 hcr19 ho
      go_wp2_with fail
      refine (do_union a b _ _ _ _ W4.heap.size (by omega) (by omega) VA.out VB.out _ Ca30.out Cb30.out Cx30.out).mono ?_
      rintro e W31 ⟨v, lr20, rfl, hs, hlr20, ho, hb⟩
      obtain ⟨pr20, cr20, rfl, hcr20⟩ := ho.form
      have Sr20 := Lib.hid hs
      clear hs
      have B31 := Lib.hid (below_next B30.out hb)
      have Ca31 := Lib.hid (Cells.below Ca30.out hb)
      have Cb31 := Lib.hid (Cells.below Cb30.out hb)
      have Cc31 := Lib.hid (Cells.below Cc30.out hb)
      have Ck31 := Lib.hid (Cells.below Ck30.out hb)
      have Cx31 := Lib.hid (boxed_later Cx30.out hb)
      have Ce31 := Lib.hid (Cells.below Ce30.out hb)
      have Cr1831 := Lib.hid (Cells.below Cr1830.out hb)
      have Cr1931 := Lib.hid (Cells.below Cr1930.out hb)
      have Cr2031 := Lib.hid (hcr20)
      clear hb B30 Ca30 Cb30 Cc30 Ck30 Cx30 Ce30 Cr1830 Cr1930 hcr20 ho
      go_wp2_with fail
      refine (do_union a c _ _ _ _ W4.heap.size (by omega) (by omega) VA.out VC.out _ Ca31.out Cc31.out Cx31.out).mono ?_
      rintro e W32 ⟨v, lr21, rfl, hs, hlr21, ho, hb⟩
      obtain ⟨pr21, cr21, rfl, hcr21⟩ := ho.form
      have Sr21 := Lib.hid hs
      clear hs
      have B32 := Lib.hid (below_next B31.out hb)
      have Ca32 := Lib.hid (Cells.below Ca31.out hb)
      have Cb32 := Lib.hid (Cells.below Cb31.out hb)
      have Cc32 := Lib.hid (Cells.below Cc31.out hb)
      have Ck32 := Lib.hid (Cells.below Ck31.out hb)
      have Cx32 := Lib.hid (boxed_later Cx31.out hb)
      have Ce32 := Lib.hid (Cells.below Ce31.out hb)
      have Cr1832 := Lib.hid (Cells.below Cr1831.out hb)
      have Cr1932 := Lib.hid (Cells.below Cr1931.out hb)
      have Cr2032 := Lib.hid (Cells.below Cr2031.out hb)
      have Cr2132 := Lib.hid (hcr21)
      clear hb B31 Ca31 Cb31 Cc31 Ck31 Cx31 Ce31 Cr1831 Cr1931 Cr2031 hcr21 ho
      go_wp2_with fail
      refine (do_meet lr20 lr21 _ _ _ _ W4.heap.size (by omega) (by omega) Sr20.out.valid Sr21.out.valid _ Cr2032.out Cr2132.out Cx32.out).mono ?_
      rintro e W33 ⟨v, lr22, rfl, hs, hlr22, ho, hb⟩
      obtain ⟨pr22, cr22, rfl, hcr22⟩ := ho.form
      have Sr22 := Lib.hid hs
      clear hs
      have B33 := Lib.hid (below_next B32.out hb)
      have Ca33 := Lib.hid (Cells.below Ca32.out hb)
      have Cb33 := Lib.hid (Cells.below Cb32.out hb)
      have Cc33 := Lib.hid (Cells.below Cc32.out hb)
      have Ck33 := Lib.hid (Cells.below Ck32.out hb)
      have Cx33 := Lib.hid (boxed_later Cx32.out hb)
      have Ce33 := Lib.hid (Cells.below Ce32.out hb)
      have Cr1833 := Lib.hid (Cells.below Cr1832.out hb)
      have Cr1933 := Lib.hid (Cells.below Cr1932.out hb)
      have Cr2033 := Lib.hid (Cells.below Cr2032.out hb)
      have Cr2133 := Lib.hid (Cells.below Cr2132.out hb)
      have Cr2233 := Lib.hid (hcr22)
      clear hb B32 Ca32 Cb32 Cc32 Ck32 Cx32 Ce32 Cr1832 Cr1932 Cr2032 Cr2132 hcr22 ho
      obtain rfl : lr19 = lr22 := Eq.symm <| isSet_same Sr22.out Sr19.out fun d => by simp only [Sr18.out.mem d, Sr20.out.mem d, Sr21.out.mem d]; cases mem a d <;> cases mem b d <;> cases mem c d <;> rfl
      go_wp2_with fail
      refine (same_yes lr19 _ _ _ _ _ (by omega) Cr1933.out Cr2233.out).mono ?_
      rintro e W34 ⟨rfl, hb⟩
      have B34 := Lib.hid (below_next B33.out hb)
      have Ca34 := Lib.hid (Cells.below Ca33.out hb)
      have Cb34 := Lib.hid (Cells.below Cb33.out hb)
      have Cc34 := Lib.hid (Cells.below Cc33.out hb)
      have Ck34 := Lib.hid (Cells.below Ck33.out hb)
      have Cx34 := Lib.hid (boxed_later Cx33.out hb)
      have Ce34 := Lib.hid (Cells.below Ce33.out hb)
      have Cr1834 := Lib.hid (Cells.below Cr1833.out hb)
      have Cr1934 := Lib.hid (Cells.below Cr1933.out hb)
      have Cr2034 := Lib.hid (Cells.below Cr2033.out hb)
      have Cr2134 := Lib.hid (Cells.below Cr2133.out hb)
      have Cr2234 := Lib.hid (Cells.below Cr2233.out hb)
      clear hb B33 Ca33 Cb33 Cc33 Ck33 Cx33 Ce33 Cr1833 Cr1933 Cr2033 Cr2133 Cr2233
      clear Cr2234
      clear Cr1834
      clear Cr2134
      clear Cr2034
      clear Cr1934
      go_wp2_with fail
      refine (do_minus a b _ _ _ _ W4.heap.size (by omega) (by omega) VA.out VB.out _ Ca34.out Cb34.out Cx34.out).mono ?_
      rintro e W35 ⟨v, lr23, rfl, hs, hlr23, ho, hb⟩
      obtain ⟨pr23, cr23, rfl, hcr23⟩ := ho.form
      have Sr23 := Lib.hid hs
      clear hs
      have B35 := Lib.hid (below_next B34.out hb)
      have Ca35 := Lib.hid (Cells.below Ca34.out hb)
      have Cb35 := Lib.hid (Cells.below Cb34.out hb)
      have Cc35 := Lib.hid (Cells.below Cc34.out hb)
      have Ck35 := Lib.hid (Cells.below Ck34.out hb)
      have Cx35 := Lib.hid (boxed_later Cx34.out hb)
      have Ce35 := Lib.hid (Cells.below Ce34.out hb)
      have Cr2335 := Lib.hid (hcr23)
      clear hb B34 Ca34 Cb34 Cc34 Ck34 Cx34 Ce34 hcr23 ho
      go_wp2_with fail
      refine (do_meet a b _ _ _ _ W4.heap.size (by omega) (by omega) VA.out VB.out _ Ca35.out Cb35.out Cx35.out).mono ?_
      rintro e W36 ⟨v, lr24, rfl, hs, hlr24, ho, hb⟩
      obtain ⟨pr24, cr24, rfl, hcr24⟩ := ho.form
      have Sr24 := Lib.hid hs
      clear hs
      have B36 := Lib.hid (below_next B35.out hb)
      have Ca36 := Lib.hid (Cells.below Ca35.out hb)
      have Cb36 := Lib.hid (Cells.below Cb35.out hb)
      have Cc36 := Lib.hid (Cells.below Cc35.out hb)
      have Ck36 := Lib.hid (Cells.below Ck35.out hb)
      have Cx36 := Lib.hid (boxed_later Cx35.out hb)
      have Ce36 := Lib.hid (Cells.below Ce35.out hb)
      have Cr2336 := Lib.hid (Cells.below Cr2335.out hb)
      have Cr2436 := Lib.hid (hcr24)
      clear hb B35 Ca35 Cb35 Cc35 Ck35 Cx35 Ce35 Cr2335 hcr24 ho
      go_wp2_with fail
      refine (do_minus a lr24 _ _ _ _ W4.heap.size (by omega) (by omega) VA.out Sr24.out.valid _ Ca36.out Cr2436.out Cx36.out).mono ?_
      rintro e W37 ⟨v, lr25, rfl, hs, hlr25, ho, hb⟩
      obtain ⟨pr25, cr25, rfl, hcr25⟩ := ho.form
      have Sr25 := Lib.hid hs
      clear hs
      have B37 := Lib.hid (below_next B36.out hb)
      have Ca37 := Lib.hid (Cells.below Ca36.out hb)
      have Cb37 := Lib.hid (Cells.below Cb36.out hb)
      have Cc37 := Lib.hid (Cells.below Cc36.out hb)
      have Ck37 := Lib.hid (Cells.below Ck36.out hb)
      have Cx37 := Lib.hid (boxed_later Cx36.out hb)
      have Ce37 := Lib.hid (Cells.below Ce36.out hb)
      have Cr2337 := Lib.hid (Cells.below Cr2336.out hb)
      have Cr2437 := Lib.hid (Cells.below Cr2436.out hb)
      have Cr2537 := Lib.hid (hcr25)
      clear hb B36 Ca36 Cb36 Cc36 Ck36 Cx36 Ce36 Cr2336 Cr2436 hcr25 ho
      obtain rfl : lr23 = lr25 := Eq.symm <| isSet_same Sr25.out Sr23.out fun d => by simp only [Sr24.out.mem d]; cases mem a d <;> cases mem b d <;> cases mem c d <;> rfl
      go_wp2_with fail
      refine (same_yes lr23 _ _ _ _ _ (by omega) Cr2337.out Cr2537.out).mono ?_
      rintro e W38 ⟨rfl, hb⟩
      have B38 := Lib.hid (below_next B37.out hb)
      have Ca38 := Lib.hid (Cells.below Ca37.out hb)
      have Cb38 := Lib.hid (Cells.below Cb37.out hb)
      have Cc38 := Lib.hid (Cells.below Cc37.out hb)
      have Ck38 := Lib.hid (Cells.below Ck37.out hb)
      have Cx38 := Lib.hid (boxed_later Cx37.out hb)
      have Ce38 := Lib.hid (Cells.below Ce37.out hb)
      have Cr2338 := Lib.hid (Cells.below Cr2337.out hb)
      have Cr2438 := Lib.hid (Cells.below Cr2437.out hb)
      have Cr2538 := Lib.hid (Cells.below Cr2537.out hb)
      clear hb B37 Ca37 Cb37 Cc37 Ck37 Cx37 Ce37 Cr2337 Cr2437 Cr2537
      clear Cr2538
      clear Cr2438
      clear Cr2338
      go_wp2_with fail
      refine (do_union a b _ _ _ _ W4.heap.size (by omega) (by omega) VA.out VB.out _ Ca38.out Cb38.out Cx38.out).mono ?_
      rintro e W39 ⟨v, lr26, rfl, hs, hlr26, ho, hb⟩
      obtain ⟨pr26, cr26, rfl, hcr26⟩ := ho.form
      have Sr26 := Lib.hid hs
      clear hs
      have B39 := Lib.hid (below_next B38.out hb)
      have Ca39 := Lib.hid (Cells.below Ca38.out hb)
      have Cb39 := Lib.hid (Cells.below Cb38.out hb)
      have Cc39 := Lib.hid (Cells.below Cc38.out hb)
      have Ck39 := Lib.hid (Cells.below Ck38.out hb)
      have Cx39 := Lib.hid (boxed_later Cx38.out hb)
      have Ce39 := Lib.hid (Cells.below Ce38.out hb)
      have Cr2639 := Lib.hid (hcr26)
      clear hb B38 Ca38 Cb38 Cc38 Ck38 Cx38 Ce38 hcr26 ho
      obtain rfl : re = lr26 := Eq.symm <| isSet_same Sr26.out SE.out fun d => by cases mem a d <;> cases mem b d <;> cases mem c d <;> rfl
      go_wp2_with fail
      refine (same_yes re _ _ _ _ _ (by omega) Ce39.out Cr2639.out).mono ?_
      rintro e W40 ⟨rfl, hb⟩
      have B40 := Lib.hid (below_next B39.out hb)
      have Ca40 := Lib.hid (Cells.below Ca39.out hb)
      have Cb40 := Lib.hid (Cells.below Cb39.out hb)
      have Cc40 := Lib.hid (Cells.below Cc39.out hb)
      have Ck40 := Lib.hid (Cells.below Ck39.out hb)
      have Cx40 := Lib.hid (boxed_later Cx39.out hb)
      have Ce40 := Lib.hid (Cells.below Ce39.out hb)
      have Cr2640 := Lib.hid (Cells.below Cr2639.out hb)
      clear hb B39 Ca39 Cb39 Cc39 Ck39 Cx39 Ce39 Cr2639
      clear Cr2640
      clear Ce40
      have cx := Cx40.out.cell
      go_wp2
      go_ret
      exact ⟨rfl, B40.out⟩

end Go.Proofs.Ytgpbdocgnfjckaa
