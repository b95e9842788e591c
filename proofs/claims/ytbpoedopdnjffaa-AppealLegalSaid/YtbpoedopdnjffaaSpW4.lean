/- The walk of choose, Union, Meet, Minus. -/
import Derived.Test.YtbpoedopdnjffaaSpW3
namespace Go.Proofs.Ytbpoedopdnjffaa
open Go.RowKit Go.Shelf Sp

attribute [local go_sem] Oper.semAt_some

set_option maxHeartbeats 1000000 in
theorem changes_in (n : Nat) (pa : Option Addr) (na ca : Nat) (pb : Option Addr) (nb cb : Nat) (w : World) :
    CallsIn Fence.wide n Try.prog 58 #[.slice pa na ca, .slice pb nb cb] w fun e w' => e = .returned (.func (.func 73) #[] #[.pointer (some ⟨w.heap.size, 0, none⟩), .pointer (some ⟨w.heap.size + 1, 0, none⟩)]) ∧
      w' = (w.alloc (.cells #[.slice pa na ca] 37)).alloc (.cells #[.slice pb nb cb] 37) := by
  refine callsIn_of_wp Try.func58 rfl trivial ?_ rfl
  simp only [Try.ntmps58, List.size_toArray, List.length_cons, List.length_nil, Nat.reduceAdd, Nat.reduceSub, Array.replicate_succ, Array.replicate_zero, List.push_toArray, List.append_toArray, List.nil_append, List.cons_append]
  gi_wp2
  go_ret
  exact ⟨rfl, rfl⟩

theorem changes_stops (n : Nat) (hn : 1 ≤ n) (Ba Bb n₀ : Nat) (a b : Sps) (pa pb : Option Addr) (ca cb : Nat) (la : a.length ≤ 100000) (lb : b.length ≤ 100000) (va : validB a = true) (vb : validB b = true) (w : World) (hn₀ : n₀ ≤ w.heap.size)
    (bA : Boxed w Ba 37 (.slice pa a.length ca)) (bB : Boxed w Bb 37 (.slice pb b.length cb))
    (hA : ∀ W', Below n₀ w W' → Cells W' pa a) (hB : ∀ W', Below n₀ w W' → Cells W' pb b) :
    SeqStopsK Fence.wide n Try.prog 73 #[.pointer (some ⟨Ba, 0, none⟩), .pointer (some ⟨Bb, 0, none⟩)] evv (Kpc n₀ Ba Bb (.slice pa a.length ca) (.slice pb b.length cb)) (fun ys => ys = chg a b) (fun pre => pre <+: chg a b) (chg a b).length w := fun l J Jx W hW _ _ hY h0 =>
  changes1_in n hn l Ba Bb n₀ a b pa pb ca cb la lb va vb J Jx hY W ((hW.block Ba bA.lt).trans bA) ((hW.block Bb bB.lt).trans bB)
    (fun W' h => hA W' ((hW.mono hn₀).trans h)) (fun W' h => hB W' ((hW.mono hn₀).trans h)) h0

/-- What is asked of a function handed to choose. -/
def Keeps (kf : Nat) (keep : Bool → Bool → Bool) : Prop := ∀ (n : Nat) (a b : Bool) (w : World),
  CallsIn Fence.wide n Try.prog kf #[.agg #[.bool a, .bool b]] w fun e w' => e = .returned (.bool (keep a b)) ∧ w' = w.alloc (.cells #[.bool a, .bool b] 71)

set_option maxHeartbeats 1000000 in
theorem keeps_union : Keeps 36 (fun a b => a || b) := by
  intro n a b w
  refine callsIn_of_wp Try.func36 rfl trivial ?_ rfl
  simp only [Try.ntmps36, List.size_toArray, List.length_cons, List.length_nil, Nat.reduceAdd, Nat.reduceSub, Array.replicate_succ, Array.replicate_zero, List.push_toArray, List.append_toArray, List.nil_append, List.cons_append]
  cases a <;> cases b
  all_goals
    gi_wp2
    go_ret
    exact ⟨rfl, rfl⟩

theorem valid_in (n : Nat) (l : Sps) (x : Bool) (p : Option Addr) (cap : Nat) (w : World) (hx : validB l = x) (hn : l.length ≤ 100000) (hc : Cells w p l) :
    CallsIn Fence.wide n Try.prog 23 #[.slice p l.length cap] w fun e w' => e = .returned (.bool x) ∧ Below w.heap.size w w' :=
  callsIn_wide.2 (valid_is l x p cap w hx hn hc)

theorem cell_two_new (w : World) (x y : Value) (t : TypeId) (k : Nat) (hk : w.heap.size = k) : ∀ j u, [x, y][j]? = some u → (w.alloc (.cells #[x, y] t)).cell? ((⟨k, 0, none⟩ : Addr).add j) = some u := by
  subst hk
  intro j u hj
  have h := Boxed2.new w t x y
  match j, hj with
  | 0, hj => simp at hj; subst hj; exact h.cell0
  | 1, hj => simp at hj; subst hj; exact h.cell1
  | j + 2, hj => simp at hj

theorem info_span : (Try.prog.info? 47).map (fun i => (i.zero, i.size, i.bytes)) = some (some (.agg #[.int .i64 0, .int .i64 0]), 2, 16) := by kernel_rfl

set_option maxRecDepth 100000 in
set_option maxHeartbeats 4000000 in
theorem choose_in (n : Nat) (hn : 3 ≤ n) (kf : Nat) (keep : Bool → Bool → Bool) (hk : Keeps kf keep) (ek : ∀ args w, (callFunc kf args).run Try.prog w = .ok (.enter kf args) w) (a b : Sps) (pa pb : Option Addr) (ca cb : Nat) (la : a.length ≤ 10000) (lb : b.length ≤ 10000) (va : validB a = true) (vb : validB b = true) (w : World)
    (hA : Cells w pa a) (hB : Cells w pb b) :
    CallsIn Fence.wide n Try.prog 35 #[.slice pa a.length ca, .slice pb b.length cb, .func (.func kf) #[] #[]] w fun e W' => ∃ v, e = .returned (.tuple #[v, .int .i64 0]) ∧ Owns W' w.heap.size v (run keep (chg a b)).2.2 ∧ Below w.heap.size w W' := by
  have h1 : 1 ≤ n := by omega
  have HK := Lib.hid hk; clear hk
  have hA' : ∀ W', Below w.heap.size w W' → Cells W' pa a := fun W' h => hA.below h
  have hB' : ∀ W', Below w.heap.size w W' → Cells W' pb b := fun W' h => hB.below h
  have HA := Lib.hid hA'
  have HB := Lib.hid hB'
  clear hA' hB' hA hB
  have hva := Lib.hid va; clear va
  have hvb := Lib.hid vb; clear vb
  refine callsIn_of_wp_marks Try.func35 rfl trivial ?_ rfl
  simp only [Try.ntmps35, List.size_toArray, List.length_cons, List.length_nil, Nat.reduceAdd, Nat.reduceSub, Array.replicate_succ, Array.replicate_zero, List.push_toArray, List.append_toArray, List.nil_append, List.cons_append]
  gi_wp2_with (first | (refine ⟨trivial, ?_⟩; gi_at_call_has 23 pa; refine (valid_in _ a true _ _ _ hva.out (by omega) (HA.out _ (by go_grown))).mono ?_; rintro e w1 ⟨rfl, hb1⟩))
  have kB : Boxed w1 w.heap.size 72 (.func (.func kf) #[] #[]) := (hb1.block w.heap.size (by simp)).trans (Boxed.new w _ _)
  have B1 : Below w.heap.size w w1 := ((Below.refl _ w).alloc (Nat.le_refl _) _).trans (hb1.mono (by simp))
  clear hb1
  refine ⟨trivial, ?_⟩
  refine (valid_in _ b true _ _ _ hvb.out (by omega) (HB.out _ B1)).mono ?_
  rintro e w2 ⟨rfl, hb2⟩
  have kB2 : Boxed w2 w.heap.size 72 (.func (.func kf) #[] #[]) := (hb2.block w.heap.size kB.lt).trans kB
  have B2 : Below w.heap.size w w2 := B1.trans (hb2.mono B1.size)
  clear hb2 kB B1
  have hS : w.heap.size < w2.heap.size := kB2.lt
  have KB2 := Lib.hid kB2; clear kB2
  have HB2 := Lib.hid B2; clear B2
  gi_wp2_with (first | (refine ⟨trivial, ?_⟩; gi_at_call 58; refine (changes_in _ _ _ _ _ _ _ _).mono ?_; rintro e w' ⟨rfl, rfl⟩))
  obtain ⟨W0, hW0⟩ : ∃ W0, ((((w2.alloc (.cells #[.slice none 0 0] 37)).alloc (.cells #[.int .i64 0] 3)).alloc (.cells #[.bool false] 4)).alloc (.cells #[.slice pa a.length ca] 37)).alloc (.cells #[.slice pb b.length cb] 37) = W0 := ⟨_, rfl⟩
  have inv0 : Inv w w2.heap.size (.func (.func kf) #[] #[]) (.slice pa a.length ca) (.slice pb b.length cb) (run keep []) W0 := by
    subst hW0
    refine ⟨⟨.slice none 0 0, ((((Boxed.new w2 _ _).alloc _).alloc _).alloc _).alloc _, World.ownsRow_nil _ _ _ _, trivial⟩, ?_, ?_, ((((KB2.out.alloc _).alloc _).alloc _).alloc _).alloc _, ?_, ?_, ?_⟩
    · have := (((Boxed.new (w2.alloc (.cells #[.slice none 0 0] 37)) 3 (.int .i64 0)).alloc (.cells #[.bool false] 4)).alloc (.cells #[.slice pa a.length ca] 37)).alloc (.cells #[.slice pb b.length cb] 37)
      simp only [World.size_alloc] at this
      exact this
    · have := ((Boxed.new ((w2.alloc (.cells #[.slice none 0 0] 37)).alloc (.cells #[.int .i64 0] 3)) 4 (.bool false)).alloc (.cells #[.slice pa a.length ca] 37)).alloc (.cells #[.slice pb b.length cb] 37)
      simp only [World.size_alloc] at this
      exact this
    · have := (Boxed.new (((w2.alloc (.cells #[.slice none 0 0] 37)).alloc (.cells #[.int .i64 0] 3)).alloc (.cells #[.bool false] 4)) 37 (.slice pa a.length ca)).alloc (.cells #[.slice pb b.length cb] 37)
      simp only [World.size_alloc] at this
      exact this
    · have := Boxed.new ((((w2.alloc (.cells #[.slice none 0 0] 37)).alloc (.cells #[.int .i64 0] 3)).alloc (.cells #[.bool false] 4)).alloc (.cells #[.slice pa a.length ca] 37)) 37 (.slice pb b.length cb)
      simp only [World.size_alloc] at this
      exact this
    · exact ((((HB2.out.alloc (by have := HB2.out.size; omega) _).alloc (by have := HB2.out.size; simp; omega) _).alloc (by have := HB2.out.size; simp; omega) _).alloc (by have := HB2.out.size; simp; omega) _).alloc (by have := HB2.out.size; simp; omega) _
  have hsz : W0.heap.size = w2.heap.size + 5 := by subst hW0; simp
  rw [hW0]
  clear hW0
  have hev : (chg a b).length ≤ 40000 := by
    have := evs_length _ (bl a) (bl b) false false rfl
    rw [bl_length, bl_length] at this
    unfold chg; omega
  obtain ⟨i0, hi0, hz0, hz1, hz2⟩ := info_parts info_span
  have I0 := Lib.hid inv0; clear inv0
  refine wpIn_rangeFunc_ownH rfl h1 (gf := 73) (lb := #[.pointer (some ⟨w2.heap.size + 1 + 1 + 1, 0, none⟩), .pointer (some ⟨w2.heap.size + 1 + 1 + 1 + 1, 0, none⟩)]) rfl trivial (enters_of Try.func73 (by kernel_rfl) rfl)
    (changes_stops (n - 1) (by omega) (w2.heap.size + 1 + 1 + 1) (w2.heap.size + 1 + 1 + 1 + 1) w.heap.size a b pa pb ca cb (by omega) (by omega) hva.out hvb.out W0 I0.out.below.size I0.out.a I0.out.b (fun W' h => HA.out W' (I0.out.below.trans h)) (fun W' h => HB.out W' (I0.out.below.trans h)))
    Kpc.t (Kpc.b I0.out.below.size) (Below.refl _ _) (fun _ => rfl)
    (fun pre W => Inv w w2.heap.size (.func (.func kf) #[] #[]) (.slice pa a.length ca) (.slice pb b.length cb) (run keep pre) W)
    (fun _ _ _ => False)
    (inv_own I0.out.below.size)
    (fun _ _ _ _ _ hs _ _ => hs)
    I0.out
    (fun x a' W => ∃ Bx, Boxed2 W Bx 71 (.bool x.2.1) (.bool x.2.2) ∧ a' = { tmps := #[.slice pa a.length ca, .slice pb b.length cb, .func (.func kf) #[] #[], undef, undef, .pointer (some ⟨w.heap.size, 0, none⟩), .slice none 0 0, .int .i64 0, .pointer (some ⟨w2.heap.size, 0, none⟩), .pointer (some ⟨w2.heap.size + 1, 0, none⟩), .pointer (some ⟨w2.heap.size + 1 + 1, 0, none⟩), .int .i64 x.1, .pointer (some ⟨Bx, 0, none⟩), undef, .slice pa a.length ca, .bool true, .bool false, .bool false, .slice pb b.length cb, .bool true, .bool false, .bool false, .slice pa a.length ca, .slice pb b.length cb, .func (.func 73) #[] #[.pointer (some ⟨w2.heap.size + 1 + 1 + 1, 0, none⟩), .pointer (some ⟨w2.heap.size + 1 + 1 + 1 + 1, 0, none⟩)], .int .i64 x.1, .agg #[.bool x.2.1, .bool x.2.2], undef, undef, undef, undef, undef, undef, undef, undef, undef, undef, undef, undef, undef, undef, undef, undef, undef, undef, undef, undef, undef, undef], defers := [] })
    (fun x a' _ X Y row hs hg hr => by obtain ⟨Bx, h1, h2⟩ := hs; exact ⟨Bx, boxed2_own (β := Unit) Bx _ _ _ () X Y row h1 hg (fun r e => (hr r e).2), h2⟩)
    ?assign ?body ?done ?stop
  case assign =>
    rintro l pre x W K hi hK
    have Hi := Lib.hid hi
    have HKK := Lib.hid hK
    clear hi hK
    dsimp only [evv]
    gi_wp2
    exact HKK.out _ _ ((KeepsOthers.alloc _ _).from _) ⟨(Below.refl _ W).alloc Hi.out.below.size _, fun h => h.alloc _, fun h => h.alloc _⟩ (Hi.out.alloc _) ⟨W.heap.size, Boxed2.new W _ _ _, rfl⟩
  case body =>
    rintro l pre ⟨d, xa, xb⟩ a' W hl ⟨r, hr⟩ hi ⟨Bx, b2, rfl⟩ hlt
    have hpl := run_length keep pre
    have hsn := Lib.hid (run_snoc keep pre (d, xa, xb))
    dsimp only at b2 hsn ⊢
    obtain ⟨⟨fr, ins, set⟩, hst⟩ : ∃ st, st = run keep pre := ⟨_, rfl⟩
    rw [← hst] at hi hpl hsn
    clear hst
    obtain ⟨v, hv, hrow, _⟩ := hi.set
    dsimp only at hrow hpl
    have hS2 : set.length ≤ 40000 := by omega
    have cs := hv.cell
    have cf := hi.fr.cell
    have ci := hi.ins.cell
    have zf := hi.fr.frozen
    have zi := hi.ins.frozen
    have zs := hv.frozen
    have ck := hi.keep.cell
    have c20 := b2.cell0
    have c21 := b2.cell1
    dsimp only at cf ci zf zi
    have h1' : 1 ≤ n - 1 - 1 := by omega
    have Hi := Lib.hid hi
    have Hv := Lib.hid hv
    have Hrow := Lib.hid hrow
    have Hb2 := Lib.hid b2
    clear hi hv hrow b2
    have n1 : w.heap.size < W.heap.size := Hi.out.keep.lt
    have n2 : w2.heap.size < W.heap.size := Hv.out.lt
    have n3 : w2.heap.size + 1 < W.heap.size := Hi.out.fr.lt
    have n4 : w2.heap.size + 1 + 1 < W.heap.size := Hi.out.ins.lt
    obtain ⟨kb, hkb⟩ : ∃ kb, kb = keep xa xb := ⟨_, rfl⟩
    have CK := Lib.hid (fun m W => HK.out m xa xb W)
    rw [← hkb] at CK
    have Hkb := Lib.hid hkb
    clear hkb
    have inv1 := Lib.hid (fun o => Hi.out.alloc o)
    cases kb with
    | true =>
      cases ins with
      | true =>
        have e1 : run keep (pre ++ [(d, xa, xb)]) = (fr, true, set) := by rw [hsn.out]; simp [stp, ← Hkb.out]
        have E1 := Lib.hid e1; clear e1
        gi_wp2_with (first | (refine ⟨trivial, ?_⟩; refine (CallsIn.inRound l (CK.out _ _)).mono ?_; rintro e w' ⟨rfl, rfl⟩))
        have inv' := (Hi.out.setIns hS true).alloc (.cells #[.bool xa, .bool xb] 71)
        have bl' := (Below.refl w.heap.size W).setCell (p := ⟨w2.heap.size + 1 + 1, 0, none⟩) (by show _ ≤ w2.heap.size + 1 + 1; omega) (.bool true)
        exact ⟨((KeepsOthers.setCell _ _ _).trans (KeepsOthers.alloc _ _)).from _, ⟨bl'.alloc (Nat.le_trans (Nat.le_of_lt n1) bl'.size) _, fun _ => inv'.a, fun _ => inv'.b⟩, by show Inv _ _ _ _ _ (run keep _) _; rw [E1.out]; exact inv'⟩
      | false =>
        have e1 : run keep (pre ++ [(d, xa, xb)]) = (d, true, set) := by rw [hsn.out]; simp [stp, ← Hkb.out]
        have E1 := Lib.hid e1; clear e1
        gi_wp2_with (first | (refine ⟨trivial, ?_⟩; refine (CallsIn.inRound l (CK.out _ _)).mono ?_; rintro e w' ⟨rfl, rfl⟩))
        have inv' := ((Hi.out.setFrom hS d).setIns hS true).alloc (.cells #[.bool xa, .bool xb] 71)
        have bl' := ((Below.refl w.heap.size W).setCell (p := ⟨w2.heap.size + 1, 0, none⟩) (by show _ ≤ w2.heap.size + 1; omega) (.int .i64 d)).setCell (p := ⟨w2.heap.size + 1 + 1, 0, none⟩) (by show _ ≤ w2.heap.size + 1 + 1; omega) (.bool true)
        exact ⟨(((KeepsOthers.setCell _ _ _).trans (KeepsOthers.setCell _ _ _)).trans (KeepsOthers.alloc _ _)).from _, ⟨bl'.alloc (Nat.le_trans (Nat.le_of_lt n1) bl'.size) _, fun _ => inv'.a, fun _ => inv'.b⟩, by show Inv _ _ _ _ _ (run keep _) _; rw [E1.out]; exact inv'⟩
    | false =>
      cases ins with
      | true =>
        have e1 : run keep (pre ++ [(d, xa, xb)]) = (fr, false, set ++ [(fr, d)]) := by rw [hsn.out]; simp [stp, ← Hkb.out]
        have E1 := Lib.hid e1; clear e1
        gi_wp2_with (first | (gi_at_builtin; refine wpListIn_append_own _ rfl _ _ 37 rfl w.heap.size 47 i0 (.agg #[.int .i64 0, .int .i64 0]) 2 16 Try.underlying37 hi0 hz0 hz1 hz2 rfl (by decide) _ _ _ rfl ((Hrow.out.alloc _).alloc _) ⟨W.heap.size + 1, 0, none⟩ 1 1 [.int .i64 fr, .int .i64 d] rfl rfl (cell_two_new _ _ _ _ _ (by simp)) (by simp [Value.oneCell']) (by unfold maxLen; omega) (by omega) (by simp; omega) ?_; intro v' w1 hown' hgrow _; obtain ⟨g', cap', rfl⟩ := ownsRow_succ hown'; obtain ⟨iv, bs1, ko, be, bi1⟩ := Inv.appended (Hi.out.alloc _) hS (Hv.out.alloc _) (Hrow.out.alloc _) hown' hgrow; have hc1 := bs1.cell; have hf1 := bs1.frozen; have hc2 : w1.cell? ⟨w2.heap.size + 1 + 1, 0, none⟩ = some (.bool true) := bi1.cell; have hf2 : w1.frozen? ⟨w2.heap.size + 1 + 1, 0, none⟩ = false := bi1.frozen) | (refine ⟨trivial, ?_⟩; refine (CallsIn.inRound l (CK.out _ _)).mono ?_; rintro e w' ⟨rfl, rfl⟩))
        have inv' := iv.setIns hS false
        have bl' := (((Below.refl w.heap.size W).alloc (Nat.le_of_lt n1) _).trans be).setCell (p := ⟨w2.heap.size + 1 + 1, 0, none⟩) (by show _ ≤ w2.heap.size + 1 + 1; omega) (.bool false)
        exact ⟨(((KeepsOthers.alloc _ _).trans ko).trans (KeepsOthers.setCell _ _ _)).from _, ⟨bl', fun _ => inv'.a, fun _ => inv'.b⟩, by show Inv _ _ _ _ _ (run keep _) _; rw [E1.out]; exact inv'⟩
      | false =>
        have e1 : run keep (pre ++ [(d, xa, xb)]) = (fr, false, set) := by rw [hsn.out]; simp [stp, ← Hkb.out]
        have E1 := Lib.hid e1; clear e1
        gi_wp2_with (first | (refine ⟨trivial, ?_⟩; refine (CallsIn.inRound l (CK.out _ _)).mono ?_; rintro e w' ⟨rfl, rfl⟩))
        have inv' := (Hi.out.setIns hS false).alloc (.cells #[.bool xa, .bool xb] 71)
        have bl' := (Below.refl w.heap.size W).setCell (p := ⟨w2.heap.size + 1 + 1, 0, none⟩) (by show _ ≤ w2.heap.size + 1 + 1; omega) (.bool false)
        exact ⟨((KeepsOthers.setCell _ _ _).trans (KeepsOthers.alloc _ _)).from _, ⟨bl'.alloc (Nat.le_trans (Nat.le_of_lt n1) bl'.size) _, fun _ => inv'.a, fun _ => inv'.b⟩, by show Inv _ _ _ _ _ (run keep _) _; rw [E1.out]; exact inv'⟩
  case done =>
    rintro D ys W hD rfl hi hK
    obtain ⟨v, hv, hrow, _⟩ := hi.set
    have hc := hv.cell
    have Hi := Lib.hid hi; clear hi
    gi_wp2
    refine ⟨by simp, .inl ⟨_, _, rfl, run_takeDeferred hK, ?_⟩⟩
    exact ⟨_, results_tmp2 rfl _ _ _, v, rfl, ownsRow_putObj hrow _ hK rfl, Hi.out.below.trans (belowK_b (w := w) (Nat.le_refl _) W D _ _ (by omega) hK rfl rfl)⟩
  case stop =>
    rintro D c pre W _ _ h _
    exact h.elim

theorem choose_ok (kf : Nat) (keep : Bool → Bool → Bool) (hk : Keeps kf keep) (ek : ∀ args w, (callFunc kf args).run Try.prog w = .ok (.enter kf args) w) (h0 : keep false false = false) (a b : Sps) (pa pb : Option Addr) (ca cb : Nat) (la : a.length ≤ 10000) (lb : b.length ≤ 10000) (va : validB a = true) (vb : validB b = true) (w : World)
    (hA : Cells w pa a) (hB : Cells w pb b) :
    Calls Try.prog 35 #[.slice pa a.length ca, .slice pb b.length cb, .func (.func kf) #[] #[]] w fun e W' => ∃ v l, e = .returned (.tuple #[v, .int .i64 0]) ∧ IsSet (fun d => keep (mem a d) (mem b d)) l ∧ l.length ≤ 2 * (a.length + b.length) ∧ Owns W' w.heap.size v l ∧ Below w.heap.size w W' := by
  refine callsIn_wide.1 ((choose_in 3 (by omega) kf keep hk ek a b pa pb ca cb la lb va vb w hA hB).mono ?_)
  rintro e W' ⟨v, he, ho, hb⟩
  refine ⟨v, _, he, choose_set keep h0 a b va vb, ?_, ho, hb⟩
  have h1 := run_length keep (chg a b)
  have h2 := evs_length _ (bl a) (bl b) false false rfl
  rw [bl_length, bl_length] at h2
  unfold chg at h1 ⊢
  omega

set_option maxHeartbeats 1000000 in
theorem choose_bad (kv : Value) (a b : Sps) (pa pb : Option Addr) (ca cb : Nat) (la : a.length ≤ 10000) (lb : b.length ≤ 10000) (hv : (validB a && validB b) = false) (w : World) (kf : Nat) (hkv : kv = .func (.func kf) #[] #[])
    (hA : Cells w pa a) (hB : Cells w pb b) :
    Calls Try.prog 35 #[.slice pa a.length ca, .slice pb b.length cb, kv] w fun e W' => e = .returned (.tuple #[.slice none 0 0, .int .i64 2]) ∧ Below w.heap.size w W' := by
  subst hkv
  have HA := Lib.hid (fun W' (h : Below w.heap.size w W') => hA.below h)
  have HB := Lib.hid (fun W' (h : Below w.heap.size w W') => hB.below h)
  clear hA hB
  have B0 : Below w.heap.size w (w.alloc (.cells #[.func (.func kf) #[] #[]] 72)) := (Below.refl _ w).alloc (Nat.le_refl _) _
  have HB0 := Lib.hid B0; clear B0
  cases hva : validB a with
  | false =>
    have CA := Lib.hid (fun W h => valid_is a false pa ca W hva (by omega) (HA.out W h))
    clear hva hv
    go_enter Try.func35, Try.ntmps35
    go_wp2_with (first | (go_at_call 23; refine (CA.out _ HB0.out).mono ?_; rintro e w1 ⟨rfl, hb1⟩))
    go_ret2
    exact ⟨rfl, HB0.out.trans (hb1.mono HB0.out.size)⟩
  | true =>
    have hvb : validB b = false := by rw [hva] at hv; simpa using hv
    have CA := Lib.hid (fun W h => valid_is a true pa ca W hva (by omega) (HA.out W h))
    have CB := Lib.hid (fun W h => valid_is b false pb cb W hvb (by omega) (HB.out W h))
    clear hva hvb hv
    go_enter Try.func35, Try.ntmps35
    go_wp2_with (first | (go_at_call_of 23 pa; refine (CA.out _ HB0.out).mono ?_; rintro e w1 ⟨rfl, hb1⟩; have B1 := HB0.out.trans (hb1.mono HB0.out.size)) | (go_at_call_of 23 pb; refine (CB.out _ B1).mono ?_; rintro e w2 ⟨rfl, hb2⟩))
    go_ret2
    exact ⟨rfl, B1.trans (hb2.mono B1.size)⟩

end Go.Proofs.Ytbpoedopdnjffaa
