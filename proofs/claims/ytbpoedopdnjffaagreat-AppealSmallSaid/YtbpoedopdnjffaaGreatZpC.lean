/- The walk of choose, Union, Meet, Minus. Union, Meet, Minus; Before, Days, Nth. A case in a box of its own. held, endHold, uphold, next, pass. Rows of cases, a docket in a box, what a docket's methods leave alone. find, Has, Within. -/
import Derived.Test.YtbpoedopdnjffaaGreatZpB
import Derived.Test.YtbpoedopdnjffaaGreatZpA
import Derived.Deep.RegionHeld3
namespace Go.Proofs.YtbpoedopdnjffaaGreat
open Go.RowKit Go.Shelf Sp

attribute [local go_sem] Oper.semAt_some

set_option maxHeartbeats 1000000 in
theorem changes_in (n : Nat) (pa : Option Addr) (na ca : Nat) (pb : Option Addr) (nb cb : Nat) (w : World) :
    CallsIn Fence.wide n Tryz.prog 136 #[.slice pa na ca, .slice pb nb cb] w fun e w' => e = .returned (.func (.func 137) #[] #[.pointer (some ⟨w.heap.size, 0, none⟩), .pointer (some ⟨w.heap.size + 1, 0, none⟩)]) ∧
      w' = (w.alloc (.cells #[.slice pa na ca] 50)).alloc (.cells #[.slice pb nb cb] 50) := by
  refine callsIn_of_wp Tryz.func136 rfl trivial ?_ rfl
  simp only [Tryz.ntmps136, List.size_toArray, List.length_cons, List.length_nil, Nat.reduceAdd, Nat.reduceSub, Array.replicate_succ, Array.replicate_zero, List.push_toArray, List.append_toArray, List.nil_append, List.cons_append]
  gi_wp2
  go_ret
  exact ⟨rfl, rfl⟩

theorem changes_stops (n : Nat) (hn : 1 ≤ n) (Ba Bb n₀ : Nat) (a b : Sps) (pa pb : Option Addr) (ca cb : Nat) (la : a.length ≤ 100000) (lb : b.length ≤ 100000) (va : validB a = true) (vb : validB b = true) (w : World) (hn₀ : n₀ ≤ w.heap.size)
    (bA : Boxed w Ba 50 (.slice pa a.length ca)) (bB : Boxed w Bb 50 (.slice pb b.length cb))
    (hA : ∀ W', Below n₀ w W' → Cells W' pa a) (hB : ∀ W', Below n₀ w W' → Cells W' pb b) :
    SeqStopsK Fence.wide n Tryz.prog 137 #[.pointer (some ⟨Ba, 0, none⟩), .pointer (some ⟨Bb, 0, none⟩)] evv (Kpc n₀ Ba Bb (.slice pa a.length ca) (.slice pb b.length cb)) (fun ys => ys = chg a b) (fun pre => pre <+: chg a b) (chg a b).length w := fun l J Jx W hW _ _ hY h0 =>
  changes1_in n hn l Ba Bb n₀ a b pa pb ca cb la lb va vb J Jx hY W ((hW.block Ba bA.lt).trans bA) ((hW.block Bb bB.lt).trans bB)
    (fun W' h => hA W' ((hW.mono hn₀).trans h)) (fun W' h => hB W' ((hW.mono hn₀).trans h)) h0

/-- What is asked of a function handed to choose. -/
def Keeps (kf : Nat) (keep : Bool → Bool → Bool) : Prop := ∀ (n : Nat) (a b : Bool) (w : World),
  CallsIn Fence.wide n Tryz.prog kf #[.agg #[.bool a, .bool b]] w fun e w' => e = .returned (.bool (keep a b)) ∧ w' = w.alloc (.cells #[.bool a, .bool b] 228)

set_option maxHeartbeats 1000000 in
theorem keeps_union : Keeps 129 (fun a b => a || b) := by
  intro n a b w
  refine callsIn_of_wp Tryz.func129 rfl trivial ?_ rfl
  simp only [Tryz.ntmps129, List.size_toArray, List.length_cons, List.length_nil, Nat.reduceAdd, Nat.reduceSub, Array.replicate_succ, Array.replicate_zero, List.push_toArray, List.append_toArray, List.nil_append, List.cons_append]
  cases a <;> cases b
  all_goals
    gi_wp2
    go_ret
    exact ⟨rfl, rfl⟩

theorem valid_in (n : Nat) (l : Sps) (x : Bool) (p : Option Addr) (cap : Nat) (w : World) (hx : validB l = x) (hn : l.length ≤ 100000) (hc : Cells w p l) :
    CallsIn Fence.wide n Tryz.prog 81 #[.slice p l.length cap] w fun e w' => e = .returned (.bool x) ∧ Below w.heap.size w w' :=
  callsIn_wide.2 (valid_is l x p cap w hx hn hc)

theorem cell_two_new (w : World) (x y : Value) (t : TypeId) (k : Nat) (hk : w.heap.size = k) : ∀ j u, [x, y][j]? = some u → (w.alloc (.cells #[x, y] t)).cell? ((⟨k, 0, none⟩ : Addr).add j) = some u := by
  subst hk
  intro j u hj
  have h := Boxed2.new w t x y
  match j, hj with
  | 0, hj => simp at hj; subst hj; exact h.cell0
  | 1, hj => simp at hj; subst hj; exact h.cell1
  | j + 2, hj => simp at hj

theorem info_span : (Tryz.prog.info? 54).map (fun i => (i.zero, i.size, i.bytes)) = some (some (.agg #[.int .i64 0, .int .i64 0]), 2, 16) := by kernel_rfl

set_option maxRecDepth 100000 in
set_option maxHeartbeats 4000000 in
theorem choose_in (n : Nat) (hn : 3 ≤ n) (kf : Nat) (keep : Bool → Bool → Bool) (hk : Keeps kf keep) (ek : ∀ args w, (callFunc kf args).run Tryz.prog w = .ok (.enter kf args) w) (a b : Sps) (pa pb : Option Addr) (ca cb : Nat) (la : a.length ≤ 10000) (lb : b.length ≤ 10000) (va : validB a = true) (vb : validB b = true) (w : World)
    (hA : Cells w pa a) (hB : Cells w pb b) :
    CallsIn Fence.wide n Tryz.prog 128 #[.slice pa a.length ca, .slice pb b.length cb, .func (.func kf) #[] #[]] w fun e W' => ∃ v, e = .returned (.tuple #[v, .int .i64 0]) ∧ Owns W' w.heap.size v (run keep (chg a b)).2.2 ∧ Below w.heap.size w W' := by
  have h1 : 1 ≤ n := by omega
  have HK := Lib.hid hk; clear hk
  have hA' : ∀ W', Below w.heap.size w W' → Cells W' pa a := fun W' h => hA.below h
  have hB' : ∀ W', Below w.heap.size w W' → Cells W' pb b := fun W' h => hB.below h
  have HA := Lib.hid hA'
  have HB := Lib.hid hB'
  clear hA' hB' hA hB
  have hva := Lib.hid va; clear va
  have hvb := Lib.hid vb; clear vb
  refine callsIn_of_wp_marks Tryz.func128 rfl trivial ?_ rfl
  simp only [Tryz.ntmps128, List.size_toArray, List.length_cons, List.length_nil, Nat.reduceAdd, Nat.reduceSub, Array.replicate_succ, Array.replicate_zero, List.push_toArray, List.append_toArray, List.nil_append, List.cons_append]
  gi_wp2_with (first | (refine ⟨trivial, ?_⟩; gi_at_call_has 81 pa; refine (valid_in _ a true _ _ _ hva.out (by omega) (HA.out _ (by go_grown))).mono ?_; rintro e w1 ⟨rfl, hb1⟩))
  have kB : Boxed w1 w.heap.size 229 (.func (.func kf) #[] #[]) := (hb1.block w.heap.size (by simp)).trans (Boxed.new w _ _)
  have B1 : Below w.heap.size w w1 := ((Below.refl _ w).alloc (Nat.le_refl _) _).trans (hb1.mono (by simp))
  clear hb1
  refine ⟨trivial, ?_⟩
  refine (valid_in _ b true _ _ _ hvb.out (by omega) (HB.out _ B1)).mono ?_
  rintro e w2 ⟨rfl, hb2⟩
  have kB2 : Boxed w2 w.heap.size 229 (.func (.func kf) #[] #[]) := (hb2.block w.heap.size kB.lt).trans kB
  have B2 : Below w.heap.size w w2 := B1.trans (hb2.mono B1.size)
  clear hb2 kB B1
  have hS : w.heap.size < w2.heap.size := kB2.lt
  have KB2 := Lib.hid kB2; clear kB2
  have HB2 := Lib.hid B2; clear B2
  gi_wp2_with (first | (refine ⟨trivial, ?_⟩; gi_at_call 136; refine (changes_in _ _ _ _ _ _ _ _).mono ?_; rintro e w' ⟨rfl, rfl⟩))
  obtain ⟨W0, hW0⟩ : ∃ W0, ((((w2.alloc (.cells #[.slice none 0 0] 50)).alloc (.cells #[.int .i64 0] 3)).alloc (.cells #[.bool false] 4)).alloc (.cells #[.slice pa a.length ca] 50)).alloc (.cells #[.slice pb b.length cb] 50) = W0 := ⟨_, rfl⟩
  have inv0 : Inv w w2.heap.size (.func (.func kf) #[] #[]) (.slice pa a.length ca) (.slice pb b.length cb) (run keep []) W0 := by
    subst hW0
    refine ⟨⟨.slice none 0 0, ((((Boxed.new w2 _ _).alloc _).alloc _).alloc _).alloc _, World.ownsRow_nil _ _ _ _, trivial⟩, ?_, ?_, ((((KB2.out.alloc _).alloc _).alloc _).alloc _).alloc _, ?_, ?_, ?_⟩
    · have := (((Boxed.new (w2.alloc (.cells #[.slice none 0 0] 50)) 3 (.int .i64 0)).alloc (.cells #[.bool false] 4)).alloc (.cells #[.slice pa a.length ca] 50)).alloc (.cells #[.slice pb b.length cb] 50)
      simp only [World.size_alloc] at this
      exact this
    · have := ((Boxed.new ((w2.alloc (.cells #[.slice none 0 0] 50)).alloc (.cells #[.int .i64 0] 3)) 4 (.bool false)).alloc (.cells #[.slice pa a.length ca] 50)).alloc (.cells #[.slice pb b.length cb] 50)
      simp only [World.size_alloc] at this
      exact this
    · have := (Boxed.new (((w2.alloc (.cells #[.slice none 0 0] 50)).alloc (.cells #[.int .i64 0] 3)).alloc (.cells #[.bool false] 4)) 50 (.slice pa a.length ca)).alloc (.cells #[.slice pb b.length cb] 50)
      simp only [World.size_alloc] at this
      exact this
    · have := Boxed.new ((((w2.alloc (.cells #[.slice none 0 0] 50)).alloc (.cells #[.int .i64 0] 3)).alloc (.cells #[.bool false] 4)).alloc (.cells #[.slice pa a.length ca] 50)) 50 (.slice pb b.length cb)
      simp only [World.size_alloc] at this
      exact this
    · exact ((((HB2.out.alloc (by have := HB2.out.size; omega) _).alloc (by have := HB2.out.size; simp; omega) _).alloc (by have := HB2.out.size; simp; omega) _).alloc (by have := HB2.out.size; simp; omega) _).alloc (by have := HB2.out.size; simp; omega) _
  have hsz : W0.heap.size = w2.heap.size + 5 := by subst hW0; simp
  rw [hW0]
  clear hW0
  have hev : (chg a b).length ≤ 40000 := by
    have := evs_length _ (bl a) (bl b) false false rfl
    rw [bl_length, bl_length] at this
    unfold chg; omega
  obtain ⟨i0, hi0, hz0, hz1, hz2⟩ := info_parts info_span
  have I0 := Lib.hid inv0; clear inv0
  refine wpIn_rangeFunc_ownH rfl h1 (gf := 137) (lb := #[.pointer (some ⟨w2.heap.size + 1 + 1 + 1, 0, none⟩), .pointer (some ⟨w2.heap.size + 1 + 1 + 1 + 1, 0, none⟩)]) rfl trivial (enters_of Tryz.func137 (by kernel_rfl) rfl)
    (changes_stops (n - 1) (by omega) (w2.heap.size + 1 + 1 + 1) (w2.heap.size + 1 + 1 + 1 + 1) w.heap.size a b pa pb ca cb (by omega) (by omega) hva.out hvb.out W0 I0.out.below.size I0.out.a I0.out.b (fun W' h => HA.out W' (I0.out.below.trans h)) (fun W' h => HB.out W' (I0.out.below.trans h)))
    Kpc.t (Kpc.b I0.out.below.size) (Below.refl _ _) (fun _ => rfl)
    (fun pre W => Inv w w2.heap.size (.func (.func kf) #[] #[]) (.slice pa a.length ca) (.slice pb b.length cb) (run keep pre) W)
    (fun _ _ _ => False)
    (inv_own I0.out.below.size)
    (fun _ _ _ _ _ hs _ _ => hs)
    I0.out
    (fun x a' W => ∃ Bx, Boxed2 W Bx 228 (.bool x.2.1) (.bool x.2.2) ∧ a' = { tmps := #[.slice pa a.length ca, .slice pb b.length cb, .func (.func kf) #[] #[], undef, undef, .pointer (some ⟨w.heap.size, 0, none⟩), .slice none 0 0, .int .i64 0, .pointer (some ⟨w2.heap.size, 0, none⟩), .pointer (some ⟨w2.heap.size + 1, 0, none⟩), .pointer (some ⟨w2.heap.size + 1 + 1, 0, none⟩), .int .i64 x.1, .pointer (some ⟨Bx, 0, none⟩), undef, .slice pa a.length ca, .bool true, .bool false, .bool false, .slice pb b.length cb, .bool true, .bool false, .bool false, .slice pa a.length ca, .slice pb b.length cb, .func (.func 137) #[] #[.pointer (some ⟨w2.heap.size + 1 + 1 + 1, 0, none⟩), .pointer (some ⟨w2.heap.size + 1 + 1 + 1 + 1, 0, none⟩)], .int .i64 x.1, .agg #[.bool x.2.1, .bool x.2.2], undef, undef, undef, undef, undef, undef, undef, undef, undef, undef, undef, undef, undef, undef, undef, undef, undef, undef, undef, undef, undef, undef], defers := [] })
    (fun x a' _ X Y row hs hg hr => by obtain ⟨Bx, h1, h2⟩ := hs; exact ⟨Bx, boxed2_own (β := Unit) Bx _ _ _ () X Y row h1 hg (fun r e => (hr r e).2), h2⟩)
    ?assign ?body ?done ?stop
  case assign =>
    rintro l pre x W K hi hK
    have Hi := Lib.hid hi
    have HKK := Lib.hid hK
    clear hi hK
    dsimp only [evv]
    gi_wp2
    exact HKK.out _ _ ((KeepsOthers.alloc _ _).from _) ⟨(Below.refl _ W).alloc Hi.out.below.size _, fun h => h.alloc _, fun h => h.alloc _⟩ (Hi.out.alloc _) ⟨W.heap.size, Boxed2.new W _ _ _, rfl⟩
  case body =>
    rintro l pre ⟨d, xa, xb⟩ a' W hl ⟨r, hr⟩ hi ⟨Bx, b2, rfl⟩ hlt
    have hpl := run_length keep pre
    have hsn := Lib.hid (run_snoc keep pre (d, xa, xb))
    dsimp only at b2 hsn ⊢
    obtain ⟨⟨fr, ins, set⟩, hst⟩ : ∃ st, st = run keep pre := ⟨_, rfl⟩
    rw [← hst] at hi hpl hsn
    clear hst
    obtain ⟨v, hv, hrow, _⟩ := hi.set
    dsimp only at hrow hpl
    have hS2 : set.length ≤ 40000 := by omega
    have cs := hv.cell
    have cf := hi.fr.cell
    have ci := hi.ins.cell
    have zf := hi.fr.frozen
    have zi := hi.ins.frozen
    have zs := hv.frozen
    have ck := hi.keep.cell
    have c20 := b2.cell0
    have c21 := b2.cell1
    dsimp only at cf ci zf zi
    have h1' : 1 ≤ n - 1 - 1 := by omega
    have Hi := Lib.hid hi
    have Hv := Lib.hid hv
    have Hrow := Lib.hid hrow
    have Hb2 := Lib.hid b2
    clear hi hv hrow b2
    have n1 : w.heap.size < W.heap.size := Hi.out.keep.lt
    have n2 : w2.heap.size < W.heap.size := Hv.out.lt
    have n3 : w2.heap.size + 1 < W.heap.size := Hi.out.fr.lt
    have n4 : w2.heap.size + 1 + 1 < W.heap.size := Hi.out.ins.lt
    obtain ⟨kb, hkb⟩ : ∃ kb, kb = keep xa xb := ⟨_, rfl⟩
    have CK := Lib.hid (fun m W => HK.out m xa xb W)
    rw [← hkb] at CK
    have Hkb := Lib.hid hkb
    clear hkb
    have inv1 := Lib.hid (fun o => Hi.out.alloc o)
    cases kb with
    | true =>
      cases ins with
      | true =>
        have e1 : run keep (pre ++ [(d, xa, xb)]) = (fr, true, set) := by rw [hsn.out]; simp [stp, ← Hkb.out]
        have E1 := Lib.hid e1; clear e1
        gi_wp2_with (first | (refine ⟨trivial, ?_⟩; refine (CallsIn.inRound l (CK.out _ _)).mono ?_; rintro e w' ⟨rfl, rfl⟩))
        have inv' := (Hi.out.setIns hS true).alloc (.cells #[.bool xa, .bool xb] 228)
        have bl' := (Below.refl w.heap.size W).setCell (p := ⟨w2.heap.size + 1 + 1, 0, none⟩) (by show _ ≤ w2.heap.size + 1 + 1; omega) (.bool true)
        exact ⟨((KeepsOthers.setCell _ _ _).trans (KeepsOthers.alloc _ _)).from _, ⟨bl'.alloc (Nat.le_trans (Nat.le_of_lt n1) bl'.size) _, fun _ => inv'.a, fun _ => inv'.b⟩, by show Inv _ _ _ _ _ (run keep _) _; rw [E1.out]; exact inv'⟩
      | false =>
        have e1 : run keep (pre ++ [(d, xa, xb)]) = (d, true, set) := by rw [hsn.out]; simp [stp, ← Hkb.out]
        have E1 := Lib.hid e1; clear e1
        gi_wp2_with (first | (refine ⟨trivial, ?_⟩; refine (CallsIn.inRound l (CK.out _ _)).mono ?_; rintro e w' ⟨rfl, rfl⟩))
        have inv' := ((Hi.out.setFrom hS d).setIns hS true).alloc (.cells #[.bool xa, .bool xb] 228)
        have bl' := ((Below.refl w.heap.size W).setCell (p := ⟨w2.heap.size + 1, 0, none⟩) (by show _ ≤ w2.heap.size + 1; omega) (.int .i64 d)).setCell (p := ⟨w2.heap.size + 1 + 1, 0, none⟩) (by show _ ≤ w2.heap.size + 1 + 1; omega) (.bool true)
        exact ⟨(((KeepsOthers.setCell _ _ _).trans (KeepsOthers.setCell _ _ _)).trans (KeepsOthers.alloc _ _)).from _, ⟨bl'.alloc (Nat.le_trans (Nat.le_of_lt n1) bl'.size) _, fun _ => inv'.a, fun _ => inv'.b⟩, by show Inv _ _ _ _ _ (run keep _) _; rw [E1.out]; exact inv'⟩
    | false =>
      cases ins with
      | true =>
        have e1 : run keep (pre ++ [(d, xa, xb)]) = (fr, false, set ++ [(fr, d)]) := by rw [hsn.out]; simp [stp, ← Hkb.out]
        have E1 := Lib.hid e1; clear e1
        gi_wp2_with (first | (gi_at_builtin; refine wpListIn_append_own _ rfl _ _ 50 rfl w.heap.size 54 i0 (.agg #[.int .i64 0, .int .i64 0]) 2 16 Tryz.underlying50 hi0 hz0 hz1 hz2 rfl (by decide) _ _ _ rfl ((Hrow.out.alloc _).alloc _) ⟨W.heap.size + 1, 0, none⟩ 1 1 [.int .i64 fr, .int .i64 d] rfl rfl (cell_two_new _ _ _ _ _ (by simp)) (by simp [Value.oneCell']) (by unfold maxLen; omega) (by omega) (by simp; omega) ?_; intro v' w1 hown' hgrow _; obtain ⟨g', cap', rfl⟩ := ownsRow_succ hown'; obtain ⟨iv, bs1, ko, be, bi1⟩ := Inv.appended (Hi.out.alloc _) hS (Hv.out.alloc _) (Hrow.out.alloc _) hown' hgrow; have hc1 := bs1.cell; have hf1 := bs1.frozen; have hc2 : w1.cell? ⟨w2.heap.size + 1 + 1, 0, none⟩ = some (.bool true) := bi1.cell; have hf2 : w1.frozen? ⟨w2.heap.size + 1 + 1, 0, none⟩ = false := bi1.frozen) | (refine ⟨trivial, ?_⟩; refine (CallsIn.inRound l (CK.out _ _)).mono ?_; rintro e w' ⟨rfl, rfl⟩))
        have inv' := iv.setIns hS false
        have bl' := (((Below.refl w.heap.size W).alloc (Nat.le_of_lt n1) _).trans be).setCell (p := ⟨w2.heap.size + 1 + 1, 0, none⟩) (by show _ ≤ w2.heap.size + 1 + 1; omega) (.bool false)
        exact ⟨(((KeepsOthers.alloc _ _).trans ko).trans (KeepsOthers.setCell _ _ _)).from _, ⟨bl', fun _ => inv'.a, fun _ => inv'.b⟩, by show Inv _ _ _ _ _ (run keep _) _; rw [E1.out]; exact inv'⟩
      | false =>
        have e1 : run keep (pre ++ [(d, xa, xb)]) = (fr, false, set) := by rw [hsn.out]; simp [stp, ← Hkb.out]
        have E1 := Lib.hid e1; clear e1
        gi_wp2_with (first | (refine ⟨trivial, ?_⟩; refine (CallsIn.inRound l (CK.out _ _)).mono ?_; rintro e w' ⟨rfl, rfl⟩))
        have inv' := (Hi.out.setIns hS false).alloc (.cells #[.bool xa, .bool xb] 228)
        have bl' := (Below.refl w.heap.size W).setCell (p := ⟨w2.heap.size + 1 + 1, 0, none⟩) (by show _ ≤ w2.heap.size + 1 + 1; omega) (.bool false)
        exact ⟨((KeepsOthers.setCell _ _ _).trans (KeepsOthers.alloc _ _)).from _, ⟨bl'.alloc (Nat.le_trans (Nat.le_of_lt n1) bl'.size) _, fun _ => inv'.a, fun _ => inv'.b⟩, by show Inv _ _ _ _ _ (run keep _) _; rw [E1.out]; exact inv'⟩
  case done =>
    rintro D ys W hD rfl hi hK
    obtain ⟨v, hv, hrow, _⟩ := hi.set
    have hc := hv.cell
    have Hi := Lib.hid hi; clear hi
    gi_wp2
    refine ⟨by simp, .inl ⟨_, _, rfl, run_takeDeferred hK, ?_⟩⟩
    exact ⟨_, results_tmp2 rfl _ _ _, v, rfl, ownsRow_putObj hrow _ hK rfl, Hi.out.below.trans (belowK_b (w := w) (Nat.le_refl _) W D _ _ (by omega) hK rfl rfl)⟩
  case stop =>
    rintro D c pre W _ _ h _
    exact h.elim

theorem choose_ok (kf : Nat) (keep : Bool → Bool → Bool) (hk : Keeps kf keep) (ek : ∀ args w, (callFunc kf args).run Tryz.prog w = .ok (.enter kf args) w) (h0 : keep false false = false) (a b : Sps) (pa pb : Option Addr) (ca cb : Nat) (la : a.length ≤ 10000) (lb : b.length ≤ 10000) (va : validB a = true) (vb : validB b = true) (w : World)
    (hA : Cells w pa a) (hB : Cells w pb b) :
    Calls Tryz.prog 128 #[.slice pa a.length ca, .slice pb b.length cb, .func (.func kf) #[] #[]] w fun e W' => ∃ v l, e = .returned (.tuple #[v, .int .i64 0]) ∧ IsSet (fun d => keep (mem a d) (mem b d)) l ∧ l.length ≤ 2 * (a.length + b.length) ∧ Owns W' w.heap.size v l ∧ Below w.heap.size w W' := by
  refine callsIn_wide.1 ((choose_in 3 (by omega) kf keep hk ek a b pa pb ca cb la lb va vb w hA hB).mono ?_)
  rintro e W' ⟨v, he, ho, hb⟩
  refine ⟨v, _, he, choose_set keep h0 a b va vb, ?_, ho, hb⟩
  have h1 := run_length keep (chg a b)
  have h2 := evs_length _ (bl a) (bl b) false false rfl
  rw [bl_length, bl_length] at h2
  unfold chg at h1 ⊢
  omega

set_option maxHeartbeats 1000000 in
theorem choose_bad (kv : Value) (a b : Sps) (pa pb : Option Addr) (ca cb : Nat) (la : a.length ≤ 10000) (lb : b.length ≤ 10000) (hv : (validB a && validB b) = false) (w : World) (kf : Nat) (hkv : kv = .func (.func kf) #[] #[])
    (hA : Cells w pa a) (hB : Cells w pb b) :
    Calls Tryz.prog 128 #[.slice pa a.length ca, .slice pb b.length cb, kv] w fun e W' => e = .returned (.tuple #[.slice none 0 0, .int .i64 2]) ∧ Below w.heap.size w W' := by
  subst hkv
  have HA := Lib.hid (fun W' (h : Below w.heap.size w W') => hA.below h)
  have HB := Lib.hid (fun W' (h : Below w.heap.size w W') => hB.below h)
  clear hA hB
  have B0 : Below w.heap.size w (w.alloc (.cells #[.func (.func kf) #[] #[]] 229)) := (Below.refl _ w).alloc (Nat.le_refl _) _
  have HB0 := Lib.hid B0; clear B0
  cases hva : validB a with
  | false =>
    have CA := Lib.hid (fun W h => valid_is a false pa ca W hva (by omega) (HA.out W h))
    clear hva hv
    go_enter Tryz.func128, Tryz.ntmps128
    go_wp2_with (first | (go_at_call 81; refine (CA.out _ HB0.out).mono ?_; rintro e w1 ⟨rfl, hb1⟩))
    go_ret2
    exact ⟨rfl, HB0.out.trans (hb1.mono HB0.out.size)⟩
  | true =>
    have hvb : validB b = false := by rw [hva] at hv; simpa using hv
    have CA := Lib.hid (fun W h => valid_is a true pa ca W hva (by omega) (HA.out W h))
    have CB := Lib.hid (fun W h => valid_is b false pb cb W hvb (by omega) (HB.out W h))
    clear hva hvb hv
    go_enter Tryz.func128, Tryz.ntmps128
    go_wp2_with (first | (go_at_call_of 81 pa; refine (CA.out _ HB0.out).mono ?_; rintro e w1 ⟨rfl, hb1⟩; have B1 := HB0.out.trans (hb1.mono HB0.out.size)) | (go_at_call_of 81 pb; refine (CB.out _ B1).mono ?_; rintro e w2 ⟨rfl, hb2⟩))
    go_ret2
    exact ⟨rfl, B1.trans (hb2.mono B1.size)⟩

end Go.Proofs.YtbpoedopdnjffaaGreat

namespace Go.Proofs.YtbpoedopdnjffaaGreat
open Go.RowKit Go.Shelf Sp

theorem ret_two {a b c d : Value} (h : a = c) (k : b = d) : Ending.returned (.tuple #[a, b]) = .returned (.tuple #[c, d]) := by rw [h, k]

theorem Cells.at {w : World} {p : Option Addr} {l : Sps} (h : Cells w p l) (k : Nat) (hk : k < l.length) :
    ∃ b off, p = some ⟨b, off, none⟩ ∧ b < w.heap.size ∧ ∃ x y, l[k] = (x, y) ∧ w.cell? ⟨b, off + k * 2, none⟩ = some (.int .i64 x) ∧ w.cell? ⟨b, off + k * 2 + 1, none⟩ = some (.int .i64 y) := by
  rcases h with rfl | ⟨b, off, rfl, hc⟩
  · simp at hk
  · have h1 := hc k hk
    exact ⟨b, off, rfl, World.block_lt_of_cell? w _ h1.1, _, _, rfl, h1.1, h1.2⟩

set_option maxHeartbeats 1000000 in
theorem union_ok (a b : Sps) (pa pb : Option Addr) (ca cb : Nat) (la : a.length ≤ 10000) (lb : b.length ≤ 10000) (va : validB a = true) (vb : validB b = true) (w : World) (hA : Cells w pa a) (hB : Cells w pb b) :
    Calls Tryz.prog 91 #[.slice pa a.length ca, .slice pb b.length cb] w fun e W' => ∃ v l, e = .returned (.tuple #[v, .int .i64 0]) ∧ IsSet (fun d => mem a d || mem b d) l ∧ l.length ≤ 2 * (a.length + b.length) ∧ Owns W' w.heap.size v l ∧ Below w.heap.size w W' := by
  have C := Lib.hid (choose_ok 129 _ keeps_union (enters_of Tryz.func129 (by kernel_rfl) rfl) rfl a b pa pb ca cb la lb va vb w hA hB)
  clear va vb hA hB
  go_enter Tryz.func91, Tryz.ntmps91
  go_wp2_with (first | (go_at_call 128; refine C.out.mono ?_; rintro e w1 ⟨v, l, rfl, hs, hl, ho, hb⟩))
  go_ret2
  exact ⟨v, l, rfl, hs, hl, ho, hb⟩

section
variable (a b : Sps) (pa pb : Option Addr) (ca cb : Nat) (la : a.length ≤ 10000) (lb : b.length ≤ 10000) (hv : (validB a && validB b) = false) (w : World) (hA : Cells w pa a) (hB : Cells w pb b)
include la lb hv hA hB
set_option maxHeartbeats 1000000 in
theorem union_bad : Calls Tryz.prog 91 #[.slice pa a.length ca, .slice pb b.length cb] w fun e W' => e = .returned (.tuple #[.slice none 0 0, .int .i64 2]) ∧ Below w.heap.size w W' := by
  have C := Lib.hid (choose_bad _ a b pa pb ca cb la lb hv w 129 rfl hA hB)
  clear hv hA hB
  go_enter Tryz.func91, Tryz.ntmps91
  go_wp2_with (first | (go_at_call 128; refine C.out.mono ?_; rintro e w1 ⟨rfl, hb⟩))
  go_ret2
  exact ⟨rfl, hb⟩
end

/-- What Before answers. -/
def befv (l : Sps) (d : Int) : Int := if validB l = true then bef l d else 0

end Go.Proofs.YtbpoedopdnjffaaGreat

namespace Go.Proofs.YtbpoedopdnjffaaGreat
open Go.RowKit Go.Shelf Sp

/-- Everything but block g stays. -/
structure But (g : Nat) (w w' : World) : Prop where
  os : w'.os = w.os
  tape : w'.tape = w.tape
  output : w'.output = w.output
  size : w.heap.size ≤ w'.heap.size
  block : ∀ k, k < w.heap.size → k ≠ g → w'.heap[k]? = w.heap[k]?
theorem But.refl (g : Nat) (w : World) : But g w w := ⟨rfl, rfl, rfl, Nat.le_refl _, fun _ _ _ => rfl⟩
theorem But.below {g : Nat} {w w' w2 : World} (h : But g w w') (hb : Below w'.heap.size w' w2) : But g w w2 :=
  ⟨hb.os.trans h.os, hb.tape.trans h.tape, hb.output.trans h.output, Nat.le_trans h.size hb.size, fun k hk hne => (hb.block k (Nat.lt_of_lt_of_le hk h.size)).trans (h.block k hk hne)⟩
theorem But.trans {g : Nat} {w w' w2 : World} (h : But g w w') (h2 : But g w' w2) : But g w w2 :=
  ⟨h2.os.trans h.os, h2.tape.trans h.tape, h2.output.trans h.output, Nat.le_trans h.size h2.size, fun k hk hne => (h2.block k (Nat.lt_of_lt_of_le hk h.size) hne).trans (h.block k hk hne)⟩
theorem But.of_below {g : Nat} {w w' : World} (hb : Below w.heap.size w w') : But g w w' := (But.refl g w).below hb
theorem But.set_ {g : Nat} {w w' : World} (h : But g w w') (i : Nat) (u : Value) : But g w (w'.setCell ⟨g, i, none⟩ u) :=
  ⟨h.os, h.tape, h.output, by simpa [World.setCell] using h.size, fun k hk hne => (Below.heap_setCell w' ⟨g, i, none⟩ u k hne).trans (h.block k hk hne)⟩
theorem But.drew {g : Nat} {w w' : World} (h : But g w w') : But g w w'.drew := ⟨h.os, h.tape, h.output, h.size, h.block⟩
theorem But.grown {g : Nat} {w w' : World} (h : But g w w') : w.grownBy w' (some g) := ⟨h.os, h.tape, h.output, h.size, fun k hk hne => h.block k hk (fun e => hne (by rw [e]))⟩
/-- What was changed but block g, if g is new, is below. -/
theorem But.belowOf {g : Nat} {w w' w0 : World} {base : Nat} (h : But g w w') (hb : Below base w0 w) (hbase : base ≤ w.heap.size) (hg : base ≤ g) : Below base w0 w' :=
  ⟨h.os.trans hb.os, h.tape.trans hb.tape, h.output.trans hb.output, Nat.le_trans hb.size h.size, fun k hk => (h.block k (Nat.lt_of_lt_of_le hk hbase) (by omega)).trans (hb.block k hk)⟩

/-- A case's cells. -/
def csRow (c : Cs) (v : Value) : List Value := [.bool c.el, .int .u8 c.st, .int .i64 c.opened, .int .i64 c.days, .int .i64 c.choice, .int .i64 c.level, .int .i64 c.due, .bool c.hold, .int .i64 c.since, v]
/-- A case in a box. -/
def CsAt (W : World) (B : Nat) (c : Cs) (v : Value) : Prop := W.heap[B]? = some (.cells #[.bool c.el, .int .u8 c.st, .int .i64 c.opened, .int .i64 c.days, .int .i64 c.choice, .int .i64 c.level, .int .i64 c.due, .bool c.hold, .int .i64 c.since, v] 52 (0, 0))
theorem CsAt.lt {W : World} {B : Nat} {c : Cs} {v : Value} (h : CsAt W B c v) : B < W.heap.size := (Array.getElem?_eq_some_iff.1 h).1
theorem CsAt.cell {W : World} {B : Nat} {c : Cs} {v : Value} (h : CsAt W B c v) :
    W.cell? ⟨B, 0, none⟩ = some (.bool c.el) ∧ W.cell? ⟨B, 1, none⟩ = some (.int .u8 c.st) ∧ W.cell? ⟨B, 2, none⟩ = some (.int .i64 c.opened) ∧ W.cell? ⟨B, 3, none⟩ = some (.int .i64 c.days) ∧ W.cell? ⟨B, 4, none⟩ = some (.int .i64 c.choice) ∧
    W.cell? ⟨B, 5, none⟩ = some (.int .i64 c.level) ∧ W.cell? ⟨B, 6, none⟩ = some (.int .i64 c.due) ∧ W.cell? ⟨B, 7, none⟩ = some (.bool c.hold) ∧ W.cell? ⟨B, 8, none⟩ = some (.int .i64 c.since) ∧ W.cell? ⟨B, 9, none⟩ = some v := by
  unfold CsAt at h
  simp only [World.cell?, h]
  exact ⟨rfl, rfl, rfl, rfl, rfl, rfl, rfl, rfl, rfl, rfl⟩
theorem CsAt.frozen {W : World} {B : Nat} {c : Cs} {v : Value} (h : CsAt W B c v) (j : Nat) : W.frozen? ⟨B, j, none⟩ = false := by
  unfold CsAt at h
  simp [World.frozen?, h]
theorem CsAt.of_block {W W' : World} {B : Nat} {c : Cs} {v : Value} (h : CsAt W B c v) (e : W'.heap[B]? = W.heap[B]?) : CsAt W' B c v := e.trans h
theorem CsAt.later {W W' : World} {B : Nat} {c : Cs} {v : Value} (h : CsAt W B c v) (hb : Below W.heap.size W W') : CsAt W' B c v := h.of_block (hb.block B h.lt)
theorem CsAt.set_ {W : World} {B : Nat} {c : Cs} {v : Value} (h : CsAt W B c v) :
    (∀ x : Int, CsAt (W.setCell ⟨B, 1, none⟩ (.int .u8 x)) B { c with st := x } v) ∧ (∀ x : Int, CsAt (W.setCell ⟨B, 4, none⟩ (.int .i64 x)) B { c with choice := x } v) ∧ (∀ x : Int, CsAt (W.setCell ⟨B, 5, none⟩ (.int .i64 x)) B { c with level := x } v) ∧
    (∀ x : Int, CsAt (W.setCell ⟨B, 6, none⟩ (.int .i64 x)) B { c with due := x } v) ∧ (∀ x : Bool, CsAt (W.setCell ⟨B, 7, none⟩ (.bool x)) B { c with hold := x } v) ∧ (∀ x : Int, CsAt (W.setCell ⟨B, 8, none⟩ (.int .i64 x)) B { c with since := x } v) ∧
    (∀ (l : Sps) (u : Value), CsAt (W.setCell ⟨B, 9, none⟩ u) B { c with held := l } u) := by
  unfold CsAt at h ⊢
  simp only [World.setCell, Array.getElem?_modify, h]
  exact ⟨fun _ => rfl, fun _ => rfl, fun _ => rfl, fun _ => rfl, fun _ => rfl, fun _ => rfl, fun _ _ => rfl⟩
theorem CsAt.not_row {W : World} {B : Nat} {c : Cs} {u : Value} {e : TypeId} (h : CsAt W B c u) (hte : 52 ≠ e) {base size k : Nat} {v : Value} {xs : List Value} (hr : W.ownsRow base e size v k xs) : some B ≠ v.ownBlock := by
  rcases hr.2 with ⟨rfl, _⟩ | ⟨g, cap, cur, rfl, _, hgb, _⟩
  · simp [Value.ownBlock]
  · intro e'
    obtain rfl : B = g := by simpa [Value.ownBlock] using e'
    have := (show W.heap[B]? = _ from h).symm.trans hgb
    simp at this
    exact hte this.2
theorem grownBy_set (W : World) (b i : Nat) (v : Value) : W.grownBy (W.setCell ⟨b, i, none⟩ v) (some b) :=
  ⟨rfl, rfl, rfl, by simp, fun k _ hk => Below.heap_setCell W ⟨b, i, none⟩ v k (fun e => hk (by rw [e]))⟩
theorem Owns.setBox {W : World} {B : Nat} {c : Cs} {u v : Value} {base : Nat} {l : Sps} (ho : Owns W base v l) (h : CsAt W B c u) (i : Nat) (x : Value) : Owns (W.setCell ⟨B, i, none⟩ x) base v l :=
  World.ownsRow.kept ho (grownBy_set W B i x) (.inr (h.not_row (by decide) ho).symm)
theorem Owns.later {W W' : World} {base : Nat} {v : Value} {l : Sps} (ho : Owns W base v l) (hb : Below W.heap.size W W') : Owns W' base v l :=
  World.ownsRow.kept ho (row := none) ⟨hb.os, hb.tape, hb.output, hb.size, fun k hk _ => hb.block k hk⟩ (by cases v.ownBlock <;> simp)
theorem Owns.low {W : World} {base : Nat} {v : Value} {l : Sps} (ho : Owns W base v l) : Owns W 0 v l := by
  refine ⟨ho.1, ?_⟩
  rcases ho.2 with h | ⟨g, cap, cur, e, _, rest⟩
  · exact .inl h
  · exact .inr ⟨g, cap, cur, e, Nat.zero_le _, rest⟩

/-- A case in a box, its held days in memory. -/
def CaseAt (W : World) (B : Nat) (c : Cs) : Prop := ∃ v, CsAt W B c v ∧ Owns W 0 v c.held
theorem CaseAt.later {W W' : World} {B : Nat} {c : Cs} (h : CaseAt W B c) (hb : Below W.heap.size W W') : CaseAt W' B c := by
  obtain ⟨v, h1, h2⟩ := h; exact ⟨v, h1.later hb, h2.later hb⟩

set_option maxHeartbeats 400000 in
theorem isDay_any (d : Int) (w : World) : Calls Tryz.prog 29 #[.int .i64 d] w fun e w' => e = .returned (.bool (decide (0 ≤ d) && decide (d ≤ 65535))) ∧ w = w' := by
  have CW : Hid (∀ a b c W, Calls Tryz.prog 51 #[.int .i64 a, .int .i64 b, .int .i64 c] W fun e w' => e = .returned (.bool (decide (b ≤ a) && decide (a ≤ c))) ∧ W = w') := Lib.hid fun a b c W => by
    by_cases h : b ≤ a
    · have hf := Lib.hid (show (decide (b ≤ a) && decide (a ≤ c)) = decide (a ≤ c) by simp [h])
      go_enter Tryz.func51, Tryz.ntmps51
      go_wp2
      go_ret
      exact ⟨ret_bool hf.out.symm, rfl⟩
    · have hf := Lib.hid (show (decide (b ≤ a) && decide (a ≤ c)) = false by simp [h])
      go_enter Tryz.func51, Tryz.ntmps51
      go_wp2
      go_ret
      exact ⟨ret_bool hf.out.symm, rfl⟩
  go_enter Tryz.func29, Tryz.ntmps29
  go_wp2_with fail
  refine (CW.out _ _ _ _).mono ?_
  rintro e w1 ⟨rfl, rfl⟩
  go_wp2
  go_ret
  exact ⟨rfl, rfl⟩

set_option maxHeartbeats 400000 in
theorem ends_any (B : Nat) (c : Cs) (v : Value) (w : World) (h : CsAt w B c v) : Calls Tryz.prog 36 #[.pointer (some ⟨B, 0, none⟩)] w fun e w' => e = .returned (.bool (endsP c)) ∧ w = w' := by
  have c1 := h.cell.2.1
  clear h
  by_cases h1 : c.st = 1
  · have hf := Lib.hid (show endsP c = true by unfold endsP; simp [h1])
    rw [h1] at c1
    go_enter Tryz.func36, Tryz.ntmps36
    go_wp2
    go_ret
    exact ⟨ret_bool hf.out.symm, rfl⟩
  · have b1 : (c.st == 1) = false := by simpa using h1
    by_cases h2 : c.st = 2
    · have hf := Lib.hid (show endsP c = true by unfold endsP; simp [h2])
      rw [h2] at c1
      go_enter Tryz.func36, Tryz.ntmps36
      go_wp2
      go_ret
      exact ⟨ret_bool hf.out.symm, rfl⟩
    · have b2 : (c.st == 2) = false := by simpa using h2
      have hf := Lib.hid (show endsP c = (c.st == 3) by unfold endsP; simp [b1, b2])
      generalize c.st = x at *
      go_enter Tryz.func36, Tryz.ntmps36
      go_wp2
      go_ret
      exact ⟨ret_bool hf.out.symm, rfl⟩

end Go.Proofs.YtbpoedopdnjffaaGreat

namespace Go.Proofs.YtbpoedopdnjffaaGreat
open Go.RowKit Go.Shelf Sp

theorem union_is (a b : Sps) (pa pb : Option Addr) (ca cb : Nat) (la : a.length ≤ 10000) (lb : b.length ≤ 10000) (va : validB a = true) (vb : validB b = true) (w : World) (hA : Cells w pa a) (hB : Cells w pb b) :
    Calls Tryz.prog 91 #[.slice pa a.length ca, .slice pb b.length cb] w fun e W' => ∃ v, e = .returned (.tuple #[v, .int .i64 0]) ∧ Owns W' w.heap.size v (un a b) ∧ Below w.heap.size w W' := by
  refine (union_ok a b pa pb ca cb la lb va vb w hA hB).mono ?_
  rintro e W ⟨v, l, rfl, h1, _, h3, h4⟩
  obtain rfl := IsSet.uniq (un_set va vb) h1
  exact ⟨v, rfl, h3, h4⟩
theorem cells_new1' (W : World) (x y : Int) (k : Nat) (hk : W.heap.size = k) : Cells (W.alloc (.cells #[.int .i64 x, .int .i64 y] 54)) (some ⟨k, 0, none⟩) [(x, y)] := by
  subst hk
  exact .inr ⟨_, 0, rfl, fun i hi => by
    match i, hi with
    | 0, _ => exact ⟨by simp, by simp⟩⟩
theorem cells_drew {W : World} {p : Option Addr} {l : Sps} (h : Cells W p l) : Cells W.drew p l := h
theorem cells_of {W : World} {base : Nat} {p : Option Addr} {n c : Nat} {l : Sps} (h : Owns W base (.slice p n c) l) : Cells W p l := by
  obtain ⟨q, d, e, hc⟩ := h.form
  injection e with e1 _ _
  subst e1
  exact hc

set_option maxHeartbeats 1000000 in
set_option maxRecDepth 100000 in
theorem held_any (B : Nat) (c : Cs) (d : Int) (w : World) (h : CaseAt w B c) (ok : c.HOk) :
    Calls Tryz.prog 53 #[.pointer (some ⟨B, 0, none⟩), .int .i64 d] w fun e w' => ∃ v, e = .returned v ∧ Owns w' 0 v (heldP c d) ∧ Below w.heap.size w w' := by
  obtain ⟨v, h1, h2⟩ := h
  obtain ⟨_, _, _, _, _, _, _, c7, c8, c9⟩ := h1.cell
  have HO := Lib.hid h2
  have Bl := h1.lt
  clear h1 h2
  cases hh : c.hold with
  | false =>
    have hf := Lib.hid (show heldP c d = c.held by unfold heldP; rw [hh]; simp)
    rw [hh] at c7
    clear c8
    go_enter Tryz.func53, Tryz.ntmps53
    go_wp2
    go_ret
    exact ⟨v, rfl, by rw [hf.out]; exact HO.out, Below.refl _ _⟩
  | true =>
    rw [hh] at c7
    by_cases hd : c.since < d
    · have hf := Lib.hid (show heldP c d = un c.held [(c.since, min d 65536)] by unfold heldP; rw [if_pos ⟨hh, hd⟩])
      have hok := ok.hold hh
      have HV := Lib.hid ok.vh
      have HL := Lib.hid (show c.held.length ≤ 10000 by
        have h1 := ok.len
        omega)
      have HS := Lib.hid (show validB [(c.since, min d 65536)] = true by unfold validB; rw [validFrom_cons]; dsimp only; exact ⟨by omega, by omega, by omega, rfl⟩)
      obtain ⟨p, cap, rfl, _⟩ := HO.out.form
      have HC := Lib.hid (cells_of HO.out)
      generalize c.since = s at *
      generalize c.held = l at *
      have hmm : (if 65536 < d then (65536 : Int) else d) = min d 65536 := by split <;> omega
      obtain ⟨mm, hmd⟩ : ∃ mm, mm = min d 65536 := ⟨_, rfl⟩
      rw [← hmd] at hmm HS hf
      clear hok ok hmd
      go_enter Tryz.func53, Tryz.ntmps53
      go_wp2_with fail
      go_region_held3 (fun w9 => w9.cell? ⟨B, 8, none⟩ = some (.int .i64 s) ∧ w9.cell? ⟨B, 9, none⟩ = some (.slice p l.length cap))
        (first | go_keep | (go_split_ands; refine ⟨?_, ?_⟩ <;> (rw [hb.cell (by simp; omega)]; assumption)))
        (first | (go_at_call 91; refine (union_is l [(s, mm)] p _ cap 1 HL.out (by simp) HV.out HS.out _ ?_ ?_).mono ?_
                  (exact cells_drew (HC.out.below ((Below.refl _ _).alloc (Nat.le_refl _) _)))
                  (exact cells_drew (cells_new1' _ _ _ _ rfl))
                  rintro e W1 ⟨u, rfl, ho, hb⟩))
      have hb2 := Lib.hid (show Below w.heap.size w W1 from (((Below.refl _ _).alloc (Nat.le_refl _) _).drew).trans (hb.mono (by simp)))
      have ho2 := Lib.hid ho.low
      clear hb ho
      go_wp2
      go_ret
      exact ⟨u, rfl, by rw [hf.out]; exact ho2.out, hb2.out⟩
    · have hf := Lib.hid (show heldP c d = c.held by unfold heldP; rw [if_neg (fun h => hd h.2)])
      go_enter Tryz.func53, Tryz.ntmps53
      go_wp2
      go_ret
      exact ⟨v, rfl, by rw [hf.out]; exact HO.out, Below.refl _ _⟩

set_option maxHeartbeats 1000000 in
theorem endHold_any (B : Nat) (c : Cs) (d : Int) (w : World) (h : CaseAt w B c) (ok : c.HOk) :
    Calls Tryz.prog 89 #[.pointer (some ⟨B, 0, none⟩), .int .i64 d] w fun e w' => e = .returned (.tuple #[]) ∧ CaseAt w' B (endHoldP c d) ∧ But B w w' := by
  have CH := Lib.hid (held_any B c d w h ok)
  have HC := Lib.hid h
  obtain ⟨v, h1, h2⟩ := h
  obtain ⟨_, _, _, _, _, _, _, c7, _, _⟩ := h1.cell
  cases hh : c.hold with
  | false =>
    have hf := Lib.hid (show endHoldP c d = c by unfold endHoldP; rw [hh]; simp)
    rw [hh] at c7
    clear h1 h2
    go_enter Tryz.func89, Tryz.ntmps89
    go_wp2
    refine bodyPost_ret (results_none rfl _ _ _) rfl ?_
    exact ⟨rfl, by rw [hf.out]; exact HC.out, But.refl _ _⟩
  | true =>
    have hf := Lib.hid (show endHoldP c d = { c with held := heldP c d, hold := false, since := 0 } by unfold endHoldP; rw [if_pos hh])
    rw [hh] at c7
    have H1 := Lib.hid h1
    clear h1 h2 HC
    go_enter Tryz.func89, Tryz.ntmps89
    go_wp2_with fail
    refine CH.out.mono ?_
    rintro e W1 ⟨u, rfl, ho, hb⟩
    have A1 := H1.out.later hb
    obtain ⟨pu, cu, rfl, _⟩ := ho.form
    have A2 := A1.set_.2.2.2.2.2.2 (heldP c d) (.slice pu (heldP c d).length cu)
    have O2 := ho.setBox A1 9 (.slice pu (heldP c d).length cu)
    have A3 := A2.set_.2.2.2.2.1 false
    have O3 := O2.setBox A2 7 (.bool false)
    have A4 := A3.set_.2.2.2.2.2.1 0
    have O4 := O3.setBox A3 8 (.int .i64 0)
    have hB := Lib.hid ((((But.of_below (g := B) hb).set_ 9 (.slice pu (heldP c d).length cu)).set_ 7 (.bool false)).set_ 8 (.int .i64 0))
    have HR := Lib.hid (show CaseAt _ B (endHoldP c d) from by rw [hf.out]; exact ⟨_, A4, O4⟩)
    obtain ⟨_, _, _, _, _, _, _, e7, e8, e9⟩ := A1.cell
    have f7 := A1.frozen 7
    have f8 := A1.frozen 8
    have f9 := A1.frozen 9
    clear A1 A2 A3 A4 O2 O3 O4 ho hb CH H1
    go_wp2
    go_end0
    exact ⟨rfl, HR.out, hB.out⟩

set_option maxHeartbeats 1000000 in
theorem uphold_any (B : Nat) (c : Cs) (d : Int) (w : World) (h : CaseAt w B c) (ok : c.Ok) (hd : 0 ≤ d ∧ d ≤ 65901) :
    Calls Tryz.prog 80 #[.pointer (some ⟨B, 0, none⟩), .int .i64 d] w fun e w' => e = .returned (.tuple #[]) ∧ CaseAt w' B (upholdP c d) ∧ But B w w' := by
  have CE := Lib.hid (endHold_any B c d w h ok.h)
  have hlev := ok.lev
  have hday := ok.days
  obtain ⟨e1, e2, _⟩ := endHoldP_level c d
  have E1 := Lib.hid e1
  have E2 := Lib.hid e2
  clear h ok e1 e2
  go_enter Tryz.func80, Tryz.ntmps80
  go_wp2_with fail
  refine CE.out.mono ?_
  rintro e W1 ⟨rfl, ⟨v, A1, O1⟩, hb⟩
  obtain ⟨_, g1, _, g3, _, g5, g6, _, _, _⟩ := A1.cell
  rw [E2.out] at g3
  rw [E1.out] at g5
  have f1 := A1.frozen 1
  have f6 := A1.frozen 6
  by_cases hl : 3 ≤ c.level
  · have A2 := A1.set_.1 4
    have O2 := O1.setBox A1 1 (.int .u8 4)
    have A3 := A2.set_.2.2.2.1 d
    have O3 := O2.setBox A2 6 (.int .i64 d)
    have HR := Lib.hid (show CaseAt _ B (upholdP c d) from by unfold upholdP; dsimp only; rw [if_pos (by rw [E1.out]; exact hl)]; exact ⟨_, A3, O3⟩)
    have hB := Lib.hid ((hb.set_ 1 (.int .u8 4)).set_ 6 (.int .i64 d))
    clear A1 A2 A3 O1 O2 O3 hb CE
    go_wp2
    refine bodyPost_ret (results_none rfl _ _ _) rfl ?_
    exact ⟨rfl, HR.out, hB.out⟩
  · have A2 := A1.set_.1 2
    have O2 := O1.setBox A1 1 (.int .u8 2)
    have A3 := A2.set_.2.2.2.1 (d + c.days)
    have O3 := O2.setBox A2 6 (.int .i64 (d + c.days))
    have HR := Lib.hid (show CaseAt _ B (upholdP c d) from by
      have e : upholdP c d = { endHoldP c d with st := 2, due := d + c.days } := by unfold upholdP; dsimp only; rw [if_neg (by rw [E1.out]; exact hl), E2.out]
      rw [e]
      exact ⟨_, A3, O3⟩)
    have hB := Lib.hid ((hb.set_ 1 (.int .u8 2)).set_ 6 (.int .i64 (d + c.days)))
    clear A1 A2 A3 O1 O2 O3 hb CE
    go_wp2
    go_end0
    exact ⟨rfl, HR.out, hB.out⟩

set_option maxHeartbeats 1000000 in
theorem next_any (B : Nat) (c : Cs) (w : World) (h : CaseAt w B c) (ok : c.Ok) :
    Calls Tryz.prog 37 #[.pointer (some ⟨B, 0, none⟩)] w fun e w' => e = .returned (.tuple #[]) ∧ CaseAt w' B (nextP c) ∧ But B w w' := by
  have hdue := ok.due
  by_cases h3 : c.st = 3
  · have := ok.due3 h3
    have CU := Lib.hid (uphold_any B c (c.due + 1) w h ok (by omega))
    have hf := Lib.hid (show nextP c = upholdP c (c.due + 1) by unfold nextP; rw [if_pos h3])
    obtain ⟨v, h1, h2⟩ := h
    obtain ⟨_, g1, _, _, _, _, g6, _, _, _⟩ := h1.cell
    rw [h3] at g1
    clear h1 h2 ok
    go_enter Tryz.func37, Tryz.ntmps37
    go_wp2_with fail
    refine CU.out.mono ?_
    rintro e W1 ⟨rfl, h4, h5⟩
    go_wp2
    refine bodyPost_ret (results_none rfl _ _ _) rfl ?_
    exact ⟨rfl, by rw [hf.out]; exact h4, h5⟩
  · have hf := Lib.hid (show nextP c = { c with st := 4, due := c.due + 1 } by unfold nextP; rw [if_neg h3])
    have b3 : (c.st == 3) = false := by simpa using h3
    obtain ⟨v, A1, O1⟩ := h
    obtain ⟨_, g1, _, _, _, _, g6, _, _, _⟩ := A1.cell
    have f1 := A1.frozen 1
    have f6 := A1.frozen 6
    have A2 := A1.set_.1 4
    have O2 := O1.setBox A1 1 (.int .u8 4)
    have A3 := A2.set_.2.2.2.1 (c.due + 1)
    have O3 := O2.setBox A2 6 (.int .i64 (c.due + 1))
    have HR := Lib.hid (show CaseAt _ B (nextP c) from by rw [hf.out]; exact ⟨_, A3, O3⟩)
    have hB := Lib.hid (((But.refl B w).set_ 1 (.int .u8 4)).set_ 6 (.int .i64 (c.due + 1)))
    clear A1 A2 A3 O1 O2 O3 ok
    go_enter Tryz.func37, Tryz.ntmps37
    go_wp2
    go_end0
    exact ⟨rfl, HR.out, hB.out⟩

/-- The rank of the state that lies in a cell. -/
def rankAt (W : World) (B : Nat) : Nat := match W.cell? ⟨B, 1, none⟩ with | some (.int _ x) => rankP x | _ => 0
theorem rankAt_of {W : World} {B : Nat} {c : Cs} (h : CaseAt W B c) : rankAt W B = rankP c.st := by
  obtain ⟨v, h1, _⟩ := h
  unfold rankAt
  rw [h1.cell.2.1]

set_option maxHeartbeats 1000000 in
theorem pass_any (B : Nat) (c : Cs) (d : Int) (w : World) (h : CaseAt w B c) (ok : c.Ok) :
    Calls Tryz.prog 52 #[.pointer (some ⟨B, 0, none⟩), .int .i64 d] w fun e w' => e = .returned (.tuple #[]) ∧ CaseAt w' B (passP c d) ∧ But B w w' := by
  have H0 := Lib.hid h
  have K0 := Lib.hid ok
  clear h ok
  go_enter Tryz.func52, Tryz.ntmps52
  go_wp2
  go_loopw [5] (fun _ wr => ∃ c' : Cs, Hid (CaseAt wr B c' ∧ c'.Ok ∧ passP c' d = passP c d ∧ But B w wr)) (fun _ wr => rankAt wr B)
  case atStart => exact ⟨c, Lib.hid ⟨H0.out, K0.out, rfl, But.refl _ _⟩⟩
  case round =>
    obtain ⟨c', hI⟩ := hrel
    obtain ⟨v, A1, _⟩ := hI.out.1
    have CE := Lib.hid (ends_any B c' v wr A1)
    obtain ⟨_, _, _, _, _, _, g6, _, _, _⟩ := A1.cell
    clear A1
    by_cases he : endsP c' = true
    · rw [he] at CE
      by_cases hlt : c'.due < d
      · have hg := Lib.hid ((goP_iff c' d).2 ⟨he, hlt⟩)
        have CN := Lib.hid (next_any B c' wr hI.out.1 hI.out.2.1)
        have hrk := Lib.hid (rankP_next hI.out.2.1 he)
        have hR0 := Lib.hid (rankAt_of hI.out.1)
        go_wp2_with fail
        refine CE.out.mono ?_
        rintro e w1 ⟨rfl, rfl⟩
        go_wp2_with fail
        refine CN.out.mono ?_
        rintro e W1 ⟨rfl, h4, h5⟩
        have J := Lib.hid (show CaseAt W1 B (nextP c') ∧ (nextP c').Ok ∧ passP (nextP c') d = passP c d ∧ But B w W1 from ⟨h4, (nextP_ok hI.out.2.1 he).1, (passP_next hI.out.2.1 hg.out).trans hI.out.2.2.1, hI.out.2.2.2.trans h5⟩)
        have hR1 := Lib.hid (rankAt_of h4)
        clear h4 h5 hI CE CN
        go_wp2
        go_roundw
        case rel => exact ⟨_, J⟩
        case measure => rw [hR0.out, hR1.out]; exact hrk.out
      · have hs := Lib.hid (show passP c' d = c' from passP_stop (fun h => hlt ((goP_iff c' d).1 h).2))
        go_wp2_with fail
        refine CE.out.mono ?_
        rintro e w1 ⟨rfl, rfl⟩
        go_wp2
        go_end0
        exact ⟨rfl, by rw [← hI.out.2.2.1, hs.out]; exact hI.out.1, hI.out.2.2.2⟩
    · have hs := Lib.hid (show passP c' d = c' from passP_stop (fun h => he ((goP_iff c' d).1 h).1))
      have he' : endsP c' = false := by simpa using he
      rw [he'] at CE
      go_wp2_with fail
      refine CE.out.mono ?_
      rintro e w1 ⟨rfl, rfl⟩
      go_wp2
      go_end0
      exact ⟨rfl, by rw [← hI.out.2.2.1, hs.out]; exact hI.out.1, hI.out.2.2.2⟩

end Go.Proofs.YtbpoedopdnjffaaGreat

namespace Go.Proofs.YtbpoedopdnjffaaGreat
open Go.RowKit Go.Shelf Sp

/-- All but block B and blocks of cases that lie at base or beyond stays. -/
structure DFr (base B : Nat) (w w' : World) : Prop where
  os : w'.os = w.os
  tape : w'.tape = w.tape
  output : w'.output = w.output
  size : w.heap.size ≤ w'.heap.size
  block : ∀ k, k < w.heap.size → k ≠ B → (k < base ∨ ∀ cs z, w.heap[k]? ≠ some (.cells cs 52 z)) → w'.heap[k]? = w.heap[k]?
theorem DFr.refl (base B : Nat) (w : World) : DFr base B w w := ⟨rfl, rfl, rfl, Nat.le_refl _, fun _ _ _ _ => rfl⟩
theorem DFr.trans {base B : Nat} {w w1 w2 : World} (h : DFr base B w w1) (h2 : DFr base B w1 w2) : DFr base B w w2 :=
  ⟨h2.os.trans h.os, h2.tape.trans h.tape, h2.output.trans h.output, Nat.le_trans h.size h2.size, fun k hk hne hc => by
    have e := h.block k hk hne hc
    refine (h2.block k (Nat.lt_of_lt_of_le hk h.size) hne ?_).trans e
    rcases hc with hc | hc
    · exact .inl hc
    · exact .inr fun cs z => by rw [e]; exact hc cs z⟩
theorem DFr.of_below {base B : Nat} {w w' : World} (h : Below w.heap.size w w') : DFr base B w w' := ⟨h.os, h.tape, h.output, h.size, fun k hk _ _ => h.block k hk⟩
theorem DFr.below {base B : Nat} {w w' w2 : World} (h : DFr base B w w') (hb : Below w'.heap.size w' w2) : DFr base B w w2 := h.trans (.of_below hb)
theorem DFr.of_but {base B g : Nat} {w w' : World} (h : But g w w') (hg : w.heap.size ≤ g) : DFr base B w w' := ⟨h.os, h.tape, h.output, h.size, fun k hk _ _ => h.block k hk (by omega)⟩
/-- From the world in which block B was made: a frame below it. -/
theorem DFr.belowOf {base B : Nat} {w0 w w' : World} (h : DFr base B w w') (hb : Below base w0 w) (hs : base ≤ w.heap.size) (hB : base ≤ B) : Below base w0 w' :=
  ⟨h.os.trans hb.os, h.tape.trans hb.tape, h.output.trans hb.output, Nat.le_trans hb.size h.size, fun k hk => (h.block k (by omega) (by omega) (.inl hk)).trans (hb.block k hk)⟩
theorem Below.dfr {base B : Nat} {w w' : World} (h : Below base w w') (hs : ∀ k, base ≤ k → k < w.heap.size → k ≠ B → ∃ cs z, w.heap[k]? = some (.cells cs 52 z)) : DFr base B w w' :=
  ⟨h.os, h.tape, h.output, h.size, fun k hk hne hc => by
    rcases hc with hc | hc
    · exact h.block k hc
    · by_cases hl : k < base
      · exact h.block k hl
      · obtain ⟨cs, z, e⟩ := hs k (by omega) hk hne
        exact absurd e (hc cs z)⟩

/-- A block that is not one of cases stays. -/
theorem DFr.other {base B : Nat} {w w' : World} (h : DFr base B w w') {k : Nat} {o : Obj} (ho : w.heap[k]? = some o) (hne : k ≠ B) (ht : ∀ cs z, o ≠ .cells cs 52 z) : w'.heap[k]? = some o := by
  rw [h.block k (Array.getElem?_eq_some_iff.1 ho).1 hne (.inr fun cs z e => ht cs z (by rw [ho] at e; exact Option.some.inj e))]; exact ho

/-- Held days lie in blocks of spans. -/
theorem Owns.dfr {base B : Nat} {w w' : World} (h : DFr base B w w') {b0 : Nat} {v : Value} {l : Sps} (ho : Owns w b0 v l) (hB : ∀ cs z, w.heap[B]? ≠ some (.cells cs 54 z)) : Owns w' b0 v l := by
  refine ⟨ho.1, ?_⟩
  rcases ho.2 with h1 | ⟨g, cap, cur, e, hb, hg, rest⟩
  · exact .inl h1
  · refine .inr ⟨g, cap, cur, e, hb, h.other hg (fun e' => hB cur (0, 0) (by rw [← e']; exact hg)) (fun cs z e' => ?_), rest⟩
    injection e' with _ e2 _
    exact absurd e2 (by decide)

def cflat (ps : List (Cs × Value)) : List Value := ps.flatMap fun p => csRow p.1 p.2
theorem cflat_cons (p : Cs × Value) (ps : List (Cs × Value)) : cflat (p :: ps) = csRow p.1 p.2 ++ cflat ps := rfl
theorem cflat_append (a b : List (Cs × Value)) : cflat (a ++ b) = cflat a ++ cflat b := by unfold cflat; rw [List.flatMap_append]
theorem cflat_length (ps : List (Cs × Value)) : (cflat ps).length = ps.length * 10 := by
  induction ps with
  | nil => rfl
  | cons p ps ih => rw [cflat_cons, List.length_append, ih]; simp [csRow]; omega
theorem csRow_length (c : Cs) (v : Value) : (csRow c v).length = 10 := rfl
theorem cflat_get (ps : List (Cs × Value)) : ∀ i j : Nat, (h : i < ps.length) → j < 10 → (cflat ps)[i * 10 + j]? = (csRow ps[i].1 ps[i].2)[j]? := by
  induction ps with
  | nil => intro i j h; simp at h
  | cons p ps ih =>
    intro i j h hj
    rw [cflat_cons]
    cases i with
    | zero => rw [Nat.zero_mul, Nat.zero_add, List.getElem?_append_left (by rw [csRow_length]; exact hj)]; rfl
    | succ i =>
      have := ih i j (by simpa using h) hj
      rw [show (i + 1) * 10 + j = i * 10 + j + 10 by omega, List.getElem?_append_right (by rw [csRow_length]; omega), csRow_length, Nat.add_sub_cancel]
      exact this

/-- The slice v is the cases ps, each with the slice of its held days, in memory at base or beyond. -/
def CRow (W : World) (base : Nat) (v : Value) (ps : List (Cs × Value)) : Prop :=
  W.ownsRow base 52 10 v ps.length (cflat ps) ∧ ∀ p ∈ ps, Owns W 0 p.2 p.1.held
theorem CRow.nil (W : World) (base : Nat) : CRow W base (.slice none 0 0) [] := ⟨World.ownsRow_nil _ _ _ _, by simp⟩
/-- Ten cells of a case. -/
def CaseCells (W : World) (b i : Nat) (c : Cs) (v : Value) : Prop :=
  W.cell? ⟨b, i, none⟩ = some (.bool c.el) ∧ W.cell? ⟨b, i + 1, none⟩ = some (.int .u8 c.st) ∧ W.cell? ⟨b, i + 2, none⟩ = some (.int .i64 c.opened) ∧ W.cell? ⟨b, i + 3, none⟩ = some (.int .i64 c.days) ∧ W.cell? ⟨b, i + 4, none⟩ = some (.int .i64 c.choice) ∧
    W.cell? ⟨b, i + 5, none⟩ = some (.int .i64 c.level) ∧ W.cell? ⟨b, i + 6, none⟩ = some (.int .i64 c.due) ∧ W.cell? ⟨b, i + 7, none⟩ = some (.bool c.hold) ∧ W.cell? ⟨b, i + 8, none⟩ = some (.int .i64 c.since) ∧ W.cell? ⟨b, i + 9, none⟩ = some v
theorem CaseCells.lt {W : World} {b i : Nat} {c : Cs} {v : Value} (h : CaseCells W b i c v) : b < W.heap.size := World.block_lt_of_cell? W _ h.1
theorem CaseCells.of_block {W W' : World} {b i : Nat} {c : Cs} {v : Value} (h : CaseCells W b i c v) (e : W'.heap[b]? = W.heap[b]?) : CaseCells W' b i c v := by
  unfold CaseCells World.cell? at *
  simpa only [e] using h
theorem CaseCells.below {W W' : World} {b i : Nat} {c : Cs} {v : Value} (h : CaseCells W b i c v) (hb : Below W.heap.size W W') : CaseCells W' b i c v := h.of_block (hb.block b h.lt)

theorem CRow.form {W : World} {base : Nat} {v : Value} {ps : List (Cs × Value)} (h : CRow W base v ps) :
    ∃ p cap, v = .slice p ps.length cap ∧ (ps ≠ [] → ∃ g, p = some ⟨g, 0, none⟩ ∧ base ≤ g ∧ v.ownBlock = some g ∧ (∃ cur, W.heap[g]? = some (.cells cur 52 (0, 0))) ∧ ∀ i, (hi : i < ps.length) → CaseCells W g (i * 10) ps[i].1 ps[i].2 ∧ ∀ j, W.frozen? ⟨g, j, none⟩ = false) := by
  rcases h.1.2 with ⟨rfl, h0⟩ | ⟨g, cap, cur, rfl, hb, hg, hn, hm, hs, ht⟩
  · have : ps = [] := List.eq_nil_of_length_eq_zero h0
    subst this
    exact ⟨none, 0, rfl, fun h => absurd rfl h⟩
  · refine ⟨_, _, rfl, fun _ => ⟨g, rfl, hb, rfl, ⟨cur, hg⟩, fun i hi => ⟨?_, fun j => by simp [World.frozen?, hg]⟩⟩⟩
    have key : ∀ j, j < 10 → W.cell? ⟨g, i * 10 + j, none⟩ = (csRow ps[i].1 ps[i].2)[j]? := fun j hj => by
      have e1 := cflat_get ps i j hi hj
      rw [← ht, List.getElem?_take, if_pos (by omega), Array.getElem?_toList] at e1
      rw [← e1]
      have hlt : i * 10 + j < cur.size := by rw [hs]; omega
      simp [World.cell?, hg]
    exact ⟨key 0 (by omega), key 1 (by omega), key 2 (by omega), key 3 (by omega), key 4 (by omega), key 5 (by omega), key 6 (by omega), key 7 (by omega), key 8 (by omega), key 9 (by omega)⟩

/-- A docket in a box: block B. -/
def DkAt (W : World) (base B : Nat) (L : List Cs) (last : Int) : Prop :=
  ∃ v ps, ps.map Prod.fst = L ∧ W.heap[B]? = some (.cells #[v, .int .i64 last] 60 (0, 0)) ∧ CRow W base v ps

theorem DkAt.lt {W : World} {base B : Nat} {L : List Cs} {last : Int} (h : DkAt W base B L last) : B < W.heap.size := by
  obtain ⟨v, ps, _, hB, _⟩ := h; exact (Array.getElem?_eq_some_iff.1 hB).1
theorem CRow.of_but {W W' : World} {base B : Nat} {v : Value} {ps : List (Cs × Value)} (h : CRow W base v ps) (hf : But B W W') (hB : (∀ cs z, W.heap[B]? ≠ some (.cells cs 52 z)) ∧ ∀ cs z, W.heap[B]? ≠ some (.cells cs 54 z)) : CRow W' base v ps := by
  refine ⟨⟨h.1.1, ?_⟩, fun p hp => ⟨(h.2 p hp).1, ?_⟩⟩
  · rcases h.1.2 with h1 | ⟨g, cap, cur, e, hb, hg, rest⟩
    · exact .inl h1
    · exact .inr ⟨g, cap, cur, e, hb, (hf.block g (Array.getElem?_eq_some_iff.1 hg).1 (fun e' => hB.1 cur (0, 0) (by rw [← e']; exact hg))).trans hg, rest⟩
  · rcases (h.2 p hp).2 with h1 | ⟨g, cap, cur, e, hb, hg, rest⟩
    · exact .inl h1
    · exact .inr ⟨g, cap, cur, e, hb, (hf.block g (Array.getElem?_eq_some_iff.1 hg).1 (fun e' => hB.2 cur (0, 0) (by rw [← e']; exact hg))).trans hg, rest⟩
theorem CRow.later {W W' : World} {base : Nat} {v : Value} {ps : List (Cs × Value)} (h : CRow W base v ps) (hb : Below W.heap.size W W') : CRow W' base v ps := by
  refine ⟨World.ownsRow.kept h.1 (row := none) ⟨hb.os, hb.tape, hb.output, hb.size, fun k hk _ => hb.block k hk⟩ (by cases v.ownBlock <;> simp), fun p hp => (h.2 p hp).later hb⟩
theorem DkAt.later {W W' : World} {base B : Nat} {L : List Cs} {last : Int} (h : DkAt W base B L last) (hb : Below W.heap.size W W') : DkAt W' base B L last := by
  have hl := h.lt
  obtain ⟨v, ps, e, hB, hc⟩ := h
  exact ⟨v, ps, e, (hb.block B hl).trans hB, hc.later hb⟩

/-- Filings in memory. -/
def FCells (w : World) (p : Option Addr) (l : List Fl) : Prop :=
  l = [] ∨ ∃ b off, p = some ⟨b, off, none⟩ ∧ ∀ i : Nat, (h : i < l.length) →
    w.cell? ⟨b, off + i * 6, none⟩ = some (.int .u8 l[i].kind) ∧ w.cell? ⟨b, off + i * 6 + 1, none⟩ = some (.int .i64 l[i].day) ∧ w.cell? ⟨b, off + i * 6 + 2, none⟩ = some (.int .i64 l[i].case) ∧
    w.cell? ⟨b, off + i * 6 + 3, none⟩ = some (.int .i64 l[i].n) ∧ w.cell? ⟨b, off + i * 6 + 4, none⟩ = some (.int .i64 l[i].til) ∧ w.cell? ⟨b, off + i * 6 + 5, none⟩ = some (.bool l[i].hold)
theorem FCells.below {w w' : World} {p : Option Addr} {l : List Fl} (h : FCells w p l) (hb : Below w.heap.size w w') : FCells w' p l := by
  rcases h with h | ⟨b, off, hv, hc⟩
  · exact .inl h
  · refine .inr ⟨b, off, hv, fun i hi => ?_⟩
    have h1 := hc i hi
    have e := hb.block b (World.block_lt_of_cell? w _ h1.1)
    simp only [World.cell?] at h1 ⊢
    simpa only [e] using h1
/-- A filing's block. -/
def FlBox (W : World) (F : Nat) (f : Fl) : Prop := W.heap[F]? = some (.cells #[.int .u8 f.kind, .int .i64 f.day, .int .i64 f.case, .int .i64 f.n, .int .i64 f.til, .bool f.hold] 26 (0, 0))
theorem FlBox.cell {W : World} {F : Nat} {f : Fl} (h : FlBox W F f) : W.cell? ⟨F, 0, none⟩ = some (.int .u8 f.kind) ∧ W.cell? ⟨F, 1, none⟩ = some (.int .i64 f.day) ∧ W.cell? ⟨F, 2, none⟩ = some (.int .i64 f.case) ∧ W.cell? ⟨F, 3, none⟩ = some (.int .i64 f.n) ∧ W.cell? ⟨F, 4, none⟩ = some (.int .i64 f.til) ∧ W.cell? ⟨F, 5, none⟩ = some (.bool f.hold) := by
  unfold FlBox at h
  simp only [World.cell?, h]
  exact ⟨rfl, rfl, rfl, rfl, rfl, rfl⟩
theorem FlBox.lt {W : World} {F : Nat} {f : Fl} (h : FlBox W F f) : F < W.heap.size := (Array.getElem?_eq_some_iff.1 h).1
theorem FlBox.of_block {W W' : World} {F : Nat} {f : Fl} (h : FlBox W F f) (e : W'.heap[F]? = W.heap[F]?) : FlBox W' F f := e.trans h
def flAgg (f : Fl) : Value := .agg #[.int .u8 f.kind, .int .i64 f.day, .int .i64 f.case, .int .i64 f.n, .int .i64 f.til, .bool f.hold]

end Go.Proofs.YtbpoedopdnjffaaGreat

namespace Go.Proofs.YtbpoedopdnjffaaGreat
open Go.RowKit Go.Shelf Sp

set_option maxHeartbeats 400000 in
theorem find1_any (l : Sps) (k : Nat) (d : Int) (A B : Nat) (p : Option Addr) (cap : Nat) (w : World) (hk : k < l.length) (hc : Cells w p l)
    (hA : w.cell? ⟨A, 0, none⟩ = some (.slice p l.length cap)) (hB : w.cell? ⟨B, 0, none⟩ = some (.int .i64 d)) :
    Calls Tryz.prog 127 #[.int .i64 k, .pointer (some ⟨A, 0, none⟩), .pointer (some ⟨B, 0, none⟩)] w fun e w' => e = .returned (.bool (decide (d < l[k].2))) ∧ ∃ m, w' = w.drewN m := by
  obtain ⟨b, off, rfl, hlt', x, y, hxy, h1, h2⟩ := hc.at k hk
  have hf := Lib.hid (show l[k].2 = y by rw [hxy])
  clear hxy hc
  go_enter Tryz.func127, Tryz.ntmps127
  go_wp2_with fail
  go_quiet (fail)
  go_wp2
  go_ret
  exact ⟨ret_bool (by rw [hf.out]), nq, rfl⟩

set_option maxHeartbeats 1000000 in
theorem search_any (l : Sps) (d : Int) (A B : Nat) (p : Option Addr) (cap : Nat) (w : World) (hl : l.length ≤ 100000) (hv : validB l = true) (hc : Cells w p l)
    (hA : w.cell? ⟨A, 0, none⟩ = some (.slice p l.length cap)) (hB : w.cell? ⟨B, 0, none⟩ = some (.int .i64 d)) :
    Calls Tryz.prog 126 #[.int .i64 l.length, .func (.func 127) #[] #[.pointer (some ⟨A, 0, none⟩), .pointer (some ⟨B, 0, none⟩)]] w fun e w' => (∃ k : Nat, e = .returned (.int .i64 k) ∧ Fnd l d k) ∧ ∃ m, w' = w.drewN m := by
  have F1 := Lib.hid (fun (k m : Nat) hk => find1_any l k d A B p cap (w.drewN m) hk hc hA hB)
  have HV := Lib.hid hv
  clear hc hA hB hv
  go_enter Tryz.func126, Tryz.ntmps126
  go_wp2
  go_loopw [5, 6] (fun i j wr => ∃ (k lo hi : Nat), lo ≤ hi ∧ hi ≤ l.length ∧ i = .int .i64 lo ∧ j = .int .i64 hi ∧ Hid ((∀ i, (h : i < l.length) → i < lo → l[i].2 ≤ d) ∧ (∀ i, (h : i < l.length) → hi ≤ i → d < l[i].2)) ∧ wr = w.drewN k) (fun i j _ => (intOf j).toNat - (intOf i).toNat)
  case atStart => exact ⟨0, 0, l.length, by omega, by omega, rfl, rfl, Lib.hid ⟨fun i h h' => by omega, fun i h h' => by omega⟩, rfl⟩
  case round =>
    obtain ⟨k, lo, hi, hlh, hh, rfl, rfl, hs, rfl⟩ := hrel
    by_cases hlt : lo < hi
    · have Hm := Lib.hid (show ((lo : Int) + hi) / 2 = ((lo + hi) / 2 : Nat) by omega)
      have hml : (lo + hi) / 2 < l.length := by omega
      have F2 := Lib.hid (F1.out ((lo + hi) / 2) k hml)
      by_cases hd : d < (l[(lo + hi) / 2]).2
      · rw [decide_eq_true hd] at F2
        have hs' := Lib.hid (show (∀ i, (h : i < l.length) → i < lo → l[i].2 ≤ d) ∧ (∀ i, (h : i < l.length) → (lo + hi) / 2 ≤ i → d < l[i].2) from ⟨hs.out.1, fun i h h' => by
          rcases Nat.eq_or_lt_of_le h' with e | c
          · subst e; exact hd
          · have h5 := valid_mono HV.out c h
            have := valid_get HV.out h
            omega⟩)
        clear hd
        go_wp2_with fail
        rw [Hm.out]
        refine F2.out.mono ?_
        rintro e w' ⟨rfl, k', rfl⟩
        rw [World.drewN_drewN]
        go_wp2
        go_roundw
        case rel => exact ⟨k + k', lo, (lo + hi) / 2, by omega, by omega, rfl, by go_num, hs', rfl⟩
        case measure => simp [intOf]; omega
      · rw [decide_eq_false hd] at F2
        have hs' := Lib.hid (show (∀ i, (h : i < l.length) → i < (lo + hi) / 2 + 1 → l[i].2 ≤ d) ∧ (∀ i, (h : i < l.length) → hi ≤ i → d < l[i].2) from ⟨fun i h h' => by
          rcases Nat.eq_or_lt_of_le (Nat.le_of_lt_succ h') with e | c
          · subst e; omega
          · have h5 := valid_mono HV.out c hml
            have := valid_get HV.out hml
            omega, hs.out.2⟩)
        clear hd
        go_wp2_with fail
        rw [Hm.out]
        refine F2.out.mono ?_
        rintro e w' ⟨rfl, k', rfl⟩
        rw [World.drewN_drewN]
        go_wp2
        go_roundw
        case rel => exact ⟨k + k', (lo + hi) / 2 + 1, hi, by omega, by omega, by go_num, rfl, hs', rfl⟩
        case measure => simp [intOf]; omega
    · go_wp2_with fail
      go_ret
      obtain rfl : lo = hi := by omega
      exact ⟨⟨lo, rfl, hh, hs.out.1, hs.out.2⟩, k, rfl⟩

set_option maxHeartbeats 1000000 in
theorem find_any (l : Sps) (d : Int) (p : Option Addr) (cap : Nat) (w : World) (hl : l.length ≤ 100000) (hv : validB l = true) (hc : Cells w p l) :
    Calls Tryz.prog 82 #[.slice p l.length cap, .int .i64 d] w fun e w' => (∃ k : Nat, e = .returned (.int .i64 k) ∧ Fnd l d k) ∧ Below w.heap.size w w' := by
  have HV := Lib.hid hv; clear hv
  have HC := Lib.hid (fun W' (h : Below w.heap.size w W') => hc.below h); clear hc
  go_enter Tryz.func82, Tryz.ntmps82
  go_wp2_with fail
  have B0 : Below w.heap.size w ((w.alloc (.cells #[.slice p l.length cap] 50)).alloc (.cells #[.int .i64 d] 3)) := ((Below.refl _ w).alloc (Nat.le_refl _) _).alloc (by simp) _
  refine (search_any l d _ _ p cap _ hl HV.out (HC.out _ B0) (by simp) (by simp)).mono ?_
  rintro e w' ⟨⟨k, rfl, hk⟩, m, rfl⟩
  go_wp2
  go_ret
  exact ⟨⟨k, rfl, hk⟩, below_drewN B0 _⟩

set_option maxHeartbeats 1000000 in
theorem has_bad (l : Sps) (d : Int) (p : Option Addr) (cap : Nat) (w : World) (hl : l.length ≤ 100000) (hv : validB l = false) (hc : Cells w p l) :
    Calls Tryz.prog 38 #[.slice p l.length cap, .int .i64 d] w fun e w' => e = .returned (.bool false) ∧ Below w.heap.size w w' := by
  have CV := Lib.hid (valid_is l false p cap w hv hl hc)
  clear hv hc
  go_enter Tryz.func38, Tryz.ntmps38
  go_wp2_with (first | (go_at_call 81; refine CV.out.mono ?_; rintro e w1 ⟨rfl, hb1⟩))
  go_ret
  exact ⟨rfl, hb1⟩

set_option maxHeartbeats 1000000 in
theorem has_ok (l : Sps) (d : Int) (p : Option Addr) (cap : Nat) (w : World) (hl : l.length ≤ 100000) (hv : validB l = true) (hc : Cells w p l) :
    Calls Tryz.prog 38 #[.slice p l.length cap, .int .i64 d] w fun e w' => e = .returned (.bool (mem l d)) ∧ Below w.heap.size w w' := by
  have CV := Lib.hid (valid_is l true p cap w hv hl hc)
  have HV := Lib.hid hv; clear hv
  have HC := Lib.hid (fun W' (h : Below w.heap.size w W') => hc.below h); clear hc
  go_enter Tryz.func38, Tryz.ntmps38
  go_wp2_with (first | (go_at_call 81; refine CV.out.mono ?_; rintro e w1 ⟨rfl, hb1⟩))
  refine (find_any l d p cap _ hl HV.out (HC.out _ hb1)).mono ?_
  rintro e w2 ⟨⟨k, rfl, hk⟩, hb2⟩
  have B2 := below_next hb1 hb2
  have hm := Lib.hid (hk.mem HV.out)
  have hkl := hk.le
  clear hb1 hb2 hk
  by_cases hlt : k < l.length
  · obtain ⟨b, off, rfl, hlt', x, y, hxy, h1, h2⟩ := (HC.out _ B2).at k hlt
    by_cases hx : x ≤ d
    · have hf := Lib.hid (show mem l d = true from hm.out.2 ⟨hlt, by rw [hxy]; exact hx⟩)
      clear hxy h2
      go_wp2
      go_ret
      exact ⟨ret_bool hf.out.symm, B2⟩
    · have hf := Lib.hid (show mem l d = false by rw [← Bool.not_eq_true, hm.out]; rintro ⟨_, h⟩; rw [hxy] at h; exact hx h)
      clear hxy h2
      go_wp2
      go_ret
      exact ⟨ret_bool (by rw [hf.out]; simpa using hx), B2⟩
  · have hf := Lib.hid (show mem l d = false by rw [← Bool.not_eq_true, hm.out]; rintro ⟨h, _⟩; exact hlt h)
    go_wp2
    go_ret
    exact ⟨ret_bool hf.out.symm, B2⟩

end Go.Proofs.YtbpoedopdnjffaaGreat
