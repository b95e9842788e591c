/- The walk of Lex. -/
import Derived.Test.YthleaigkndfdaaaDoorLxW9
namespace Go.Proofs.YthleaigkndfdaaaDoor
open Go.RowKit Go.Shelf

attribute [local go_sem] Oper.semAt_some

theorem info_token : (Tryd.prog.info? 27).map (fun i => (i.zero, i.size, i.bytes)) = some (some (.agg #[.int .u8 0, .string { data := #[] }, .int .i64 0, .int .i64 0]), 4, 40) := by kernel_rfl

theorem cells_new (w : World) (cs : List Value) (t : TypeId) (k : Nat) (hk : w.heap.size = k) : ∀ j u, cs[j]? = some u → (w.alloc (.cells cs.toArray t)).cell? ((⟨k, 0, none⟩ : Addr).add j) = some u := by
  subst hk
  intro j u hj
  have h := (Blk.new w t cs.toArray).cell j
  rw [List.getElem?_toArray, hj] at h
  rw [show (⟨w.heap.size, 0, none⟩ : Addr).add j = ⟨w.heap.size, j, none⟩ by cases j <;> simp [Addr.add]]
  exact h

theorem tokens_in (n : Nat) (s : ByteArray) (w : World) :
    CallsIn Fence.wide n Tryd.prog 30 #[.string s] w fun e w' => e = .returned (.func (.func 40) #[] #[.pointer (some ⟨w.heap.size, 0, none⟩)]) ∧ w' = w.alloc (.cells #[.string s] 9) := by
  refine callsIn_of_wp Tryd.func30 rfl trivial ?_ rfl
  simp only [Tryd.ntmps30, List.size_toArray, List.length_cons, List.length_nil, Nat.reduceAdd, Nat.reduceSub, Array.replicate_succ, Array.replicate_zero, List.push_toArray, List.append_toArray, List.nil_append, List.cons_append]
  gi_wp2
  go_ret
  exact ⟨rfl, rfl⟩

def lexE (s : ByteArray) : Nat := match Lx.erOf (evsOf s) with | some x => x.1.1 | none => 0
def lexP (s : ByteArray) : Nat × Nat := match Lx.erOf (evsOf s) with | some x => Lx.pl (ls s) x.2 | none => (0, 0)
def lexT (s : ByteArray) : List Tok := match Lx.erOf (evsOf s) with | some _ => [] | none => (evsOf s).map (tokOf s)

theorem four_sets {W : World} {h : Nat} {t0 t1 t2 : TypeId} {x0 y0 y1 z0 : Value} (r0 : Blk W h t0 #[x0]) (r1 : Blk W (h + 1) t1 #[y0, y1]) (r2 : Blk W (h + 2) t2 #[z0]) (a b c d : Value) (X : World)
    (hX : X = (((W.setCell ⟨h, 0, none⟩ a).setCell ⟨h + 1, 0, none⟩ b).setCell ⟨h + 1, 1, none⟩ c).setCell ⟨h + 2, 0, none⟩ d) : Blk X h t0 #[a] ∧ Blk X (h + 1) t1 #[b, c] ∧ Blk X (h + 2) t2 #[d] := by
  have n1 : h ≠ h + 1 := by omega
  have n2 : h ≠ h + 2 := by omega
  have n3 : h + 1 ≠ h + 2 := by omega
  have a1 : Blk (W.setCell ⟨h, 0, none⟩ a) h t0 #[a] := r0.set_ 0 a
  have b1 := r1.far (p := ⟨h, 0, none⟩) n1.symm a
  have c1 := r2.far (p := ⟨h, 0, none⟩) n2.symm a
  have a2 := a1.far (p := ⟨h + 1, 0, none⟩) n1 b
  have b2 : Blk ((W.setCell ⟨h, 0, none⟩ a).setCell ⟨h + 1, 0, none⟩ b) (h + 1) t1 #[b, y1] := b1.set_ 0 b
  have c2 := c1.far (p := ⟨h + 1, 0, none⟩) n3.symm b
  have a3 := a2.far (p := ⟨h + 1, 1, none⟩) n1 c
  have b3 : Blk (((W.setCell ⟨h, 0, none⟩ a).setCell ⟨h + 1, 0, none⟩ b).setCell ⟨h + 1, 1, none⟩ c) (h + 1) t1 #[b, c] := b2.set_ 1 c
  have c3 := c2.far (p := ⟨h + 1, 1, none⟩) n3.symm c
  subst hX
  exact ⟨a3.far (p := ⟨h + 2, 0, none⟩) n2 d, b3.far (p := ⟨h + 2, 0, none⟩) n3 d, c3.set_ 0 d⟩

theorem four_far {W : World} {h g : Nat} {cs : Array Value} {t : TypeId} (hb : Blk W g t cs) (h0 : g ≠ h) (h1 : g ≠ h + 1) (h2 : g ≠ h + 2) (a b c d : Value) (X : World)
    (hX : X = (((W.setCell ⟨h, 0, none⟩ a).setCell ⟨h + 1, 0, none⟩ b).setCell ⟨h + 1, 1, none⟩ c).setCell ⟨h + 2, 0, none⟩ d) : Blk X g t cs := by
  subst hX
  exact Blk.far (p := ⟨h + 2, 0, none⟩) (Blk.far (p := ⟨h + 1, 1, none⟩) (Blk.far (p := ⟨h + 1, 0, none⟩) (Blk.far (p := ⟨h, 0, none⟩) hb h0 _) h1 _) h1 _) h2 _
theorem Blk.ne_type {W : World} {g g' : Nat} {t t' : TypeId} {cs cs' : Array Value} (h : Blk W g t cs) (h' : Blk W g' t' cs') (hne : t ≠ t') : g ≠ g' := h.ne_ h' hne

theorem lx_made {s : ByteArray} {w W : World} {pre : List Lx.Ev} {er k : Nat} {t : Lx.Bs} {o : Nat} (h : LI s w pre W) (her : er ≠ 0) :
    LX s w (pre ++ [((er, k, t), o)]) ((((W.setCell ⟨w.heap.size, 0, none⟩ (.slice none 0 0)).setCell ⟨w.heap.size + 1, 0, none⟩ (.int .i64 ((Lx.pl (ls s) o).1 : Int))).setCell ⟨w.heap.size + 1, 1, none⟩ (.int .i64 ((Lx.pl (ls s) o).2 : Int))).setCell ⟨w.heap.size + 2, 0, none⟩ (.int .i64 (er : Int))).drew := by
  obtain ⟨X, hX⟩ : ∃ X, X = (((W.setCell ⟨w.heap.size, 0, none⟩ (.slice none 0 0)).setCell ⟨w.heap.size + 1, 0, none⟩ (.int .i64 ((Lx.pl (ls s) o).1 : Int))).setCell ⟨w.heap.size + 1, 1, none⟩ (.int .i64 ((Lx.pl (ls s) o).2 : Int))).setCell ⟨w.heap.size + 2, 0, none⟩ (.int .i64 (er : Int)) := ⟨_, rfl⟩
  obtain ⟨q0, q1, q2⟩ := four_sets h.r0 h.r1 h.r2 _ _ _ _ X hX
  have hb : Below w.heap.size w X := by
    rw [hX]
    exact (((h.below.setCell (p := ⟨w.heap.size, 0, none⟩) (Nat.le_refl _) _).setCell (p := ⟨w.heap.size + 1, 0, none⟩) (Nat.le_succ _) _).setCell (p := ⟨w.heap.size + 1, 1, none⟩) (Nat.le_succ _) _).setCell (p := ⟨w.heap.size + 2, 0, none⟩) (Nat.le_add_right _ _) _
  rw [← hX]
  exact ⟨⟨pre, _, rfl, h.ok, her, q0, q1, q2⟩, hb.drew⟩

theorem app_other {W w1 : World} {base e size k : Nat} {v u : Value} {xs : List Value} {tmp : Obj} (hrow : W.ownsRow base e size v k xs) (hgrow : (W.alloc tmp).grownBy w1 v.ownBlock) {g : Nat} {t : TypeId} {cs : Array Value} (hb : Blk W g t cs) (ht : t ≠ e) {p : Nat} (hne : g ≠ p) :
    Blk (w1.setCell ⟨p, 0, none⟩ u) g t cs := by
  refine Blk.far (p := ⟨p, 0, none⟩) ((hb.alloc tmp).grown hgrow (fun h => ?_)) hne _
  rcases hrow.2 with ⟨rfl, _⟩ | ⟨g', cap, cur, rfl, _, hg', _⟩
  · simp [Value.ownBlock] at h
  · obtain rfl : g = g' := by simpa [Value.ownBlock] using h
    rw [show W.heap[g]? = _ from hb] at hg'
    cases hg'
    exact ht rfl

theorem row_type {W : World} {base e size k : Nat} {v : Value} {xs : List Value} (hrow : W.ownsRow base e size v k xs) {g : Nat} {t : TypeId} {cs : Array Value} (hb : Blk W g t cs) (ht : t ≠ e) : v.ownBlock ≠ some g := by
  intro h
  rcases hrow.2 with ⟨rfl, _⟩ | ⟨g', cap, cur, rfl, _, hg', _⟩
  · simp [Value.ownBlock] at h
  · obtain rfl : g' = g := by simpa [Value.ownBlock] using h
    rw [show W.heap[g']? = _ from hb] at hg'
    cases hg'
    exact ht rfl

theorem li_app {s : ByteArray} {w W w1 : World} {pre : List Lx.Ev} {k : Nat} {t : Lx.Bs} {o : Nat} {v v' : Value} {tmp : Obj} (hw : 1 < w.heap.size) (h : LI s w pre W) (hG : Two (w.heap.size + 7) W) (hv : Blk W (w.heap.size + 3) 22 #[v]) (hrow : TOwns W w.heap.size v (pre.map (tokOf s)))
    (hown : w1.ownsRow w.heap.size 27 4 v' ((pre.map (tokOf s)).length + 1) (tflat (pre.map (tokOf s)) ++ tcell (tokOf s ((0, k, t), o)))) (hgrow : (W.alloc tmp).grownBy w1 v.ownBlock) :
    KeepsOthers W (w1.setCell ⟨w.heap.size + 3, 0, none⟩ v') ∧ Kept (keeps (w.heap.size + 4) (w.heap.size + 7)) W (w1.setCell ⟨w.heap.size + 3, 0, none⟩ v') ∧ LI s w (pre ++ [((0, k, t), o)]) (w1.setCell ⟨w.heap.size + 3, 0, none⟩ v') ∧ Blk w1 (w.heap.size + 3) 22 #[v] := by
  obtain ⟨x1, x2, x3, x4, x5⟩ := Boxed.appended (tmp := tmp) (B := w.heap.size + 3) (t := 22) hv (by decide) hrow h.below.size (by omega) hown hgrow
  have oth : ∀ {g : Nat} {t : TypeId} {cs : Array Value}, Blk W g t cs → t ≠ 27 → g ≠ w.heap.size + 3 → Blk (w1.setCell ⟨w.heap.size + 3, 0, none⟩ v') g t cs := fun hb ht hn => app_other hrow hgrow hb ht hn
  obtain ⟨⟨c1, t1⟩, ⟨c2, t2⟩⟩ := hG
  have u1 := oth t1 (by decide) (by omega)
  have u2 := oth t2 (by decide) (by omega)
  have us := oth h.src (by decide) (by omega)
  have hlen : (w1.setCell ⟨w.heap.size + 3, 0, none⟩ v').heap[1]? = W.heap[1]? := x5.block _ hw
  refine ⟨x4, ⟨x4.size, fun q _ hq => ?_⟩, ⟨⟨v', x2, ?_, fun g hg => ?_⟩, oth h.r0 (by decide) (by omega), oth h.r1 (by decide) (by omega), oth h.r2 (by decide) (by omega), us, ?_, lens_block h.ln x4.size hlen, h.below.trans x5⟩, x1⟩
  · rcases hq with rfl | rfl | rfl | rfl
    · exact hlen
    · exact us.trans h.src.symm
    · exact u1.trans t1.symm
    · exact u2.trans t2.symm
  · unfold TOwns
    rw [List.map_append, List.map_cons, List.map_nil, tflat_snoc, List.length_append]
    exact x3
  · refine ⟨fun e => ?_, fun e => ?_⟩
    · subst e; exact row_type x3 u1 (by decide) hg
    · subst e; exact row_type x3 u2 (by decide) hg
  · rw [Lx.okE_append, h.ok]; rfl

theorem evs_length (s : ByteArray) : (evsOf s).length ≤ 3 * s.size + 1 := by
  have := Lx.ev_length gd (ls s) 0 none
  rw [ls_len] at this; exact this

set_option maxRecDepth 100000 in
set_option maxHeartbeats 4000000 in
theorem lex_in (n : Nat) (hn : 6 ≤ n) (s : ByteArray) (w : World) (hL : Lens w) (hs : s.size ≤ 65536) :
    CallsIn Fence.wide n Tryd.prog 17 #[.string s] w fun e W' => ∃ v, e = .returned (.tuple #[v, .agg #[.int .i64 ((lexP s).1 : Int), .int .i64 ((lexP s).2 : Int)], .int .i64 (lexE s : Int)]) ∧ TOwns W' w.heap.size v (lexT s) ∧ Below w.heap.size w W' := by
  have h1 : 1 ≤ n := by omega
  have HL := Lib.hid hL
  have hLl := hL.1
  clear hL
  have hevl := evs_length s
  have hbg : decide ((65536 : Int) < (s.size : Int)) = false := by simp; omega
  obtain ⟨i0, hi0, hz0, hz1, hz2⟩ := info_parts info_token
  refine callsIn_of_wp_marks Tryd.func17 rfl trivial ?_ rfl
  simp only [Tryd.ntmps17, List.size_toArray, List.length_cons, List.length_nil, Nat.reduceAdd, Nat.reduceSub, Array.replicate_succ, Array.replicate_zero, List.push_toArray, List.append_toArray, List.nil_append, List.cons_append]
  gi_wp2_with (first | (with_reducible refine And.intro no_leads ?_) | (refine ⟨trivial, ?_⟩; gi_at_call 30; refine (tokens_in _ _ _).mono ?_; rintro e w' ⟨rfl, rfl⟩))
  obtain ⟨W0, hW0⟩ : ∃ W0, ((((w.alloc (.cells #[.slice none 0 0] 22)).alloc (.cells #[.int .i64 0, .int .i64 0] 25)).alloc (.cells #[.int .i64 0] 33)).alloc (.cells #[.slice none 0 0] 22)).alloc (.cells #[.string s] 9) = W0 := ⟨_, rfl⟩
  have inv0 : LI s w [] W0 := by
    subst hW0
    have e1 := Blk.new (w.alloc (.cells #[.slice none 0 0] 22)) 25 #[.int .i64 0, .int .i64 0]
    have e2 := Blk.new ((w.alloc (.cells #[.slice none 0 0] 22)).alloc (.cells #[.int .i64 0, .int .i64 0] 25)) 33 #[.int .i64 0]
    have e3 := Blk.new (((w.alloc (.cells #[.slice none 0 0] 22)).alloc (.cells #[.int .i64 0, .int .i64 0] 25)).alloc (.cells #[.int .i64 0] 33)) 22 #[.slice none 0 0]
    have e4 := Blk.new ((((w.alloc (.cells #[.slice none 0 0] 22)).alloc (.cells #[.int .i64 0, .int .i64 0] 25)).alloc (.cells #[.int .i64 0] 33)).alloc (.cells #[.slice none 0 0] 22)) 9 #[.string s]
    simp only [World.size_alloc] at e1 e2 e3 e4
    refine ⟨⟨.slice none 0 0, e3.alloc _, TOwns.nil _ _, fun g h => by simp [Value.ownBlock] at h⟩, ((((Blk.new w _ _).alloc _).alloc _).alloc _).alloc _, ((e1.alloc _).alloc _).alloc _, (e2.alloc _).alloc _, e4, rfl, ((((HL.out.alloc _).alloc _).alloc _).alloc _).alloc _, ?_⟩
    exact (((((Below.refl _ _).alloc (Nat.le_refl _) _).alloc (by simp) _).alloc (by simp; omega) _).alloc (by simp; omega) _).alloc (by simp; omega) _
  have hsz : W0.heap.size = w.heap.size + 5 := by subst hW0; simp
  rw [hW0]
  clear hW0
  have I0 := Lib.hid inv0; clear inv0
  have hnk : ¬ keeps (w.heap.size + 4) (w.heap.size + 7) (W0.heap.size + 1) := by unfold keeps; omega
  refine rangeFunc_steps h1 (gf := 40) (lb := #[.pointer (some ⟨w.heap.size + 4, 0, none⟩)]) rfl (enters_of Tryd.func40 (by kernel_rfl) rfl) (encs := encv s) (fun _ => rfl) (evsOf s) (keeps (w.heap.size + 4) (w.heap.size + 7)) (Two (w.heap.size + 7)) (fun A B h k => h.kept k) hnk
    (fun l J Jx W hb hW hJ hY hJ0 => by
      have e7 : W.heap.size = w.heap.size + 7 := by omega
      refine tokens1_in (n - 1) (by omega) l (w.heap.size + 4) s hs J Jx W hJ (fun pre x W1 a b c => by rw [e7] at c ⊢; exact hY pre x W1 a b c) (Blk.below I0.out.src hb (by omega)) (I0.out.ln.below hb) hJ0)
    (LI s w) (fun c pre W => c = .ret ∧ LX s w pre W) (by rw [hsz]; exact li_own s w) (fun c s1 A B row h hg hr => ⟨h.1, lx_own s w s1 A B row h.2 hg (by rw [hsz] at hr; exact hr)⟩) (by rw [hsz]; exact li_steps s w hLl) I0.out
    (fun x a' W => ∃ Bx, w.heap.size + 9 ≤ Bx ∧ Blk W Bx 27 #[.int .u8 (x.1.2.1 : Int), .string (bs x.1.2.2), .int .i64 ((Lx.pl (ls s) x.2).1 : Int), .int .i64 ((Lx.pl (ls s) x.2).2 : Int)] ∧
      a' = { tmps := #[.string s, undef, .pointer (some ⟨w.heap.size, 0, none⟩), .pointer (some ⟨w.heap.size + 1, 0, none⟩), .pointer (some ⟨w.heap.size + 2, 0, none⟩), .pointer (some ⟨w.heap.size + 3, 0, none⟩), .pointer (some ⟨Bx, 0, none⟩), .int .i64 (x.1.1 : Int), .string s, .int .i64 (s.size : Int), .bool false, undef, .string s, .func (.func 40) #[] #[.pointer (some ⟨w.heap.size + 4, 0, none⟩)], .agg #[.int .u8 (x.1.2.1 : Int), .string (bs x.1.2.2), .int .i64 ((Lx.pl (ls s) x.2).1 : Int), .int .i64 ((Lx.pl (ls s) x.2).2 : Int)], .int .i64 (x.1.1 : Int), undef, undef, undef, undef, undef, undef, undef, undef, undef, undef, undef], defers := [] })
    (fun x a' _ A B row h hg hr => by obtain ⟨Bx, h1, h2, h3⟩ := h; exact ⟨Bx, h1, (cells_stay hg hr h2).trans h2, h3⟩)
    ?assign ?body ?done ?stop
  case assign =>
    rintro l pre x W K hi hG hK
    have Hi := Lib.hid hi
    have HKK := Lib.hid hK
    have hGs := hG.size
    clear hi hK
    dsimp only [encv, tkval]
    gi_wp2
    refine HKK.out _ _ ((KeepsOthers.alloc W _).from _) ⟨by simp, fun k hk _ => Below.heap_alloc W _ k hk⟩ (li_own s w _ _ _ none Hi.out (World.grownBy_alloc W _ none) (fun r e => by cases e)) ⟨W.heap.size, by omega, Blk.new W _ _, ?_⟩
    rfl
  case body =>
    rintro l pre ⟨⟨er, k, t⟩, o⟩ a' W hi hG ⟨Bx, hBx, b2, rfl⟩ hE
    dsimp only at b2 ⊢
    have hGs := hG.size
    have c0 : W.cell? ⟨Bx, 0, none⟩ = some (.int .u8 (k : Int)) := b2.cell 0
    have c1 : W.cell? ⟨Bx, 1, none⟩ = some (.string (bs t)) := b2.cell 1
    have c2 : W.cell? ⟨Bx, 2, none⟩ = some (.int .i64 ((Lx.pl (ls s) o).1 : Int)) := b2.cell 2
    have c3 : W.cell? ⟨Bx, 3, none⟩ = some (.int .i64 ((Lx.pl (ls s) o).2 : Int)) := b2.cell 3
    obtain ⟨v, hv, hrow, hne⟩ := hi.row
    have Hi := Lib.hid hi
    have Hv := Lib.hid hv
    have Hrow := Lib.hid hrow
    have Hne := Lib.hid hne
    have HG := Lib.hid hG
    have cl : W.cell? ⟨w.heap.size + 3, 0, none⟩ = some v := hv.cell 0
    have fl : W.frozen? ⟨w.heap.size + 3, 0, none⟩ = false := hv.frozen 0
    clear hi hv hrow hne hG b2
    by_cases her : er = 0
    · subst her
      have hlen := hE
      obtain ⟨r, hr⟩ := hlen
      have hpl : pre.length + 1 ≤ (evsOf s).length := by rw [hr]; simp
      have hml : (pre.map (tokOf s)).length ≤ 200000 := by rw [List.length_map]; omega
      clear hr hpl hE
      gi_wp2_with (first | (gi_at_builtin; refine wpListIn_append_own _ rfl _ _ 22 rfl w.heap.size 27 i0 (.agg #[.int .u8 0, .string { data := #[] }, .int .i64 0, .int .i64 0]) 4 40 Tryd.underlying22 hi0 hz0 hz1 hz2 rfl (by decide) _ _ _ rfl (Hrow.out.alloc _) ⟨W.heap.size, 0, none⟩ 1 1 [.int .u8 (k : Int), .string (bs t), .int .i64 ((Lx.pl (ls s) o).1 : Int), .int .i64 ((Lx.pl (ls s) o).2 : Int)] rfl rfl (cells_new _ _ _ _ rfl) (by simp [Value.oneCell']) (by unfold maxLen; omega) (by omega) (by simp; omega) ?_; intro v' w1 hown' hgrow _; obtain ⟨g', cap', rfl⟩ := ownsRow_succ hown'; obtain ⟨ko, kk, li, bx⟩ := li_app (k := k) (t := t) (o := o) hLl Hi.out HG.out Hv.out Hrow.out hown' hgrow; have hc1 := bx.cell 0; have hf1 := bx.frozen 0; simp only [List.getElem?_toArray, List.getElem?_cons_zero] at hc1))
      simp only [List.length_map] at ko kk li
      exact ⟨ko.from _, kk, li⟩
    · have hene : ((er : Int) != 0) = true := bne_iff_ne.2 (by omega)
      have p0 : W.cell? ⟨w.heap.size, 0, none⟩ = some (.slice none 0 0) := Hi.out.r0.cell 0
      have q0 : W.cell? ⟨w.heap.size + 1, 0, none⟩ = some (.int .i64 0) := Hi.out.r1.cell 0
      have q1 : W.cell? ⟨w.heap.size + 1, 1, none⟩ = some (.int .i64 0) := Hi.out.r1.cell 1
      have u0 : W.cell? ⟨w.heap.size + 2, 0, none⟩ = some (.int .i64 0) := Hi.out.r2.cell 0
      have f0 : W.frozen? ⟨w.heap.size, 0, none⟩ = false := Hi.out.r0.frozen 0
      have f1 : W.frozen? ⟨w.heap.size + 1, 0, none⟩ = false := Hi.out.r1.frozen 0
      have f2 : W.frozen? ⟨w.heap.size + 1, 1, none⟩ = false := Hi.out.r1.frozen 1
      have f3 : W.frozen? ⟨w.heap.size + 2, 0, none⟩ = false := Hi.out.r2.frozen 0
      have HER := Lib.hid her
      clear her
      gi_wp2
      gi_region
      all_goals
        gi_wp2
        exact ⟨(((((KeepsOthers.setCell _ _ _).trans (KeepsOthers.setCell _ _ _)).trans (KeepsOthers.setCell _ _ _)).trans (KeepsOthers.setCell _ _ _)).trans (KeepsOthers.drew _)).from _, rfl, lx_made Hi.out HER.out⟩
  case done =>
    rintro D W hD hi hK
    have Hi := Lib.hid hi
    obtain ⟨v, hv, hrow, _⟩ := hi.row
    have Hrow := Lib.hid hrow
    have Hv := Lib.hid hv
    have cl : W.cell? ⟨w.heap.size + 3, 0, none⟩ = some v := hv.cell 0
    have p0 : W.cell? ⟨w.heap.size, 0, none⟩ = some (.slice none 0 0) := hi.r0.cell 0
    have q0 : W.cell? ⟨w.heap.size + 1, 0, none⟩ = some (.int .i64 0) := hi.r1.cell 0
    have q1 : W.cell? ⟨w.heap.size + 1, 1, none⟩ = some (.int .i64 0) := hi.r1.cell 1
    have u0 : W.cell? ⟨w.heap.size + 2, 0, none⟩ = some (.int .i64 0) := hi.r2.cell 0
    have f0 : W.frozen? ⟨w.heap.size, 0, none⟩ = false := hi.r0.frozen 0
    have f1 : W.frozen? ⟨w.heap.size + 1, 0, none⟩ = false := hi.r1.frozen 0
    have f2 : W.frozen? ⟨w.heap.size + 1, 1, none⟩ = false := hi.r1.frozen 1
    have f3 : W.frozen? ⟨w.heap.size + 2, 0, none⟩ = false := hi.r2.frozen 0
    obtain ⟨p, cap, rfl⟩ : ∃ p cap, v = .slice p ((evsOf s).map (tokOf s)).length cap := by
      rcases hrow.2 with ⟨rfl, h0⟩ | ⟨g, cap, cur, rfl, _⟩
      · exact ⟨none, 0, by rw [h0]⟩
      · exact ⟨_, _, rfl⟩
    clear hi hv hrow
    gi_wp2
    obtain ⟨X, hX⟩ : ∃ X, (((W.setCell ⟨w.heap.size, 0, none⟩ (.slice p ((evsOf s).map (tokOf s)).length cap)).setCell ⟨w.heap.size + 1, 0, none⟩ (.int .i64 0)).setCell ⟨w.heap.size + 1, 1, none⟩ (.int .i64 0)).setCell ⟨w.heap.size + 2, 0, none⟩ (.int .i64 0) = X := ⟨_, rfl⟩
    have hKX : X.heap[D]? = some (.deferred (some [])) := by
      rw [← hX]; exact ((((KeepsOthers.setCell _ _ _).trans (KeepsOthers.setCell _ _ _)).trans (KeepsOthers.setCell _ _ _)).trans (KeepsOthers.setCell _ _ _)).same D _ hK rfl
    have Q := four_sets Hi.out.r0 Hi.out.r1 Hi.out.r2 _ _ _ _ X hX.symm
    have hrX : TOwns X w.heap.size (.slice p ((evsOf s).map (tokOf s)).length cap) ((evsOf s).map (tokOf s)) := by
      refine row_kept Hrow.out (fun g cur hg hc => (four_far (h := w.heap.size) (t := 27) (cs := cur) hc ?_ ?_ ?_ _ _ _ _ X hX.symm).trans hc.symm)
      · exact Blk.ne_ (t := 27) hc Hi.out.r0 (by decide)
      · exact Blk.ne_ (t := 27) hc Hi.out.r1 (by decide)
      · exact Blk.ne_ (t := 27) hc Hi.out.r2 (by decide)
    have hbX : Below w.heap.size w X := by
      rw [← hX]
      exact (((Hi.out.below.setCell (p := ⟨w.heap.size, 0, none⟩) (Nat.le_refl _) _).setCell (p := ⟨w.heap.size + 1, 0, none⟩) (Nat.le_succ _) _).setCell (p := ⟨w.heap.size + 1, 1, none⟩) (Nat.le_succ _) _).setCell (p := ⟨w.heap.size + 2, 0, none⟩) (Nat.le_add_right _ _) _
    simp only [List.length_map] at hX
    rw [hX]
    have kX : ∀ {g : Nat} {t : TypeId} {cs : Array Value}, Blk X g t cs → g ≠ D → Blk (X.putObj D (.deferred none)) g t cs := fun hb hne => hb.grown (grownBy_putObj' X D _) (fun e => by cases e; exact hne rfl)
    have x0 := (kX Q.1 (by omega)).cell 0
    have y0 := (kX Q.2.1 (by omega)).cell 0
    have y1 := (kX Q.2.1 (by omega)).cell 1
    have z0 := (kX Q.2.2 (by omega)).cell 0
    simp only [List.getElem?_toArray, List.getElem?_cons_zero, List.getElem?_cons_succ] at x0 y0 y1 z0
    have hres : lexT s = (evsOf s).map (tokOf s) ∧ lexP s = (0, 0) ∧ lexE s = 0 := by
      have : Lx.erOf (evsOf s) = none := Lx.erOf_none.2 Hi.out.ok
      unfold lexT lexP lexE; rw [this]; exact ⟨rfl, rfl, rfl⟩
    rw [hres.1, hres.2.1, hres.2.2]
    refine ⟨by simp, .inl ⟨_, _, rfl, run_takeDeferred hKX, ?_⟩⟩
    refine ⟨.tuple #[.slice p ((evsOf s).map (tokOf s)).length cap, .agg #[.int .i64 0, .int .i64 0], .int .i64 0], ?_, _, rfl, ownsRow_putObj hrX _ hKX rfl, hbX.trans (belowK_b (w := w) (Nat.le_refl _) X D _ _ (by omega) hKX rfl rfl)⟩
    simp [results, Tryd.results17, go_sem, x0, y0, y1, z0]
  case stop =>
    rintro D c pre W hD ⟨r, hr⟩ ⟨rfl, hx⟩ hK
    obtain ⟨pre0, x, rfl, hok, hex, q0, q1, q2⟩ := hx.er
    have hbX := hx.below
    have HK := Lib.hid hK
    clear hK
    have hres : lexT s = [] ∧ lexP s = Lx.pl (ls s) x.2 ∧ lexE s = x.1.1 := by
      have : Lx.erOf (evsOf s) = some x := by
        rw [hr, List.append_assoc, Lx.erOf_append_ok _ _ hok]
        unfold Lx.erOf
        rw [List.singleton_append, List.find?_cons_of_pos (by simpa using hex)]
      unfold lexT lexP lexE; rw [this]; exact ⟨rfl, rfl, rfl⟩
    have kX : ∀ {g : Nat} {t : TypeId} {cs : Array Value}, Blk W g t cs → g ≠ D → Blk (W.putObj D (.deferred none)) g t cs := fun hb hne => hb.grown (grownBy_putObj' W D _) (fun e => by cases e; exact hne rfl)
    have x0 := (kX q0 (by omega)).cell 0
    have y0 := (kX q1 (by omega)).cell 0
    have y1 := (kX q1 (by omega)).cell 1
    have z0 := (kX q2 (by omega)).cell 0
    simp only [List.getElem?_toArray, List.getElem?_cons_zero, List.getElem?_cons_succ] at x0 y0 y1 z0
    have HR := Lib.hid hres
    clear hres
    gi_wp2
    rw [HR.out.1, HR.out.2.1, HR.out.2.2]
    refine ⟨by simp, .inl ⟨_, _, rfl, run_takeDeferred HK.out, ?_⟩⟩
    refine ⟨.tuple #[.slice none 0 0, .agg #[.int .i64 ((Lx.pl (ls s) x.2).1 : Int), .int .i64 ((Lx.pl (ls s) x.2).2 : Int)], .int .i64 (x.1.1 : Int)], ?_, _, rfl, TOwns.nil _ _, hbX.trans (belowK_b (w := w) (Nat.le_refl _) W D _ _ (by omega) HK.out rfl rfl)⟩
    simp [results, Tryd.results17, go_sem, x0, y0, y1, z0]

/-- What Lex answers, at any source. -/
def lexE' (s : ByteArray) : Nat := if 65536 < s.size then 3 else lexE s
def lexP' (s : ByteArray) : Nat × Nat := if 65536 < s.size then (0, 0) else lexP s
def lexT' (s : ByteArray) : List Tok := if 65536 < s.size then [] else lexT s

set_option maxHeartbeats 2000000 in
theorem lex_any (s : ByteArray) (w : World) (hL : Lens w) (hs : s.size ≤ 9223372036854775807) :
    Calls Tryd.prog 17 #[.string s] w fun e W' => ∃ v, e = .returned (.tuple #[v, .agg #[.int .i64 ((lexP' s).1 : Int), .int .i64 ((lexP' s).2 : Int)], .int .i64 (lexE' s : Int)]) ∧ TOwns W' w.heap.size v (lexT' s) ∧ Below w.heap.size w W' := by
  by_cases hbig : 65536 < s.size
  · have hres : lexT' s = [] ∧ lexP' s = (0, 0) ∧ lexE' s = 3 := by unfold lexT' lexP' lexE'; rw [if_pos hbig, if_pos hbig, if_pos hbig]; exact ⟨rfl, rfl, rfl⟩
    have HR := Lib.hid hres
    clear hres
    go_enter Tryd.func17, Tryd.ntmps17
    go_wp2
    rw [HR.out.1, HR.out.2.1, HR.out.2.2]
    refine bodyPost_ret (v := .tuple #[.slice none 0 0, .agg #[.int .i64 0, .int .i64 0], .int .i64 3]) (by simp [results, Tryd.results17, go_sem]; done) rfl ⟨_, rfl, TOwns.nil _ _, ?_⟩
    exact (((Below.refl _ _).alloc (Nat.le_refl _) _).alloc (by simp) _).alloc (by simp; omega) _
  · have hs' : s.size ≤ 65536 := by omega
    unfold lexT' lexP' lexE'
    rw [if_neg hbig, if_neg hbig, if_neg hbig]
    exact callsIn_wide.1 (lex_in 6 (by omega) s w hL hs')

end Go.Proofs.YthleaigkndfdaaaDoor
