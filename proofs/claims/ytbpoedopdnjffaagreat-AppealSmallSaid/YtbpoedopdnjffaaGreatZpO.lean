/- The reference's File. The reference's All. The reference's At. The reference's Held. The reference's Settles. -/
import Derived.Test.YtbpoedopdnjffaaGreatZpI
import Derived.Test.YtbpoedopdnjffaaGreatZpK
import Derived.Test.YtbpoedopdnjffaaGreatZpL
import Derived.Test.YtbpoedopdnjffaaGreatZpM
import Derived.Test.YtbpoedopdnjffaaGreatZpN
import Derived.IntWalk
import Derived.Test.YtbpoedopdnjffaaGreatZpF
namespace Go.Proofs.YtbpoedopdnjffaaGreat
open Go.RowKit Go.Shelf Sp

theorem fileR_any (D : Dk) (hD : D.Ok) (f : Fl) (m : Int) (hm : m = max 0 D.last) (hnum : D.num < 1000) (v : Value) (ps : List (Cs × Value)) (w : World) (hrow : CRow w 0 v ps) (hps : ps.map Prod.fst = bkCs D) :
    Calls Tryz.prog 28 #[.agg #[v, .int .i64 m, .int .i64 m], flAgg f] w (FilePost D f w) := by
  cases hw : wf f with
  | false => exact file_wf D f m hm hnum v ps w hrow hps hw
  | true =>
    have W := (wf_iff f).1 hw
    by_cases hd : f.day < m
    · exact file_400 D hD f m hm hnum v ps w hrow hps hw hd
    · have hd : m ≤ f.day := by omega
      have hk := W.kind
      have hl := hD.len
      rcases (show f.kind = 1 ∨ f.kind = 2 ∨ f.kind = 3 ∨ f.kind = 4 ∨ f.kind = 5 ∨ f.kind = 6 ∨ f.kind = 7 by omega) with k | k | k | k | k | k | k
      · by_cases h : D.cs.length = 100
        · exact file_4_1 D hD f m hm hnum v ps w hrow hps hw hd k h
        · exact file_new_1 D hD f m hm hnum v ps w hrow hps hw hd k (by omega)
      · by_cases h : f.case ≤ D.cs.length
        · by_cases hs : (ownP D.cs f).st = needP 2
          · by_cases hc : (ownP D.cs f).days < f.n
            · exact file_402 D hD f m hm hnum v ps w hrow hps hw hd k h hs hc
            · exact file_ok_2 D hD f m hm hnum v ps w hrow hps hw hd k h hs hc
          · exact file_401_2 D hD f m hm hnum v ps w hrow hps hw hd k h hs
        · exact file_6 D hD f m hm hnum v ps w hrow hps hw hd (by unfold opensP; rw [k]; rfl) (by omega)
      · by_cases h : f.case ≤ D.cs.length
        · by_cases hs : (ownP D.cs f).st = needP 3
          · exact file_ok_3 D hD f m hm hnum v ps w hrow hps hw hd k h hs
          · exact file_401_3 D hD f m hm hnum v ps w hrow hps hw hd k h hs
        · exact file_6 D hD f m hm hnum v ps w hrow hps hw hd (by unfold opensP; rw [k]; rfl) (by omega)
      · by_cases h : D.cs.length = 100
        · exact file_4_4 D hD f m hm hnum v ps w hrow hps hw hd k h
        · exact file_new_4 D hD f m hm hnum v ps w hrow hps hw hd k (by omega)
      · by_cases h : f.case ≤ D.cs.length
        · by_cases hs : (ownP D.cs f).st = needP 5
          · cases hh : f.hold with
            | true => exact file_ok_5t D hD f m hm hnum v ps w hrow hps hw hd k h hs hh
            | false => exact file_ok_5f D hD f m hm hnum v ps w hrow hps hw hd k h hs hh
          · exact file_401_5 D hD f m hm hnum v ps w hrow hps hw hd k h hs
        · exact file_6 D hD f m hm hnum v ps w hrow hps hw hd (by unfold opensP; rw [k]; rfl) (by omega)
      · by_cases h : f.case ≤ D.cs.length
        · by_cases hs : (ownP D.cs f).st = needP 6
          · rcases (W.k6 k).2 with hn | hn
            · exact file_ok_6y D hD f m hm hnum v ps w hrow hps hw hd k h hs hn
            · exact file_ok_6n D hD f m hm hnum v ps w hrow hps hw hd k h hs hn
          · exact file_401_6 D hD f m hm hnum v ps w hrow hps hw hd k h hs
        · exact file_6 D hD f m hm hnum v ps w hrow hps hw hd (by unfold opensP; rw [k]; rfl) (by omega)
      · by_cases h : f.case ≤ D.cs.length
        · by_cases hs : (ownP D.cs f).st = needP 7
          · exact file_ok_7 D hD f m hm hnum v ps w hrow hps hw hd k h hs
          · exact file_401_7 D hD f m hm hnum v ps w hrow hps hw hd k h hs
        · exact file_6 D hD f m hm hnum v ps w hrow hps hw hd (by unfold opensP; rw [k]; rfl) (by omega)

end Go.Proofs.YtbpoedopdnjffaaGreat

namespace Go.Proofs.YtbpoedopdnjffaaGreat
open Go.RowKit Go.Shelf Sp

theorem own_ne {X : World} {t1 t2 : TypeId} (ht : t1 ≠ t2) {b1 s1 n1 b2 s2 n2 : Nat} {v1 v2 : Value} {x1 x2 : List Value} (h1 : X.ownsRow b1 t1 s1 v1 n1 x1) (h2 : X.ownsRow b2 t2 s2 v2 n2 x2) : v1.ownBlock = none ∨ v1.ownBlock ≠ v2.ownBlock := by
  rcases h1.2 with ⟨rfl, _⟩ | ⟨g, cap, cur, rfl, _, hg, _⟩
  · exact .inl rfl
  · right
    intro e
    rcases h2.2 with ⟨rfl, _⟩ | ⟨g2, cap2, cur2, rfl, _, hg2, _⟩
    · simp [Value.ownBlock] at e
    · obtain rfl : g = g2 := by simpa [Value.ownBlock] using e
      rw [hg] at hg2
      injection hg2 with hg2
      injection hg2 with _ e2 _
      exact ht e2
theorem BkAt.ne_own {X : World} {B : Nat} {v : Value} {e l : Int} (h : BkAt X B v e l) {t : TypeId} (ht : t ≠ 37) {b s n : Nat} {v1 : Value} {x1 : List Value} (h1 : X.ownsRow b t s v1 n x1) : v1.ownBlock ≠ some B := by
  rcases h1.2 with ⟨rfl, _⟩ | ⟨g, cap, cur, rfl, _, hg, _⟩
  · simp [Value.ownBlock]
  · intro e
    obtain rfl : g = B := by simpa [Value.ownBlock] using e
    unfold BkAt at h
    rw [hg] at h
    injection h with h
    injection h with _ e2 _
    exact ht e2

structure LW (w : World) (R B : Nat) (D : Dk) (es : List Int) (v2 : Value) (X : World) : Prop where
  res : BkAt X R (.slice none 0 0) 0 0
  box : ∃ p n c ps, BkAt X B (.slice p n c) (max 0 D.last) (max 0 D.last) ∧ ps.map Prod.fst = bkCs D ∧ CRow X 0 (.slice p n c) ps
  out : EOwns X w.heap.size v2 es
  bel : Below w.heap.size w X
  lo : w.heap.size ≤ R ∧ w.heap.size ≤ B ∧ R ≠ B
theorem LW.later {w X X' : World} {R B : Nat} {D : Dk} {es : List Int} {v2 : Value} (h : LW w R B D es v2 X) (hb : Below X.heap.size X X') : LW w R B D es v2 X' := by
  obtain ⟨p, n, c, ps, h1, h2, h3⟩ := h.box
  exact ⟨h.res.later hb, ⟨p, n, c, ps, h1.later hb, h2, h3.later hb⟩, ownsRow_later h.out hb, h.bel.trans (hb.mono h.bel.size), h.lo⟩
theorem LW.put {w X : World} {R B : Nat} {D D' : Dk} {es : List Int} {v2 : Value} (h : LW w R B D es v2 X) {p : Option Addr} {n c : Nat} {ps : List (Cs × Value)} (hp : ps.map Prod.fst = bkCs D') (hr : CRow X 0 (.slice p n c) ps) :
    LW w R B D' es v2 (setBk X B (.slice p n c) (max 0 D'.last) (max 0 D'.last)) := by
  obtain ⟨p0, n0, c0, ps0, h1, h2, h3⟩ := h.box
  have b := setBk_but X B (.slice p n c) (max 0 D'.last) (max 0 D'.last)
  exact ⟨h.res.but b h.lo.2.2, ⟨p, n, c, ps, setBk_at h1, hp, hr.butBk h1 b⟩, World.ownsRow.kept h.out b.grown (.inr (h1.ne_own (by decide) h.out)), b.belowOf h.bel h.bel.size h.lo.2.1, h.lo⟩
theorem LW.stay {w X : World} {R B : Nat} {D : Dk} {es : List Int} {v2 : Value} (h : LW w R B D es v2 X) (f : Fl) (he : errD D f ≠ 0) : LW w R B (stepD D f) es v2 X := by
  obtain ⟨p, n, c, ps, h1, h2, h3⟩ := h.box
  obtain ⟨e1, e2⟩ := bk_none f he
  exact ⟨h.res, ⟨p, n, c, ps, by rw [e2]; exact h1, by rw [e1]; exact h2, h3⟩, h.out, h.bel, h.lo⟩
theorem LW.app {w X w1 : World} {R B : Nat} {D : Dk} {es : List Int} {v2 v3 : Value} (h : LW w R B D es v2 X) (o : Obj) {e : Int} (hown : EOwns w1 w.heap.size v3 (es ++ [e])) (hg : (X.alloc o).grownBy w1 v2.ownBlock) : LW w R B D (es ++ [e]) v3 w1 := by
  have b0 : Below X.heap.size X (X.alloc o) := (Below.refl _ _).alloc (Nat.le_refl _) _
  obtain ⟨p, n, c, ps, h1, h2, h3⟩ := h.box
  have keep : ∀ k, k < X.heap.size → v2.ownBlock ≠ some k → w1.heap[k]? = X.heap[k]? := fun k hk hne => (hg.block k (by simp; omega) hne.symm).trans (b0.block k hk)
  have r3 := h3.later b0
  have o3 := ownsRow_later h.out b0
  exact ⟨(keep R h.res.lt (h.res.ne_own (by decide) h.out)).trans h.res, ⟨p, n, c, ps, (keep B h1.lt (h1.ne_own (by decide) h.out)).trans h1, h2, ⟨World.ownsRow.kept r3.1 hg (own_ne (by decide) r3.1 o3), fun q hq => World.ownsRow.kept (r3.2 q hq) hg (own_ne (by decide) (r3.2 q hq) o3)⟩⟩, hown, (h.bel.alloc h.bel.size o).grown hg (by have := h.bel.size; simp; omega) fun g e => (World.ownsRow.lt h.out g e).1, h.lo⟩

/-- What All hands back. -/
def AllPost (l : List Fl) (w : World) (e : Ending) (w' : World) : Prop :=
  ∃ p n c ps v2, e = .returned (.tuple #[.agg #[.slice p n c, .int .i64 (max 0 (runD l).last), .int .i64 (max 0 (runD l).last)], v2]) ∧ ps.map Prod.fst = bkCs (runD l) ∧ CRow w' 0 (.slice p n c) ps ∧ EOwns w' w.heap.size v2 (errsD l) ∧ Below w.heap.size w w'
theorem LW.done {w X : World} {R B : Nat} {l : List Fl} {v2 : Value} (h : LW w R B (runD l) (errsD l) v2 X) :
    ∃ p n c, BkAt X B (.slice p n c) (max 0 (runD l).last) (max 0 (runD l).last) ∧ BkAt (setBk X R (.slice p n c) (max 0 (runD l).last) (max 0 (runD l).last)) R (.slice p n c) (max 0 (runD l).last) (max 0 (runD l).last) ∧
      AllPost l w (.returned (.tuple #[.agg #[.slice p n c, .int .i64 (max 0 (runD l).last), .int .i64 (max 0 (runD l).last)], v2])) (setBk X R (.slice p n c) (max 0 (runD l).last) (max 0 (runD l).last)) := by
  obtain ⟨p, n, c, ps, h1, h2, h3⟩ := h.box
  have b := setBk_but X R (.slice p n c) (max 0 (runD l).last) (max 0 (runD l).last)
  exact ⟨p, n, c, h1, setBk_at h.res, p, n, c, ps, v2, rfl, h2, h3.butBk h.res b, World.ownsRow.kept h.out b.grown (.inr (h.res.ne_own (by decide) h.out)), b.belowOf h.bel h.bel.size h.lo.1⟩
theorem info_errno : (Tryz.prog.info? 40).map (fun i => (i.zero, i.size, i.bytes)) = some (some (.int .i64 0), 1, 8) := by kernel_rfl
/-- File, called in All. -/
theorem LW.file {w X0 : World} {R B : Nat} {D : Dk} {es : List Int} {v2 : Value} {m : Int} (hm : m = max 0 D.last) (h : LW w R B D es v2 X0) (hD : D.Ok) (hnum : D.num < 1000) (f : Fl) {p : Option Addr} {n c : Nat} (hB : BkAt X0 B (.slice p n c) m m) (X : World) (hX : Below X0.heap.size X0 X) :
    Calls Tryz.prog 28 #[.agg #[.slice p n c, .int .i64 m, .int .i64 m], flAgg f] X fun e W2 => ∃ p2 n2 c2 m2, e = .returned (.tuple #[.agg #[.slice p2 n2 c2, .int .i64 m2, .int .i64 m2], .int .i64 (errD D f)]) ∧ W2.cell? ⟨B, 0, none⟩ = some (.slice p n c) ∧ W2.cell? ⟨B, 1, none⟩ = some (.int .i64 m) ∧ W2.cell? ⟨B, 2, none⟩ = some (.int .i64 m) ∧ (∀ j, W2.frozen? ⟨B, j, none⟩ = false) ∧ Hid (LW w R B (stepD D f) es v2 (setBk W2 B (.slice p2 n2 c2) m2 m2)) := by
  obtain ⟨p', n', c', ps, h1, h2, h3⟩ := (h.later hX).box
  have hB2 := hB.later hX
  rw [← hm] at h1
  have e := hB2.symm.trans h1
  injection e with e
  injection e with e _ _
  have e : (.slice p n c : Value) = .slice p' n' c' := by simpa using e
  injection e with e1 e2 e3
  subst e1 e2 e3
  refine (fileR_any D hD f m hm hnum _ ps X h3 h2).mono ?_
  rintro e W2 ⟨v', ps', rfl, hp', hr', hb⟩
  obtain ⟨p2, c2, rfl, _⟩ := hr'.form
  have h4 := (h.later hX).later hb
  have hB3 := hB2.later hb
  exact ⟨p2, _, c2, _, rfl, hB3.cell.1, hB3.cell.2.1, hB3.cell.2.2.1, hB3.cell.2.2.2, Lib.hid (h4.put hp' hr')⟩

set_option maxHeartbeats 4000000 in
set_option maxRecDepth 100000 in
theorem allR_any (l : List Fl) (p : Option Addr) (cap : Nat) (w : World) (hc : FCells w p l) (hl : l.length ≤ 100000) :
    Calls Tryz.prog 13 #[.slice p l.length cap] w (AllPost l w) := by
  have HC := Lib.hid hc
  obtain ⟨i0, hi0, hz0, hz1, hz2⟩ := info_parts info_errno
  obtain ⟨R, hR⟩ : ∃ R, w.heap.size = R := ⟨_, rfl⟩
  obtain ⟨B, hB⟩ : ∃ B, R + 1 = B := ⟨_, rfl⟩
  have hRB : R ≠ B := by omega
  have L0 := Lib.hid (show LW w R B (runD (l.take 0)) (errsD (l.take 0)) (.slice none 0 0) ((w.alloc (.cells #[.slice none 0 0, .int .i64 0, .int .i64 0] 37)).alloc (.cells #[.slice none 0 0, .int .i64 0, .int .i64 0] 37)) from by
    subst hB hR
    obtain ⟨a1, a2, a3⟩ := two_alloc w (.cells #[.slice none 0 0, .int .i64 0, .int .i64 0] 37) (.cells #[.slice none 0 0, .int .i64 0, .int .i64 0] 37)
    exact ⟨a1, ⟨none, 0, 0, [], a2, rfl, CRow.nil _ _⟩, World.ownsRow_nil _ _ _ _, a3, by omega⟩)
  clear hc
  go_enter Tryz.func13, Tryz.ntmps13
  go_wp2
  go_loopw [6, 5] (fun i u wr => ∃ (k : Nat) (v2 : Value), k ≤ l.length ∧ i = .int .i64 k ∧ v2 = u ∧ Hid (LW w R B (runD (l.take k)) (errsD (l.take k)) v2 wr)) (fun i _ _ => l.length - (intOf i).toNat)
  case atStart => exact ⟨0, _, by omega, rfl, rfl, L0⟩
  case round =>
    obtain ⟨k, v2, hk, rfl, rfl, hI⟩ := hrel
    clear hR hB L0
    by_cases hlt : k < l.length
    · obtain ⟨bq, oq, hq, r0, r1, r2, r3, r4, r5⟩ := (HC.out.below hI.out.bel).at k hlt
      subst hq
      have hnum : (runD (l.take k)).num = k := by rw [runD_num, List.length_take]; omega
      have hst : runD (l.take (k + 1)) = stepD (runD (l.take k)) l[k] := by rw [List.take_succ_eq_append_getElem hlt, runD_snoc]
      have hse : errsD (l.take (k + 1)) = errsD (l.take k) ++ [errD (runD (l.take k)) l[k]] := by rw [List.take_succ_eq_append_getElem hlt, errsD_snoc]
      have hel : (errsD (l.take k)).length = k := by rw [errsD_length, List.length_take]; omega
      have DO := Lib.hid (runD_ok (l.take k))
      obtain ⟨f, hf⟩ : ∃ f, f = l[k] := ⟨_, rfl⟩
      rw [← hf] at r0 r1 r2 r3 r4 r5 hst hse
      obtain ⟨D, hD⟩ : ∃ D, D = runD (l.take k) := ⟨_, rfl⟩
      rw [← hD] at hnum hst hse DO hI
      obtain ⟨es, hes⟩ : ∃ es, es = errsD (l.take k) := ⟨_, rfl⟩
      rw [← hes] at hse hel hI
      have HST := Lib.hid hst
      have HSE := Lib.hid hse
      have HNUM := Lib.hid hnum
      have HEL := Lib.hid hel
      clear hf hD hes hst hse hnum hel
      have hk1 : (k : Int) < (l.length : Int) := by omega
      have hk0 : (0 : Int) ≤ (k : Int) := by omega
      obtain ⟨er, her⟩ : ∃ er, er = errD D f := ⟨_, rfl⟩
      have HER := Lib.hid her
      clear her
      go_upto_if 15 with (fail)
      go_cut [7] from 14 to 24 (fun e wx => e = .int .i64 er ∧ Hid (LW w R B (stepD D f) es v2 wx))
      case first Jx Kx hRJ hMK =>
        by_cases hth : k < 1000
        · obtain ⟨m, hm⟩ : ∃ m, m = max 0 D.last := ⟨_, rfl⟩
          obtain ⟨pb, nb, cb, ps, hbx, _, _⟩ := hI.out.box
          rw [← hm] at hbx
          have CF := Lib.hid (fun X hX => hI.out.file hm DO.out (by rw [HNUM.out]; exact hth) f hbx X hX)
          unfold flAgg at CF
          obtain ⟨b0, b1, b2, _⟩ := hbx.cell
          have hk3 : (k : Int) < 1000 := by omega
          rw [← HER.out] at CF
          clear hI hm hbx
          go_upto_region 8 with (fail)
          go_region_with (go_at_call 28; refine (CF.out _ ?_).mono ?_; (first | exact Below.refl _ _ | exact (Below.refl _ _).drew | exact below_drewN (Below.refl _ _) _); rintro e2 W2 ⟨p2, n2, c2, m2, rfl, t0, t1, t2, tz, hJ2⟩; have x0 := tz 0; have x1 := tz 1; have x2 := tz 2; unfold setBk at hJ2; clear tz)
          all_goals (go_simp; go_step; go_meet; exact ⟨rfl, hJ2⟩)
        · have he : errD D f = 5 := by unfold errD; rw [if_pos (by rw [HNUM.out]; omega)]
          have hJ := Lib.hid (hI.out.stay f (by rw [he]; decide))
          have HE5 := Lib.hid (HER.out.trans he)
          clear hI he
          go_wp2
          go_meet
          exact ⟨by rw [HE5.out], hJ⟩
      case rest =>
        obtain ⟨rfl, hJ⟩ := hcut
        rw [← HER.out] at HSE
        have HO := Lib.hid (show wc.ownsRow w.heap.size 40 1 v2 k (es.map (Value.int .i64)) from by have := hJ.out.out; unfold EOwns at this; rw [HEL.out] at this; exact this)
        have hsz := hJ.out.bel.size
        clear hI
        go_wp2_with (first | (at_builtin; refine wpList_append_own _ rfl _ _ 33 rfl w.heap.size 40 i0 _ 1 8 Tryz.underlying33 hi0 hz0 hz1 hz2 rfl (by decide) _ _ (es.map (Value.int .i64)) rfl (HO.out.alloc _) ⟨wc.heap.size, 0, none⟩ 1 1 [.int .i64 er] rfl rfl (World.news_of_block (World.alloc_heap_new wc _)) (by simp [Value.oneCell']) (by unfold maxLen; omega) (by omega) (by simp; omega) ?_; intro v' w1 hown' hgrow _) | fail)
        have hN := Lib.hid (hJ.out.app _ (e := er) (by unfold EOwns; rw [List.length_append, List.map_append, HEL.out]; exact hown') hgrow)
        rw [← HST.out, ← HSE.out] at hN
        clear hown' hgrow hJ
        go_roundw
        case rel => exact ⟨k + 1, _, by omega, by go_num, rfl, hN⟩
        case measure => simp [intOf]; omega
    · obtain rfl : k = l.length := by omega
      rw [List.take_length] at hI
      obtain ⟨pb, nb, cb, hbx, hE1, hE2⟩ := hI.out.done
      obtain ⟨m, hm⟩ : ∃ m, m = max 0 (runD l).last := ⟨_, rfl⟩
      rw [← hm] at hbx hE1 hE2
      have E1 := Lib.hid hE1
      have E2 := Lib.hid hE2
      obtain ⟨b0, b1, b2, _⟩ := hbx.cell
      obtain ⟨y0, y1, y2, yz⟩ := hI.out.res.cell
      have z0 := yz 0
      have z1 := yz 1
      have z2 := yz 2
      clear hI hbx hE1 hE2 yz hm
      go_wp2
      refine bodyPost_ret (results_cell_row_tmp rfl _ _ R 37 _ (0, 0) _ rfl _ rfl E1.out Tryz.underlying37 rfl (by kernel_rfl)) rfl ?_
      exact E2.out

end Go.Proofs.YtbpoedopdnjffaaGreat

namespace Go.Proofs.YtbpoedopdnjffaaGreat
open Go.RowKit Go.Shelf Sp

/-- What the reference's At hands back. -/
def AtRPost (l : List Fl) (d : Int) (w : World) (e : Ending) (w' : World) : Prop :=
  ∃ p n c ps, e = .returned (.tuple #[.slice p n c, .int .i64 (atErr l d)]) ∧ ps.map Prod.fst = atD l d ∧ CRow w' 0 (.slice p n c) ps ∧ Below w.heap.size w w'

structure TW (w : World) (B base : Nat) (v : Value) (L : List Cs) (d m : Int) (X : World) : Prop where
  box : BkAt X B v d m
  row : ∃ ps, ps.map Prod.fst = L ∧ CRow X base v ps
  bel : Below w.heap.size w X
  lo : w.heap.size ≤ B ∧ w.heap.size ≤ base
theorem TW.later {w X X' : World} {B base : Nat} {v : Value} {L : List Cs} {d m : Int} (h : TW w B base v L d m X) (hb : Below X.heap.size X X') : TW w B base v L d m X' := by
  obtain ⟨ps, h1, h2⟩ := h.row
  exact ⟨h.box.later hb, ⟨ps, h1, h2.later hb⟩, h.bel.trans (hb.mono h.bel.size), h.lo⟩
theorem TW.read {w X : World} {B base : Nat} {v : Value} {L : List Cs} {d m : Int} (h : TW w B base v L d m X) (k : Nat) (hk : k < L.length) :
    ∃ g cap u, v = .slice (some ⟨g, 0, none⟩) L.length cap ∧ base ≤ g ∧ g < X.heap.size ∧ B ≠ g ∧ CaseCells X g (k * 10) L[k] u ∧ Owns X 0 u L[k].held ∧ ∀ j, X.frozen? ⟨g, j, none⟩ = false := by
  obtain ⟨ps, rfl, h2⟩ := h.row
  obtain ⟨g, cap, e1, hb, hlt, ⟨cur, hg⟩, hcc, ho, hz⟩ := h2.read k (by simpa using hk)
  exact ⟨g, cap, ps[k]'(by simpa using hk) |>.2, by rw [List.length_map]; exact e1, hb, hlt, h.box.not_case hg, by simpa using hcc, by simpa using ho, hz⟩
theorem TW.store9 {w X : World} {B base : Nat} {L : List Cs} {d m : Int} {g n cap : Nat} (h : TW w B base (.slice (some ⟨g, 0, none⟩) n cap) L d m X) {k : Nat} (hk : k < L.length) (l : Sps) (u : Value) (ho : Owns X 0 u l) :
    TW w B base (.slice (some ⟨g, 0, none⟩) n cap) (L.set k { L[k] with held := l }) d m (X.setCell ⟨g, k * 10 + 9, none⟩ u) := by
  obtain ⟨ps, rfl, h2⟩ := h.row
  have hk' : k < ps.length := by simpa using hk
  obtain ⟨g', cap', e1, hb, hlt, ⟨cur, hg⟩, _⟩ := h2.read k hk'
  injection e1 with e1
  injection e1 with e1
  injection e1 with e1
  subst e1
  have b := (But.refl g X).set_ (k * 10 + 9) u
  exact ⟨h.box.but b (h.box.not_case hg), ⟨_, by rw [List.map_set, List.getElem_map], h2.store9 rfl hk' l u ho⟩, b.belowOf h.bel h.bel.size (Nat.le_trans h.lo.2 hb), h.lo⟩

/-- One case's running hold is written out. -/
theorem TW.end_ {w wr : World} {B base : Nat} {K : List Cs} {d m : Int} {k : Nat} {g n cap : Nat} (h : TW w B base (.slice (some ⟨g, 0, none⟩) n cap) (midA K d k) d m wr) (hk : k < K.length) (ok : ∀ c ∈ K, c.Ok) {u : Value} (ho : Owns wr 0 u (passP K[k] d).held) (hc0 : CaseCells wr g (k * 10) (passP K[k] d) u) (hh : (passP K[k] d).hold = true) (X : World) (hX : Below wr.heap.size wr X) :
    Calls Tryz.prog 32 #[csAgg (passP K[k] d) u, .int .i64 (d + 1)] X fun e2 W2 => ∃ c' p2 n2 k2, e2 = .returned (csAgg c' (.slice p2 n2 k2)) ∧ W2.cell? ⟨B, 0, none⟩ = some (.slice (some ⟨g, 0, none⟩) n cap) ∧ (∀ j, W2.frozen? ⟨g, j, none⟩ = false) ∧ Hid (CaseCells W2 g (k * 10) (passP K[k] d) u) ∧ Hid (TW w B base (.slice (some ⟨g, 0, none⟩) n cap) (midA K d (k + 1)) d m (W2.setCell ⟨g, k * 10 + 9, none⟩ (.slice p2 n2 k2))) := by
  have okc := passP_ok (ok _ (List.getElem_mem hk)) d
  refine (endR_any (passP K[k] d) (d + 1) u X (ho.later hX) okc.h).mono ?_
  rintro e2 W2 ⟨u2, rfl, ho2, hb⟩
  rw [endHoldP_held hh] at ho2
  obtain ⟨p2, k2, rfl, _⟩ := ho2.form
  have hb2 : Below wr.heap.size wr W2 := below_next hX hb
  have h2 := h.later hb2
  have hk' : k < (midA K d k).length := by rw [midA_length]; exact hk
  obtain ⟨g', cap', u', e1, _, hgl, _, hcc, _, hz⟩ := h2.read k hk'
  injection e1 with e1
  injection e1 with e1
  injection e1 with e1
  subst e1
  have h3 := h2.store9 hk' (heldP (passP K[k] d) (d + 1)) _ ho2
  rw [midA_get K d k hk hk', show ({ passP K[k] d with held := heldP (passP K[k] d) (d + 1) } : Cs) = atP K[k] d from rfl, midA_set K d k hk] at h3
  exact ⟨_, p2, _, k2, rfl, h2.box.cell.1, hz, Lib.hid (hc0.below hb2), Lib.hid h3⟩

theorem atErr_max {l : List Fl} {d : Int} (h : 0 ≤ d ∧ d ≤ 65535) (h2 : d < max 0 (runD l).last) : atErr l d = 400 := atErr_day h (by omega)
theorem atErr_ok2 {l : List Fl} {d : Int} (h : 0 ≤ d ∧ d ≤ 65535) (h2 : max 0 (runD l).last ≤ d) : atErr l d = 0 := atErr_ok h (by omega)

theorem AllPost.box {w W1 : World} {p : Option Addr} {n c : Nat} {ps : List (Cs × Value)} (h2 : CRow W1 0 (.slice p n c) ps) (h3 : Below w.heap.size w W1) {m : Int} :
    BkAt (W1.alloc (.cells #[.slice p n c, .int .i64 m, .int .i64 m] 37)) W1.heap.size (.slice p n c) m m ∧ CRow (W1.alloc (.cells #[.slice p n c, .int .i64 m, .int .i64 m] 37)) 0 (.slice p n c) ps ∧ Below w.heap.size w (W1.alloc (.cells #[.slice p n c, .int .i64 m, .int .i64 m] 37)) :=
  ⟨World.alloc_heap_new W1 _, h2.later ((Below.refl _ _).alloc (Nat.le_refl _) _), h3.alloc h3.size _⟩

set_option maxHeartbeats 4000000 in
set_option maxRecDepth 100000 in
theorem atR_any (l : List Fl) (d : Int) (p : Option Addr) (cap : Nat) (w : World) (hc : FCells w p l) (hl : l.length ≤ 100000) :
    Calls Tryz.prog 15 #[.slice p l.length cap, .int .i64 d] w (AtRPost l d w) := by
  have CA := Lib.hid (allR_any l p cap w hc hl)
  have DO := Lib.hid (runD_ok l)
  have hlen := DO.out.len
  obtain ⟨m, hm⟩ : ∃ m, m = max 0 (runD l).last := ⟨_, rfl⟩
  unfold AllPost at CA
  rw [← hm] at CA
  have HM := Lib.hid hm
  have hm0 : 0 ≤ m ∧ m ≤ 65535 := by have := DO.out.last; omega
  clear hc hm
  by_cases hd : 0 ≤ d ∧ d ≤ 65535
  · by_cases h2 : d < m
    · have HE := Lib.hid (atErr_max (l := l) hd (by rw [← HM.out]; exact h2))
      have HX := Lib.hid (show atD l d = [] by unfold atD; rw [HE.out, if_neg (by decide)])
      go_enter Tryz.func15, Tryz.ntmps15
      go_wp2_with fail
      refine CA.out.mono ?_
      rintro e W1 ⟨p1, n1, c1, ps, v2, rfl, hps, hrow, _, hb⟩
      have HB := Lib.hid (hb.alloc hb.size (.cells #[.slice p1 n1 c1, .int .i64 m, .int .i64 m] 37))
      clear hps hrow hb
      go_wp2
      go_ret2
      exact ⟨none, 0, 0, [], ret_err HE.out.symm, by rw [HX.out]; rfl, CRow.nil _ _, HB.out⟩
    · have HE := Lib.hid (atErr_ok2 (l := l) hd (by rw [← HM.out]; omega))
      have HX := Lib.hid (show atD l d = (runD l).cs.map fun c => atP c d by unfold atD; rw [HE.out, if_pos rfl])
      have CP := Lib.hid (fun (v : Value) ps X (hr : CRow X 0 v ps) (hp : ps.map Prod.fst = bkCs (runD l)) => passR_any (runD l).cs m m d v ps X hr (by rw [hp, HM.out]; rfl) DO.out.cs hlen hm0.1 (by omega) hd.2)
      obtain ⟨K, hK⟩ : ∃ K, K = (runD l).cs := ⟨_, rfl⟩
      rw [← hK] at HX CP hlen
      have OK := Lib.hid (show ∀ c ∈ K, c.Ok by rw [hK]; exact DO.out.cs)
      obtain ⟨n, hn⟩ : ∃ n, n = K.length := ⟨_, rfl⟩
      have HN := Lib.hid hn
      rw [← hn] at hlen
      clear hK DO hn
      go_enter Tryz.func15, Tryz.ntmps15
      go_wp2_with fail
      refine CA.out.mono ?_
      rintro e W1 ⟨p1, n1, c1, ps, v2, rfl, hps, hrow, _, hb⟩
      obtain ⟨a1, a2, a3⟩ := AllPost.box hrow hb (m := m)
      go_upto_region 2 with (fail)
      generalize hB : W1.heap.size = B
      generalize hX : World.alloc W1 _ = X
      rw [hX, hB] at a1
      rw [hX] at a2 a3
      have hBw : w.heap.size ≤ B := by rw [← hB]; exact hb.size
      obtain ⟨b0, b1, b2, _⟩ := a1.cell
      have A1 := Lib.hid a1
      have A3 := Lib.hid a3
      have C1 := Lib.hid (CP.out _ ps X a2 hps)
      clear hps hrow hb a1 a2 a3 hX hB CP CA
      go_wp2_with fail
      refine C1.out.mono ?_
      rintro e W2 ⟨v3, ps3, rfl, hps3, hrow3, hb3⟩
      have hn3 : ps3.length = n := by rw [HN.out]; simpa using congrArg List.length hps3
      obtain ⟨p3, c3, rfl, _⟩ := hrow3.form
      rw [hn3] at hrow3 ⊢
      have a4 := A1.out.later hb3
      obtain ⟨b0, b1, b2, bz⟩ := a4.cell
      have z0 := bz 0
      have z1 := bz 1
      have z2 := bz 2
      have bsz := A3.out.size
      have HT := Lib.hid (show TW w B X.heap.size (.slice p3 n c3) (midA K d 0) d m (setBk W2 B (.slice p3 n c3) d m) from by
        have b := setBk_but W2 B (.slice p3 n c3) d m
        exact ⟨setBk_at a4, ⟨ps3, by rw [hps3, midA_zero], hrow3.butBk a4 b⟩, b.belowOf (below_next A3.out hb3) (Nat.le_trans A3.out.size hb3.size) hBw, hBw, A3.out.size⟩)
      unfold setBk at HT
      clear a4 bz hps3 hrow3 hb3 hn3 C1 A1
      go_wp2
      go_loopw [8] (fun i wr => ∃ k : Nat, k ≤ n ∧ i = .int .i64 k ∧ Hid (TW w B X.heap.size (.slice p3 n c3) (midA K d k) d m wr)) (fun i _ => n - (intOf i).toNat)
      case atStart => exact ⟨0, by omega, rfl, HT⟩
      case round =>
        obtain ⟨k, hk, rfl, hI⟩ := hrel
        clear HT b0 b1 b2 z0 z1 z2
        obtain ⟨b0, b1, b2, _⟩ := hI.out.box.cell
        by_cases hkl : k < n
        · have hkK : k < K.length := by rw [← HN.out]; exact hkl
          obtain ⟨g, cap', u, hv, hg1, hg2, hBg, hcc, ho, hz⟩ := hI.out.read k (by rw [midA_length]; exact hkK)
          rw [midA_get K d k hkK] at hcc ho
          injection hv with hv1 hv2 hv3
          subst hv1
          obtain ⟨pu, cu, rfl, _⟩ := ho.form
          have hk0 : (0 : Int) ≤ (k : Int) := by omega
          have hk1 : (k : Int) < (n : Int) := by omega
          cases hh : (passP K[k] d).hold with
          | false =>
            have hN := Lib.hid (show TW w B X.heap.size (.slice (some ⟨g, 0, none⟩) n c3) (midA K d (k + 1)) d m wr by rw [← midA_off K d k hkK hh]; exact hI.out)
            obtain ⟨r0, r1, r2, r3, r4, r5, r6, r7, r8, r9⟩ := hcc
            rw [hh] at r7
            clear hI ho hv2 hv3 hz hh
            go_wp2
            go_roundw
            case rel => exact ⟨k + 1, by omega, by go_num, hN⟩
            case measure => simp [intOf]; omega
          | true =>
            have CE := Lib.hid (fun Y hY => hI.out.end_ hkK OK.out ho hcc hh Y hY)
            have hw1 : IntKind.i64.wrap (d + 1) = d + 1 := IntWalk.i64_in _ (by omega)
            have hfl := run_field9
            obtain ⟨c, hc⟩ : ∃ c, c = passP K[k] d := ⟨_, rfl⟩
            rw [← hc] at CE hcc hh
            unfold csAgg at CE
            obtain ⟨r0, r1, r2, r3, r4, r5, r6, r7, r8, r9⟩ := hcc
            rw [hh] at r7 CE
            clear hI ho hv2 hv3 hz hh hc
            go_upto_region 11 with (fail)
            go_region_with (go_at_call 32; refine (CE.out _ ?_).mono ?_; (first | exact Below.refl _ _ | exact (Below.refl _ _).drew | exact below_drewN (Below.refl _ _) _); rintro e2 W5 ⟨c', p5, n5, k5, rfl, t0, tz, tc, hJ2⟩; have x9 := tz (k * 10 + 9); obtain ⟨s0, s1, s2, s3, s4, s5, s6, s7, s8, s9⟩ := tc.out; clear tz tc)
            all_goals (go_wp2; go_roundw; (case rel => exact ⟨k + 1, by omega, by go_num, hJ2⟩); (case measure => simp [intOf]; omega))
        · obtain rfl : k = n := by omega
          have E := Lib.hid (show AtRPost l d w (.returned (.tuple #[.slice p3 k c3, .int .i64 0])) wr from by
            obtain ⟨ps5, q1, q2⟩ := hI.out.row
            exact ⟨p3, k, c3, ps5, ret_err HE.out.symm, by rw [q1, HX.out, HN.out, midA_full], q2.low0, hI.out.bel⟩)
          clear hI
          go_wp2
          go_ret2
          exact E.out
  · have HE := Lib.hid (atErr_bad (l := l) hd)
    have HX := Lib.hid (show atD l d = [] by unfold atD; rw [HE.out, if_neg (by decide)])
    by_cases hd0 : d < 0
    · clear hd
      go_enter Tryz.func15, Tryz.ntmps15
      go_wp2_with fail
      refine CA.out.mono ?_
      rintro e W1 ⟨p1, n1, c1, ps, v2, rfl, hps, hrow, _, hb⟩
      have HB := Lib.hid (hb.alloc hb.size (.cells #[.slice p1 n1 c1, .int .i64 m, .int .i64 m] 37))
      clear hps hrow hb
      go_wp2
      go_ret2
      exact ⟨none, 0, 0, [], ret_err HE.out.symm, by rw [HX.out]; rfl, CRow.nil _ _, HB.out⟩
    · have hd1 : 65536 ≤ d := by omega
      clear hd
      go_enter Tryz.func15, Tryz.ntmps15
      go_wp2_with fail
      refine CA.out.mono ?_
      rintro e W1 ⟨p1, n1, c1, ps, v2, rfl, hps, hrow, _, hb⟩
      have HB := Lib.hid (hb.alloc hb.size (.cells #[.slice p1 n1 c1, .int .i64 m, .int .i64 m] 37))
      clear hps hrow hb
      go_wp2
      go_ret2
      exact ⟨none, 0, 0, [], ret_err HE.out.symm, by rw [HX.out]; rfl, CRow.nil _ _, HB.out⟩

end Go.Proofs.YtbpoedopdnjffaaGreat

namespace Go.Proofs.YtbpoedopdnjffaaGreat
open Go.RowKit Go.Shelf Sp

theorem runD_none (l : List Fl) : (runD l).last < 0 → (runD l).cs = [] := by
  refine dk_ind (P := fun D => D.last < 0 → D.cs = []) (fun _ => rfl) (fun D f _ _ h hl => ?_) l
  by_cases he : errD D f = 0
  · rw [stepD_yes he] at hl
    have := (errD_ok he).2.2.1.day
    dsimp only at hl
    omega
  · rw [stepD_no he] at hl ⊢
    exact h hl
theorem heldR_no1 {l : List Fl} {n d : Int} (h : ¬ (1 ≤ n ∧ n ≤ (runD l).cs.length)) : heldD l n d = false := heldD_no (.inl h)
theorem heldR_no2 {l : List Fl} {n d : Int} (h : ¬ max d (max 0 (runD l).last) ≤ 65535) : heldD l n d = false := by
  have := (runD_ok l).last
  exact heldD_no (.inr (by omega))
theorem heldR_yes {l : List Fl} {k : Nat} {d x : Int} (hk : k < (runD l).cs.length) (hx : x = max d (max 0 (runD l).last)) (hd : x ≤ 65535) : heldD l ((k : Int) + 1) d = mem (atP ((runD l).cs[k]'hk) x).held d := by
  have h0 : ¬ (runD l).last < 0 := fun h => by
    rw [runD_none l h] at hk
    simp at hk
  have e : x = max d (runD l).last := by omega
  rw [heldD_yes hk (by omega), ← e]
theorem atD_ok {l : List Fl} {x : Int} (hx : max 0 (runD l).last ≤ x) (h : x ≤ 65535) : atErr l x = 0 ∧ atD l x = (runD l).cs.map fun c => atP c x := by
  have e := atErr_ok2 (l := l) (d := x) (by omega) hx
  exact ⟨e, by unfold atD; rw [e, if_pos rfl]⟩

set_option maxHeartbeats 4000000 in
set_option maxRecDepth 100000 in
theorem heldR_any (l : List Fl) (n d : Int) (p : Option Addr) (cap : Nat) (w : World) (hc : FCells w p l) (hl : l.length ≤ 100000) :
    Calls Tryz.prog 25 #[.slice p l.length cap, .int .i64 n, .int .i64 d] w fun e w' => e = .returned (.bool (heldD l n d)) ∧ Below w.heap.size w w' := by
  have CA := Lib.hid (allR_any l p cap w hc hl)
  have HC := Lib.hid hc
  have DO := Lib.hid (runD_ok l)
  have hlen := DO.out.len
  obtain ⟨m, hm⟩ : ∃ m, m = max 0 (runD l).last := ⟨_, rfl⟩
  unfold AllPost at CA
  rw [← hm] at CA
  have HM := Lib.hid hm
  have hm0 : 0 ≤ m ∧ m ≤ 65535 := by have := DO.out.last; omega
  obtain ⟨x, hx⟩ : ∃ x, x = max d m := ⟨_, rfl⟩
  have hmx : (if d < m then m else d) = x := by rw [hx]; split <;> omega
  have HX := Lib.hid hx
  have hx0 : m ≤ x := by omega
  have CT := Lib.hid (fun W h => atR_any l x p cap W h hl)
  unfold AtRPost at CT
  clear hc hm hx
  by_cases hd : x ≤ 65535
  · have AO := atD_ok (l := l) (x := x) (by rw [← HM.out]; exact hx0) hd
    rw [AO.1, AO.2] at CT
    clear AO
    obtain ⟨K, hK⟩ : ∃ K, K = (runD l).cs := ⟨_, rfl⟩
    rw [← hK] at CT hlen
    have HK := Lib.hid hK
    obtain ⟨nn, hnn⟩ : ∃ nn, nn = K.length := ⟨_, rfl⟩
    have HN := Lib.hid hnn
    rw [← hnn] at hlen
    clear hK hnn
    by_cases hn1 : n < 1
    · have HR := Lib.hid (show heldD l n d = false from heldR_no1 (by omega))
      go_enter Tryz.func25, Tryz.ntmps25
      go_wp2_with fail
      refine CA.out.mono ?_
      rintro e W1 ⟨p1, n1, c1, ps, v2, rfl, _, _, _, hb⟩
      have HB := Lib.hid (hb.alloc hb.size (.cells #[.slice p1 n1 c1, .int .i64 m, .int .i64 m] 37))
      clear hb
      go_wp2_with fail
      refine (CT.out _ (HC.out.below HB.out)).mono ?_
      rintro e W2 ⟨p3, n3, c3, ps3, rfl, hps3, hrow3, hb3⟩
      have HB2 := Lib.hid (below_next HB.out hb3)
      clear hps3 hrow3 hb3
      go_wp2
      go_ret
      exact ⟨ret_bool HR.out.symm, HB2.out⟩
    · by_cases hn2 : (nn : Int) < n
      · have HR := Lib.hid (show heldD l n d = false from heldR_no1 (by rw [← HK.out, ← HN.out]; omega))
        go_enter Tryz.func25, Tryz.ntmps25
        go_wp2_with fail
        refine CA.out.mono ?_
        rintro e W1 ⟨p1, n1, c1, ps, v2, rfl, _, _, _, hb⟩
        have HB := Lib.hid (hb.alloc hb.size (.cells #[.slice p1 n1 c1, .int .i64 m, .int .i64 m] 37))
        clear hb
        go_wp2_with fail
        refine (CT.out _ (HC.out.below HB.out)).mono ?_
        rintro e W2 ⟨p3, n3, c3, ps3, rfl, hps3, hrow3, hb3⟩
        have HB2 := Lib.hid (below_next HB.out hb3)
        have hn3 : ps3.length = nn := by rw [HN.out]; simpa using congrArg List.length hps3
        obtain ⟨p4, c4, e4, _⟩ := hrow3.form
        rw [hn3] at e4
        injection e4 with e4 e5 e6
        subst e4 e5 e6
        clear hps3 hrow3 hb3
        go_wp2
        go_ret
        exact ⟨ret_bool HR.out.symm, HB2.out⟩
      · obtain ⟨k, rfl⟩ : ∃ k : Nat, n = (k : Int) + 1 := ⟨(n - 1).toNat, by omega⟩
        have hkl : k < nn := by omega
        have hkK : k < K.length := by rw [← HN.out]; exact hkl
        have HR := Lib.hid (show heldD l ((k : Int) + 1) d = mem (atP (K[k]'hkK) x).held d from by
          have e := heldR_yes (l := l) (k := k) (d := d) (x := x) (by rw [← HK.out]; exact hkK) (by rw [← HM.out]; exact HX.out) hd
          rw [e]
          simp only [HK.out])
        have HL14 := Lib.hid (show (atP (K[k]'hkK) x).held.length ≤ 14 from Nat.le_trans (heldP_len (passP_ok (DO.out.cs _ (by rw [← HK.out]; exact List.getElem_mem hkK)) x) _) hb_max)
        have hk0 : (0 : Int) ≤ (k : Int) := by omega
        have hk1 : (k : Int) < (nn : Int) := by omega
        have hk2 : (k : Int) + 1 - 1 = (k : Int) := by omega
        have hk3 : decide ((nn : Int) < (k : Int) + 1) = false := by simp; omega
        go_enter Tryz.func25, Tryz.ntmps25
        go_wp2_with fail
        refine CA.out.mono ?_
        rintro e W1 ⟨p1, n1, c1, ps, v2, rfl, _, _, _, hb⟩
        have HB := Lib.hid (hb.alloc hb.size (.cells #[.slice p1 n1 c1, .int .i64 m, .int .i64 m] 37))
        clear hb
        go_wp2_with fail
        refine (CT.out _ (HC.out.below HB.out)).mono ?_
        rintro e W2 ⟨p3, n3, c3, ps3, rfl, hps3, hrow3, hb3⟩
        have HB2 := Lib.hid (below_next HB.out hb3)
        have hn3 : ps3.length = nn := by rw [HN.out]; simpa using congrArg List.length hps3
        have hkp : k < ps3.length := by omega
        obtain ⟨g, c4, e4, _, _, _, hcc, ho, _⟩ := hrow3.read k hkp
        rw [hn3] at e4
        injection e4 with e4 e5 e6
        subst e4 e5 e6
        have hc : (ps3[k]'hkp).1 = atP (K[k]'hkK) x := by
          have h9 := List.getElem_of_eq hps3 (i := k) (by rw [List.length_map]; exact hkp)
          rw [List.getElem_map, List.getElem_map] at h9
          exact h9
        rw [hc] at hcc ho
        obtain ⟨c, hcx⟩ : ∃ c, c = atP (K[k]'hkK) x := ⟨_, rfl⟩
        rw [← hcx] at hcc ho HR HL14
        obtain ⟨hl2, hhl⟩ : ∃ hl2, hl2 = c.held := ⟨_, rfl⟩
        obtain ⟨pu, cu, e7, hcl⟩ := ho.form
        rw [e7] at hcc
        rw [← hhl] at hcl hcc HR HL14
        have hl14 := HL14.out
        obtain ⟨r0, r1, r2, r3, r4, r5, r6, r7, r8, r9⟩ := hcc
        have HCL := Lib.hid hcl
        clear hps3 hrow3 hb3 hc ho hcx hhl e7 hcl hn3
        go_wp2
        go_loopw [11] (fun i wr => ∃ j : Nat, j ≤ hl2.length ∧ i = .int .i64 j ∧ mem (hl2.take j) d = false ∧ W2 = wr) (fun i _ => hl2.length - (intOf i).toNat)
        case atStart => exact ⟨0, by omega, rfl, rfl, rfl⟩
        case round =>
          obtain ⟨j, hj, rfl, hmem, rfl⟩ := hrel
          by_cases hjl : j < hl2.length
          · obtain ⟨b, off, hpu, hbl, xx, yy, hxy, s1, s2⟩ := HCL.out.at j hjl
            subst hpu
            have hst := take_succ_snoc hjl
            rw [hxy] at hst
            have hms : mem (hl2.take (j + 1)) d = (decide (xx ≤ d) && decide (d < yy)) := by
              rw [hst, mem_append, hmem, mem_cons, mem_nil, Bool.or_false, Bool.false_or]
            have hall : mem hl2 d = (mem (hl2.take (j + 1)) d || mem (hl2.drop (j + 1)) d) := by rw [← mem_append, List.take_append_drop]
            have hj0 : (0 : Int) ≤ (j : Int) := by omega
            have hj1 : (j : Int) < (hl2.length : Int) := by omega
            by_cases hx1 : xx ≤ d
            · by_cases hy1 : d < yy
              · have HT := Lib.hid (show true = heldD l ((k : Int) + 1) d by rw [HR.out, hall, hms]; simp [hx1, hy1])
                clear hmem hst hms hall hxy
                go_wp2
                go_ret
                exact ⟨ret_bool HT.out, HB2.out⟩
              · have HT := Lib.hid (show mem (hl2.take (j + 1)) d = false by rw [hms]; simp [hy1])
                clear hmem hst hms hall hxy
                go_wp2
                go_roundw
                case rel => exact ⟨j + 1, by omega, by go_num, HT.out, by trivial⟩
                case measure => simp [intOf]; omega
            · have HT := Lib.hid (show mem (hl2.take (j + 1)) d = false by rw [hms]; simp [hx1])
              clear hmem hst hms hall hxy
              go_wp2
              go_roundw
              case rel => exact ⟨j + 1, by omega, by go_num, HT.out, by trivial⟩
              case measure => simp [intOf]; omega
          · obtain rfl : j = hl2.length := by omega
            rw [List.take_length] at hmem
            have HT := Lib.hid (show false = heldD l ((k : Int) + 1) d by rw [HR.out, hmem])
            clear hmem
            go_wp2
            go_ret
            exact ⟨ret_bool HT.out, HB2.out⟩
  · have HR := Lib.hid (show heldD l n d = false from heldR_no2 (by rw [← HM.out, ← HX.out]; exact hd))
    have HE := Lib.hid (atErr_bad (l := l) (d := x) (by omega))
    rw [HE.out] at CT
    have hxd : x = d := by have := HX.out; omega
    subst hxd
    clear hmx
    go_enter Tryz.func25, Tryz.ntmps25
    go_wp2_with fail
    refine CA.out.mono ?_
    rintro e W1 ⟨p1, n1, c1, ps, v2, rfl, _, _, _, hb⟩
    have HB := Lib.hid (hb.alloc hb.size (.cells #[.slice p1 n1 c1, .int .i64 m, .int .i64 m] 37))
    clear hb
    go_wp2_with fail
    refine (CT.out _ (HC.out.below HB.out)).mono ?_
    rintro e W2 ⟨p3, n3, c3, ps3, rfl, hps3, hrow3, hb3⟩
    have HB2 := Lib.hid (below_next HB.out hb3)
    clear hps3 hrow3 hb3
    go_wp2
    go_ret
    exact ⟨ret_bool HR.out.symm, HB2.out⟩

end Go.Proofs.YtbpoedopdnjffaaGreat

namespace Go.Proofs.YtbpoedopdnjffaaGreat
open Go.RowKit Go.Shelf Sp

/-- A case in a box of one's own, passing day by day. -/
structure SW (w : World) (C : Nat) (c : Cs) (X : World) : Prop where
  at_ : ∃ p n k, CsAt X C c (.slice p n k) ∧ Owns X 0 (.slice p n k) c.held
  bel : Below w.heap.size w X
  lo : w.heap.size ≤ C
theorem SW.new {w X : World} {C : Nat} {c : Cs} {p : Option Addr} {n k : Nat} (ho : Owns X 0 (.slice p n k) c.held) (hb : Below w.heap.size w X) (hC : X.heap.size = C) :
    SW w C c (X.alloc (.cells #[.bool c.el, .int .u8 c.st, .int .i64 c.opened, .int .i64 c.days, .int .i64 c.choice, .int .i64 c.level, .int .i64 c.due, .bool c.hold, .int .i64 c.since, .slice p n k] 52)) := by
  subst hC
  exact ⟨⟨p, n, k, World.alloc_heap_new X _, World.ownsRow.alloc ho _⟩, hb.alloc hb.size _, hb.size⟩
/-- A morning of the case in the box. -/
theorem SW.morn {w wr : World} {C : Nat} {c0 : Cs} {e : Int} (ok : c0.Ok) (h : SW w C (passP c0 e) wr) (he0 : 0 ≤ e) (he1 : e ≤ 66302) {p : Option Addr} {n k : Nat} (ha : CsAt wr C (passP c0 e) (.slice p n k)) (ho : Owns wr 0 (.slice p n k) (passP c0 e).held) :
    Calls Tryz.prog 39 #[csAgg (passP c0 e) (.slice p n k), .int .i64 (e + 1)] wr fun e2 W2 => ∃ p2 n2 k2, e2 = .returned (csAgg (passP c0 (e + 1)) (.slice p2 n2 k2)) ∧ CsAt W2 C (passP c0 e) (.slice p n k) ∧ Hid (SW w C (passP c0 (e + 1)) (setCase W2 C 0 (passP c0 (e + 1)) (.slice p2 n2 k2))) := by
  refine (morningR_any (passP c0 e) (e + 1) _ wr ho (passP_ok ok e) (by omega) (by omega)).mono ?_
  rintro e2 W2 ⟨u2, rfl, ho2, hb⟩
  rw [morn_pass ok] at ho2 ⊢
  obtain ⟨p2, k2, rfl, _⟩ := ho2.form
  have h2 := ha.later hb
  obtain ⟨cur, hc1, hc2⟩ := setCase_row (i := 0) (passP c0 (e + 1)) (.slice p2 _ k2) h2
  have b2 := setCase_but W2 C 0 (passP c0 (e + 1)) (.slice p2 (passP c0 (e + 1)).held.length k2)
  have hcur : cur = #[.bool (passP c0 (e + 1)).el, .int .u8 (passP c0 (e + 1)).st, .int .i64 (passP c0 (e + 1)).opened, .int .i64 (passP c0 (e + 1)).days, .int .i64 (passP c0 (e + 1)).choice, .int .i64 (passP c0 (e + 1)).level, .int .i64 (passP c0 (e + 1)).due, .bool (passP c0 (e + 1)).hold, .int .i64 (passP c0 (e + 1)).since, .slice p2 (passP c0 (e + 1)).held.length k2] := by
    apply Array.toList_inj.1
    rw [hc2]; rfl
  rw [hcur] at hc1
  have hbb : Below w.heap.size w W2 := h.bel.trans (hb.mono h.bel.size)
  exact ⟨p2, _, k2, rfl, h2, Lib.hid ⟨⟨p2, _, k2, hc1, Owns.butCase h2 b2 ho2⟩, b2.belowOf hbb hbb.size h.lo, h.lo⟩⟩

set_option maxHeartbeats 4000000 in
set_option maxRecDepth 100000 in
theorem settlesR_any (l : List Fl) (n : Int) (p : Option Addr) (cap : Nat) (w : World) (hc : FCells w p l) (hl : l.length ≤ 100000) :
    Calls Tryz.prog 24 #[.slice p l.length cap, .int .i64 n] w fun e w' => e = .returned (.tuple #[.int .i64 (setlD l n).1, .bool (setlD l n).2]) ∧ Below w.heap.size w w' := by
  have CA := Lib.hid (allR_any l p cap w hc hl)
  have DO := Lib.hid (runD_ok l)
  have hlen := DO.out.len
  obtain ⟨m, hm⟩ : ∃ m, m = max 0 (runD l).last := ⟨_, rfl⟩
  unfold AllPost at CA
  have hbk : bkCs (runD l) = (runD l).cs.map fun c => passP c m := by unfold bkCs; rw [← hm]
  rw [← hm, hbk] at CA
  have hm0 : 0 ≤ m ∧ m ≤ 65535 := by have := DO.out.last; omega
  obtain ⟨K, hK⟩ : ∃ K, K = (runD l).cs := ⟨_, rfl⟩
  rw [← hK] at CA hlen
  have HK := Lib.hid hK
  have OK := Lib.hid (show ∀ c ∈ K, c.Ok by rw [hK]; exact DO.out.cs)
  obtain ⟨nn, hnn⟩ : ∃ nn, nn = K.length := ⟨_, rfl⟩
  have HN := Lib.hid hnn
  rw [← hnn] at hlen
  clear hc hm hbk hK hnn DO
  by_cases hn1 : n < 1
  · have HR := Lib.hid (setlD_no (l := l) (n := n) (by omega))
    go_enter Tryz.func24, Tryz.ntmps24
    go_wp2_with fail
    refine CA.out.mono ?_
    rintro e W1 ⟨p1, n1, c1, ps, v2, rfl, _, _, _, hb⟩
    have HB := Lib.hid (hb.alloc hb.size (.cells #[.slice p1 n1 c1, .int .i64 m, .int .i64 m] 37))
    clear hb
    go_wp2
    go_ret2
    exact ⟨ret_two (by rw [HR.out]; rfl) (by rw [HR.out]; rfl), HB.out⟩
  · by_cases hn2 : (nn : Int) < n
    · have HR := Lib.hid (setlD_no (l := l) (n := n) (by rw [← HK.out, ← HN.out]; omega))
      go_enter Tryz.func24, Tryz.ntmps24
      go_wp2_with fail
      refine CA.out.mono ?_
      rintro e W1 ⟨p1, n1, c1, ps, v2, rfl, hps, hrow, _, hb⟩
      have hn3 : ps.length = nn := by rw [HN.out]; simpa using congrArg List.length hps
      obtain ⟨p4, c4, e4, _⟩ := hrow.form
      rw [hn3] at e4
      injection e4 with e4 e5 e6
      subst e4 e5 e6
      have HB := Lib.hid (hb.alloc hb.size (.cells #[.slice p1 n1 c1, .int .i64 m, .int .i64 m] 37))
      clear hb hps hrow hn3
      go_wp2
      go_ret2
      exact ⟨ret_two (by rw [HR.out]; rfl) (by rw [HR.out]; rfl), HB.out⟩
    · obtain ⟨k, rfl⟩ : ∃ k : Nat, n = (k : Int) + 1 := ⟨(n - 1).toNat, by omega⟩
      have hkl : k < nn := by omega
      have hkK : k < K.length := by rw [← HN.out]; exact hkl
      have HR := Lib.hid (show setlD l ((k : Int) + 1) = ((setlP (K[k]'hkK)).due, true) from by
        have e := setlD_yes (l := l) (k := k) (by rw [← HK.out]; exact hkK)
        rw [e]
        simp only [HK.out])
      have OKC := Lib.hid (OK.out _ (List.getElem_mem hkK))
      have hk0 : (0 : Int) ≤ (k : Int) := by omega
      have hk1 : (k : Int) < (nn : Int) := by omega
      have hk2 : (k : Int) + 1 - 1 = (k : Int) := by omega
      have hk3 : decide ((nn : Int) < (k : Int) + 1) = false := by simp; omega
      go_enter Tryz.func24, Tryz.ntmps24
      go_wp2_with fail
      refine CA.out.mono ?_
      rintro e W1 ⟨p1, n1, c1, ps, v2, rfl, hps, hrow, _, hb⟩
      have hn3 : ps.length = nn := by rw [HN.out]; simpa using congrArg List.length hps
      have hkp : k < ps.length := by omega
      obtain ⟨a1, a2, a3⟩ := AllPost.box hrow hb (m := m)
      go_upto_region 2 with (fail)
      generalize hB : W1.heap.size = B
      generalize hX : World.alloc W1 _ = X
      rw [hX, hB] at a1
      rw [hX] at a2 a3
      obtain ⟨b0, b1, b2, _⟩ := a1.cell
      obtain ⟨g, c4, e4, _, hg2, _, hcc, ho, hz⟩ := a2.read k hkp
      rw [hn3] at e4
      injection e4 with e4 e5 e6
      subst e4 e5 e6
      have hBX : B ≠ X.heap.size := Nat.ne_of_lt a1.lt
      have hgX : g ≠ X.heap.size := by omega
      have hc : (ps[k]'hkp).1 = passP (K[k]'hkK) m := by
        have h9 := List.getElem_of_eq hps (i := k) (by rw [List.length_map]; exact hkp)
        rw [List.getElem_map, List.getElem_map] at h9
        exact h9
      rw [hc] at hcc ho
      obtain ⟨c0, hc0⟩ : ∃ c0, c0 = K[k]'hkK := ⟨_, rfl⟩
      rw [← hc0] at hcc ho HR OKC
      obtain ⟨pu, cu, e7, hcl⟩ := ho.form
      rw [e7] at hcc ho
      obtain ⟨r0, r1, r2, r3, r4, r5, r6, r7, r8, r9⟩ := hcc
      have HO := Lib.hid ho
      have A3 := Lib.hid a3
      clear hps hrow hb hn3 a1 a2 a3 hX hB hc hc0 e7 hcl ho hz
      go_upto_region 5 with (fail)
      generalize hC : X.heap.size = C
      generalize hY : World.alloc X _ = Y
      have S0 := Lib.hid (show SW w C (passP c0 m) Y by rw [← hY]; exact SW.new HO.out A3.out hC)
      have b1' : Y.cell? ⟨B, 1, none⟩ = some (.int .i64 m) := by
        rw [← hY]
        exact (((Below.refl _ X).alloc (Nat.le_refl _) _).cell (p := ⟨B, 1, none⟩) (World.block_lt_of_cell? X _ b1)).trans b1
      clear hY hC r0 r1 r2 r3 r4 r5 r6 r7 r8 r9 b0 b1 b2 HO
      go_wp2
      go_loopw [9] (fun i wr => ∃ e : Int, m ≤ e ∧ e ≤ 66303 ∧ i = .int .i64 e ∧ Hid (SW w C (passP c0 e) wr)) (fun i _ => (66303 - intOf i).toNat)
      case atStart => exact ⟨m, by omega, by omega, rfl, S0⟩
      case round =>
        obtain ⟨e, he0, he1, rfl, hI⟩ := hrel
        obtain ⟨p5, n5, k5, ha, ho⟩ := hI.out.at_
        obtain ⟨q0, q1, q2, q3, q4, q5, q6, q7, q8, q9⟩ := ha.cell
        by_cases hs : (passP c0 e).st < 4
        · have he2 := pass_open OKC.out hs
          have CM := Lib.hid (hI.out.morn OKC.out (by omega) he2 ha ho)
          obtain ⟨c, hc⟩ : ∃ c, c = passP c0 e := ⟨_, rfl⟩
          obtain ⟨c2, hc2⟩ : ∃ c2, c2 = passP c0 (e + 1) := ⟨_, rfl⟩
          have HC2 := Lib.hid hc2
          rw [← hc, ← hc2] at CM
          rw [← hc] at q0 q1 q2 q3 q4 q5 q6 q7 q8 hs
          unfold csAgg at CM
          clear hI ha ho hc hc2 S0 b1'
          go_wp2_with fail
          refine CM.out.mono ?_
          rintro e2 W2 ⟨p6, n6, k6, rfl, ha2, hJ⟩
          obtain ⟨q0, q1, q2, q3, q4, q5, q6, q7, q8, q9⟩ := ha2.cell
          have z0 := ha2.frozen 0
          have z1 := ha2.frozen 1
          have z2 := ha2.frozen 2
          have z3 := ha2.frozen 3
          have z4 := ha2.frozen 4
          have z5 := ha2.frozen 5
          have z6 := ha2.frozen 6
          have z7 := ha2.frozen 7
          have z8 := ha2.frozen 8
          have z9 := ha2.frozen 9
          rw [HC2.out] at hJ
          have HJ : Hid (SW w C (passP c0 (e + 1)) (setCase W2 C 0 c2 (.slice p6 n6 k6))) := by rw [HC2.out]; exact hJ
          unfold setCase at HJ
          clear hJ ha2
          go_wp2
          go_roundw
          case rel => exact ⟨e + 1, by omega, by omega, by go_num, HJ⟩
          case measure => simp [intOf]; omega
        · have HD := Lib.hid (pass_shut OKC.out (d := e) (by omega) hs)
          have HB := Lib.hid hI.out.bel
          have hb4 : decide ((passP c0 e).st < 4) = false := by simpa using hs
          have HE : Hid ((passP c0 e).due = (setlD l ((k : Int) + 1)).1 ∧ (setlD l ((k : Int) + 1)).2 = true) := Lib.hid (by rw [HR.out, HD.out]; exact ⟨rfl, rfl⟩)
          clear hI ha ho S0 b1'
          go_wp2
          go_ret2
          exact ⟨ret_two (congrArg (Value.int .i64) HE.out.1) (congrArg Value.bool HE.out.2.symm), HB.out⟩

end Go.Proofs.YtbpoedopdnjffaaGreat
