/- AppealLegal: the law's walk. -/
import Derived.Test.YtbpoedopdnjffaaApLeg
import Derived.Test.YtbpoedopdnjffaaApTim2
namespace Go.Proofs.Ytbpoedopdnjffaa
open Go.RowKit Go.Shelf Sp

/-- What a round reads: the filing in its box, the errors, the docket. -/
structure LegW (N : Nat) (f : Fl) (q r : Option Addr) (F : List Fl) (es : List Int) (W0 wr : World) : Prop where
  box : wr.heap[N]? = some (.cells #[.int .u8 f.kind, .int .i64 f.day, .int .i64 f.case, .int .i64 f.n, .int .i64 f.til, .bool f.hold] 30 (0, 0))
  fl : FCells wr q F
  er : ECells wr r es
  bel : Below W0.heap.size W0 wr
theorem LegW.below {N : Nat} {f : Fl} {q r : Option Addr} {F : List Fl} {es : List Int} {W0 wr w' : World} (h : LegW N f q r F es W0 wr) (hb : Below wr.heap.size wr w') : LegW N f q r F es W0 w' :=
  ⟨(hb.block N (Array.getElem?_eq_some_iff.1 h.box).1).trans h.box, h.fl.below hb, h.er.below hb, below_next h.bel hb⟩
theorem LegW.drew {N : Nat} {f : Fl} {q r : Option Addr} {F : List Fl} {es : List Int} {W0 wr : World} (h : LegW N f q r F es W0 wr) : LegW N f q r F es W0 wr.drew := h.below (Below.refl _ _).drew
theorem LegW.cell {N : Nat} {f : Fl} {q r : Option Addr} {F : List Fl} {es : List Int} {W0 wr : World} (h : LegW N f q r F es W0 wr) : wr.cell? ⟨N, 0, none⟩ = some (.int .u8 f.kind) ∧ wr.cell? ⟨N, 1, none⟩ = some (.int .i64 f.day) ∧ wr.cell? ⟨N, 2, none⟩ = some (.int .i64 f.case) ∧ wr.cell? ⟨N, 3, none⟩ = some (.int .i64 f.n) ∧ wr.cell? ⟨N, 4, none⟩ = some (.int .i64 f.til) ∧ wr.cell? ⟨N, 5, none⟩ = some (.bool f.hold) := by
  have b := h.box
  simp only [World.cell?, b]
  exact ⟨rfl, rfl, rfl, rfl, rfl, rfl⟩

def FBox (w : World) (N : Nat) (f : Fl) : Prop := w.cell? ⟨N, 0, none⟩ = some (.int .u8 f.kind) ∧ w.cell? ⟨N, 1, none⟩ = some (.int .i64 f.day) ∧ w.cell? ⟨N, 2, none⟩ = some (.int .i64 f.case) ∧ w.cell? ⟨N, 3, none⟩ = some (.int .i64 f.n) ∧ w.cell? ⟨N, 4, none⟩ = some (.int .i64 f.til) ∧ w.cell? ⟨N, 5, none⟩ = some (.bool f.hold)
def FBoxK (w : World) (N : Nat) (f : Fl) (kd : Int) : Prop := w.cell? ⟨N, 0, none⟩ = some (.int .u8 kd) ∧ w.cell? ⟨N, 1, none⟩ = some (.int .i64 f.day) ∧ w.cell? ⟨N, 2, none⟩ = some (.int .i64 f.case) ∧ w.cell? ⟨N, 3, none⟩ = some (.int .i64 f.n) ∧ w.cell? ⟨N, 4, none⟩ = some (.int .i64 f.til) ∧ w.cell? ⟨N, 5, none⟩ = some (.bool f.hold)
theorem FBoxK.below {w w' : World} {N : Nat} {f : Fl} {kd : Int} (h : FBoxK w N f kd) (hb : Below w.heap.size w w') : FBoxK w' N f kd := by
  have hN : N < w.heap.size := World.block_lt_of_cell? w _ h.1
  exact ⟨(hb.cell (p := ⟨N, 0, none⟩) hN).trans h.1, (hb.cell (p := ⟨N, 1, none⟩) hN).trans h.2.1, (hb.cell (p := ⟨N, 2, none⟩) hN).trans h.2.2.1, (hb.cell (p := ⟨N, 3, none⟩) hN).trans h.2.2.2.1, (hb.cell (p := ⟨N, 4, none⟩) hN).trans h.2.2.2.2.1, (hb.cell (p := ⟨N, 5, none⟩) hN).trans h.2.2.2.2.2⟩
structure Leg2 (P P' : List Cs) (l1 l2 : Int) (f : Fl) (e : Int) : Prop where
  w : f.Wf
  l1 : l1 ≤ f.day
  l2 : l2 ≤ f.day
  grow : e = 0 → opensP f = true → P'.length = P.length + 1
  same : ¬ (e = 0 ∧ opensP f = true) → P'.length = P.length
  each : ∀ k, (h : k < P.length) → (h' : k < P'.length) → LegOk f e k P[k] P'[k]
  new : e = 0 → opensP f = true → ∀ h : P.length < P'.length, atP P'[P.length] f.day = newCase f
  e402 : e = 402 → f.kind = 2 ∧ ∃ j, ∃ hj : j < P.length, f.case = (j : Int) + 1 ∧ P[j].days < f.n
  e6 : e = 6 → (P.length : Int) < f.case
theorem leg2_of {a b : List Fl} {f : Fl} {e : Int} (h : Leg (runD a) (runD b) f e) : Leg2 (runD a).cs (runD b).cs (lastP a) (lastP b) f e :=
  ⟨h.w, h.l1, h.l2, h.grow, h.same, h.each, h.new, h.e402, h.e6⟩
theorem built_is2 (l : List Nt) (p : Option Addr) (cap : Nat) (w : World) (hc : NCells w p l) (bd : ∀ x ∈ l, x.Bd) :
    Calls Try.prog 13 #[.slice p l.length cap] w fun e w' => ∃ q cq, e = .returned (.slice q (builtP l).length cq) ∧ FCells w' q (builtP l) ∧ (builtP l).length ≤ cq ∧ Below w.heap.size w w' :=
  (built_any l p cap w hc bd).mono fun _ _ ⟨v, he, hr, hb⟩ => by
    have hv := hr.2
    obtain ⟨q, cq, rfl, hq⟩ := hr.form
    refine ⟨q, cq, he, hq, ?_, hb⟩
    rcases hv with ⟨e2, h0⟩ | ⟨g2, cap2, cur, e2, hb2, _, hcap, _⟩
    · omega
    · injection e2 with _ _ e5
      omega

set_option maxHeartbeats 16000000 in
set_option maxRecDepth 100000 in
theorem legal_law (l : List Nt) (p : Option Addr) (cap : Nat) (w : World) (hc : NCells w p l) (bd : ∀ y ∈ l, y.Bd) :
    Calls Try.prog 4 #[.slice p l.length cap] w fun e w' => e = .returned (.bool true) ∧ Below w.heap.size w w' := by
  have NC := Lib.hid hc
  have BT := Lib.hid (builtP_bt bd)
  have CB := Lib.hid (fun W h => built_is2 l p cap W h bd)
  generalize builtP l = F at *
  have h30 := BT.out.len
  have CR := Lib.hid (fun q cq W h => run_is F q cq W h BT.out.bd (by omega))
  obtain ⟨FF, hFF⟩ : ∃ FF : Nat → Fl, FF = fun i => F.getD i ⟨0, 0, 0, 0, 0, false⟩ := ⟨_, rfl⟩
  obtain ⟨EE, hEE⟩ : ∃ EE : Nat → Int, EE = fun i => (errsD F).getD i 0 := ⟨_, rfl⟩
  obtain ⟨PK, hPK⟩ : ∃ PK : Nat → List Cs, PK = fun i => (runD (F.take i)).cs := ⟨_, rfl⟩
  obtain ⟨LP, hLP⟩ : ∃ LP : Nat → Int, LP = fun i => lastP (F.take i) := ⟨_, rfl⟩
  have hel : (errsD F).length = F.length := errsD_length F
  have gF : ∀ i (h : i < F.length), FF i = F[i] := fun i h => by rw [hFF]; simp [h]
  have gE : ∀ i (h : i < (errsD F).length), EE i = (errsD F)[i] := fun i h => by rw [hEE]; simp [h]
  have GF := Lib.hid gF
  have GE := Lib.hid gE
  have CLi := Lib.hid (fun (i : Nat) (hi : i ≤ F.length) q cq W (h : FCells W q F) => show Calls Try.prog 15 #[.slice q i cq] W (fun e W' => e = .returned (.int .i64 (LP i)) ∧ Below W.heap.size W W') from by
    have h1 := last_any (F.take i) q cq W (h.take i) (fun f hf => BT.out.bd f (List.mem_of_mem_take hf)) (by rw [List.length_take]; omega)
    rw [List.length_take, Nat.min_eq_left hi] at h1
    rw [hLP]
    exact h1)
  have CAi := Lib.hid (fun (i : Nat) (hi : i ≤ F.length) (d : Int) q cq W (h : FCells W q F) (h1 : LP i ≤ d) (h2 : d ≤ 65535) => show Calls Try.prog 16 #[.slice q i cq, .int .i64 d] W (fun e w' => ∃ q cq, e = .returned (.tuple #[.slice q (PK i).length cq, .int .i64 0]) ∧ RCells w' q (PK i) d ∧ Below W.heap.size W w') from by
    have h3 := at_ok (F.take i) d q cq W (h.take i) (fun f hf => BT.out.bd f (List.mem_of_mem_take hf)) (by rw [List.length_take]; omega) (by rw [hLP] at h1; exact h1) h2
    rw [List.length_take, Nat.min_eq_left hi] at h3
    rw [hPK]
    exact h3)
  have LG := Lib.hid (show ∀ i, i < F.length → EE i ≠ 400 → Leg2 (PK i) (PK (i + 1)) (LP i) (LP (i + 1)) (FF i) (EE i) from fun i hi h4 => by
    rw [gF i hi, hPK, hLP]
    rw [gE i (by omega)] at h4 ⊢
    exact leg2_of (leg_at BT.out hi (by omega) h4))
  have L4 := Lib.hid (show ∀ i, i < F.length → EE i = 400 → (FF i).day < LP i from fun i hi h4 => by
    rw [gF i hi, hLP]
    rw [gE i (by omega)] at h4
    exact leg_400 hi (by omega) h4)
  have LN := Lib.hid (show ∀ i, (PK i).length ≤ 100 from fun i => by rw [hPK]; exact (runD_ok (F.take i)).len)
  have PH := Lib.hid (show ∀ i, ∀ c ∈ PK i, ∀ d, (atP c d).held.length ≤ 14 from fun i c hc d => by
    rw [hPK] at hc
    exact Nat.le_trans (heldP_len (passP_ok ((runD_ok (F.take i)).cs c hc) d) _) hb_max)
  have FW := Lib.hid (show ∀ i, i < F.length → 0 ≤ (FF i).day ∧ (FF i).day ≤ 65535 from fun i hi => by rw [gF i hi]; exact (BT.out.wf _ (List.getElem_mem hi)).1.day)
  clear hFF hEE hPK hLP gF gE
  clear hc bd
  go_enter Try.func4, Try.ntmps4
  go_wp2_with fail
  refine (awake_any _).mono ?_
  rintro e W1 ⟨rfl, hb⟩
  have B1 := Lib.hid hb
  have N1 := Lib.hid (NC.out.below hb)
  clear hb NC
  go_wp2_with fail
  refine (CB.out _ N1.out).mono ?_
  rintro e W2 ⟨q, cq, rfl, hq, hcq, hb⟩
  have B2 := Lib.hid (below_next B1.out hb)
  have F2 := Lib.hid hq
  clear hb hq B1 N1 CB
  go_wp2_with fail
  refine (CR.out q cq _ F2.out).mono ?_
  rintro e W3 ⟨r, cr, rfl, hr, hb⟩
  have B3 := Lib.hid (below_next B2.out hb)
  have F3 := Lib.hid (F2.out.below hb)
  have E3 := Lib.hid hr
  clear hb hr B2 F2 CR
  go_wp2
  go_loopw [28] (fun i wr => ∃ k : Nat, k ≤ F.length ∧ i = .int .i64 k ∧ Hid (Below W3.heap.size W3 wr)) (fun i _ => F.length - (intOf i).toNat)
  case atStart => exact ⟨0, by omega, rfl, Lib.hid (Below.refl _ _)⟩
  case round => as_aux_lemma =>
    obtain ⟨k, hk, rfl, hI⟩ := hrel
    by_cases hlt : k < F.length
    · have hke0 : k < (errsD F).length := by omega
      obtain ⟨bq, oq, rfl, r0, r1, r2, r3, r4, r5⟩ := (F3.out.below hI.out).at k hlt
      obtain ⟨g, rfl, hce⟩ := (E3.out.below hI.out) k hke0
      have hbq : bq ≠ wr.heap.size := Nat.ne_of_lt (World.block_lt_of_cell? wr _ r0)
      have hg : g ≠ wr.heap.size := Nat.ne_of_lt (World.block_lt_of_cell? wr _ hce)
      have LGk := Lib.hid (LG.out k hlt)
      have L4k := Lib.hid (L4.out k hlt)
      have hwk := FW.out k hlt
      rw [← GF.out k hlt] at r0 r1 r2 r3 r4 r5
      have HEE := Lib.hid (GE.out k hke0).symm
      rw [HEE.out] at hce
      obtain ⟨N, hN⟩ : ∃ N, N = wr.heap.size := ⟨_, rfl⟩
      have HNN := Lib.hid hN
      have LW0 := Lib.hid (show ∀ f : Fl, LegW N f (some ⟨bq, oq, none⟩) (some ⟨g, 0, none⟩) F (errsD F) W3 (wr.alloc (.cells #[.int .u8 f.kind, .int .i64 f.day, .int .i64 f.case, .int .i64 f.n, .int .i64 f.til, .bool f.hold] 30)) from fun f =>
        ⟨by rw [hN]; exact World.alloc_heap_new wr _, F3.out.below (below_next hI.out ((Below.refl _ _).alloc (Nat.le_refl _) _)), E3.out.below (below_next hI.out ((Below.refl _ _).alloc (Nat.le_refl _) _)), below_next hI.out ((Below.refl _ _).alloc (Nat.le_refl _) _)⟩)
      obtain ⟨f, hf⟩ : ∃ f, f = FF k := ⟨_, rfl⟩
      obtain ⟨ee, hee⟩ : ∃ ee, ee = EE k := ⟨_, rfl⟩
      rw [← hf] at LGk L4k hwk r0 r1 r2 r3 r4 r5
      rw [← hee] at LGk L4k HEE
      have hk0 : (k : Int) < (F.length : Int) := by omega
      have hkc : (k : Int) ≤ (cq : Int) := by omega
      have hkc1 : (k : Int) + 1 ≤ (cq : Int) := by omega
      have hkn : (0 : Int) ≤ (k : Int) := by omega
      have hkn1 : (0 : Int) ≤ (k : Int) + 1 := by omega
      have hkw : IntKind.i64.wrap ((k : Int) + 1) = (k : Int) + 1 := IntWalk.i64_in _ (by omega)
      have hkt : ((k : Int) + 1).toNat = k + 1 := by omega
      clear hee hf hce hN
      go_upto_region 9 with (fail)
      go_cut [5, 6] from 29 to 278 (fun v5 v6 wx => v5 = .int .i64 k ∧ v6 = .pointer (some ⟨N, 0, none⟩) ∧ LegW N f (some ⟨bq, oq, none⟩) (some ⟨g, 0, none⟩) F (errsD F) W3 wx)
      case first => as_aux_lemma =>
        go_wp2
        go_meet
        exact ⟨rfl, by rw [HNN.out], LW0.out f⟩
      case rest => as_aux_lemma =>
      obtain ⟨rfl, rfl, hlw⟩ := hcut
      have LW := Lib.hid hlw
      obtain ⟨g', eg, hce'⟩ := LW.out.er k hke0
      cases eg
      rw [HEE.out] at hce'
      clear r0 r1 r2 r3 r4 r5 hbq hg hI LW0 HNN hlw
      obtain ⟨n0, n1, n2, n3, n4, n5⟩ := LW.out.cell
      have hgx : g < wc.heap.size := World.block_lt_of_cell? wc _ hce'
      by_cases h400 : ee = 400
      · have h4 := L4k.out h400
        subst h400
        clear LGk
        have CLk := Lib.hid (CLi.out k (by omega) (some ⟨bq, oq, none⟩) cq wc.drew LW.out.drew.fl)
        go_upto_region 11 with (fail)
        go_region_held3 (fun w9 => w9.cell? ⟨N, 1, none⟩ = some (.int .i64 f.day))
          (first | (exact n1) | (exact cell_keep hb14 n1))
          (first | (go_at_call 15; refine CLk.out.mono ?_; rintro e W14 ⟨rfl, hb14⟩))
        have J := Lib.hid (LW.out.drew.below hb14).bel
        clear hb14
        go_wp2
        go_roundw
        case rel => exact ⟨k + 1, by omega, by go_num, J⟩
        case measure => simp [intOf]; omega
      · have e400 : (ee == 400) = false := by simpa using h400
        have LE := Lib.hid (LGk.out h400)
        have PHL := Lib.hid (fun c hc => PH.out k c hc f.day)
        have hl1 := LE.out.l1
        have hl2 := LE.out.l2
        have CA1 := Lib.hid (fun W h => CAi.out k (by omega) f.day (some ⟨bq, oq, none⟩) cq W h hl1 (by omega))
        have CA2 := Lib.hid (fun W h => CAi.out (k + 1) (by omega) f.day (some ⟨bq, oq, none⟩) cq W h hl2 (by omega))
        have hPn := LN.out k
        have hPn2 := LN.out (k + 1)
        clear LGk L4k hl1 hl2
        go_upto_region 13 with (fail)
        go_region_held3 (fun w9 => w9.cell? ⟨N, 1, none⟩ = some (.int .i64 f.day))
          (first | (exact n1) | (exact cell_keep hb14 n1))
          (first | (go_at_call 16; refine (CA1.out wc.drew LW.out.drew.fl).mono ?_; rintro e W12 ⟨qa, ca, rfl, ha, hb14⟩))
        have LW2 := Lib.hid (LW.out.drew.below hb14)
        have A2 := Lib.hid ha
        clear hb14 ha LW n0 n1 n2 n3 n4 n5 hce' hgx CA1
        obtain ⟨n0, n1, n2, n3, n4, n5⟩ := LW2.out.cell
        go_upto_region 14 with (fail)
        go_region_held3 (fun w9 => w9.cell? ⟨N, 1, none⟩ = some (.int .i64 f.day))
          (first | (exact n1) | (exact cell_keep hb14 n1))
          (first | (go_at_call 16; refine (CA2.out W12.drew LW2.out.drew.fl).mono ?_; rintro e W13 ⟨qb, cb, rfl, ha, hb14⟩))
        have LW3 := Lib.hid (LW2.out.drew.below hb14)
        have A3 := Lib.hid (A2.out.below (below_next (Below.refl _ _).drew hb14))
        have C3 := Lib.hid ha
        clear hb14 ha LW2 A2 n0 n1 n2 n3 n4 n5 CA2
        obtain ⟨n0, n1, n2, n3, n4, n5⟩ := LW3.out.cell
        obtain ⟨g', eg, hce3⟩ := LW3.out.er k hke0
        cases eg
        rw [HEE.out] at hce3
        have HW := Lib.hid LE.out.w
        have GR := Lib.hid LE.out.grow
        have SM := Lib.hid LE.out.same
        have EA := Lib.hid LE.out.each
        have NW := Lib.hid LE.out.new
        have E2 := Lib.hid LE.out.e402
        have E6 := Lib.hid LE.out.e6
        clear LE
        obtain ⟨P, hP⟩ : ∃ P, P = PK k := ⟨_, rfl⟩
        obtain ⟨P', hP'⟩ : ∃ P', P' = PK (k + 1) := ⟨_, rfl⟩
        rw [← hP] at A3 GR SM EA NW E2 E6 PHL hPn ⊢
        rw [← hP'] at C3 GR SM EA NW hPn2 ⊢
        clear hP hP'
        obtain ⟨opb, hob⟩ : ∃ opb, opb = (ee == 0 && (f.kind == 1 || f.kind == 4)) := ⟨_, rfl⟩
        have HOB := Lib.hid hob
        have OB1 := Lib.hid (show opb = true → ee = 0 ∧ opensP f = true from fun h => by
          rw [hob, Bool.and_eq_true, beq_iff_eq] at h
          exact h)
        have OB2 := Lib.hid (show opb = false → ¬ (ee = 0 ∧ opensP f = true) from fun h h2 => by
          have : opb = true := by rw [hob, Bool.and_eq_true, beq_iff_eq]; exact h2
          rw [h] at this
          cases this)
        have hPP : P.length ≤ P'.length := by
          cases opb with
          | true => have := GR.out (OB1.out rfl).1 (OB1.out rfl).2; omega
          | false => have := SM.out (OB2.out rfl); omega
        clear hob
        go_upto_region 15 with (fail)
        go_cut [11] from 29 to 278 (fun v11 wx => v11 = .bool opb ∧ wx = W13)
        case first => as_aux_lemma =>
          by_cases z0 : ee = 0
          · rw [z0] at hce3
            by_cases z1 : f.kind = 1
            · have hv := Lib.hid (show true = opb by rw [HOB.out, z0, z1]; rfl)
              rw [z1] at n0
              clear z0 z1
              go_wp2
              go_meet
              exact ⟨congrArg Value.bool hv.out, rfl⟩
            · by_cases z4 : f.kind = 4
              · have hv := Lib.hid (show true = opb by rw [HOB.out, z0, z4]; rfl)
                rw [z4] at n0
                clear z0 z1 z4
                go_wp2
                go_meet
                exact ⟨congrArg Value.bool hv.out, rfl⟩
              · have b1 : (f.kind == 1) = false := by simpa using z1
                have b4 : (f.kind == 4) = false := by simpa using z4
                have hv := Lib.hid (show false = opb by rw [HOB.out, z0, b1, b4]; rfl)
                clear z0 z1 z4
                go_wp2
                go_meet
                exact ⟨congrArg Value.bool hv.out, rfl⟩
          · have b0 : (ee == 0) = false := by simpa using z0
            have hv := Lib.hid (show false = opb by rw [HOB.out, b0]; rfl)
            clear z0
            go_wp2
            go_meet
            exact ⟨congrArg Value.bool hv.out, rfl⟩
        case rest => as_aux_lemma =>
        obtain ⟨rfl, hwx⟩ := hcut
        have hwx := hwx.symm
        subst hwx
        go_upto_region 16 with (fail)
        go_cut [104] from 29 to 278 (fun v104 wx => v104 = .bool false ∧ wx = W13)
        case first => as_aux_lemma =>
          cases opb with
          | true =>
            have hl : ((P'.length : Int) != (P.length : Int) + 1) = false := by have := GR.out (OB1.out rfl).1 (OB1.out rfl).2; simp; omega
            go_wp2
            go_meet
            exact ⟨rfl, rfl⟩
          | false =>
            have hl : ((P'.length : Int) != (P.length : Int)) = false := by have := SM.out (OB2.out rfl); simp; omega
            go_wp2
            go_meet
            exact ⟨rfl, rfl⟩
        case rest => as_aux_lemma =>
        obtain ⟨rfl, hwx⟩ := hcut
        have hwx := hwx.symm
        subst hwx
        go_wp2
        go_loopw [107] (fun i wr => ∃ j : Nat, j ≤ P.length ∧ i = .int .i64 j ∧ Hid (Below W13.heap.size W13 wr)) (fun i _ => P.length - (intOf i).toNat)
        case atStart => exact ⟨0, by omega, rfl, Lib.hid (Below.refl _ _)⟩
        case round => as_aux_lemma =>
          obtain ⟨j, hj, rfl, hI⟩ := hrel
          have LWj := Lib.hid (LW3.out.below hI.out)
          obtain ⟨m0, m1, m2, m3, m4, m5⟩ := LWj.out.cell
          obtain ⟨g', eg, hce4⟩ := LWj.out.er k hke0
          cases eg
          rw [HEE.out] at hce4
          clear n0 n1 n2 n3 n4 n5 hce3
          by_cases hlt2 : j < P.length
          · have hlt3 : j < P'.length := by omega
            have EAj := EA.out j hlt2 hlt3
            obtain ⟨ow, how⟩ : ∃ ow, ow = (ee == 0 && f.case == (j : Int) + 1) := ⟨_, rfl⟩
            have HOW := Lib.hid how
            have hj0 : (j : Int) < (P.length : Int) := by omega
            have hj1 : (j : Int) < (P'.length : Int) := by omega
            have hjn : (0 : Int) ≤ (j : Int) := by omega
            clear how
            go_upto_region 21 with (fail)
            go_cut [13] from 108 to 152 (fun v13 wx => v13 = .bool ow ∧ wx = wr)
            case first => as_aux_lemma =>
              by_cases z0 : ee = 0
              · rw [z0] at hce4
                by_cases zc : f.case = (j : Int) + 1
                · have hv := Lib.hid (show true = ow by rw [HOW.out, z0, zc]; simp)
                  rw [zc] at m2
                  clear z0 zc
                  go_wp2
                  go_meet
                  exact ⟨congrArg Value.bool hv.out, rfl⟩
                · have bc : (f.case == (j : Int) + 1) = false := by simpa using zc
                  have hv := Lib.hid (show false = ow by rw [HOW.out, bc]; simp)
                  clear z0 zc
                  go_wp2
                  go_meet
                  exact ⟨congrArg Value.bool hv.out, rfl⟩
              · have b0 : (ee == 0) = false := by simpa using z0
                have hv := Lib.hid (show false = ow by rw [HOW.out, b0]; rfl)
                clear z0
                go_wp2
                go_meet
                exact ⟨congrArg Value.bool hv.out, rfl⟩
            case rest => as_aux_lemma =>
            obtain ⟨rfl, hwx⟩ := hcut
            have hwx := hwx.symm
            subst hwx
            obtain ⟨bx, ox, px, kx, rfl, hcx, hsx⟩ := (A3.out.below hI.out).at j hlt2
            obtain ⟨yb, oy, py, ky, rfl, hcy, hsy⟩ := (C3.out.below hI.out).at j hlt3
            rcases EAj with ⟨hno, heq⟩ | ⟨hyes, ho, hst, hch, hbare, hlv, hdy⟩
            · obtain rfl : ow = false := by
                rw [HOW.out, ← Bool.not_eq_true, Bool.and_eq_true, beq_iff_eq, beq_iff_eq]
                exact hno
              rw [heq] at hcy hsy
              have hxl : (atP P[j] f.day).held.length ≤ 100000 := by
                have := PHL.out _ (List.getElem_mem hlt2)
                omega
              generalize atP P[j] f.day = x at *
              have hcx' := Lib.hid hcx
              have hcy' := Lib.hid hcy
              have CST := Lib.hid (fun W h1 h2 => stays_yes x px py kx ky W hxl h1 h2)
              unfold csAgg at CST
              have Q1 := Lib.hid hsx
              have Q2 := Lib.hid hsy
              have CSP := Lib.hid (fun (t : Later wr) => CST.out t.W (Q1.out.below t.below) (Q2.out.below t.below))
              clear CST Q1 Q2 hcx hcy m0 m1 m2 m3 m4 m5 hce4 hsx hsy hno heq hxl
              go_upto_region 22 with (fail)
              refine wp_region_laterS (fun W => CaseCells W bx (ox + j * 10) x (.slice px x.held.length kx) ∧ CaseCells W yb (oy + j * 10) x (.slice py x.held.length ky) ∧ Hid (Below W13.heap.size W13 W)) (by as_aux_lemma => kernel_rfl) (by as_aux_lemma => kernel_rfl) (fun t => ⟨hcx'.out.below t.below, hcy'.out.below t.below, Lib.hid (t.since hI.out)⟩) ?_
              intro hS
              unfold CaseCells at hS
              repeat (go_big_quiet_step ((go_at_call 17; exact Later.call (CSP.out _))))
              refine wpQuiet_nil ?_
              rintro _ ⟨t, rfl⟩
              have J := (hS t).2.2
              clear hS
              go_wp2
              go_roundw
              case rel => exact ⟨j + 1, by omega, by go_num, J⟩
              case measure => simp [intOf]; omega
            · obtain rfl : ow = true := by
                rw [HOW.out, Bool.and_eq_true, beq_iff_eq, beq_iff_eq]
                exact hyes
              generalize atP P[j] f.day = x at *
              generalize atP P'[j] f.day = y at *
              have hcx' := Lib.hid hcx
              have hcy' := Lib.hid hcy
              have CST := Lib.hid (fun W => follows_yes f x y px py x.held.length kx y.held.length ky W HW.out ho hst hch hbare hlv hdy)
              unfold csAgg flAgg at CST
              clear hcx hcy m0 m1 m2 m3 m4 m5 hce4 hsx hsy hyes ho hst hch hbare hlv hdy
              go_upto_region 22 with (fail)
              refine wp_region_laterS (fun W => CaseCells W bx (ox + j * 10) x (.slice px x.held.length kx) ∧ CaseCells W yb (oy + j * 10) y (.slice py y.held.length ky) ∧ FBox W N f ∧ Hid (Below W13.heap.size W13 W)) (by as_aux_lemma => kernel_rfl) (by as_aux_lemma => kernel_rfl) (fun t => ⟨hcx'.out.below t.below, hcy'.out.below t.below, (LWj.out.below t.below).cell, Lib.hid (t.since hI.out)⟩) ?_
              intro hS
              unfold CaseCells FBox at hS
              repeat (go_big_quiet_step ((go_at_call 18; exact Later.call (CST.out _))))
              refine wpQuiet_nil ?_
              rintro _ ⟨t, rfl⟩
              have J := (hS t).2.2.2
              clear hS
              go_wp2
              go_roundw
              case rel => exact ⟨j + 1, by omega, by go_num, J⟩
              case measure => simp [intOf]; omega
          · obtain rfl : j = P.length := by omega
            have J := Lib.hid LWj.out.bel
            cases opb with
            | true =>
              obtain ⟨ho0, ho1⟩ := OB1.out rfl
              have hgl := GR.out ho0 ho1
              have hlt3 : P.length < P'.length := by omega
              have hnw := NW.out ho0 ho1 hlt3
              clear hgl
              obtain ⟨yb, oy, py, ky, rfl, hcy, _⟩ := (C3.out.below hI.out).at P.length hlt3
              rw [hnw] at hcy
              have hj1 : (P.length : Int) < (P'.length : Int) := by omega
              have hjn : (0 : Int) ≤ (P.length : Int) := by omega
              rw [ho0] at hce4
              have hby : yb ≠ wr.heap.size := Nat.ne_of_lt hcy.lt
              have hNb : N ≠ wr.heap.size := Nat.ne_of_lt (World.block_lt_of_cell? wr _ m0)
              have hgb : g ≠ wr.heap.size := Nat.ne_of_lt (World.block_lt_of_cell? wr _ hce4)
              obtain ⟨M, hM⟩ : ∃ M, M = wr.heap.size := ⟨_, rfl⟩
              have HMM := Lib.hid hM
              obtain ⟨y, hy⟩ : ∃ y, y = newCase f := ⟨_, rfl⟩
              rw [← hy] at hcy hnw
              have HYY := Lib.hid hy
              have LWN := Lib.hid (fun o => show LegW N f (some ⟨bq, oq, none⟩) (some ⟨g, 0, none⟩) F (errsD F) W3 (wr.alloc o) from LWj.out.below ((Below.refl _ _).alloc (Nat.le_refl _) _))
              have NEW := Lib.hid (fun o => (World.alloc_heap_new wr o : _))
              obtain ⟨t0, t1, t2, t3, t4, t5, t6, t7, t8, t9⟩ := hcy
              clear hM hy hnw
              go_upto_region 26 with (fail)
              go_cut [14] from 153 to 278 (fun v14 wx => v14 = .pointer (some ⟨M, 0, none⟩) ∧ LegW N f (some ⟨bq, oq, none⟩) (some ⟨g, 0, none⟩) F (errsD F) W3 wx ∧ wx.heap[M]? = some (.cells #[.bool y.el, .int .u8 y.st, .int .i64 y.opened, .int .i64 y.days, .int .i64 y.choice, .int .i64 y.level, .int .i64 y.due, .bool y.hold, .int .i64 y.since, .slice py y.held.length ky] 39 (0, 0)))
              case first => as_aux_lemma =>
                go_wp2
                go_meet
                exact ⟨by rw [HMM.out], LWN.out _, by rw [HMM.out]; exact NEW.out _⟩
              case rest => as_aux_lemma =>
              obtain ⟨rfl, hlw, hbx⟩ := hcut
              clear t0 t1 t2 t3 t4 t5 t6 t7 t8 t9 m0 m1 m2 m3 m4 m5 hce4 LWN NEW HMM hby hNb hgb J
              have J := Lib.hid hlw.bel
              obtain ⟨m0, m1, m2, m3, m4, m5⟩ := hlw.cell
              obtain ⟨g', eg, hce4⟩ := hlw.er k hke0
              cases eg
              rw [HEE.out, ho0] at hce4
              have hcy : CaseCells wc M 0 y (.slice py y.held.length ky) := by
                unfold CaseCells World.cell?
                rw [hbx]
                exact ⟨rfl, rfl, rfl, rfl, rfl, rfl, rfl, rfl, rfl, rfl⟩
              rw [HYY.out] at hcy
              clear hlw hbx HYY
              by_cases z1 : f.kind = 1
              · have nc : newCase f = ⟨true, 1, f.day, f.n, 1, 0, f.til, false, 0, []⟩ := by unfold newCase; rw [if_pos z1]
                rw [nc] at hcy
                have hX : FBoxK wc N f 1 := ⟨by rw [← z1]; exact m0, m1, m2, m3, m4, m5⟩
                clear m0 m1 m2 m3 m4 m5 z1 nc ho0 ho1
                unfold CaseCells at hcy
                unfold FBoxK at hX
                dsimp only at hcy
                simp only [Nat.zero_add] at hcy
                obtain ⟨t0, t1, t2, t3, t4, t5, t6, t7, t8, t9⟩ := hcy
                obtain ⟨m0, m1, m2, m3, m4, m5⟩ := hX
                go_upto_region 29 with (fail)
                · exfalso
                  obtain ⟨b9, h9⟩ : ∃ b, some undef = some (Value.bool b) := ⟨_, by assumption⟩
                  injection h9 with h9
                  exact absurd h9 (by unfold undef; intro h; cases h)
                · exfalso
                  obtain ⟨b9, h9⟩ : ∃ b, some undef = some (Value.bool b) := ⟨_, by assumption⟩
                  injection h9 with h9
                  exact absurd h9 (by unfold undef; intro h; cases h)
                have E4 := Lib.hid hce4
                have M0 := Lib.hid m0
                have M2 := Lib.hid m2
                have M3 := Lib.hid m3
                refine wp_region_laterS (fun W => W.cell? ⟨g, k, none⟩ = some (.int .i64 0) ∧ W.cell? ⟨N, 0, none⟩ = some (.int .u8 1) ∧ W.cell? ⟨N, 2, none⟩ = some (.int .i64 f.case) ∧ W.cell? ⟨N, 3, none⟩ = some (.int .i64 f.n) ∧ Hid (Below W3.heap.size W3 W)) (by as_aux_lemma => kernel_rfl) (by as_aux_lemma => kernel_rfl) (fun t => ⟨t.cell _ _ E4.out, t.cell _ _ M0.out, t.cell _ _ M2.out, t.cell _ _ M3.out, Lib.hid (t.since J.out)⟩) ?_
                intro hS
                repeat (go_big_quiet_step (fail))
                refine wpQuiet_nil ?_
                rintro _ ⟨t, rfl⟩
                have J2 := (hS t).2.2.2.2
                clear hS
                go_wp2
                go_roundw
                case rel => exact ⟨k + 1, by omega, by go_num, J2⟩
                case measure => simp [intOf]; omega
              · have z4 : f.kind = 4 := by
                  unfold opensP at ho1
                  simp at ho1
                  omega
                have nc : newCase f = ⟨false, 2, f.day, f.n, 0, 0, f.day + f.n, false, 0, []⟩ := by unfold newCase; rw [if_neg z1]
                have hk4 := HW.out.k4 z4
                have hdd := HW.out.day
                rw [nc] at hcy
                have hX : FBoxK wc N f 4 := ⟨by rw [← z4]; exact m0, m1, m2, m3, m4, m5⟩
                have hfn : 1 ≤ f.n ∧ f.n ≤ 400 := hk4.2.2.2
                clear m0 m1 m2 m3 m4 m5 z1 z4 nc ho0 ho1 hk4
                unfold CaseCells at hcy
                unfold FBoxK at hX
                dsimp only at hcy
                simp only [Nat.zero_add] at hcy
                obtain ⟨t0, t1, t2, t3, t4, t5, t6, t7, t8, t9⟩ := hcy
                obtain ⟨m0, m1, m2, m3, m4, m5⟩ := hX
                go_upto_region 29 with (fail)
                · exfalso
                  obtain ⟨b9, h9⟩ : ∃ b, some undef = some (Value.bool b) := ⟨_, by assumption⟩
                  injection h9 with h9
                  exact absurd h9 (by unfold undef; intro h; cases h)
                · exfalso
                  obtain ⟨b9, h9⟩ : ∃ b, some undef = some (Value.bool b) := ⟨_, by assumption⟩
                  injection h9 with h9
                  exact absurd h9 (by unfold undef; intro h; cases h)
                have E4 := Lib.hid hce4
                have M0 := Lib.hid m0
                have M2 := Lib.hid m2
                have M3 := Lib.hid m3
                refine wp_region_laterS (fun W => W.cell? ⟨g, k, none⟩ = some (.int .i64 0) ∧ W.cell? ⟨N, 0, none⟩ = some (.int .u8 4) ∧ W.cell? ⟨N, 2, none⟩ = some (.int .i64 f.case) ∧ W.cell? ⟨N, 3, none⟩ = some (.int .i64 f.n) ∧ Hid (Below W3.heap.size W3 W)) (by as_aux_lemma => kernel_rfl) (by as_aux_lemma => kernel_rfl) (fun t => ⟨t.cell _ _ E4.out, t.cell _ _ M0.out, t.cell _ _ M2.out, t.cell _ _ M3.out, Lib.hid (t.since J.out)⟩) ?_
                intro hS
                repeat (go_big_quiet_step (fail))
                refine wpQuiet_nil ?_
                rintro _ ⟨t, rfl⟩
                have J2 := (hS t).2.2.2.2
                clear hS
                go_wp2
                go_roundw
                case rel => exact ⟨k + 1, by omega, by go_num, J2⟩
                case measure => simp [intOf]; omega
            | false =>
              by_cases z2 : ee = 402
              · obtain ⟨hk2, jj, hjj, hcj, hdn⟩ := E2.out z2
                obtain ⟨bx, ox, px, kx, rfl, hcx, _⟩ := (A3.out.below hI.out).at jj hjj
                have s3 := hcx.2.2.2.1
                rw [(atP_same P[jj] f.day).2.2.1] at s3
                have hj3 : (jj : Int) + 1 - 1 = (jj : Int) := by omega
                have hj4 : decide ((P.length : Int) < (jj : Int) + 1) = false := by simp; omega
                have hj5 : (jj : Int) < (P.length : Int) := by omega
                have hj6 : (0 : Int) ≤ (jj : Int) := by omega
                have hj7 : decide (f.n ≤ P[jj].days) = false := by simp; omega
                rw [z2] at hce4
                rw [hk2] at m0
                rw [hcj] at m2
                generalize P[jj].days = dy at *
                clear hcx hdn hcj hk2 z2
                go_upto_region 29 with (fail)
                have S3 := Lib.hid s3
                have E4 := Lib.hid hce4
                have M0 := Lib.hid m0
                have M2 := Lib.hid m2
                have M3 := Lib.hid m3
                refine wp_region_laterS (fun W => W.cell? ⟨g, k, none⟩ = some (.int .i64 402) ∧ W.cell? ⟨N, 0, none⟩ = some (.int .u8 2) ∧ W.cell? ⟨N, 2, none⟩ = some (.int .i64 ((jj : Int) + 1)) ∧ W.cell? ⟨N, 3, none⟩ = some (.int .i64 f.n) ∧ W.cell? ⟨bx, ox + jj * 10 + 3, none⟩ = some (.int .i64 dy) ∧ Hid (Below W3.heap.size W3 W)) (by as_aux_lemma => kernel_rfl) (by as_aux_lemma => kernel_rfl) (fun t => ⟨t.cell _ _ E4.out, t.cell _ _ M0.out, t.cell _ _ M2.out, t.cell _ _ M3.out, t.cell _ _ S3.out, Lib.hid (t.since J.out)⟩) ?_
                intro hS
                repeat (go_big_quiet_step (fail))
                refine wpQuiet_nil ?_
                rintro _ ⟨t, rfl⟩
                have J2 := (hS t).2.2.2.2.2
                clear hS
                go_wp2
                go_roundw
                case rel => exact ⟨k + 1, by omega, by go_num, J2⟩
                case measure => simp [intOf]; omega
              · have b2 : (ee == 402) = false := by simpa using z2
                by_cases z6 : ee = 6
                · have h6 := E6.out z6
                  have hj4 : decide (f.case ≤ (P.length : Int)) = false := by simp; omega
                  rw [z6] at hce4
                  clear z2 z6 h6
                  go_upto_region 29 with (fail)
                  have E4 := Lib.hid hce4
                  have M0 := Lib.hid m0
                  have M2 := Lib.hid m2
                  have M3 := Lib.hid m3
                  refine wp_region_laterS (fun W => W.cell? ⟨g, k, none⟩ = some (.int .i64 6) ∧ W.cell? ⟨N, 0, none⟩ = some (.int .u8 f.kind) ∧ W.cell? ⟨N, 2, none⟩ = some (.int .i64 f.case) ∧ W.cell? ⟨N, 3, none⟩ = some (.int .i64 f.n) ∧ Hid (Below W3.heap.size W3 W)) (by as_aux_lemma => kernel_rfl) (by as_aux_lemma => kernel_rfl) (fun t => ⟨t.cell _ _ E4.out, t.cell _ _ M0.out, t.cell _ _ M2.out, t.cell _ _ M3.out, Lib.hid (t.since J.out)⟩) ?_
                  intro hS
                  repeat (go_big_quiet_step (fail))
                  refine wpQuiet_nil ?_
                  rintro _ ⟨t, rfl⟩
                  have J2 := (hS t).2.2.2.2
                  clear hS
                  go_wp2
                  go_roundw
                  case rel => exact ⟨k + 1, by omega, by go_num, J2⟩
                  case measure => simp [intOf]; omega
                · have b6 : (ee == 6) = false := by simpa using z6
                  clear z2 z6
                  go_upto_region 29 with (fail)
                  have E4 := Lib.hid hce4
                  have M0 := Lib.hid m0
                  have M2 := Lib.hid m2
                  have M3 := Lib.hid m3
                  refine wp_region_laterS (fun W => W.cell? ⟨g, k, none⟩ = some (.int .i64 ee) ∧ W.cell? ⟨N, 0, none⟩ = some (.int .u8 f.kind) ∧ W.cell? ⟨N, 2, none⟩ = some (.int .i64 f.case) ∧ W.cell? ⟨N, 3, none⟩ = some (.int .i64 f.n) ∧ Hid (Below W3.heap.size W3 W)) (by as_aux_lemma => kernel_rfl) (by as_aux_lemma => kernel_rfl) (fun t => ⟨t.cell _ _ E4.out, t.cell _ _ M0.out, t.cell _ _ M2.out, t.cell _ _ M3.out, Lib.hid (t.since J.out)⟩) ?_
                  intro hS
                  repeat (go_big_quiet_step (fail))
                  refine wpQuiet_nil ?_
                  rintro _ ⟨t, rfl⟩
                  have J2 := (hS t).2.2.2.2
                  clear hS
                  go_wp2
                  go_roundw
                  case rel => exact ⟨k + 1, by omega, by go_num, J2⟩
                  case measure => simp [intOf]; omega
    · obtain rfl : k = F.length := by omega
      have B8 := Lib.hid (below_next B3.out hI.out)
      go_wp2
      go_ret
      exact ⟨rfl, B8.out⟩

end Go.Proofs.Ytbpoedopdnjffaa
