/- Make. -/
import Derived.Test.YtgpbdocgnfjckaaGreatSpSort
import Derived.RegionTactic
import Derived.ChangeAlike
namespace Go.Proofs.YtgpbdocgnfjckaaGreat
open Go.RowKit Go.Shelf Sp

/-- The slice c holds the spans m in the world W, and the world is one that grew out of w. -/
theorem isS_iff {x y : Int} : isS x y = true ↔ 0 ≤ x ∧ x ≤ y ∧ y ≤ 65536 := by unfold isS; simp [and_assoc]

theorem Owns.mono {W : World} {base base' : Nat} {v : Value} {l : Sps} (h : Owns W base v l) (hb : base' ≤ base) : Owns W base' v l := by
  obtain ⟨hl, hv⟩ := h
  rcases hv with ⟨rfl, h0⟩ | ⟨g, cap, cur, rfl, hbs, rest⟩
  · exact ⟨hl, .inl ⟨rfl, h0⟩⟩
  · exact ⟨hl, .inr ⟨g, cap, cur, rfl, Nat.le_trans hb hbs, rest⟩⟩

set_option maxRecDepth 100000 in
set_option maxHeartbeats 4000000 in
theorem make_ok (l : Sps) (p : Option Addr) (cap : Nat) (w : World) (hl : l.length ≤ 10000) (hv : ∀ s ∈ l, isS s.1 s.2 = true) (hc : Cells w p l) :
    Calls Tryz.prog 24 #[.slice p l.length cap] w fun e w' => ∃ v m, e = .returned (.tuple #[v, .int .i64 0]) ∧ IsSet (mem l) m ∧ m.length ≤ l.length ∧ Owns w' w.heap.size v m ∧ Below w.heap.size w w' := by
  have HV := Lib.hid hv; clear hv
  have HC := Lib.hid hc; clear hc
  obtain ⟨i0, hi0, hz0, hz1, hz2⟩ := info_parts info_span
  go_enter Tryz.func24, Tryz.ntmps24
  go_wp2
  go_loopw [4, 13] (fun c i wr => ∃ k : Nat, k ≤ l.length ∧ i = .int .i64 k ∧ Hid (Owns wr w.heap.size c (full (l.take k))) ∧ Below w.heap.size w wr) (fun _ i _ => l.length - (intOf i).toNat)
  case atStart => exact ⟨0, by omega, rfl, Lib.hid (by simpa [full] using Owns.nil _ _), Below.refl _ _⟩
  case round =>
    obtain ⟨k, hk, rfl, ho, hb⟩ := hrel
    by_cases hlt : k < l.length
    · obtain ⟨b, off, rfl, hlt', x, y, hxy, h1, h2⟩ := HC.out.at k hlt
      have c1 := (hb.cell (p := ⟨b, off + k * 2, none⟩) hlt').trans h1
      have c2 := (hb.cell (p := ⟨b, off + k * 2 + 1, none⟩) hlt').trans h2
      have hne : b ≠ wr.heap.size := Nat.ne_of_lt (Nat.lt_of_lt_of_le hlt' hb.size)
      have hst := take_succ_snoc hlt
      have hS : isS x y = true := by have := HV.out l[k] (List.getElem_mem hlt); rw [hxy] at this; exact this
      rw [hxy] at hst
      have hfs := Lib.hid (full_snoc (l.take k) (x, y))
      have hlen := full_length (l.take k)
      rw [List.length_take] at hlen
      have CS := Lib.hid (fun W => isSpan_is x y true W hS)
      rw [← hst] at hfs
      clear h1 h2 hxy hst hS
      obtain ⟨set, hset⟩ : ∃ set, set = full (l.take k) := ⟨_, rfl⟩
      rw [← hset] at ho hfs hlen
      clear hset
      have hsl : set.length ≤ 10000 := by omega
      clear hlen
      go_wp2_with fail
      refine (CS.out _).mono ?_
      rintro e W2 ⟨rfl, hb2⟩
      have B2 : Below w.heap.size w W2 := (hb.alloc hb.size _).trans (hb2.mono (by simp; have := hb.size; omega))
      have O2 := Lib.hid ((ho.out.alloc _).below hb2)
      have d1 : W2.cell? ⟨wr.heap.size, 0, none⟩ = some (.int .i64 x) := (hb2.cell (p := ⟨wr.heap.size, 0, none⟩) (by simp)).trans (by simp)
      have d2 : W2.cell? ⟨wr.heap.size, 1, none⟩ = some (.int .i64 y) := (hb2.cell (p := ⟨wr.heap.size, 1, none⟩) (by simp)).trans (by simp)
      have z2 : w.heap.size ≤ W2.heap.size := B2.size
      clear hb2 ho c1 c2
      by_cases hx : x < y
      · rw [if_pos (show (x, y).1 < (x, y).2 from hx)] at hfs
        go_wp2_with (first | (at_builtin; refine wpList_append_own _ rfl _ _ 22 rfl w.heap.size 30 i0 (.agg #[.int .i64 0, .int .i64 0]) 2 16 Tryz.underlying22 hi0 hz0 hz1 hz2 rfl (by decide) _ _ _ rfl (O2.out.alloc _) ⟨W2.heap.size, 0, none⟩ 1 1 [.int .i64 x, .int .i64 y] rfl rfl (cell_two_new _ _ _ _ _ rfl) (by simp [Value.oneCell']) (by unfold maxLen; omega) (by omega) (by simp; omega) ?_; intro v' w1 hown' hgrow _; obtain ⟨g', cap', rfl⟩ := ownsRow_succ hown'))
        go_roundw
        case rel => exact ⟨k + 1, by omega, by go_num, Lib.hid (by rw [hfs.out]; show World.ownsRow _ _ _ _ _ _ _; rw [flat_snoc, List.length_append]; exact hown'), O2.out.grown (Nat.le_refl _) B2 (by omega) _ hgrow⟩
        case measure => simp [intOf]; omega
      · rw [if_neg (show ¬ (x, y).1 < (x, y).2 from hx)] at hfs
        go_wp2
        go_roundw
        case rel => exact ⟨k + 1, by omega, by go_num, Lib.hid (by rw [hfs.out]; exact O2.out), B2⟩
        case measure => simp [intOf]; omega
    · obtain rfl : k = l.length := by omega
      rw [List.take_length] at ho
      have hlen := full_length l
      go_wp2_with fail
      refine (sort_any (full l) _ w.heap.size wr ho.out (by omega) hb.size).mono ?_
      rintro e W1 ⟨rfl, m, hml, hperm, hsrt, ⟨pm, cm, rfl, hcm⟩, hbm⟩
      have B1 := hb.trans hbm
      have HM := Lib.hid hcm
      have HF := Lib.hid (show Fine m from fun s hs => by
        have h1 := List.mem_filter.1 (hperm.mem_iff.1 hs)
        have h2 := isS_iff.1 (HV.out s h1.1)
        have h3 : s.1 < s.2 := by simpa using h1.2
        exact ⟨h2.1, h3, h2.2.2⟩)
      have HS := Lib.hid hsrt
      have HI := Lib.hid (show IsSet (mem l) (mk m) from (mk_set HF.out HS.out).congr fun d => (mem_perm hperm d).trans (mem_full l d))
      have hml' : m.length ≤ l.length := by omega
      have hmm : m.length ≤ 10000 := by omega
      clear hcm hperm hsrt hbm hb ho hml hlen
      go_wp2
      go_loopw [7, 34] (fun c i wr => ∃ k : Nat, k ≤ m.length ∧ i = .int .i64 k ∧ Hid (Owns wr W1.heap.size c (mk (m.take k))) ∧ Below W1.heap.size W1 wr) (fun _ i _ => m.length - (intOf i).toNat)
      case atStart => exact ⟨0, by omega, rfl, Lib.hid (by simpa [mk] using Owns.nil _ _), Below.refl _ _⟩
      case round =>
        obtain ⟨k, hk, rfl, ho, hb⟩ := hrel
        by_cases hlt : k < m.length
        · obtain ⟨b, off, rfl, hlt', x, y, hxy, h1, h2⟩ := HM.out.at k hlt
          have c1 := (hb.cell (p := ⟨b, off + k * 2, none⟩) hlt').trans h1
          have c2 := (hb.cell (p := ⟨b, off + k * 2 + 1, none⟩) hlt').trans h2
          have hne : b ≠ wr.heap.size := Nat.ne_of_lt (Nat.lt_of_lt_of_le hlt' hb.size)
          have hst := take_succ_snoc hlt
          have hg := HF.out m[k] (List.getElem_mem hlt)
          rw [hxy] at hg hst
          dsimp only at hg
          have hbr := Lib.hid (show mk (m.take (k + 1)) = mst (mk (m.take k)) (x, y) by rw [hst, mk_snoc])
          have hlen := mk_length m k hk
          have hval := Lib.hid (mk_law HF.out HS.out k hk).1
          clear h1 h2 hxy hst
          obtain ⟨set, hset⟩ : ∃ set, set = mk (m.take k) := ⟨_, rfl⟩
          rw [← hset] at ho hbr hlen hval
          clear hset
          rcases List.eq_nil_or_concat set with rfl | ⟨s0, t, rfl⟩
          · obtain ⟨p', cap', rfl, _⟩ := ho.out.form
            have e1 := Lib.hid (hbr.out.trans (mst_nil (x, y)))
            go_wp2_with fail
            go_quiet (fail)
            obtain ⟨W2, hW2⟩ : ∃ W2, (wr.alloc (.cells #[.int .i64 x, .int .i64 y] 30)).drewN nq = W2 := ⟨_, rfl⟩
            have B2 : Below W1.heap.size W1 W2 := by subst hW2; exact below_drewN (hb.alloc hb.size _) _
            have O2 := Lib.hid (show Owns W2 W1.heap.size _ [] by subst hW2; exact (ho.out.alloc _).drewN _)
            have d1 : W2.cell? ⟨wr.heap.size, 0, none⟩ = some (.int .i64 x) := by subst hW2; exact (Boxed2.new wr _ _ _).cell0
            have d2 : W2.cell? ⟨wr.heap.size, 1, none⟩ = some (.int .i64 y) := by subst hW2; exact (Boxed2.new wr _ _ _).cell1
            have z2 : W1.heap.size ≤ W2.heap.size := B2.size
            rw [hW2]
            clear hW2 ho
            go_wp2_with (first | (at_builtin; refine wpList_append_own _ rfl _ _ 22 rfl W1.heap.size 30 i0 (.agg #[.int .i64 0, .int .i64 0]) 2 16 Tryz.underlying22 hi0 hz0 hz1 hz2 rfl (by decide) _ _ _ rfl (O2.out.alloc _) ⟨W2.heap.size, 0, none⟩ 1 1 [.int .i64 x, .int .i64 y] rfl rfl (cell_two_new _ _ _ _ _ rfl) (by simp [Value.oneCell']) (by unfold maxLen; omega) (by omega) (by simp; omega) ?_; intro v' w1 hown' hgrow _; obtain ⟨g', cap', rfl⟩ := ownsRow_succ hown'))
            go_roundw
            case rel => exact ⟨k + 1, by omega, by go_num, Lib.hid (by rw [e1.out]; exact hown'), O2.out.grown (Nat.le_refl _) B2 (by omega) _ hgrow⟩
            case measure => simp [intOf]; omega
          · rw [List.concat_eq_append] at ho hbr hlen hval
            obtain ⟨g, cap', rfl, hgb, hglt, q1, q2, _⟩ := ho.out.last
            obtain ⟨t1, t2⟩ := t
            dsimp only at q1 q2
            have hgne : g ≠ wr.heap.size := Nat.ne_of_lt hglt
            have hsl : s0.length ≤ 10000 := by simp at hlen; omega
            have j3 : ((s0.length : Int)).toNat = s0.length := by omega
            have hpos : (0 : Int) < (s0.length : Int) + 1 := by omega
            have j0 : (0 : Int) ≤ (s0.length : Int) := by omega
            have j1 : (s0.length : Int) < (s0.length : Int) + 1 := by omega
            clear hval hlen
            by_cases hnear : x ≤ t2
            · have e1 := Lib.hid (hbr.out.trans (mst_near s0 (t1, t2) (x, y) hnear))
              go_wp2_with fail
              go_quiet (fail)
              obtain ⟨W2, hW2⟩ : ∃ W2, (wr.alloc (.cells #[.int .i64 x, .int .i64 y] 30)).drewN nq = W2 := ⟨_, rfl⟩
              have B2 : Below W1.heap.size W1 W2 := by subst hW2; exact below_drewN (hb.alloc hb.size _) _
              have O2 := Lib.hid (show Owns W2 W1.heap.size _ (s0 ++ [(t1, t2)]) by subst hW2; exact (ho.out.alloc _).drewN _)
              have d1 : W2.cell? ⟨wr.heap.size, 0, none⟩ = some (.int .i64 x) := by subst hW2; exact (Boxed2.new wr _ _ _).cell0
              have d2 : W2.cell? ⟨wr.heap.size, 1, none⟩ = some (.int .i64 y) := by subst hW2; exact (Boxed2.new wr _ _ _).cell1
              have z2 : W1.heap.size ≤ W2.heap.size := B2.size
              rw [hW2]
              clear hW2 ho
              obtain ⟨g2, cap2, heq, r1, r2, r3, r4, r5, r6⟩ := O2.out.last
              cases heq
              have hgne2 : g ≠ wr.heap.size := hgne
              dsimp only at r3 r4
              go_wp2_with fail
              go_region
              go_wp2
              go_roundw
              case rel => exact ⟨k + 1, by omega, by go_num, Lib.hid (by rw [e1.out]; exact r6 _), B2.drew.setCell (p := ⟨g, s0.length * 2 + 1, none⟩) r1 _⟩
              case measure => simp [intOf]; omega
            · have e1 := Lib.hid (hbr.out.trans (mst_far s0 (t1, t2) (x, y) hnear))
              go_wp2_with fail
              go_quiet (fail)
              obtain ⟨W2, hW2⟩ : ∃ W2, (wr.alloc (.cells #[.int .i64 x, .int .i64 y] 30)).drewN nq = W2 := ⟨_, rfl⟩
              have B2 : Below W1.heap.size W1 W2 := by subst hW2; exact below_drewN (hb.alloc hb.size _) _
              have O2 := Lib.hid (show Owns W2 W1.heap.size _ (s0 ++ [(t1, t2)]) by subst hW2; exact (ho.out.alloc _).drewN _)
              have d1 : W2.cell? ⟨wr.heap.size, 0, none⟩ = some (.int .i64 x) := by subst hW2; exact (Boxed2.new wr _ _ _).cell0
              have d2 : W2.cell? ⟨wr.heap.size, 1, none⟩ = some (.int .i64 y) := by subst hW2; exact (Boxed2.new wr _ _ _).cell1
              have z2 : W1.heap.size ≤ W2.heap.size := B2.size
              rw [hW2]
              clear hW2 ho
              have hsl2 : (s0 ++ [(t1, t2)]).length ≤ 10001 := by simp; omega
              go_wp2_with (first | (at_builtin; refine wpList_append_own _ rfl _ _ 22 rfl W1.heap.size 30 i0 (.agg #[.int .i64 0, .int .i64 0]) 2 16 Tryz.underlying22 hi0 hz0 hz1 hz2 rfl (by decide) _ _ _ rfl (O2.out.alloc _) ⟨W2.heap.size, 0, none⟩ 1 1 [.int .i64 x, .int .i64 y] rfl rfl (cell_two_new _ _ _ _ _ rfl) (by simp [Value.oneCell']) (by unfold maxLen; omega) (by omega) (by simp; omega) ?_; intro v' w1 hown' hgrow _; obtain ⟨g', cap', rfl⟩ := ownsRow_succ hown'))
              go_roundw
              case rel => exact ⟨k + 1, by omega, by go_num, Lib.hid (by rw [e1.out]; show World.ownsRow _ _ _ _ _ _ _; rw [flat_snoc, List.length_append]; have h9 := hown'; rw [show (s0 ++ [(t1, t2)]).length = s0.length + 1 by simp] at h9; rw [show List.length (s0 ++ [(t1, t2)]) = s0.length + 1 by simp]; exact h9), O2.out.grown (Nat.le_refl _) B2 (by omega) _ hgrow⟩
              case measure => simp [intOf]; omega
        · obtain rfl : k = m.length := by omega
          rw [List.take_length] at ho
          have hml2 := mk_length m m.length (Nat.le_refl _)
          rw [List.take_length] at hml2
          go_wp2
          go_ret2
          exact ⟨_, mk m, rfl, HI.out, by omega, ho.out.mono B1.size, B1.trans (hb.mono B1.size)⟩

set_option maxHeartbeats 2000000 in
set_option maxRecDepth 100000 in
theorem make_bad (l : Sps) (p : Option Addr) (cap : Nat) (w : World) (hl : l.length ≤ 10000) (hv : (l.all fun s => isS s.1 s.2) = false) (hc : Cells w p l) :
    Calls Tryz.prog 24 #[.slice p l.length cap] w fun e w' => e = .returned (.tuple #[.slice none 0 0, .int .i64 2]) ∧ Below w.heap.size w w' := by
  have HV := Lib.hid hv; clear hv
  have HC := Lib.hid hc; clear hc
  obtain ⟨i0, hi0, hz0, hz1, hz2⟩ := info_parts info_span
  go_enter Tryz.func24, Tryz.ntmps24
  go_wp2
  go_loopw [4, 13] (fun c i wr => ∃ k : Nat, k ≤ l.length ∧ i = .int .i64 k ∧ Hid (Owns wr w.heap.size c (full (l.take k))) ∧ Hid (((l.take k).all fun s => isS s.1 s.2) = true) ∧ Below w.heap.size w wr) (fun _ i _ => l.length - (intOf i).toNat)
  case atStart => exact ⟨0, by omega, rfl, Lib.hid (by simpa [full] using Owns.nil _ _), Lib.hid (by simp), Below.refl _ _⟩
  case round =>
    obtain ⟨k, hk, rfl, ho, ha, hb⟩ := hrel
    by_cases hlt : k < l.length
    · obtain ⟨b, off, rfl, hlt', x, y, hxy, h1, h2⟩ := HC.out.at k hlt
      have c1 := (hb.cell (p := ⟨b, off + k * 2, none⟩) hlt').trans h1
      have c2 := (hb.cell (p := ⟨b, off + k * 2 + 1, none⟩) hlt').trans h2
      have hne : b ≠ wr.heap.size := Nat.ne_of_lt (Nat.lt_of_lt_of_le hlt' hb.size)
      have hst := take_succ_snoc hlt
      rw [hxy] at hst
      have hfs := Lib.hid (full_snoc (l.take k) (x, y))
      have hlen := full_length (l.take k)
      rw [List.length_take] at hlen
      rw [← hst] at hfs
      have ha2 := Lib.hid (show isS x y = true → ((l.take (k + 1)).all fun s => isS s.1 s.2) = true from fun h => by rw [hst, List.all_append, ha.out]; simp [h])
      clear h1 h2 hxy hst ha
      obtain ⟨set, hset⟩ : ∃ set, set = full (l.take k) := ⟨_, rfl⟩
      rw [← hset] at ho hfs hlen
      clear hset
      have hsl : set.length ≤ 10000 := by omega
      clear hlen
      by_cases hS : isS x y = true
      · have CS := Lib.hid (fun W => isSpan_is x y true W hS)
        have ha3 := Lib.hid (ha2.out hS)
        clear hS ha2
        go_wp2_with fail
        refine (CS.out _).mono ?_
        rintro e W2 ⟨rfl, hb2⟩
        have B2 : Below w.heap.size w W2 := (hb.alloc hb.size _).trans (hb2.mono (by simp; have := hb.size; omega))
        have O2 := Lib.hid ((ho.out.alloc _).below hb2)
        have d1 : W2.cell? ⟨wr.heap.size, 0, none⟩ = some (.int .i64 x) := (hb2.cell (p := ⟨wr.heap.size, 0, none⟩) (by simp)).trans (by simp)
        have d2 : W2.cell? ⟨wr.heap.size, 1, none⟩ = some (.int .i64 y) := (hb2.cell (p := ⟨wr.heap.size, 1, none⟩) (by simp)).trans (by simp)
        have z2 : w.heap.size ≤ W2.heap.size := B2.size
        clear hb2 ho c1 c2
        by_cases hx : x < y
        · rw [if_pos (show (x, y).1 < (x, y).2 from hx)] at hfs
          go_wp2_with (first | (at_builtin; refine wpList_append_own _ rfl _ _ 22 rfl w.heap.size 30 i0 (.agg #[.int .i64 0, .int .i64 0]) 2 16 Tryz.underlying22 hi0 hz0 hz1 hz2 rfl (by decide) _ _ _ rfl (O2.out.alloc _) ⟨W2.heap.size, 0, none⟩ 1 1 [.int .i64 x, .int .i64 y] rfl rfl (cell_two_new _ _ _ _ _ rfl) (by simp [Value.oneCell']) (by unfold maxLen; omega) (by omega) (by simp; omega) ?_; intro v' w1 hown' hgrow _; obtain ⟨g', cap', rfl⟩ := ownsRow_succ hown'))
          go_roundw
          case rel => exact ⟨k + 1, by omega, by go_num, Lib.hid (by rw [hfs.out]; show World.ownsRow _ _ _ _ _ _ _; rw [flat_snoc, List.length_append]; exact hown'), ha3, O2.out.grown (Nat.le_refl _) B2 (by omega) _ hgrow⟩
          case measure => simp [intOf]; omega
        · rw [if_neg (show ¬ (x, y).1 < (x, y).2 from hx)] at hfs
          go_wp2
          go_roundw
          case rel => exact ⟨k + 1, by omega, by go_num, Lib.hid (by rw [hfs.out]; exact O2.out), ha3, B2⟩
          case measure => simp [intOf]; omega
      · have CS := Lib.hid (fun W => isSpan_is x y false W (by simpa using hS))
        clear hS ha2 hfs
        go_wp2_with fail
        refine (CS.out _).mono ?_
        rintro e W2 ⟨rfl, hb2⟩
        have B2 : Below w.heap.size w W2 := (hb.alloc hb.size _).trans (hb2.mono (by simp; have := hb.size; omega))
        go_wp2
        go_ret2
        exact ⟨rfl, B2⟩
    · obtain rfl : k = l.length := by omega
      have h9 := ha.out
      rw [List.take_length, HV.out] at h9
      cases h9

theorem make_any (l : Sps) (p : Option Addr) (cap : Nat) (w : World) (hl : l.length ≤ 10000) (hc : Cells w p l) :
    Calls Tryz.prog 24 #[.slice p l.length cap] w fun e w' => ∃ v m c, e = .returned (.tuple #[v, .int .i64 c]) ∧ Owns w' w.heap.size v m ∧ Below w.heap.size w w' ∧ m.length ≤ l.length ∧
      ((l.all fun s => isS s.1 s.2) = true ∧ c = 0 ∧ IsSet (mem l) m ∨ (l.all fun s => isS s.1 s.2) = false ∧ c = 2 ∧ m = []) := by
  cases h : (l.all fun s => isS s.1 s.2) with
  | true => exact (make_ok l p cap w hl (by simpa using h) hc).mono fun _ _ ⟨v, m, he, hs, hm, ho, hb⟩ => ⟨v, m, 0, he, ho, hb, hm, .inl ⟨rfl, rfl, hs⟩⟩
  | false => exact (make_bad l p cap w hl h hc).mono fun _ _ ⟨he, hb⟩ => ⟨_, [], 2, he, Owns.nil _ _, hb, by simp, .inr ⟨rfl, rfl, rfl⟩⟩

end Go.Proofs.YtgpbdocgnfjckaaGreat
