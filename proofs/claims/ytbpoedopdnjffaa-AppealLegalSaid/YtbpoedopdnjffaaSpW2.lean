/- The walk of the iterator of changes. -/
import Derived.RangeFuncNested
import Derived.RangeFuncBound
import Derived.RangeFuncCalls
import Derived.RangeFuncLeaves
import Derived.RangeFuncBox
import Derived.Shelf.Abstract
import Derived.Sort.AtCallIn
import Derived.Shelf.RegionOpen
import Derived.OwnWalkIn
import Derived.TacticsInMore
import Derived.LoopNIn
import Derived.LoopIn
import Derived.Maps.AppendAt
import Derived.Test.YtbpoedopdnjffaaSpW1
namespace Go.Proofs.Ytbpoedopdnjffaa
open Go.RowKit Go.Shelf Sp

attribute [local go_sem] Oper.semAt_some

/-- What a round of the loop over the changes keeps: the memory below n₀, and the two boxes of the iterator. -/
def Kpc (n₀ Ba Bb : Nat) (va vb : Value) (W W' : World) : Prop := Below n₀ W W' ∧ (Boxed W Ba 37 va → Boxed W' Ba 37 va) ∧ (Boxed W Bb 37 vb → Boxed W' Bb 37 vb)

theorem Kpc.t {n₀ Ba Bb : Nat} {va vb : Value} {A B C : World} (h : Kpc n₀ Ba Bb va vb A B) (h' : Kpc n₀ Ba Bb va vb B C) : Kpc n₀ Ba Bb va vb A C :=
  ⟨h.1.trans h'.1, fun x => h'.2.1 (h.2.1 x), fun x => h'.2.2 (h.2.2 x)⟩

theorem Boxed.putObj {W : World} {B l : Nat} {t : TypeId} {v : Value} {o : Obj} (h : Boxed W B t v) (o' : Obj) (hl : W.heap[l]? = some o) (ho : o.isCells = false) : Boxed (W.putObj l o') B t v :=
  h.kept (grownBy_putObj' W l o') (fun e => by cases e; rw [show W.heap[B]? = _ from h] at hl; cases hl; cases ho)

theorem Kpc.b {n₀ Ba Bb : Nat} {va vb : Value} {w : World} (hn : n₀ ≤ w.heap.size) (W : World) (l : Nat) (o o' : Obj) (hl : w.heap.size ≤ l) (hW : W.heap[l]? = some o) (ho : o.isCells = false) (hw : o.isWalk = false) : Kpc n₀ Ba Bb va vb W (W.putObj l o') :=
  ⟨belowK_b hn W l o o' hl hW ho hw, fun x => Boxed.putObj x o' hW ho, fun x => Boxed.putObj x o' hW ho⟩

def evv (e : Ev) : Array Value := #[.int .i64 e.1, .agg #[.bool e.2.1, .bool e.2.2]]

theorem border_in (n : Nat) (l : Sps) (i : Nat) (p : Option Addr) (cap : Nat) (w : World) (hn : l.length ≤ 100000) (hi : i < 2 * l.length) (hc : Cells w p l) :
    CallsIn Fence.wide n Try.prog 74 #[.slice p l.length cap, .int .i64 i] w fun e w' => e = .returned (.int .i64 (bord l i)) ∧ w' = w :=
  callsIn_wide.2 (border_any l i p cap w hn hi hc)

set_option maxRecDepth 100000 in
set_option maxHeartbeats 4000000 in
theorem changes1_in (n : Nat) (hn : 1 ≤ n) (l Ba Bb n₀ : Nat) (a b : Sps) (pa pb : Option Addr) (ca cb : Nat) (la : a.length ≤ 100000) (lb : b.length ≤ 100000) (va : validB a = true) (vb : validB b = true) (J Jx : List Ev → World → Prop)
    (hY : ∀ pre x W, J pre W → pre.length < (chg a b).length → YieldAt Fence.wide (n - 1) Try.prog l (evv x) W fun e W' =>
      (e = .returned (.bool true) ∧ J (pre ++ [x]) W' ∧ Kpc n₀ Ba Bb (.slice pa a.length ca) (.slice pb b.length cb) W W') ∨ (e = .returned (.bool false) ∧ Jx (pre ++ [x]) W'))
    (W : World) (bA : Boxed W Ba 37 (.slice pa a.length ca)) (bB : Boxed W Bb 37 (.slice pb b.length cb))
    (hA : ∀ W', Below n₀ W W' → Cells W' pa a) (hB : ∀ W', Below n₀ W W' → Cells W' pb b) (h0 : J [] W) :
    CallsIn Fence.wide n Try.prog 73 #[.func (.yield l) #[] #[], .pointer (some ⟨Ba, 0, none⟩), .pointer (some ⟨Bb, 0, none⟩)] W fun e W' => (∃ v, e = .returned v) ∧
      ((∃ ys, ys = chg a b ∧ J ys W') ∨ (∃ pre, pre <+: chg a b ∧ Jx pre W')) := by
  refine callsIn_of_wp Try.func73 rfl trivial ?_ rfl
  simp only [Try.ntmps73, List.size_toArray, List.length_cons, List.length_nil, Nat.reduceAdd, Nat.reduceSub, Array.replicate_succ, Array.replicate_zero, List.push_toArray, List.append_toArray, List.nil_append, List.cons_append]
  have HY := Lib.hid hY; clear hY
  have HA := Lib.hid hA; clear hA
  have HB := Lib.hid hB; clear hB
  have cA0 := bA.cell
  have cB0 := bB.cell
  have HBB := Lib.hid (And.intro bA bB); clear bA bB
  have hva := Lib.hid va; clear va
  have hvb := Lib.hid vb; clear vb
  gi_wp2
  gi_loopw [4, 5] (fun vi vj wr => ∃ (i j : Nat) (pre : List Ev), i ≤ 2 * a.length ∧ j ≤ 2 * b.length ∧ vi = .int .i64 i ∧ vj = .int .i64 j ∧ Hid (chg a b = pre ++ evs ((bl a).drop i) ((bl b).drop j) (decide (i % 2 = 1)) (decide (j % 2 = 1))) ∧ J pre wr ∧ Below n₀ W wr ∧ Hid (Boxed wr Ba 37 (.slice pa a.length ca) ∧ Boxed wr Bb 37 (.slice pb b.length cb)))
    (fun vi vj _ => (2 * a.length - (intOf vi).toNat) + (2 * b.length - (intOf vj).toNat))
  case atStart => exact ⟨0, 0, [], by omega, by omega, rfl, rfl, Lib.hid (by simp [chg]), h0, Below.refl _ _, HBB⟩
  case round =>
    obtain ⟨i, j, pre, hi, hj, rfl, rfl, hch, hJs, hnx, hbb⟩ := hrel
    have c1 := hbb.out.1.cell
    have c2 := hbb.out.2.cell
    have rA := Lib.hid (HA.out wr hnx)
    have rB := Lib.hid (HB.out wr hnx)
    obtain ⟨qa, hqa⟩ : ∃ q, q = decide (i % 2 = 1) := ⟨_, rfl⟩
    obtain ⟨qb, hqb⟩ : ∃ q, q = decide (j % 2 = 1) := ⟨_, rfl⟩
    have t1 : (((i : Int) + 1) % 2 == 1) = !qa := by rw [hqa]; by_cases h : i % 2 = 1 <;> simp [h] <;> omega
    have t2 : (((j : Int) + 1) % 2 == 1) = !qb := by rw [hqb]; by_cases h : j % 2 = 1 <;> simp [h] <;> omega
    have t3 : ((i : Int) % 2 == 1) = qa := by rw [hqa]; by_cases h : i % 2 = 1 <;> simp [h] <;> omega
    have t4 : ((j : Int) % 2 == 1) = qb := by rw [hqb]; by_cases h : j % 2 = 1 <;> simp [h] <;> omega
    have Hsa := Lib.hid (show decide ((i + 1) % 2 = 1) = !qa by rw [hqa]; by_cases h : i % 2 = 1 <;> simp [h] <;> omega)
    have Hsb := Lib.hid (show decide ((j + 1) % 2 = 1) = !qb by rw [hqb]; by_cases h : j % 2 = 1 <;> simp [h] <;> omega)
    rw [← hqa, ← hqb] at hch
    have Hqa := Lib.hid hqa
    have Hqb := Lib.hid hqb
    clear hqa hqb
    by_cases hi' : i < 2 * a.length
    · obtain ⟨x, hx⟩ : ∃ x, x = bord a i := ⟨_, rfl⟩
      have ex := Lib.hid (bl_drop a i hi')
      have bx := bord_bd hva.out hi'
      have cA := Lib.hid (fun m => border_in m a i pa ca wr la hi' rA.out)
      rw [← hx] at ex bx cA
      clear hx
      by_cases hj' : j < 2 * b.length
      · obtain ⟨y, hy'⟩ : ∃ y, y = bord b j := ⟨_, rfl⟩
        have ey := Lib.hid (bl_drop b j hj')
        have by' := bord_bd hvb.out hj'
        have cB := Lib.hid (fun m => border_in m b j pb cb wr lb hj' rB.out)
        rw [← hy'] at ey by' cB
        clear hy'
        by_cases hxy : x < y
        · have hst := Lib.hid (show chg a b = pre ++ (x, !qa, qb) :: evs ((bl a).drop (i + 1)) ((bl b).drop (j)) (!qa) (qb) by rw [hch.out, ex.out, ey.out, evs_lt hxy])
          obtain ⟨fn, tmps, assign, body, hy, hR⟩ := HY.out pre (x, !qa, qb) wr hJs (by rw [hst.out]; simp)
          dsimp only [evv] at hy
          gi_wp2_with (first | (refine ⟨trivial, ?_⟩; gi_at_call_has 74 pa; refine (cA.out _).mono ?_; rintro e w' ⟨rfl, rfl⟩) | (refine ⟨trivial, ?_⟩; gi_at_call_has 74 pb; refine (cB.out _).mono ?_; rintro e w' ⟨rfl, rfl⟩))
          refine hR.mono ?_
          rintro e W3 (⟨rfl, hJ3, hk3⟩ | ⟨rfl, hJx3⟩)
          · gi_wp2
            go_roundw
            case rel => exact ⟨i + 1, j, pre ++ [(x, !qa, qb)], by omega, by omega, by go_num, by go_num, Lib.hid (by rw [hst.out, Hsa.out, ← Hqb.out]; simp), hJ3, hnx.trans hk3.1, Lib.hid ⟨hk3.2.1 hbb.out.1, hk3.2.2 hbb.out.2⟩⟩
            case measure => simp [intOf]; omega
          · gi_wp2
            refine bodyPost_ret (results_none rfl _ _ _) rfl ?_
            exact ⟨⟨_, rfl⟩, .inr ⟨pre ++ [(x, !qa, qb)], by rw [hst.out]; exact ⟨_, by simp; rfl⟩, hJx3⟩⟩
        · by_cases hyx : y < x
          · by_cases h65 : x = 65536
            · subst h65
              have hst := Lib.hid (show chg a b = pre ++ (y, qa, !qb) :: evs ((bl a).drop (i)) ((bl b).drop (j + 1)) (qa) (!qb) by rw [hch.out, ex.out, ey.out, evs_gt hyx])
              obtain ⟨fn, tmps, assign, body, hy, hR⟩ := HY.out pre (y, qa, !qb) wr hJs (by rw [hst.out]; simp)
              dsimp only [evv] at hy
              gi_wp2_with (first | (refine ⟨trivial, ?_⟩; gi_at_call_has 74 pa; refine (cA.out _).mono ?_; rintro e w' ⟨rfl, rfl⟩) | (refine ⟨trivial, ?_⟩; gi_at_call_has 74 pb; refine (cB.out _).mono ?_; rintro e w' ⟨rfl, rfl⟩))
              refine hR.mono ?_
              rintro e W3 (⟨rfl, hJ3, hk3⟩ | ⟨rfl, hJx3⟩)
              · gi_wp2
                go_roundw
                case rel => exact ⟨i, j + 1, pre ++ [(y, qa, !qb)], by omega, by omega, by go_num, by go_num, Lib.hid (by rw [hst.out, ← Hqa.out, Hsb.out]; simp), hJ3, hnx.trans hk3.1, Lib.hid ⟨hk3.2.1 hbb.out.1, hk3.2.2 hbb.out.2⟩⟩
                case measure => simp [intOf]; omega
              · gi_wp2
                refine bodyPost_ret (results_none rfl _ _ _) rfl ?_
                exact ⟨⟨_, rfl⟩, .inr ⟨pre ++ [(y, qa, !qb)], by rw [hst.out]; exact ⟨_, by simp; rfl⟩, hJx3⟩⟩
            · have h66 : x < 65536 := by omega
              have hst := Lib.hid (show chg a b = pre ++ (y, qa, !qb) :: evs ((bl a).drop (i)) ((bl b).drop (j + 1)) (qa) (!qb) by rw [hch.out, ex.out, ey.out, evs_gt hyx])
              obtain ⟨fn, tmps, assign, body, hy, hR⟩ := HY.out pre (y, qa, !qb) wr hJs (by rw [hst.out]; simp)
              dsimp only [evv] at hy
              gi_wp2_with (first | (refine ⟨trivial, ?_⟩; gi_at_call_has 74 pa; refine (cA.out _).mono ?_; rintro e w' ⟨rfl, rfl⟩) | (refine ⟨trivial, ?_⟩; gi_at_call_has 74 pb; refine (cB.out _).mono ?_; rintro e w' ⟨rfl, rfl⟩))
              refine hR.mono ?_
              rintro e W3 (⟨rfl, hJ3, hk3⟩ | ⟨rfl, hJx3⟩)
              · gi_wp2
                go_roundw
                case rel => exact ⟨i, j + 1, pre ++ [(y, qa, !qb)], by omega, by omega, by go_num, by go_num, Lib.hid (by rw [hst.out, ← Hqa.out, Hsb.out]; simp), hJ3, hnx.trans hk3.1, Lib.hid ⟨hk3.2.1 hbb.out.1, hk3.2.2 hbb.out.2⟩⟩
                case measure => simp [intOf]; omega
              · gi_wp2
                refine bodyPost_ret (results_none rfl _ _ _) rfl ?_
                exact ⟨⟨_, rfl⟩, .inr ⟨pre ++ [(y, qa, !qb)], by rw [hst.out]; exact ⟨_, by simp; rfl⟩, hJx3⟩⟩
          · obtain rfl : x = y := by omega
            by_cases h65 : x = 65536
            · subst h65
              have hst := Lib.hid (show chg a b = pre ++ (65536, !qa, !qb) :: evs ((bl a).drop (i + 1)) ((bl b).drop (j + 1)) (!qa) (!qb) by rw [hch.out, ex.out, ey.out, evs_eq])
              obtain ⟨fn, tmps, assign, body, hy, hR⟩ := HY.out pre (65536, !qa, !qb) wr hJs (by rw [hst.out]; simp)
              dsimp only [evv] at hy
              gi_wp2_with (first | (refine ⟨trivial, ?_⟩; gi_at_call_has 74 pa; refine (cA.out _).mono ?_; rintro e w' ⟨rfl, rfl⟩) | (refine ⟨trivial, ?_⟩; gi_at_call_has 74 pb; refine (cB.out _).mono ?_; rintro e w' ⟨rfl, rfl⟩))
              refine hR.mono ?_
              rintro e W3 (⟨rfl, hJ3, hk3⟩ | ⟨rfl, hJx3⟩)
              · gi_wp2
                go_roundw
                case rel => exact ⟨i + 1, j + 1, pre ++ [(65536, !qa, !qb)], by omega, by omega, by go_num, by go_num, Lib.hid (by rw [hst.out, Hsa.out, Hsb.out]; simp), hJ3, hnx.trans hk3.1, Lib.hid ⟨hk3.2.1 hbb.out.1, hk3.2.2 hbb.out.2⟩⟩
                case measure => simp [intOf]; omega
              · gi_wp2
                refine bodyPost_ret (results_none rfl _ _ _) rfl ?_
                exact ⟨⟨_, rfl⟩, .inr ⟨pre ++ [(65536, !qa, !qb)], by rw [hst.out]; exact ⟨_, by simp; rfl⟩, hJx3⟩⟩
            · have h66 : x < 65536 := by omega
              have hst := Lib.hid (show chg a b = pre ++ (x, !qa, !qb) :: evs ((bl a).drop (i + 1)) ((bl b).drop (j + 1)) (!qa) (!qb) by rw [hch.out, ex.out, ey.out, evs_eq])
              obtain ⟨fn, tmps, assign, body, hy, hR⟩ := HY.out pre (x, !qa, !qb) wr hJs (by rw [hst.out]; simp)
              dsimp only [evv] at hy
              gi_wp2_with (first | (refine ⟨trivial, ?_⟩; gi_at_call_has 74 pa; refine (cA.out _).mono ?_; rintro e w' ⟨rfl, rfl⟩) | (refine ⟨trivial, ?_⟩; gi_at_call_has 74 pb; refine (cB.out _).mono ?_; rintro e w' ⟨rfl, rfl⟩))
              refine hR.mono ?_
              rintro e W3 (⟨rfl, hJ3, hk3⟩ | ⟨rfl, hJx3⟩)
              · gi_wp2
                go_roundw
                case rel => exact ⟨i + 1, j + 1, pre ++ [(x, !qa, !qb)], by omega, by omega, by go_num, by go_num, Lib.hid (by rw [hst.out, Hsa.out, Hsb.out]; simp), hJ3, hnx.trans hk3.1, Lib.hid ⟨hk3.2.1 hbb.out.1, hk3.2.2 hbb.out.2⟩⟩
                case measure => simp [intOf]; omega
              · gi_wp2
                refine bodyPost_ret (results_none rfl _ _ _) rfl ?_
                exact ⟨⟨_, rfl⟩, .inr ⟨pre ++ [(x, !qa, !qb)], by rw [hst.out]; exact ⟨_, by simp; rfl⟩, hJx3⟩⟩
      · by_cases h65 : x = 65536
        · subst h65
          have hst := Lib.hid (show chg a b = pre ++ (65536, !qa, qb) :: evs ((bl a).drop (i + 1)) ((bl b).drop (j)) (!qa) (qb) by rw [hch.out, ex.out, bl_end b j (by omega), evs_xn])
          obtain ⟨fn, tmps, assign, body, hy, hR⟩ := HY.out pre (65536, !qa, qb) wr hJs (by rw [hst.out]; simp)
          dsimp only [evv] at hy
          gi_wp2_with (first | (refine ⟨trivial, ?_⟩; gi_at_call_has 74 pa; refine (cA.out _).mono ?_; rintro e w' ⟨rfl, rfl⟩))
          refine ⟨trivial, ?_⟩
          gi_wp2_with (first | (refine ⟨trivial, ?_⟩; gi_at_call_has 74 pa; refine (cA.out _).mono ?_; rintro e w' ⟨rfl, rfl⟩))
          refine hR.mono ?_
          rintro e W3 (⟨rfl, hJ3, hk3⟩ | ⟨rfl, hJx3⟩)
          · gi_wp2
            go_roundw
            case rel => exact ⟨i + 1, j, pre ++ [(65536, !qa, qb)], by omega, by omega, by go_num, by go_num, Lib.hid (by rw [hst.out, Hsa.out, ← Hqb.out]; simp), hJ3, hnx.trans hk3.1, Lib.hid ⟨hk3.2.1 hbb.out.1, hk3.2.2 hbb.out.2⟩⟩
            case measure => simp [intOf]; omega
          · gi_wp2
            refine bodyPost_ret (results_none rfl _ _ _) rfl ?_
            exact ⟨⟨_, rfl⟩, .inr ⟨pre ++ [(65536, !qa, qb)], by rw [hst.out]; exact ⟨_, by simp; rfl⟩, hJx3⟩⟩
        · have h66 : x < 65536 := by omega
          have hst := Lib.hid (show chg a b = pre ++ (x, !qa, qb) :: evs ((bl a).drop (i + 1)) ((bl b).drop (j)) (!qa) (qb) by rw [hch.out, ex.out, bl_end b j (by omega), evs_xn])
          obtain ⟨fn, tmps, assign, body, hy, hR⟩ := HY.out pre (x, !qa, qb) wr hJs (by rw [hst.out]; simp)
          dsimp only [evv] at hy
          gi_wp2_with (first | (refine ⟨trivial, ?_⟩; gi_at_call_has 74 pa; refine (cA.out _).mono ?_; rintro e w' ⟨rfl, rfl⟩))
          refine ⟨trivial, ?_⟩
          gi_wp2_with (first | (refine ⟨trivial, ?_⟩; gi_at_call_has 74 pa; refine (cA.out _).mono ?_; rintro e w' ⟨rfl, rfl⟩))
          refine hR.mono ?_
          rintro e W3 (⟨rfl, hJ3, hk3⟩ | ⟨rfl, hJx3⟩)
          · gi_wp2
            go_roundw
            case rel => exact ⟨i + 1, j, pre ++ [(x, !qa, qb)], by omega, by omega, by go_num, by go_num, Lib.hid (by rw [hst.out, Hsa.out, ← Hqb.out]; simp), hJ3, hnx.trans hk3.1, Lib.hid ⟨hk3.2.1 hbb.out.1, hk3.2.2 hbb.out.2⟩⟩
            case measure => simp [intOf]; omega
          · gi_wp2
            refine bodyPost_ret (results_none rfl _ _ _) rfl ?_
            exact ⟨⟨_, rfl⟩, .inr ⟨pre ++ [(x, !qa, qb)], by rw [hst.out]; exact ⟨_, by simp; rfl⟩, hJx3⟩⟩
    · by_cases hj' : j < 2 * b.length
      · obtain ⟨y, hy'⟩ : ∃ y, y = bord b j := ⟨_, rfl⟩
        have ey := Lib.hid (bl_drop b j hj')
        have by' := bord_bd hvb.out hj'
        have cB := Lib.hid (fun m => border_in m b j pb cb wr lb hj' rB.out)
        rw [← hy'] at ey by' cB
        clear hy'
        by_cases h65 : y = 65536
        · subst h65
          have hst := Lib.hid (show chg a b = pre ++ (65536, qa, !qb) :: evs ((bl a).drop (i)) ((bl b).drop (j + 1)) (qa) (!qb) by rw [hch.out, ey.out, bl_end a i (by omega), evs_ny])
          obtain ⟨fn, tmps, assign, body, hy, hR⟩ := HY.out pre (65536, qa, !qb) wr hJs (by rw [hst.out]; simp)
          dsimp only [evv] at hy
          gi_wp2_with (first | (refine ⟨trivial, ?_⟩; gi_at_call_has 74 pb; refine (cB.out _).mono ?_; rintro e w' ⟨rfl, rfl⟩))
          refine ⟨trivial, ?_⟩
          gi_wp2_with (first | (refine ⟨trivial, ?_⟩; gi_at_call_has 74 pb; refine (cB.out _).mono ?_; rintro e w' ⟨rfl, rfl⟩))
          refine hR.mono ?_
          rintro e W3 (⟨rfl, hJ3, hk3⟩ | ⟨rfl, hJx3⟩)
          · gi_wp2
            go_roundw
            case rel => exact ⟨i, j + 1, pre ++ [(65536, qa, !qb)], by omega, by omega, by go_num, by go_num, Lib.hid (by rw [hst.out, ← Hqa.out, Hsb.out]; simp), hJ3, hnx.trans hk3.1, Lib.hid ⟨hk3.2.1 hbb.out.1, hk3.2.2 hbb.out.2⟩⟩
            case measure => simp [intOf]; omega
          · gi_wp2
            refine bodyPost_ret (results_none rfl _ _ _) rfl ?_
            exact ⟨⟨_, rfl⟩, .inr ⟨pre ++ [(65536, qa, !qb)], by rw [hst.out]; exact ⟨_, by simp; rfl⟩, hJx3⟩⟩
        · have h66 : y < 65536 := by omega
          have hst := Lib.hid (show chg a b = pre ++ (y, qa, !qb) :: evs ((bl a).drop (i)) ((bl b).drop (j + 1)) (qa) (!qb) by rw [hch.out, ey.out, bl_end a i (by omega), evs_ny])
          obtain ⟨fn, tmps, assign, body, hy, hR⟩ := HY.out pre (y, qa, !qb) wr hJs (by rw [hst.out]; simp)
          dsimp only [evv] at hy
          gi_wp2_with (first | (refine ⟨trivial, ?_⟩; gi_at_call_has 74 pb; refine (cB.out _).mono ?_; rintro e w' ⟨rfl, rfl⟩))
          refine ⟨trivial, ?_⟩
          gi_wp2_with (first | (refine ⟨trivial, ?_⟩; gi_at_call_has 74 pb; refine (cB.out _).mono ?_; rintro e w' ⟨rfl, rfl⟩))
          refine hR.mono ?_
          rintro e W3 (⟨rfl, hJ3, hk3⟩ | ⟨rfl, hJx3⟩)
          · gi_wp2
            go_roundw
            case rel => exact ⟨i, j + 1, pre ++ [(y, qa, !qb)], by omega, by omega, by go_num, by go_num, Lib.hid (by rw [hst.out, ← Hqa.out, Hsb.out]; simp), hJ3, hnx.trans hk3.1, Lib.hid ⟨hk3.2.1 hbb.out.1, hk3.2.2 hbb.out.2⟩⟩
            case measure => simp [intOf]; omega
          · gi_wp2
            refine bodyPost_ret (results_none rfl _ _ _) rfl ?_
            exact ⟨⟨_, rfl⟩, .inr ⟨pre ++ [(y, qa, !qb)], by rw [hst.out]; exact ⟨_, by simp; rfl⟩, hJx3⟩⟩
      · have he := Lib.hid (show chg a b = pre by rw [hch.out, bl_end a i (by omega), bl_end b j (by omega), evs_nn]; simp)
        gi_wp2
        go_end0
        exact ⟨⟨_, rfl⟩, .inl ⟨pre, he.out.symm, hJs⟩⟩

end Go.Proofs.Ytbpoedopdnjffaa
