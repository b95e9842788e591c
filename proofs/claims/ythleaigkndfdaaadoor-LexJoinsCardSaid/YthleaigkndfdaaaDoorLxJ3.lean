/- The walk of LexJoins. -/
import Derived.Test.YthleaigkndfdaaaDoorLxJ2
import Derived.Test.YthleaigkndfdaaaDoorLxG1
import Derived.Deep.QuietTactic
import Derived.BigQuiet
namespace Go.Proofs.YthleaigkndfdaaaDoor
open Go.RowKit Go.Shelf

/-- Tokens that an append may read. -/
def ASrc (W : World) (p : Option Addr) (m : List Tok) : Prop :=
  (p = none ∧ m = []) ∨ ∃ ad : Addr, p = some ad ∧ ∀ j u, (tflat m)[j]? = some u → W.cell? (ad.add j) = some u
theorem asrc_of {W : World} {p : Option Addr} {m : List Tok} (h : TCells W p m) : ASrc W p m := by
  cases p with
  | none =>
    left
    refine ⟨rfl, ?_⟩
    cases m with
    | nil => rfl
    | cons x m => obtain ⟨_, _, e, _⟩ := h 0 (by simp); cases e
  | some ad =>
    refine .inr ⟨ad, rfl, fun j u hu => ?_⟩
    have hj : j < m.length * 4 := by
      rw [← tflat_length]
      rcases Nat.lt_or_ge j (tflat m).length with h' | h'
      · exact h'
      · rw [List.getElem?_eq_none h'] at hu; cases hu
    have hi : j / 4 < m.length := by omega
    obtain ⟨b, off, e, h0, h1, h2, h3⟩ := h (j / 4) hi
    cases e
    have hf := tflat_get m (j / 4) hi
    rw [WideShapes.add_plain]
    rcases (show j % 4 = 0 ∨ j % 4 = 1 ∨ j % 4 = 2 ∨ j % 4 = 3 by omega) with hr | hr | hr | hr
    · rw [show j = j / 4 * 4 by omega, hf.1] at hu
      cases hu
      rw [show off + j = off + j / 4 * 4 by omega]; exact h0
    · rw [show j = j / 4 * 4 + 1 by omega, hf.2.1] at hu
      cases hu
      rw [show off + j = off + j / 4 * 4 + 1 by omega]; exact h1
    · rw [show j = j / 4 * 4 + 2 by omega, hf.2.2.1] at hu
      cases hu
      rw [show off + j = off + j / 4 * 4 + 2 by omega]; exact h2
    · rw [show j = j / 4 * 4 + 3 by omega, hf.2.2.2] at hu
      cases hu
      rw [show off + j = off + j / 4 * 4 + 3 by omega]; exact h3

theorem run_append_arg (w : World) (base : Nat) (v : Value) (l : List Tok) (hown : TOwns w base v l) (p : Option Addr) (c : Nat) (m : List Tok) (hs : ASrc w p m) (hN : l.length + m.length ≤ 100000) (hbase : base ≤ w.heap.size) :
    ∃ v' w', (Builtin.append_ #[22, 22] 22 #[v, .slice p m.length c]).run Tryd.prog w = .ok v' w' ∧ TOwns w' base v' (l ++ m) ∧ w.grownBy w' v.ownBlock ∧ (v'.ownBlock = v.ownBlock ∨ v'.ownBlock = some w.heap.size) := by
  obtain ⟨i0, hi0, hz0, hz1, hz2⟩ := info_parts info_token
  rcases hs with ⟨rfl, rfl⟩ | ⟨ad, rfl, hc⟩
  · exact ⟨v, w, run_append_none w base v l hown c, by rw [List.append_nil]; exact hown, World.grownBy.refl w _, .inl rfl⟩
  · obtain ⟨v', w', h1, h2, h3, _, h5⟩ := run_append_own_at (P := Tryd.prog) w base 22 22 27 i0 _ 4 40 Tryd.underlying22 hi0 hz0 hz1 hz2 rfl (by omega) v l.length (tflat l) hown ad m.length c (tflat m) (tflat_length m) hc (one_flat m) (by simp only [maxLen]; omega) (by omega) hbase
    refine ⟨v', w', h1, ?_, h3, h5⟩
    unfold TOwns
    rw [show tflat (l ++ m) = tflat l ++ tflat m by unfold tflat; rw [List.flatMap_append], List.length_append]
    exact h2

theorem wp_append_arg {o : Oper} {a : Act} {K : Act → World → Prop} {Q : Exit → Act → World → Prop} (w : World) (s x : Operand)
    (ho : o.op = .call { callee := .builtin .append, args := #[s, x], argTypes := #[22, 22] }) (hty : o.type = 22)
    (base : Nat) (v : Value) (l : List Tok) (hs : a.eval s = v) (hown : TOwns w base v l) (p : Option Addr) (n c : Nat) (m : List Tok) (hn : m.length = n) (hx : a.eval x = .slice p n c) (hsr : ASrc w p m) (hN : l.length + m.length ≤ 100000) (hbase : base ≤ w.heap.size)
    (h : ∀ v' w', TOwns w' base v' (l ++ m) → w.grownBy w' v.ownBlock → (v'.ownBlock = v.ownBlock ∨ v'.ownBlock = some w.heap.size) → K (a.put o.dst v') w') : o.wp Tryd.prog a w K Q := by
  subst hn
  obtain ⟨v', w', hr, h2, h3, h4⟩ := run_append_arg w base v l hown p c m hsr hN hbase
  unfold Oper.wp execOp
  simp only [ho, hty, resolve, invoke, builtin, Sem.run_bind, Sem.run_pure, Result.andThen_ok, List.map_toArray, List.map_cons, List.map_nil, hs, hx, hr]
  exact h v' w' h2 h3 h4

theorem jcost_le (l : List Tok) (n : Nat) (h : ∀ x ∈ l, x.2.1.size ≤ n) : jcost l ≤ l.length * (n + 1) := by
  induction l with
  | nil => simp [jcost]
  | cons x l ih =>
    have h1 := h x (by simp)
    have h2 := ih (fun x hx => h x (by simp [hx]))
    unfold jcost at *
    rw [List.map_cons, List.sum_cons, List.length_cons, Nat.succ_mul]; omega

set_option maxHeartbeats 2000000 in
set_option maxRecDepth 100000 in
theorem joins_law (l : List Tok) (p : Option Addr) (cap : Nat) (w : World) (hL : Lens w) (hc : TCells w p l) (hn : l.length ≤ 9223372036854775807) (hz : ∀ x ∈ l, x.2.1.size ≤ maxLen) :
    Calls Tryd.prog 3 #[.slice p l.length cap] w fun e w' => e = .returned (.bool true) ∧ Below w.heap.size w w' := by
  have HC := Lib.hid hc
  have HZ := Lib.hid hz
  have HL := Lib.hid hL
  have HS := Lib.hid (asrc_of (hc.below ((Below.refl _ _).alloc (Nat.le_refl _) (.cells #[] 27))))
  have CA := Lib.hid (awake_any w hL)
  clear hc hz hL
  by_cases h200 : l.length ≤ 200
  · go_enter Tryd.func3, Tryd.ntmps3
    go_wp2
    go_loop [3] (fun i => ∃ k : Nat, k ≤ l.length ∧ i = .int .i64 k ∧ Hid (∀ j (hj : j < l.length), j < k → (l[j]'hj).2.1.size ≤ 100)) (fun i => l.length - (intOf i).toNat)
    case atStart => exact ⟨0, by omega, rfl, Lib.hid (fun j _ h => absurd h (by omega))⟩
    case round =>
      obtain ⟨k, hk, rfl, hI⟩ := hrel
      by_cases hlt : k < l.length
      · obtain ⟨b, off, rfl, c0, c1, c2, c3⟩ := HC.out k hlt
        have hzk := HZ.out l[k] (List.getElem_mem hlt)
        obtain ⟨x, hx⟩ : ∃ x, x = l[k].2.1 := ⟨_, rfl⟩
        rw [← hx] at c1 hzk
        unfold maxLen at hzk
        by_cases h100 : x.size ≤ 100
        · have hN : Hid (∀ j (hj : j < l.length), j < k + 1 → (l[j]'hj).2.1.size ≤ 100) := Lib.hid (fun j hj hjk => by
            rcases Nat.lt_or_ge j k with h | h
            · exact hI.out j hj h
            · obtain rfl : j = k := by omega
              rw [← hx]; exact h100)
          clear hx
          go_wp2
          go_round
          case rel => exact ⟨k + 1, by omega, by go_num, hN⟩
          case measure => simp [intOf]; omega
        · clear hx
          go_wp2_with (refine CA.out.mono ?_; rintro e w1 ⟨rfl, b1⟩)
          go_ret
          exact ⟨rfl, b1⟩
      · have hcost : Hid (jcost l ≤ 20200) := Lib.hid (by
          have := jcost_le l 100 (fun x hx => by
            obtain ⟨j, hj, rfl⟩ := List.mem_iff_getElem.1 hx
            exact hI.out j hj (by omega))
          have h2 : l.length * (100 + 1) ≤ 200 * 101 := Nat.mul_le_mul_right _ h200
          omega)
        clear hI
        go_wp2_with (first | (at_builtin; refine wpList_plain rfl fun KK hKK => ?_; refine wp_append_arg _ _ _ rfl rfl w.heap.size _ [] rfl (owns_empty w) p l.length cap l rfl rfl HS.out (by simp; omega) (by simp) ?_; intro v1 w1 hown hgrow _; refine hKK _ _ ?_; clear hKK) | fail)
        have b1 : Below w.heap.size w w1 := ((Below.refl w.heap.size w).alloc (Nat.le_refl _) _).grown hgrow (by simp) (fun g hg => by
          have : w.heap.size = g := Option.some.inj hg
          omega)
        obtain ⟨p1, cap1, rfl, hc1⟩ := TOwns.form (show TOwns w1 w.heap.size v1 l from hown)
        clear hown hgrow HS
        refine (join_any l p1 cap1 w1 (by omega) hc1 (Nat.le_trans hcost.out (by omega))).mono ?_
        rintro e w2 ⟨rfl, b2⟩
        have B2 := below_next b1 b2
        have hc2 := hc1.below b2
        clear b1 b2 hc1
        go_wp2_with fail
        refine (given_any l p cap w2 (by omega) (HC.out.below B2)).mono ?_
        rintro e w3 ⟨v3, rfl, h3, b3⟩
        obtain ⟨p3, cap3, rfl, hc3⟩ := h3.form
        have B3 := Lib.hid (below_next B2 b3)
        have HC3 := Lib.hid (hc2.below b3)
        clear B2 b3 hc2 h3
        go_wp2_with fail
        refine (joinR_any l p3 cap3 w3 (by omega) hc3 (Nat.le_trans hcost.out (by omega))).mono ?_
        rintro e w4 ⟨rfl, rfl⟩
        clear hc3 hcost
        go_wp2_with fail
        go_loopw [5] (fun i wr => ∃ j : Nat, j ≤ l.length ∧ i = .int .i64 j ∧ Hid (Below w.heap.size w wr ∧ TCells wr p1 l)) (fun i _ => l.length - (intOf i).toNat)
        case atStart => exact ⟨0, by omega, rfl, Lib.hid ⟨B3.out, HC3.out⟩⟩
        case round =>
          obtain ⟨j, hj, rfl, hJ⟩ := hrel
          by_cases hjl : j < l.length
          · obtain ⟨b, off, rfl, c0, c1, c2, c3⟩ := HC.out.below hJ.out.1 j hjl
            obtain ⟨b', off', rfl, d0, d1, d2, d3⟩ := hJ.out.2 j hjl
            have hj0 : (0 : Int) ≤ (j : Int) := by omega
            have hj1 : (j : Int) < (l.length : Int) := by omega
            generalize l[j] = x at c0 c1 c2 c3 d0 d1 d2 d3
            obtain ⟨kd, tx, ln, cl⟩ := x
            dsimp only at c0 c1 c2 c3 d0 d1 d2 d3
            go_wp2_with fail
            go_quiet (fail)
            go_wp2_with fail
            go_roundw
            case rel => exact ⟨j + 1, by omega, by go_num, Lib.hid ⟨below_drewN hJ.out.1 nq, hJ.out.2⟩⟩
            case measure => simp [intOf]; omega
          · go_wp2_with fail
            refine (awake_any _ (HL.out.below hJ.out.1)).mono ?_
            rintro e w5 ⟨rfl, b5⟩
            have B5 := below_next hJ.out.1 b5
            go_wp2
            go_ret
            exact ⟨rfl, B5⟩
  · go_enter Tryd.func3, Tryd.ntmps3
    go_wp2_with (refine CA.out.mono ?_; rintro e w1 ⟨rfl, b1⟩)
    go_ret
    exact ⟨rfl, b1⟩

end Go.Proofs.YthleaigkndfdaaaDoor
