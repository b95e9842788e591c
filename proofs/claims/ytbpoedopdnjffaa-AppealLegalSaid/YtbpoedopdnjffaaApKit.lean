/- The kit's SameSpans, SameCase, SameCases; stays, Pick. -/
import Derived.Test.YtbpoedopdnjffaaApApi3
namespace Go.Proofs.Ytbpoedopdnjffaa
open Go.RowKit Go.Shelf Sp

theorem take_eq_succ {a b : Sps} {k : Nat} (ha : k < a.length) (hb : k < b.length) (h : a.take k = b.take k) (he : a[k] = b[k]) : a.take (k + 1) = b.take (k + 1) := by
  rw [take_succ_snoc ha, take_succ_snoc hb, h, he]

set_option maxHeartbeats 1000000 in
theorem same_any (a b : Sps) (pa pb : Option Addr) (ca cb : Nat) (w : World) (la : a.length ≤ 100000) (hA : Cells w pa a) (hB : Cells w pb b) :
    Calls Try.prog 30 #[.slice pa a.length ca, .slice pb b.length cb] w fun e w' => e = .returned (.bool (decide (a = b))) ∧ Below w.heap.size w w' := by
  by_cases hab : a.length = b.length
  · have HA := Lib.hid hA
    have HB := Lib.hid hB
    clear hA hB
    have hne : ((a.length : Int) != (b.length : Int)) = false := by simp [hab]
    go_enter Try.func30, Try.ntmps30
    go_wp2_with fail
    go_loopw [5] (fun i wr => ∃ k : Nat, k ≤ a.length ∧ i = .int .i64 k ∧ Hid (a.take k = b.take k) ∧ ∃ m, wr = w.drewN m) (fun i _ => a.length - (intOf i).toNat)
    case atStart => exact ⟨0, by omega, rfl, Lib.hid (by simp), 0, rfl⟩
    case round =>
      obtain ⟨k, hk, rfl, hm, m, rfl⟩ := hrel
      by_cases hlt : k < a.length
      · obtain ⟨ba, oa, rfl, _, x, y, hxy, c1, c2⟩ := HA.out.at k hlt
        obtain ⟨bb, ob, rfl, _, x', y', hxy', c3, c4⟩ := HB.out.at k (by omega)
        have hlb : k < b.length := by omega
        by_cases he : x = x' ∧ y = y'
        · obtain ⟨rfl, rfl⟩ := he
          have hf := Lib.hid (take_eq_succ hlt hlb hm.out (hxy.trans hxy'.symm))
          clear hxy hxy' hab hne
          go_wp2_with fail
          go_quiet (fail)
          go_wp2
          go_roundw
          case rel => exact ⟨k + 1, by omega, by go_num, hf, m + nq, rfl⟩
          case measure => simp [intOf]; omega
        · have hf := Lib.hid (show decide (a = b) = false by simp; intro h; subst h; rw [hxy] at hxy'; cases hxy'; exact he ⟨rfl, rfl⟩)
          clear hxy hxy' hab hne
          by_cases hx : x = x'
          · subst hx
            have hy : ¬ y = y' := fun h => he ⟨rfl, h⟩
            have hy' : (y == y') = false := by simpa using hy
            clear he
            go_wp2_with fail
            go_quiet (fail)
            go_wp2
            go_ret
            exact ⟨ret_bool hf.out.symm, below_drewN (below_drewN (Below.refl _ _) _) _⟩
          · have hx' : (x == x') = false := by simpa using hx
            clear he
            go_wp2_with fail
            go_quiet (fail)
            go_wp2
            go_ret
            exact ⟨ret_bool hf.out.symm, below_drewN (below_drewN (Below.refl _ _) _) _⟩
      · obtain rfl : k = a.length := by omega
        have hf := Lib.hid (show decide (a = b) = true by have := hm.out; rw [List.take_length, hab, List.take_length] at this; simpa using this)
        go_wp2
        go_ret
        exact ⟨ret_bool hf.out.symm, below_drewN (Below.refl _ _) _⟩
  · have hf := Lib.hid (show decide (a = b) = false by simp; intro h; exact hab (by rw [h]))
    have hne : ((a.length : Int) == (b.length : Int)) = false := by simp; omega
    clear hA hB
    go_enter Try.func30, Try.ntmps30
    go_wp2
    go_ret
    exact ⟨ret_bool hf.out.symm, Below.refl _ _⟩


/-- A case as a value. -/
def csAgg (c : Cs) (u : Value) : Value := .agg #[.bool c.el, .int .u8 c.st, .int .i64 c.opened, .int .i64 c.days, .int .i64 c.choice, .int .i64 c.level, .int .i64 c.due, .bool c.hold, .int .i64 c.since, u]

set_option maxHeartbeats 4000000 in
set_option maxRecDepth 100000 in
theorem sameCase_yes (c : Cs) (pa pb : Option Addr) (ca cb : Nat) (w : World) (la : c.held.length ≤ 100000) (hA : Cells w pa c.held) (hB : Cells w pb c.held) :
    Calls Try.prog 34 #[csAgg c (.slice pa c.held.length ca), csAgg c (.slice pb c.held.length cb)] w fun e w' => e = .returned (.bool true) ∧ Below w.heap.size w w' := by
  have HA := Lib.hid hA
  have HB := Lib.hid hB
  unfold csAgg
  obtain ⟨el, st, op, dy, ch, lv, du, ho, si, he⟩ := c
  dsimp only at la HA HB ⊢
  clear hA hB
  go_enter Try.func34, Try.ntmps34
  go_wp2_with fail
  refine (same_any he he pa pb ca cb _ la ((HA.out.below ((Below.refl _ _).alloc (Nat.le_refl _) _)).below ((Below.refl _ _).alloc (Nat.le_refl _) _)) ((HB.out.below ((Below.refl _ _).alloc (Nat.le_refl _) _)).below ((Below.refl _ _).alloc (Nat.le_refl _) _))).mono ?_
  rintro e w1 ⟨rfl, hb⟩
  go_wp2
  go_ret
  exact ⟨by simp, (((Below.refl _ _).alloc (Nat.le_refl _) _).alloc (by simp) _).trans (hb.mono (by simp; omega))⟩

set_option maxHeartbeats 1000000 in
theorem stays_yes (c : Cs) (pa pb : Option Addr) (ca cb : Nat) (w : World) (la : c.held.length ≤ 100000) (hA : Cells w pa c.held) (hB : Cells w pb c.held) :
    Calls Try.prog 17 #[csAgg c (.slice pa c.held.length ca), csAgg c (.slice pb c.held.length cb)] w fun e w' => e = .returned (.bool true) ∧ Below w.heap.size w w' := by
  have CS := Lib.hid (fun W h1 h2 => sameCase_yes c pa pb ca cb W la h1 h2)
  have HA := Lib.hid hA
  have HB := Lib.hid hB
  unfold csAgg at CS ⊢
  obtain ⟨el, st, op, dy, ch, lv, du, ho, si, he⟩ := c
  dsimp only at la HA HB CS ⊢
  clear hA hB
  go_enter Try.func17, Try.ntmps17
  go_wp2_with fail
  refine (CS.out _ ((HA.out.below ((Below.refl _ _).alloc (Nat.le_refl _) _)).below ((Below.refl _ _).alloc (Nat.le_refl _) _)) ((HB.out.below ((Below.refl _ _).alloc (Nat.le_refl _) _)).below ((Below.refl _ _).alloc (Nat.le_refl _) _))).mono ?_
  rintro e w1 ⟨rfl, hb⟩
  go_wp2
  go_ret
  exact ⟨rfl, (((Below.refl _ _).alloc (Nat.le_refl _) _).alloc (by simp) _).trans (hb.mono (by simp; omega))⟩

/-- Cases in memory, to be read. -/
def ACells (w : World) (p : Option Addr) (L : List Cs) : Prop :=
  L = [] ∨ ∃ b off, p = some ⟨b, off, none⟩ ∧ ∀ i : Nat, (h : i < L.length) → ∃ q c, CaseCells w b (off + i * 10) L[i] (.slice q L[i].held.length c) ∧ Cells w q L[i].held
theorem ACells.below {w w' : World} {p : Option Addr} {L : List Cs} (h : ACells w p L) (hb : Below w.heap.size w w') : ACells w' p L := by
  rcases h with h | ⟨b, off, hv, hc⟩
  · exact .inl h
  · refine .inr ⟨b, off, hv, fun i hi => ?_⟩
    obtain ⟨q, c, h1, h2⟩ := hc i hi
    exact ⟨q, c, h1.below hb, h2.below hb⟩
theorem ACells.at {w : World} {p : Option Addr} {L : List Cs} (h : ACells w p L) (i : Nat) (hi : i < L.length) : ∃ b off q c, p = some ⟨b, off, none⟩ ∧ CaseCells w b (off + i * 10) L[i] (.slice q L[i].held.length c) ∧ Cells w q L[i].held := by
  rcases h with h | ⟨b, off, hv, hc⟩
  · rw [h] at hi; simp at hi
  · obtain ⟨q, c, h1, h2⟩ := hc i hi
    exact ⟨b, off, q, c, hv, h1, h2⟩
theorem ARow.form {W : World} {base : Nat} {v : Value} {L : List Cs} (h : ARow W base v L) : ∃ p cap, v = .slice p L.length cap ∧ ACells W p L := by
  obtain ⟨ps, rfl, h2, h3, h4⟩ := h
  have hc : CRow W base v ps := ⟨h2, fun p hp => (h3 p hp).low⟩
  obtain ⟨p, cap, rfl, hr⟩ := hc.form
  refine ⟨p, cap, by rw [List.length_map], ?_⟩
  cases ps with
  | nil => exact .inl rfl
  | cons q qs =>
    obtain ⟨g, rfl, _, _, _, hcl⟩ := hr (by simp)
    refine .inr ⟨g, 0, rfl, fun i hi => ?_⟩
    rw [List.length_map] at hi
    obtain ⟨pu, cu, e, hcu⟩ := (h3 _ (List.getElem_mem hi)).form
    have h1 := (hcl i hi).1
    rw [e] at h1
    rw [List.getElem_map, Nat.zero_add]
    exact ⟨pu, cu, h1, hcu⟩

set_option maxHeartbeats 4000000 in
set_option maxRecDepth 100000 in
theorem sameCases_yes (L : List Cs) (pa pb : Option Addr) (ca cb : Nat) (w : World) (la : L.length ≤ 100000) (lh : ∀ c ∈ L, c.held.length ≤ 1000) (hA : ACells w pa L) (hB : ACells w pb L) :
    Calls Try.prog 24 #[.slice pa L.length ca, .slice pb L.length cb] w fun e w' => e = .returned (.bool true) ∧ Below w.heap.size w w' := by
  have HA := Lib.hid hA
  have HB := Lib.hid hB
  have LH := Lib.hid lh
  clear hA hB lh
  go_enter Try.func24, Try.ntmps24
  go_wp2_with fail
  go_loopw [5] (fun i wr => ∃ k : Nat, k ≤ L.length ∧ i = .int .i64 k ∧ Below w.heap.size w wr) (fun i _ => L.length - (intOf i).toNat)
  case atStart => exact ⟨0, by omega, rfl, Below.refl _ _⟩
  case round =>
    obtain ⟨k, hk, rfl, hb⟩ := hrel
    by_cases hlt : k < L.length
    · obtain ⟨ba, oa, qa, cqa, rfl, c1, s1⟩ := (HA.out.below hb).at k hlt
      obtain ⟨bb, ob, qb, cqb, rfl, c2, s2⟩ := (HB.out.below hb).at k hlt
      have hlc := LH.out _ (List.getElem_mem hlt)
      obtain ⟨c, hc⟩ : ∃ c, c = L[k] := ⟨_, rfl⟩
      rw [← hc] at c1 c2 s1 s2 hlc
      have CS := Lib.hid (fun p : Later wr => sameCase_yes c qa qb cqa cqb p.W (by omega) (s1.below p.below) (s2.below p.below))
      have HC1 := Lib.hid c1
      have HC2 := Lib.hid c2
      unfold csAgg at CS
      clear hc s1 s2 c1 c2
      go_wp2_with fail
      refine wp_region_laterS (fun W => CaseCells W ba (oa + k * 10) c (.slice qa c.held.length cqa) ∧ CaseCells W bb (ob + k * 10) c (.slice qb c.held.length cqb) ∧ Hid (Below w.heap.size w W)) (by kernel_rfl) (by kernel_rfl) (fun p => ⟨HC1.out.below p.below, HC2.out.below p.below, Lib.hid (p.since hb)⟩) ?_
      intro hS
      unfold CaseCells at hS
      repeat (go_big_quiet_step ((go_at_call 34; exact Later.call (CS.out _))))
      refine wpQuiet_nil ?_
      rintro _ ⟨p, rfl⟩
      have B1 := (hS p).2.2
      clear hS
      go_wp2
      go_roundw
      case rel => exact ⟨k + 1, by omega, by go_num, B1.out⟩
      case measure => simp [intOf]; omega
    · obtain rfl : k = L.length := by omega
      go_wp2
      go_ret
      exact ⟨rfl, hb⟩

theorem tmod_cases (x n : Int) (h : 1 ≤ n) : (x.tmod n < 0 → x % n = x.tmod n + n) ∧ (0 ≤ x.tmod n → x % n = x.tmod n) ∧ -n < x.tmod n ∧ x.tmod n < n := by
  have h1 : x.tmod n = x % n - ((if 0 ≤ x ∨ n ∣ x then 0 else n.natAbs : Nat) : Int) := Int.tmod_eq_emod
  have h2 := Int.emod_nonneg x (show n ≠ 0 by omega)
  have h3 := Int.emod_lt_of_pos x (show 0 < n by omega)
  split at h1 <;> omega

set_option maxHeartbeats 400000 in
theorem pick_any (x n : Int) (w : World) (h1 : 1 ≤ n) (h2 : n ≤ 4611686018427387904) :
    Calls Try.prog 19 #[.int .i64 x, .int .i64 n] w fun e w' => e = .returned (.int .i64 (x % n)) ∧ w = w' := by
  obtain ⟨c1, c2, c3, c4⟩ := tmod_cases x n h1
  by_cases h0 : 0 ≤ x
  · have hge := Int.emod_nonneg x (show n ≠ 0 by omega)
    clear c1 c2 c3 c4
    go_enter Try.func19, Try.ntmps19
    go_wp2
    go_ret
    exact ⟨rfl, rfl⟩
  · by_cases ht : x.tmod n < 0
    · have hf := Lib.hid (c1 ht)
      clear c1 c2
      go_enter Try.func19, Try.ntmps19
      go_wp2
      go_ret
      exact ⟨ret_int hf.out.symm, rfl⟩
    · have hf := Lib.hid (c2 (by omega))
      clear c1 c2
      go_enter Try.func19, Try.ntmps19
      go_wp2
      go_ret
      exact ⟨ret_int hf.out.symm, rfl⟩

end Go.Proofs.Ytbpoedopdnjffaa
