/- Digits: what a number in decimal is, and how it is read. -/
import Derived.Test.YthleaigkndfdaaaDoorLxPlain2
namespace Lx
variable (gd : Bs → Bool)

def dgc (n : Nat) : UInt8 := UInt8.ofNat (48 + n % 10)
def dgs0 (n : Nat) : Bs := if n = 0 then [] else dgs0 (n / 10) ++ [dgc n]
termination_by n
decreasing_by omega
def dgs (n : Nat) : Bs := dgs0 (n / 10) ++ [dgc n]

theorem dgs0_zero : dgs0 0 = [] := by unfold dgs0; rfl
theorem dgs0_pos {n : Nat} (h : 0 < n) : dgs0 n = dgs n := by
  conv => lhs; unfold dgs0
  rw [if_neg (by omega)]; rfl
theorem dgc_nat (n : Nat) : (dgc n).toNat = 48 + n % 10 := by
  unfold dgc; rw [UInt8.toNat_ofNat']; omega
theorem dgc_dg (n : Nat) : isDg (dgc n) = true := by
  unfold isDg; rw [dgc_nat]; simp; omega
theorem dgs0_all (n : Nat) : ∀ c ∈ dgs0 n, isDg c = true := by
  induction n using Nat.strongRecOn with
  | ind n ih =>
    intro c hc
    rcases Nat.eq_zero_or_pos n with rfl | h
    · rw [dgs0_zero] at hc; cases hc
    · rw [dgs0_pos h] at hc
      unfold dgs at hc
      rw [List.mem_append] at hc
      rcases hc with hc | hc
      · exact ih (n / 10) (by omega) c hc
      · rw [List.mem_singleton] at hc; rw [hc]; exact dgc_dg n
theorem dgs_all (n : Nat) : ∀ c ∈ dgs n, isDg c = true := by
  intro c hc
  unfold dgs at hc
  rw [List.mem_append] at hc
  rcases hc with hc | hc
  · exact dgs0_all _ c hc
  · rw [List.mem_singleton] at hc; rw [hc]; exact dgc_dg n
theorem dgs_ne (n : Nat) : dgs n ≠ [] := by unfold dgs; simp
theorem dgs0_head {n : Nat} (h : 0 < n) : ∃ c r, dgs0 n = c :: r ∧ c ≠ 48 := by
  induction n using Nat.strongRecOn with
  | ind n ih =>
    rw [dgs0_pos h]
    unfold dgs
    rcases Nat.eq_zero_or_pos (n / 10) with h0 | h0
    · rw [h0, dgs0_zero]
      refine ⟨dgc n, [], rfl, fun e => ?_⟩
      have := dgc_nat n
      rw [e] at this
      have : (48 : UInt8).toNat = 48 := rfl
      omega
    · obtain ⟨c, r, hc, hn⟩ := ih (n / 10) (by omega) h0
      exact ⟨c, r ++ [dgc n], by rw [hc]; rfl, hn⟩
theorem dgs0_len (k : Nat) : ∀ n, n < 10 ^ k → (dgs0 n).length ≤ k := by
  induction k with
  | zero => intro n h; obtain rfl : n = 0 := by simp at h; exact h
            rw [dgs0_zero]; exact Nat.le_refl _
  | succ k ih =>
    intro n h
    rcases Nat.eq_zero_or_pos n with rfl | h0
    · rw [dgs0_zero]; simp
    · rw [dgs0_pos h0]; unfold dgs
      have := ih (n / 10) (by rw [Nat.pow_succ] at h; omega)
      rw [List.length_append]; simp; exact this
theorem dgs_zero : dgs 0 = [48] := by unfold dgs; rw [show 0 / 10 = 0 from rfl, dgs0_zero]; rfl
theorem dgs_len (n : Nat) (h : n ≤ 18446744073709551615) : (dgs n).length ≤ 20 := by
  rcases Nat.eq_zero_or_pos n with rfl | h0
  · rw [dgs_zero]; decide
  · rw [← dgs0_pos h0]; exact dgs0_len 20 n (by omega)
theorem dgs_pad (n : Nat) : padB (dgs n) = false := by
  rcases Nat.eq_zero_or_pos n with rfl | h0
  · rw [dgs_zero]; decide
  · obtain ⟨c, r, hc, hn⟩ := dgs0_head h0
    rw [← dgs0_pos h0, hc]; unfold padB; simp [hn]
theorem dgs_48 (n : Nat) : dgs n = [48] ↔ n = 0 := by
  constructor
  · intro h
    rcases Nat.eq_zero_or_pos n with rfl | h0
    · rfl
    · obtain ⟨c, r, hc, hn⟩ := dgs0_head h0
      rw [← dgs0_pos h0, hc] at h
      simp at h; exact absurd h.1 hn
  · rintro rfl; exact dgs_zero

theorem dated_no (r : Bs) (h : ∀ c ∈ r, c ≠ 45) : datedB r = false := by
  rw [← Bool.not_eq_true]
  intro hd
  have := (dated_iff r).1 hd 4 (by omega)
  unfold dat at this
  cases h4 : r[4]? with
  | none => rw [h4] at this; cases this
  | some c =>
    rw [h4] at this
    have hc := h c (List.mem_of_getElem? h4)
    simp only [dchk, true_or, if_true, decide_eq_true_eq] at this
    exact hc (UInt8.toNat_inj.1 this)

theorem dg_45 {c : UInt8} (h : isDg c = true) : c ≠ 45 := by rintro rfl; revert h; decide
theorem dg_47 {c : UInt8} (h : isDg c = true) : c ≠ 47 := by rintro rfl; revert h; decide

theorem tok_num {c : UInt8} {r : Bs} (hc : isDg c = true) (h : ∀ x ∈ c :: r, x ≠ 45) : tokv gd (c :: r) = mk 2 (numv (c :: r)) := by
  show tokc gd c (c :: r) = _
  unfold tokc
  rw [if_neg (by rw [(dg_ne hc).2.1]; decide), if_pos hc, if_neg (by rw [dated_no _ h]; decide)]

def okD (d : Bs) : Bool := decide (d.length ≤ 200) && !padB d

theorem tok_digits (d : Bs) (hne : d ≠ []) (ha : ∀ c ∈ d, isDg c = true) : tokv gd d = if okD d = true then (0, 2, d) else (112, 0, []) := by
  obtain ⟨c, r, rfl⟩ : ∃ c r, d = c :: r := by cases d with | nil => exact absurd rfl hne | cons c r => exact ⟨c, r, rfl⟩
  rw [tok_num gd (ha c (by simp)) (fun x hx => dg_45 (ha x hx))]
  have h := num_is1 (c :: r) [] ha (by simp) (by simp)
  rw [List.append_nil] at h
  have hn : numn (c :: r) = (c :: r).length := by unfold numn; rw [h.2, if_pos rfl, h.1]
  have hf : fol (c :: r) (c :: r).length = false := by unfold fol; rw [List.getElem?_eq_none (Nat.le_refl _)]
  unfold numv numbad
  rw [hn, h.1, h.2, hf, List.take_of_length_le (Nat.le_refl _)]
  unfold okD
  by_cases h2 : (c :: r).length ≤ 200
  · rw [decide_eq_true h2, decide_eq_false (show ¬ 200 < (c :: r).length by omega)]
    cases padB (c :: r) <;> rfl
  · rw [decide_eq_false h2, decide_eq_true (show 200 < (c :: r).length by omega)]
    rfl

theorem tok_ratio (d g : Bs) (hne : d ≠ []) (hg : g ≠ []) (ha : ∀ c ∈ d, isDg c = true) (hb : ∀ c ∈ g, isDg c = true) (hp : padB g = false) :
    tokv gd (d ++ 47 :: g) = if (decide ((d ++ 47 :: g).length ≤ 200) && !padB d && !decide (g = [48])) = true then (0, 2, d ++ 47 :: g) else (112, 0, []) := by
  obtain ⟨c, r, rfl⟩ : ∃ c r, d = c :: r := by cases d with | nil => exact absurd rfl hne | cons c r => exact ⟨c, r, rfl⟩
  have h := num_is2 (c :: r) g [] ha hb (by simp)
  rw [List.append_nil] at h
  obtain ⟨f, hf⟩ : ∃ f, f = c :: r ++ 47 :: g := ⟨_, rfl⟩
  have ht : tokv gd f = mk 2 (numv f) := by
    rw [hf, List.cons_append]
    refine tok_num gd (ha c (by simp)) (fun x hx => ?_)
    rw [← List.cons_append, List.mem_append] at hx
    rcases hx with hx | hx
    · exact dg_45 (ha x hx)
    · rcases List.mem_cons.1 hx with rfl | hx
      · decide
      · exact dg_45 (hb x hx)
  rw [← hf] at h ⊢
  have hl : f.length = (c :: r).length + 1 + g.length := by rw [hf, List.length_append, List.length_cons (a := 47)]; omega
  have hn : numn f = f.length := by unfold numn; rw [h.2, if_neg hg, h.1, hl]
  have hfo : fol f f.length = false := by unfold fol; rw [List.getElem?_eq_none (Nat.le_refl _)]
  rw [ht]
  unfold numv numbad
  rw [hn, h.1, h.2, hfo, hp, List.take_of_length_le (Nat.le_refl _)]
  by_cases h2 : f.length ≤ 200
  · rw [decide_eq_true h2, decide_eq_false (show ¬ 200 < f.length by omega)]
    cases padB (c :: r) <;> cases decide (g = [48]) <;> rfl
  · rw [decide_eq_false h2, decide_eq_true (show 200 < f.length by omega)]
    rfl

theorem ev_one (r : Bs) (hr : ∃ c r', r = c :: r' ∧ tb c) (i : Nat) (op : Option Nat) {k : Nat} (h : tokv gd r = (0, k, r)) : ev gd r 0 i op = [((0, k, r), i), ((0, 5, []), i + r.length)] := by
  obtain ⟨c, r', rfl, hc⟩ := hr
  rw [ev_tok gd hc h, List.drop_of_length_le (Nat.le_refl _), ev_nil]; rfl

theorem ev_bad (r : Bs) (hr : ∃ c r', r = c :: r' ∧ tb c) (h : tokv gd r = (112, 0, [])) : ev gd r 0 0 none = [((112, 0, []), 0)] := by
  obtain ⟨c, r', rfl, hc⟩ := hr
  rw [ev_err gd hc (by rw [h]; decide), h]

theorem dg_head (d x : Bs) (hne : d ≠ []) (ha : ∀ c ∈ d, isDg c = true) : ∃ c r', d ++ x = c :: r' ∧ tb c := by
  cases d with
  | nil => exact absurd rfl hne
  | cons c r => exact ⟨c, r ++ x, rfl, (dg_ne (ha c (by simp))).1⟩

theorem ev_digits (d : Bs) (hne : d ≠ []) (ha : ∀ c ∈ d, isDg c = true) : ev gd d 0 0 none = if okD d = true then [((0, 2, d), 0), ((0, 5, []), d.length)] else [((112, 0, []), 0)] := by
  have hd := dg_head d [] hne ha
  rw [List.append_nil] at hd
  have ht := tok_digits gd d hne ha
  by_cases h : okD d = true
  · rw [if_pos h] at ht ⊢
    rw [ev_one gd d hd 0 none ht, Nat.zero_add]
  · rw [if_neg h] at ht ⊢
    exact ev_bad gd d hd ht

theorem ev_ratio (d g : Bs) (hne : d ≠ []) (hg : g ≠ []) (ha : ∀ c ∈ d, isDg c = true) (hb : ∀ c ∈ g, isDg c = true) (hp : padB g = false) :
    ev gd (d ++ 47 :: g) 0 0 none = if (decide ((d ++ 47 :: g).length ≤ 200) && !padB d && !decide (g = [48])) = true then [((0, 2, d ++ 47 :: g), 0), ((0, 5, []), (d ++ 47 :: g).length)] else [((112, 0, []), 0)] := by
  have hd := dg_head d (47 :: g) hne ha
  have ht := tok_ratio gd d g hne hg ha hb hp
  by_cases h : (decide ((d ++ 47 :: g).length ≤ 200) && !padB d && !decide (g = [48])) = true
  · rw [if_pos h] at ht ⊢
    rw [ev_one gd _ hd 0 none ht, Nat.zero_add]
  · rw [if_neg h] at ht ⊢
    exact ev_bad gd _ hd ht

theorem ev_three (d g : Bs) (hne : d ≠ []) (hg : g ≠ []) (ha : ∀ c ∈ d, isDg c = true) (hb : ∀ c ∈ g, isDg c = true) (hp : okD g = true) :
    ev gd (d ++ 32 :: 47 :: 32 :: g) 0 0 none = if okD d = true then [((0, 2, d), 0), ((0, 4, [47]), d.length + 1), ((0, 2, g), d.length + 3), ((0, 5, []), d.length + 3 + g.length)] else [((112, 0, []), 0)] := by
  have hd := dg_head d (32 :: 47 :: 32 :: g) hne ha
  have ht : tokv gd (d ++ 32 :: 47 :: 32 :: g) = _ := (tokv_stop gd d _ hne (StopB.cons (.inr (.inl rfl)) _)).trans (tok_digits gd d hne ha)
  have hg' := dg_head g [] hg hb
  rw [List.append_nil] at hg'
  have htg := tok_digits gd g hg hb
  rw [if_pos hp] at htg
  by_cases h : okD d = true
  · rw [if_pos h] at ht ⊢
    obtain ⟨c, r', hcr, hc⟩ := hd
    rw [hcr] at ht ⊢
    rw [ev_tok gd hc ht, ← hcr, List.drop_left' rfl, ev_blank gd (.inl rfl)]
    have hs : tokv gd (47 :: 32 :: g) = (0, 4, [47]) := by
      rw [show (47 : UInt8) :: 32 :: g = [47] ++ (32 :: g) from rfl, tokv_stop gd [47] _ (by simp) (StopB.cons (.inr (.inl rfl)) _)]; rfl
    rw [ev_tok gd (by unfold tb; decide) hs]
    rw [show (47 :: 32 :: g).drop [(47 : UInt8)].length = 32 :: g from rfl, ev_blank gd (.inl rfl), ev_one gd g hg' _ _ htg]
    simp
  · rw [if_neg h] at ht ⊢
    exact ev_bad gd _ hd ht

end Lx
