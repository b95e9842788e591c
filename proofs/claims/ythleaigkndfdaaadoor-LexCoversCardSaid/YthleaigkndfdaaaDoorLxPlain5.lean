/- LexCovers, plain: what lies between the tokens of a source. -/
import Derived.Test.YthleaigkndfdaaaDoorLxPlain3
namespace Lx
variable (gd : Bs → Bool)

/-- Blanks, newlines and remarks: true inside a remark. -/
def run : Bool → Bs → Option Bool
  | b, [] => some b
  | true, c :: r => if c = 10 then run false r else run true r
  | false, c :: r => if c = 35 then run true r else if c = 32 ∨ c = 9 ∨ c = 10 then run false r else none
def emp (r : Bs) : Bool := (run false r).isSome

theorem run_t (c : UInt8) (r : Bs) : run true (c :: r) = if c = 10 then run false r else run true r := by rw [run]
theorem run_f (c : UInt8) (r : Bs) : run false (c :: r) = if c = 35 then run true r else if c = 32 ∨ c = 9 ∨ c = 10 then run false r else none := by rw [run]
theorem run_0 (b : Bool) : run b [] = some b := by cases b <;> rfl

theorem run_app (g x : Bs) : ∀ b b', run b g = some b' → run b (g ++ x) = run b' x := by
  induction g with
  | nil => intro b b' h; rw [run_0] at h; obtain rfl := Option.some.inj h; rfl
  | cons c g ih =>
    intro b b' h
    rw [List.cons_append]
    cases b with
    | true =>
      rw [run_t] at h ⊢
      by_cases hc : c = 10
      · rw [if_pos hc] at h ⊢; exact ih _ _ h
      · rw [if_neg hc] at h ⊢; exact ih _ _ h
    | false =>
      rw [run_f] at h ⊢
      by_cases hc : c = 35
      · rw [if_pos hc] at h ⊢; exact ih _ _ h
      · rw [if_neg hc] at h ⊢
        by_cases hc2 : c = 32 ∨ c = 9 ∨ c = 10
        · rw [if_pos hc2] at h ⊢; exact ih _ _ h
        · rw [if_neg hc2] at h; cases h
theorem run_rem (g : Bs) (h : ∀ c ∈ g, c ≠ 10) : run true g = some true := by
  induction g with
  | nil => rfl
  | cons c g ih =>
    rw [run_t, if_neg (h c (by simp))]
    exact ih fun c hc => h c (by simp [hc])

def line (S : Bs) (o : Nat) : Nat := (pl S o).1

def Cov (S : Bs) : Nat → Option Nat → List Ev → Prop
  | e, op, [] => op = none ∧ emp (S.drop e) = true
  | e, op, x :: l =>
    (x.1.2.1 = 5 ∧ x.1.2.2 = [] ∧ x.2 = e ∧ op ≠ none ∧ Cov S e none l) ∨
    (x.1.2.1 ≠ 5 ∧ x.1.2.1 ≤ 4 ∧ e ≤ x.2 ∧ x.1.2.2 ≠ [] ∧ x.2 + x.1.2.2.length ≤ S.length ∧ (S.drop x.2).take x.1.2.2.length = x.1.2.2 ∧ emp ((S.drop e).take (x.2 - e)) = true ∧
      (op ≠ none → line S x.2 = line S e) ∧ (op = none → 0 < e → line S e < line S x.2) ∧ line S (x.2 + x.1.2.2.length) = line S x.2 ∧ Cov S (x.2 + x.1.2.2.length) (some (x.2 + x.1.2.2.length)) l)

theorem line_app (p g r : Bs) : line (p ++ (g ++ r)) (p.length + g.length) = line (p ++ (g ++ r)) p.length + g.count 10 := by
  unfold line pl
  rw [plF_fst, plF_fst]
  have e1 : (p ++ (g ++ r)).take (p.length + g.length) = p ++ g := by
    rw [← List.append_assoc, ← List.length_append]; exact List.take_left' rfl
  have e2 : (p ++ (g ++ r)).take p.length = p := List.take_left' rfl
  rw [e1, e2, List.count_append]; omega

theorem cov (S : Bs) : ∀ (n : Nat) (r : Bs), r.length ≤ n → ∀ (p g : Bs) (b : Bool) (op : Option Nat), S = p ++ (g ++ r) → run false g = some b → (b = true → r = [] ∨ ∃ r', r = 10 :: r') →
    (op = none ∨ op = some p.length) → (op ≠ none → ∀ c ∈ g, c ≠ 10) → (op = none → 0 < p.length → 10 ∈ g) → okE (ev gd r 0 (p.length + g.length) op) = true → Cov S p.length op (ev gd r 0 (p.length + g.length) op) := by
  intro n
  induction n with
  | zero =>
    intro r hr p g b op hS hg hb hop h1 h2 hok
    obtain rfl : r = [] := List.eq_nil_of_length_eq_zero (by omega)
    rw [ev_nil]
    rw [List.append_nil] at hS
    have hemp : emp (S.drop p.length) = true := by rw [hS, List.drop_left' rfl]; unfold emp; rw [hg]; rfl
    rcases hop with rfl | rfl
    · exact ⟨rfl, hemp⟩
    · exact .inl ⟨rfl, rfl, rfl, by simp, rfl, hemp⟩
  | succ n ih =>
    intro r hr p g b op hS hg hb hop h1 h2 hok
    cases r with
    | nil =>
      rw [ev_nil]
      rw [List.append_nil] at hS
      have hemp : emp (S.drop p.length) = true := by rw [hS, List.drop_left' rfl]; unfold emp; rw [hg]; rfl
      rcases hop with rfl | rfl
      · exact ⟨rfl, hemp⟩
      · exact .inl ⟨rfl, rfl, rfl, by simp, rfl, hemp⟩
    | cons c r =>
      have hr' : r.length ≤ n := by simp at hr; omega
      by_cases h10 : c = 10
      · subst h10
        rw [ev_line] at hok ⊢
        rw [okE_append, Bool.and_eq_true] at hok
        have hg2 : run false (g ++ [10]) = some false := by
          rw [run_app g [10] false b hg]; cases b <;> rfl
        have key := ih r hr' p (g ++ [10]) false none (by rw [hS]; simp) hg2 (by simp) (.inl rfl) (by simp) (fun _ _ => by simp)
        rw [List.length_append, List.length_singleton, ← Nat.add_assoc] at key
        have k2 := key hok.2
        rcases hop with rfl | rfl
        · exact k2
        · exact .inl ⟨rfl, rfl, rfl, by simp, k2⟩
      · have hbf : b = false := by
          cases b with
          | false => rfl
          | true =>
            rcases hb rfl with h | ⟨r', h⟩
            · cases h
            · simp at h; exact absurd h.1 h10
        subst hbf
        by_cases hbl : c = 32 ∨ c = 9
        · rw [ev_blank gd hbl] at hok ⊢
          have hg2 : run false (g ++ [c]) = some false := by
            rw [run_app g [c] false false hg]; rcases hbl with rfl | rfl <;> rfl
          have key := ih r hr' p (g ++ [c]) false op (by rw [hS]; simp) hg2 (by simp) hop (fun h x hx => by
            rw [List.mem_append, List.mem_singleton] at hx
            rcases hx with hx | rfl
            · exact h1 h x hx
            · exact h10) (fun h h' => by rw [List.mem_append]; exact .inl (h2 h h'))
          rw [List.length_append, List.length_singleton, ← Nat.add_assoc] at key
          exact key hok
        · by_cases h35 : c = 35
          · subst h35
            rw [ev_remark] at hok ⊢
            obtain ⟨rem, hrem⟩ : ∃ rem, rem = (35 :: r).takeWhile (· != 10) := ⟨_, rfl⟩
            have hsplit : (35 :: r) = rem ++ (35 :: r).drop rem.length := by
              have h1 := List.take_append_drop rem.length (35 :: r)
              have h2 : (35 :: r).take rem.length = rem := by rw [hrem]; exact takeWhile_drop _ _
              rw [h2] at h1
              exact h1.symm
            have hno : ∀ x ∈ rem, x ≠ 10 := fun x hx => by
              rw [hrem] at hx
              have := takeWhile_all (· != 10) _ x hx
              simpa using this
            have hnext : ∀ x, ((35 :: r).drop rem.length).head? = some x → x = 10 := fun x hx => by
              rw [List.head?_drop, hrem] at hx
              have := takeWhile_next (· != 10) (35 :: r) x hx
              simpa using this
            have hpos : ∃ rem', rem = 35 :: rem' := by
              rw [hrem, List.takeWhile_cons_of_pos (by decide)]; exact ⟨_, rfl⟩
            obtain ⟨rem', hrem'⟩ := hpos
            rw [← hrem] at hok ⊢
            obtain ⟨r2, hr2⟩ : ∃ r2, r2 = (35 :: r).drop rem.length := ⟨_, rfl⟩
            rw [← hr2] at hok hsplit hnext ⊢
            have hl2 : r2.length ≤ n := by
              have := congrArg List.length hsplit
              rw [hrem'] at this
              simp at this; omega
            have hg2 : run false (g ++ rem) = some true := by
              rw [run_app g rem false false hg, hrem']
              rw [run_f, if_pos rfl]
              exact run_rem rem' fun x hx => hno x (by rw [hrem']; simp [hx])
            have key := ih r2 hl2 p (g ++ rem) true op (by rw [hS, hsplit]; simp) hg2 (fun _ => by
              cases r2 with
              | nil => exact .inl rfl
              | cons x r2 => exact .inr ⟨r2, by rw [hnext x rfl]⟩) hop (fun h x hx => by
                rw [List.mem_append] at hx
                rcases hx with hx | hx
                · exact h1 h x hx
                · exact hno x hx) (fun h h' => by rw [List.mem_append]; exact .inl (h2 h h'))
            rw [List.length_append, ← Nat.add_assoc] at key
            exact key hok
          · have htb : tb c := ⟨h10, fun h => hbl (.inl h), fun h => hbl (.inr h), h35⟩
            by_cases her : (tokv gd (c :: r)).1 = 0
            · obtain ⟨k, t, hkt⟩ : ∃ k t, tokv gd (c :: r) = (0, k, t) := ⟨_, _, by rw [← her]⟩
              obtain ⟨⟨y, hy⟩, ht1, htn, hk1, hk4⟩ := tok_text gd hkt
              rw [ev_tok gd htb hkt] at hok ⊢
              have hoff : p.length + g.length = (p ++ g).length := by simp
              have hdrop : (c :: r).drop t.length = y := by rw [← hy]; exact List.drop_left' rfl
              have hlen2 : p.length + g.length + t.length = (p ++ g ++ t).length := by rw [List.length_append, List.length_append]
              have hS2 : S = (p ++ g ++ t) ++ ([] ++ y) := by rw [hS, ← hy]; simp
              have hS3 : S = (p ++ g) ++ (t ++ y) := by rw [hS, ← hy]; simp
              have hyl : y.length ≤ n := by
                have := congrArg List.length hy
                rw [List.length_append] at this
                simp at this; omega
              have key := ih y hyl (p ++ g ++ t) [] false (some (p ++ g ++ t).length) hS2 rfl (by simp) (.inr rfl) (by simp) (by simp)
              rw [List.length_nil, Nat.add_zero, ← hlen2] at key
              rw [hdrop] at hok ⊢
              have hok2 : okE (ev gd y 0 (p.length + g.length + t.length) (some (p.length + g.length + t.length))) = true := by
                unfold okE at hok ⊢
                rw [List.all_cons, Bool.and_eq_true] at hok
                exact hok.2
              have htne : t ≠ [] := by rintro rfl; simp at ht1
              have hln := line_app p g (c :: r)
              rw [← hS] at hln
              have hlt := line_app (p ++ g) t y
              rw [← hS3, ← hoff] at hlt
              have ht0 : t.count 10 = 0 := List.count_eq_zero.2 fun h => (htn 10 h).1 rfl
              refine .inr ⟨by show k ≠ 5; omega, hk4, Nat.le_add_right _ _, htne, ?_, ?_, ?_, fun h => ?_, fun h h' => ?_, by rw [hlt, ht0]; rfl, key hok2⟩
              · show p.length + g.length + t.length ≤ S.length
                rw [hS3, List.length_append, List.length_append, List.length_append]; omega
              · show (S.drop (p.length + g.length)).take t.length = t
                rw [hS3, hoff, List.drop_left' rfl, List.take_left' rfl]
              · show emp ((S.drop p.length).take (p.length + g.length - p.length)) = true
                rw [hS, List.drop_left' rfl, Nat.add_sub_cancel_left, List.take_left' rfl]
                unfold emp; rw [hg]; rfl
              · show line S (p.length + g.length) = _
                rw [hln, List.count_eq_zero.2 fun hm => h1 h 10 hm rfl]; rfl
              · show _ < line S (p.length + g.length)
                rw [hln]
                have := List.count_pos_iff.2 (h2 h h')
                omega
            · rw [ev_err gd htb her] at hok
              exfalso
              unfold okE at hok
              simp at hok
              exact her hok

theorem cov_all (S : Bs) (h : okE (ev gd S 0 0 none) = true) : Cov S 0 none (ev gd S 0 0 none) :=
  cov gd S S.length S (Nat.le_refl _) [] [] false none rfl rfl (by simp) (.inl rfl) (by simp) (by simp) h

end Lx
