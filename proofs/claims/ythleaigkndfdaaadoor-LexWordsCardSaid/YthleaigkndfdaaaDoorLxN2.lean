/- The law LexNumbers. -/
import Derived.Test.YthleaigkndfdaaaDoorLxN1
namespace Go.Proofs.YthleaigkndfdaaaDoor
open Go.RowKit Go.Shelf

/-- Digits with zeros ahead and fives behind. -/
def nv (z k a : Nat) : Lx.Bs := List.replicate z 48 ++ Lx.dgs a ++ List.replicate k 53
theorem nv_len (z k a : Nat) (ha : a ≤ 18446744073709551615) : (nv z k a).length ≤ z + 20 + k := by
  have := Lx.dgs_len a ha
  unfold nv; simp; omega
theorem nv_ne (z k a : Nat) : nv z k a ≠ [] := by
  have := Lx.dgs_ne a
  unfold nv; intro h; simp at h; exact this h.2.1
theorem nv_all (z k a : Nat) : ∀ c ∈ nv z k a, Lx.isDg c = true := by
  intro c hc
  unfold nv at hc
  rw [List.mem_append, List.mem_append] at hc
  rcases hc with (hc | hc) | hc
  · rw [List.eq_of_mem_replicate hc]; decide
  · exact Lx.dgs_all a c hc
  · rw [List.eq_of_mem_replicate hc]; decide

theorem lex_good (s : ByteArray) (l : List Lx.Ev) (hs : s.size ≤ 65536) (h : evsOf s = l) (hok : Lx.okE l = true) : lexE' s = 0 ∧ lexP' s = (0, 0) ∧ lexT' s = l.map (tokOf s) := by
  subst h
  rcases lex_cases s hs with ⟨h1, h2, h3, _⟩ | ⟨x, h1, _⟩
  · exact ⟨h1, h2, h3⟩
  · rw [Lx.erOf_none.2 hok] at h1; cases h1
theorem lex_wrong (s : ByteArray) (hs : s.size ≤ 65536) (h : evsOf s = [((112, 0, []), 0)]) : lexE' s = 112 ∧ lexP' s = (1, 1) ∧ lexT' s = [] := by
  rcases lex_cases s hs with ⟨_, _, _, h4, _⟩ | ⟨x, h1, h2, _, h3, h4⟩
  · rw [h] at h4; cases h4
  · rw [h] at h1
    have hx : x = ((112, 0, []), 0) := by
      have : Lx.erOf [((112, 0, []), 0)] = some (((112, 0, []), 0) : Lx.Ev) := by decide
      rw [this] at h1; exact (Option.some.inj h1).symm
    subst hx
    exact ⟨h2, h3, h4⟩

/-- What Lex answers: a result with these numbers. -/
def LexIs (s : ByteArray) (n : Nat) (q e : Int) (l : List Tok) : Prop :=
  ∀ W : World, Lens W → Calls Tryd.prog 17 #[.string s] W fun x W' => ∃ p cap, x = .returned (.tuple #[.slice p n cap, .agg #[.int .i64 q, .int .i64 q], .int .i64 e]) ∧ TCells W' p l ∧ Below W.heap.size W W'

theorem lexIs_good (s : ByteArray) (l : List Lx.Ev) (n : Nat) (hn : l.length = n) (hs : s.size ≤ 65536) (h : evsOf s = l) (hok : Lx.okE l = true) : LexIs s n 0 0 (l.map (tokOf s)) := by
  obtain ⟨h1, h2, h3⟩ := lex_good s l hs h hok
  exact fun W hW => lex_is s _ n 0 0 0 h3 (by rw [List.length_map, hn]) ⟨by rw [h2]; rfl, by rw [h2]; rfl⟩ (by rw [h1]; rfl) (by omega) W hW
theorem lexIs_wrong (s : ByteArray) (hs : s.size ≤ 65536) (h : evsOf s = [((112, 0, []), 0)]) : LexIs s 0 1 112 [] := by
  obtain ⟨h1, h2, h3⟩ := lex_wrong s hs h
  exact fun W hW => lex_is s _ 0 1 1 112 h3 rfl ⟨by rw [h2]; rfl, by rw [h2]; rfl⟩ (by rw [h1]; rfl) (by omega) W hW

theorem okE_two (k : Nat) (t : Lx.Bs) (i j : Nat) : Lx.okE [((0, k, t), i), ((0, 5, []), j)] = true := rfl
theorem okE_four (t u : Lx.Bs) (i j m n : Nat) : Lx.okE [((0, 2, t), i), ((0, 4, [47]), j), ((0, 2, u), m), ((0, 5, []), n)] = true := rfl

/-- Digits, digits with / and digits behind, and the same with blanks around the /. -/
theorem three (d g : Lx.Bs) (hne : d ≠ []) (hg : g ≠ []) (ha : ∀ c ∈ d, Lx.isDg c = true) (hb : ∀ c ∈ g, Lx.isDg c = true) (hp : Lx.padB g = false) (hl : d.length ≤ 400) (hgl : g.length ≤ 20) :
    (Lx.okD d = true → ∃ l m, LexIs (bs d) 2 0 0 ((2, bs d, 1, 1) :: l) ∧ LexIs (bs (d ++ 32 :: 47 :: 32 :: g)) 4 0 0 m) ∧
    (Lx.okD d = false → LexIs (bs d) 0 1 112 [] ∧ LexIs (bs (d ++ 32 :: 47 :: 32 :: g)) 0 1 112 []) ∧
    ((d ++ 47 :: g).length ≤ 200 → Lx.padB d = false → g ≠ [48] → ∃ l, LexIs (bs (d ++ 47 :: g)) 2 0 0 ((2, bs (d ++ 47 :: g), 1, 1) :: l)) ∧
    (200 < (d ++ 47 :: g).length ∨ Lx.padB d = true ∨ g = [48] → LexIs (bs (d ++ 47 :: g)) 0 1 112 []) := by
  have hgo : Lx.okD g = true := by unfold Lx.okD; rw [hp, decide_eq_true (by omega)]; rfl
  have e1 := Lx.ev_digits gd d hne ha
  have e2 := Lx.ev_ratio gd d g hne hg ha hb hp
  have e3 := Lx.ev_three gd d g hne hg ha hb hgo
  have z1 : (bs d).size ≤ 65536 := by rw [bs_size]; omega
  have z2 : (bs (d ++ 47 :: g)).size ≤ 65536 := by rw [bs_size]; simp; omega
  have z3 : (bs (d ++ 32 :: 47 :: 32 :: g)).size ≤ 65536 := by rw [bs_size]; simp; omega
  refine ⟨fun h => ?_, fun h => ?_, fun h1 h2 h3 => ?_, fun h => ?_⟩
  · rw [if_pos h] at e1 e3
    exact ⟨_, _, lexIs_good (bs d) _ 2 rfl z1 e1 (okE_two _ _ _ _), lexIs_good _ _ 4 rfl z3 e3 (okE_four _ _ _ _ _ _)⟩
  · rw [if_neg (by rw [h]; decide)] at e1 e3
    exact ⟨lexIs_wrong _ z1 e1, lexIs_wrong _ z3 e3⟩
  · rw [if_pos (by rw [h2, decide_eq_true h1, decide_eq_false h3]; rfl)] at e2
    exact ⟨_, lexIs_good _ _ 2 rfl z2 e2 (okE_two _ _ _ _)⟩
  · rw [if_neg (by
      rcases h with h | h | h
      · rw [decide_eq_false (by omega)]; simp
      · rw [h]; simp
      · rw [decide_eq_true h]; simp)] at e2
    exact lexIs_wrong _ z2 e2

end Go.Proofs.YthleaigkndfdaaaDoor
