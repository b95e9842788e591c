/- For LexGlued: the tokens of two sources joined by a newline; append of tokens. -/
import Derived.Test.YthleaigkndfdaaaDoorLxL2
import Derived.Maps.AppendAt
namespace Go.Proofs.YthleaigkndfdaaaDoor
open Go.RowKit Go.Shelf

def TSrc (W : World) (p : Option Addr) (m : List Tok) : Prop :=
  (p = none ∧ m = []) ∨ ∃ g, p = some ⟨g, 0, none⟩ ∧ g < W.heap.size ∧ ∀ j u, (tflat m)[j]? = some u → W.cell? ((⟨g, 0, none⟩ : Addr).add j) = some u
theorem TOwns.both {W : World} {base : Nat} {v : Value} {l : List Tok} (h : TOwns W base v l) : ∃ p cap, v = .slice p l.length cap ∧ TCells W p l ∧ TSrc W p l := by
  obtain ⟨p, cap, rfl, hc⟩ := h.form
  refine ⟨p, cap, rfl, hc, ?_⟩
  rcases h.2 with ⟨h1, h0⟩ | ⟨g, cap', cur, h1, _, hg, _⟩
  · injection h1 with e1 e2 e3
    subst e1
    exact .inl ⟨rfl, List.eq_nil_of_length_eq_zero h0⟩
  · injection h1 with e1 e2 e3
    subst e1
    exact .inr ⟨g, rfl, (Array.getElem?_eq_some_iff.1 hg).1, h.cells (g := g) rfl⟩
theorem TSrc.below {W W' : World} {p : Option Addr} {m : List Tok} (h : TSrc W p m) (hb : Below W.heap.size W W') : TSrc W' p m := by
  rcases h with h | ⟨g, rfl, hg, hc⟩
  · exact .inl h
  · refine .inr ⟨g, rfl, Nat.lt_of_lt_of_le hg hb.size, fun j u hu => ?_⟩
    have e : ((⟨g, 0, none⟩ : Addr).add j).block = g := by cases j <;> rfl
    rw [hb.cell (p := (⟨g, 0, none⟩ : Addr).add j) (by rw [e]; exact hg)]
    exact hc j u hu

theorem lex_two (s : ByteArray) (w : World) (hL : Lens w) (hs : s.size ≤ 9223372036854775807) :
    Calls Tryd.prog 17 #[.string s] w fun e W' => ∃ p cap, e = .returned (.tuple #[.slice p (lexT' s).length cap, .agg #[.int .i64 ((lexP' s).1 : Int), .int .i64 ((lexP' s).2 : Int)], .int .i64 (lexE' s : Int)]) ∧ TCells W' p (lexT' s) ∧ TSrc W' p (lexT' s) ∧ Below w.heap.size w W' :=
  (lex_any s w hL hs).mono fun e W' ⟨v, he, ho, hb⟩ => by
    obtain ⟨p, cap, rfl, hc, hsr⟩ := ho.both
    exact ⟨p, cap, he, hc, hsr, hb⟩

theorem one_flat (m : List Tok) : ∀ u ∈ tflat m, u.oneCell' = true := by
  intro u hu
  unfold tflat at hu
  obtain ⟨x, _, hx⟩ := List.mem_flatMap.1 hu
  simp only [tcell, List.mem_cons, List.not_mem_nil, or_false] at hx
  rcases hx with rfl | rfl | rfl | rfl <;> rfl

theorem run_append_toks (w : World) (base : Nat) (v : Value) (l : List Tok) (hown : TOwns w base v l) (p : Option Addr) (c : Nat) (m : List Tok) (hs : TSrc w p m) (hN : l.length + m.length ≤ 100000) (hbase : base ≤ w.heap.size) (hp : p ≠ none) :
    ∃ v' w', (Builtin.append_ #[22, 22] 22 #[v, .slice p m.length c]).run Tryd.prog w = .ok v' w' ∧ TOwns w' base v' (l ++ m) ∧ w.grownBy w' v.ownBlock ∧ (v'.ownBlock = v.ownBlock ∨ v'.ownBlock = some w.heap.size) := by
  obtain ⟨i0, hi0, hz0, hz1, hz2⟩ := info_parts info_token
  rcases hs with ⟨rfl, _⟩ | ⟨g, rfl, hg, hc⟩
  · exact absurd rfl hp
  · obtain ⟨v', w', h1, h2, h3, _, h5⟩ := run_append_own_at (P := Tryd.prog) w base 22 22 27 i0 _ 4 40 Tryd.underlying22 hi0 hz0 hz1 hz2 rfl (by omega) v l.length (tflat l) hown ⟨g, 0, none⟩ m.length c (tflat m) (tflat_length m) hc (one_flat m) (by simp only [maxLen]; omega) (by omega) hbase
    refine ⟨v', w', h1, ?_, h3, h5⟩
    unfold TOwns
    rw [show tflat (l ++ m) = tflat l ++ tflat m by unfold tflat; rw [List.flatMap_append], List.length_append]
    exact h2

theorem run_append_none (w : World) (base : Nat) (v : Value) (l : List Tok) (hown : TOwns w base v l) (c : Nat) :
    (Builtin.append_ #[22, 22] 22 #[v, .slice none 0 c]).run Tryd.prog w = .ok v w := by
  obtain ⟨i0, hi0, hz0, hz1, hz2⟩ := info_parts info_token
  rcases hown.2 with ⟨rfl, h0⟩ | ⟨g, cap, cur, rfl, _, _, hnc, _⟩
  · simp [Builtin.append_, run_underlying (P := Tryd.prog) Tryd.underlying22, sizeOf, typeInfo, hi0, Builtin.lenOf, Builtin.firstCells]
  · simp [Builtin.append_, run_underlying (P := Tryd.prog) Tryd.underlying22, sizeOf, typeInfo, hi0, Builtin.lenOf, Builtin.firstCells, hnc, storeCells]

/-- append at an operation, the source's slice any. -/
theorem wp_append_toks {o : Oper} {a : Act} {K : Act → World → Prop} {Q : Exit → Act → World → Prop} (w : World) (s x : Operand)
    (ho : o.op = .call { callee := .builtin .append, args := #[s, x], argTypes := #[22, 22] }) (hty : o.type = 22)
    (base : Nat) (v : Value) (l : List Tok) (hs : a.eval s = v) (hown : TOwns w base v l) (p : Option Addr) (n c : Nat) (m : List Tok) (hn : m.length = n) (hx : a.eval x = .slice p n c) (hsr : TSrc w p m) (hN : l.length + m.length ≤ 100000) (hbase : base ≤ w.heap.size)
    (h : ∀ v' w', TOwns w' base v' (l ++ m) → w.grownBy w' v.ownBlock → (v'.ownBlock = v.ownBlock ∨ v'.ownBlock = some w.heap.size) → K (a.put o.dst v') w') : o.wp Tryd.prog a w K Q := by
  subst hn
  by_cases hp : p = none
  · subst hp
    have hm : m = [] := by rcases hsr with ⟨_, h⟩ | ⟨g, h, _⟩; exact h; cases h
    subst hm
    have hr := run_append_none w base v l hown c
    unfold Oper.wp execOp
    simp only [List.length_nil] at hx
    simp only [ho, hty, resolve, invoke, builtin, Sem.run_bind, Sem.run_pure, Result.andThen_ok, List.map_toArray, List.map_cons, List.map_nil, hs, hx, hr]
    exact h v w (by rw [List.append_nil]; exact hown) (World.grownBy.refl w _) (.inl rfl)
  · obtain ⟨v', w', hr, h2, h3, h4⟩ := run_append_toks w base v l hown p c m hsr hN hbase hp
    unfold Oper.wp execOp
    simp only [ho, hty, resolve, invoke, builtin, Sem.run_bind, Sem.run_pure, Result.andThen_ok, List.map_toArray, List.map_cons, List.map_nil, hs, hx, hr]
    exact h v' w' h2 h3 h4

theorem owns_empty (W : World) : TOwns (W.alloc (.cells #[] 27)) W.heap.size (.slice (some ⟨W.heap.size, 0, none⟩) 0 0) [] :=
  ⟨rfl, .inr ⟨W.heap.size, 0, #[], rfl, Nat.le_refl _, heap_alloc_new W _, Nat.le_refl _, by simp only [maxLen]; omega, rfl, rfl⟩⟩

theorem below_app {W W1 w' : World} {row : Option Nat} (hb : Below W.heap.size W W1) (hg : W1.grownBy w' row) (hr : ∀ g, row = some g → W.heap.size ≤ g) : Below W.heap.size W w' := hb.grown hg hb.size hr

theorem app_blocks {W : World} {v : Value} {cs : Array Value} {t : TypeId} (h : v.ownBlock = (Value.slice (some ⟨W.heap.size, 0, none⟩) 0 0).ownBlock ∨ v.ownBlock = some (W.alloc (.cells cs t)).heap.size) : ∀ g, v.ownBlock = some g → W.heap.size ≤ g := by
  intro g hg
  have hs : W.heap.size ≤ (W.alloc (.cells cs t)).heap.size := ((Below.refl W.heap.size W).alloc (Nat.le_refl _) _).size
  rcases h with e | e
  · rw [e] at hg
    have : W.heap.size = g := Option.some.inj hg
    omega
  · rw [e] at hg
    have : (W.alloc (.cells cs t)).heap.size = g := Option.some.inj hg
    omega
theorem app_below {W W1 w' : World} (hb : Below W.heap.size W W1) (hg : W1.grownBy w' (Value.slice (some ⟨W.heap.size, 0, none⟩) 0 0).ownBlock) : Below W.heap.size W w' :=
  below_app hb hg fun g hg => by
    have : W.heap.size = g := Option.some.inj hg
    omega

end Go.Proofs.YthleaigkndfdaaaDoor
