/- What an append leaves of the other rows; what the loops of a flat function keep. -/
import Derived.Test.YtbpoedopdnjffaaGreatZqA
import Derived.ArgAppend
import Derived.Deep.OwnRows
namespace Go.Proofs.YtbpoedopdnjffaaGreat
open Go.RowKit Go.Shelf Sp

theorem run_append_keep {P : Program} (w : World) (base : Nat) (t ty e : TypeId) (i : TypeInfo) (z : Value) (size bytes : Nat) (ht : P.underlying t = some (.slice e)) (hi : P.info? e = some i) (hz : i.zero = some z)
    (hsize : i.size = size) (hby : i.bytes = bytes) (hzs : z.cells.size = size) (hsz : 0 < size)
    (v : Value) (n : Nat) (xs : List Value) (hown : w.ownsRow base e size v n xs)
    (a : Addr) (m c : Nat) (news : List Value) (hl : news.length = m * size) (hnews : ∀ j u, news[j]? = some u → w.cell? (a.add j) = some u) (h1 : ∀ u ∈ news, u.oneCell' = true)
    (h63 : n + m ≤ maxLen) (hbytes : (n + m) * bytes ≤ 140737488355328) (hbase : base ≤ w.heap.size) :
    ∃ v' w', (Builtin.append_ #[t, t] ty #[v, .slice (some a) m c]).run P w = .ok v' w' ∧ w'.ownsRow base e size v' (n + m) (xs ++ news) ∧ w.grownBy w' v.ownBlock ∧
      (∀ b, v'.ownBlock = some b → v.ownBlock = some b ∨ w.heap.size ≤ b) ∧
      ∀ base' x k ys, w.ownsRow base' e size x k ys → (∀ b, x.ownBlock = some b → v.ownBlock = some b → k ≤ n) → w'.ownsRow base' e size x k ys := by
  have keepN : ∀ w', w.grownBy w' none → ∀ base' x k ys, w.ownsRow base' e size x k ys → (∀ b, x.ownBlock = some b → v.ownBlock = some b → k ≤ n) → w'.ownsRow base' e size x k ys :=
    fun w' hg base' x k ys hx _ => hx.kept hg (by cases x.ownBlock <;> simp)
  rcases hown.2 with ⟨rfl, rfl⟩ | ⟨g, cap, cur, rfl, hbg, hg, hnc, hcm, hcs, htake⟩
  · obtain ⟨v', w', q1, q2, q3, _, q5⟩ := run_append_own_at (P := P) w base t ty e i z size bytes ht hi hz hsize hby hzs hsz _ 0 xs hown a m c news hl hnews h1 h63 hbytes hbase
    refine ⟨v', w', q1, q2, q3, fun b hb => ?_, keepN w' q3⟩
    rcases q5 with q5 | q5
    · left; rw [← q5]; exact hb
    · rw [q5] at hb; cases hb; exact .inr (Nat.le_refl _)
  · by_cases hroom : n + m ≤ cap
    · subst hsize
      have hlen : (xs ++ news).length = (n + m) * i.size := by rw [List.length_append, hown.1, hl, Nat.add_mul]
      have hfit : n * i.size + news.length ≤ cur.size := by rw [hl, hcs, ← Nat.add_mul]; exact Nat.mul_le_mul_right _ hroom
      have hr := run_append_room (P := P) w t ty e i ht hi g n cap cur hg a m c news hl hnews h1 hroom hfit
      have hss : (cur.toList.take (n * i.size) ++ news ++ cur.toList.drop (n * i.size + news.length)).toArray.size = cur.size := by
        simp only [List.size_toArray, List.length_append, List.length_take, List.length_drop, Array.length_toList]
        omega
      have hgr : w.grownBy (w.setRow g (cur.toList.take (n * i.size) ++ news ++ cur.toList.drop (n * i.size + news.length)).toArray) (some g) :=
        ⟨rfl, rfl, rfl, by simp, fun k _ hk => setRow_other w g k _ (fun e => hk (by simp [e]))⟩
      refine ⟨_, _, hr, ⟨hlen, .inr ⟨g, cap, _, rfl, hbg, setRow_heap w g cur _ e _ hg, hroom, hcm, hss.trans hcs, ?_⟩⟩, hgr, fun b hb => .inl hb, ?_⟩
      · rw [htake, ← hlen]
        exact List.take_left
      · intro base' x k ys hx hk
        rcases hx.2 with ⟨rfl, h0⟩ | ⟨g', cap', cur', rfl, hb', hg', hn', hm', hs', ht'⟩
        · exact ⟨hx.1, .inl ⟨rfl, h0⟩⟩
        · by_cases hgg : g' = g
          · subst hgg
            have hkn : k ≤ n := hk g' rfl rfl
            rw [hg] at hg'
            cases hg'
            refine ⟨hx.1, .inr ⟨g', cap', _, rfl, hb', setRow_heap w g' cur _ e _ hg, hn', hm', hss.trans hs', ?_⟩⟩
            have hle : k * i.size ≤ n * i.size := Nat.mul_le_mul_right _ hkn
            rw [← ht', List.append_assoc, List.take_append_of_le_length (by rw [List.length_take, Array.length_toList]; omega), List.take_take, Nat.min_eq_left hle]
          · exact hx.kept hgr (.inr (by simp [Value.ownBlock]; exact hgg))
    · obtain ⟨v', w', q1, q2, q3⟩ := run_append_arg_grows (P := P) w t ty e i z size bytes ht hi hz hsize hby hzs hsz ⟨g, 0, none⟩ n cap xs hown.1 (hown.cells rfl) a m c news hl hnews (by omega) h63 hbytes
      refine ⟨v', w', q1, ⟨q2.1, ?_⟩, ⟨q3.os, q3.tape, q3.output, q3.size, fun k hk _ => q3.block k hk (by simp)⟩, fun b hb => .inr (q2.lt b hb).1, keepN w' q3⟩
      rcases q2.2 with h | ⟨g', cap', cur', e', hb', rest⟩
      · exact .inl h
      · exact .inr ⟨g', cap', cur', e', Nat.le_trans hbase hb', rest⟩

theorem wpList_append_keep {P : Program} (w : World) {ops : Array Oper} {rest : List Oper} {o : Oper} {a : Act} {Q : Exit → Act → World → Prop} (hgd : o.guard = none) (s x : Operand) (t : TypeId)
    (ho : o.op = .call { callee := .builtin .append, args := #[s, x], argTypes := #[t, t] })
    (base : Nat) (e : TypeId) (i : TypeInfo) (z : Value) (size bytes : Nat) (ht : P.underlying t = some (.slice e)) (hi : P.info? e = some i) (hz : i.zero = some z)
    (hsize : i.size = size) (hby : i.bytes = bytes) (hzs : z.cells.size = size) (hsz : 0 < size)
    (v : Value) (n : Nat) (xs : List Value) (hs : a.eval s = v) (hown : w.ownsRow base e size v n xs)
    (ad : Addr) (m c : Nat) (news : List Value) (hx : a.eval x = .slice (some ad) m c) (hl : news.length = m * size) (hnews : ∀ j u, news[j]? = some u → w.cell? (ad.add j) = some u) (h1 : ∀ u ∈ news, u.oneCell' = true)
    (h63 : n + m ≤ maxLen) (hbytes : (n + m) * bytes ≤ 140737488355328) (hbase : base ≤ w.heap.size)
    (h : ∀ v' w', w'.ownsRow base e size v' (n + m) (xs ++ news) → w.grownBy w' v.ownBlock → (∀ b, v'.ownBlock = some b → v.ownBlock = some b ∨ w.heap.size ≤ b) →
      (∀ base' x k ys, w.ownsRow base' e size x k ys → (∀ b, x.ownBlock = some b → v.ownBlock = some b → k ≤ n) → w'.ownsRow base' e size x k ys) → wpList P ops Q rest (a.put o.dst v') w') :
    wpList P ops Q (o :: rest) a w := by
  refine wpList_plain hgd fun K hK => ?_
  obtain ⟨v', w', hr, h2, h3, h4, h5⟩ := run_append_keep (P := P) w base t o.type e i z size bytes ht hi hz hsize hby hzs hsz v n xs hown ad m c news hl hnews h1 h63 hbytes hbase
  unfold Oper.wp execOp
  simp only [ho, resolve, invoke, builtin, Sem.run_bind, Sem.run_pure, Result.andThen_ok, List.map_toArray, List.map_cons, List.map_nil, hs, hx, hr]
  exact hK _ _ (h v' w' h2 h3 h4 h5)

theorem grown_of_below {W W1 : World} (h : Below W.heap.size W W1) (row : Option Nat) : W.grownBy W1 row := ⟨h.os, h.tape, h.output, h.size, fun k hk _ => h.block k hk⟩
theorem rowIs_grown {W W' : World} {row : Option Nat} {G N : Nat} {T : TypeId} {H : Nat → Value} (h : W.rowIs G T N H) (hg : W.grownBy W' row) (hne : some G ≠ row) : W'.rowIs G T N H := h.of_block (hg.block G h.lt hne)
theorem row_not {W : World} {G N : Nat} {T e : TypeId} {H : Nat → Value} (h : W.rowIs G T N H) (hte : T ≠ e) {base size k : Nat} {v : Value} {xs : List Value} (hr : W.ownsRow base e size v k xs) : some G ≠ v.ownBlock := by
  obtain ⟨c, hc, _⟩ := h
  rcases hr.2 with ⟨rfl, _⟩ | ⟨g, cap, cur, rfl, _, hgb, _⟩
  · simp [Value.ownBlock]
  · intro e'
    obtain rfl : G = g := by simpa [Value.ownBlock] using e'
    have := hc.symm.trans hgb
    simp at this
    exact hte this.2

/-- The slices' blocks: all at base or beyond, none of them one of the blocks S (the headers' among them), no two alike. -/
structure ApC (w : World) (base : Nat) (S : Nat → Prop) (N : Nat) (V : Nat → Value) : Prop where
  bs : base ≤ w.heap.size
  blk : ∀ j, j < N → ∀ b, (V j).ownBlock = some b → base ≤ b ∧ b < w.heap.size ∧ ¬ S b
  dis : ∀ i j, i < N → j < N → i ≠ j → ∀ b, (V i).ownBlock = some b → (V j).ownBlock ≠ some b

/-- The slices hold xs; the old memory and the headers' block stay. -/
structure ApI (w : World) (base : Nat) (S : Nat → Prop) (N : Nat) (e : TypeId) (size : Nat) (V : Nat → Value) (n : Nat → Nat) (W : World) (xs : Nat → List Value) : Prop where
  below : Below base w W
  hd : ∀ X, X < w.heap.size → S X → W.heap[X]? = w.heap[X]?
  own : ∀ j, j < N → W.ownsRow base e size (V j) (n j) (xs j)

/-- The grown slices 0 .. k - 1, their headers in block G. -/
structure ApG (w : World) (base N : Nat) (e : TypeId) (size : Nat) (V : Nat → Value) (G : Nat) (T : TypeId) (Q : Nat → Nat → List Value → Prop) (L : Nat) (W : World) (H : Nat → Value) (k : Nat) : Prop where
  row : W.rowIs G T N H
  own : ∀ j, j < k → ∃ m ys, W.ownsRow base e size (H j) m ys ∧ Q j m ys
  frm : ∀ j, j < k → ∀ b, (H j).ownBlock = some b → (V j).ownBlock = some b ∨ (w.heap.size ≤ b ∧ b < L)

section
variable {w : World} {base N : Nat} {S : Nat → Prop} {e : TypeId} {size : Nat} {V : Nat → Value} {n : Nat → Nat} {W W' : World} {xs : Nat → List Value} {G L k : Nat} {T : TypeId} {Q : Nat → Nat → List Value → Prop} {H : Nat → Value}

theorem ApI.sz (h : ApI w base S N e size V n W xs) : w.heap.size ≤ W.heap.size := h.below.size
theorem ApI.head (h : ApI w base S N e size V n W xs) {B j : Nat} {u : Value} (hB : S B) (hc : w.cell? ⟨B, j, none⟩ = some u) : W.cell? ⟨B, j, none⟩ = some u := by
  rw [World.cell?_of_block (w := w) (a := ⟨B, j, none⟩) (h.hd B (World.block_lt_of_cell? w _ hc) hB)]; exact hc

theorem ApI.grown (hC : ApC w base S N V) (h : ApI w base S N e size V n W xs) {row : Option Nat} (hg : W.grownBy W' row) (hr : ∀ b, row = some b → w.heap.size ≤ b) : ApI w base S N e size V n W' xs := by
  refine ⟨h.below.grown hg (Nat.le_trans hC.bs h.sz) (fun b hb => Nat.le_trans hC.bs (hr b hb)), fun X hX hS => (hg.block X (Nat.lt_of_lt_of_le hX h.sz) (fun e' => by have := hr X e'.symm; omega)).trans (h.hd X hX hS), fun j hj => (h.own j hj).kept hg ?_⟩
  · cases hv : (V j).ownBlock with
    | none => exact .inl rfl
    | some b => refine .inr fun e' => ?_; have := hr b e'.symm; have := (hC.blk j hj b hv).2.1; omega

theorem ApI.later (hC : ApC w base S N V) (h : ApI w base S N e size V n W xs) (hb : Below W.heap.size W W') : ApI w base S N e size V n W' xs := h.grown hC (grown_of_below hb none) (fun b hb => by cases hb)
theorem ApI.alloc (hC : ApC w base S N V) (h : ApI w base S N e size V n W xs) (o : Obj) : ApI w base S N e size V n (W.alloc o) xs := h.grown hC (World.grownBy_alloc W o none) (fun b hb => by cases hb)

/-- A store into the row of slice k. -/
theorem ApI.store (hC : ApC w base S N V) (h : ApI w base S N e size V n W xs) (hk : k < N) {g m cap : Nat} (hv : V k = .slice (some ⟨g, 0, none⟩) m cap) (hm : n k = m) (j : Nat) (u : Value) :
    ApI w base S N e size V n (W.setCell ⟨g, j, none⟩ u) (fun i => if i = k then (xs k).set j u else xs i) := by
  have ho := h.own k hk
  rw [hv, hm] at ho
  obtain ⟨hs, hg⟩ := ho.stored j u
  have hbk := hC.blk k hk g (by rw [hv]; rfl)
  refine ⟨h.below.grown hg (Nat.le_trans hC.bs h.sz) (fun b hb => by cases hb; exact hbk.1), fun X hX hS => (hg.block X (Nat.lt_of_lt_of_le hX h.sz) (fun e' => by cases e'; exact hbk.2.2 hS)).trans (h.hd X hX hS), fun i hi => ?_⟩
  · by_cases hik : i = k
    · subst hik
      rw [if_pos rfl, hv, hm]
      exact hs
    · rw [if_neg hik]
      refine (h.own i hi).kept hg ?_
      cases hv' : (V i).ownBlock with
      | none => exact .inl rfl
      | some b =>
        refine .inr fun e' => ?_
        cases e'
        exact hC.dis i k hi hk hik g hv' (by rw [hv]; rfl)

/-- Behind an append to a slice that grew out of slice k. -/
theorem ApI.append (hC : ApC w base S N V) (h : ApI w base S N e size V n W xs) (hk : k < N) {v : Value} {mv : Nat} {zs : List Value} (hv : W.ownsRow base e size v mv zs) (hf : ∀ b, v.ownBlock = some b → (V k).ownBlock = some b ∨ w.heap.size ≤ b) (hn : n k ≤ mv)
    (hg : W.grownBy W' v.ownBlock) (hkeep : ∀ base' x k ys, W.ownsRow base' e size x k ys → (∀ b, x.ownBlock = some b → v.ownBlock = some b → k ≤ mv) → W'.ownsRow base' e size x k ys) : ApI w base S N e size V n W' xs := by
  refine ⟨h.below.grown hg (Nat.le_trans hC.bs h.sz) (fun b hb => (hv.lt b hb).1), fun X hX hS => (hg.block X (Nat.lt_of_lt_of_le hX h.sz) (fun e' => by
      rcases hf X e'.symm with h1 | h1
      · exact (hC.blk k hk X h1).2.2 hS
      · omega)).trans (h.hd X hX hS), fun j hj => hkeep _ _ _ _ (h.own j hj) fun b hb1 hb2 => ?_⟩
  · by_cases hjk : j = k
    · subst hjk; exact hn
    · rcases hf b hb2 with h1 | h1
      · exact absurd h1 (hC.dis j k hj hk hjk b hb1)
      · have := (hC.blk j hj b hb1).2.1; omega

theorem ApG.grown (hC : ApC w base S N V) (hkN : k ≤ N) (hL : w.heap.size ≤ L) (h : ApG w base N e size V G T Q L W H k) {row : Option Nat} (hg : W.grownBy W' row) (hr : ∀ b, row = some b → L ≤ b ∧ b ≠ G) : ApG w base N e size V G T Q L W' H k := by
  refine ⟨rowIs_grown h.row hg (fun e' => (hr G e'.symm).2 rfl), fun j hj => ?_, h.frm⟩
  obtain ⟨m, ys, ho, hq⟩ := h.own j hj
  refine ⟨m, ys, ho.kept hg ?_, hq⟩
  cases hv : (H j).ownBlock with
  | none => exact .inl rfl
  | some b =>
    refine .inr fun e' => ?_
    have h1 := (hr b e'.symm).1
    rcases h.frm j hj b hv with h2 | h2
    · have := (hC.blk j (by omega) b h2).2.1; omega
    · omega

theorem ApG.later (hC : ApC w base S N V) (hkN : k ≤ N) (hL : w.heap.size ≤ L) (h : ApG w base N e size V G T Q L W H k) (hb : Below W.heap.size W W') : ApG w base N e size V G T Q L W' H k := h.grown hC hkN hL (grown_of_below hb none) (fun b hb => by cases hb)
theorem ApG.alloc (hC : ApC w base S N V) (hkN : k ≤ N) (hL : w.heap.size ≤ L) (h : ApG w base N e size V G T Q L W H k) (o : Obj) : ApG w base N e size V G T Q L (W.alloc o) H k := h.grown hC hkN hL (World.grownBy_alloc W o none) (fun b hb => by cases hb)
theorem ApG.wider {L' : Nat} (h : ApG w base N e size V G T Q L W H k) (hL : L ≤ L') : ApG w base N e size V G T Q L' W H k :=
  ⟨h.row, h.own, fun j hj b hb => (h.frm j hj b hb).imp id fun h1 => ⟨h1.1, by omega⟩⟩

theorem ApG.append (hC : ApC w base S N V) (hk : k < N) (hL : w.heap.size ≤ L) (hte : T ≠ e) (h : ApG w base N e size V G T Q L W H k) {v : Value} {mv : Nat} {zs : List Value} (hv : W.ownsRow base e size v mv zs) (hf : ∀ b, v.ownBlock = some b → (V k).ownBlock = some b ∨ L ≤ b)
    (hg : W.grownBy W' v.ownBlock) (hkeep : ∀ base' x k ys, W.ownsRow base' e size x k ys → (∀ b, x.ownBlock = some b → v.ownBlock = some b → k ≤ mv) → W'.ownsRow base' e size x k ys) : ApG w base N e size V G T Q L W' H k := by
  refine ⟨rowIs_grown h.row hg (row_not h.row hte hv), fun j hj => ?_, h.frm⟩
  obtain ⟨m, ys, ho, hq⟩ := h.own j hj
  refine ⟨m, ys, hkeep _ _ _ _ ho fun b hb1 hb2 => ?_, hq⟩
  exfalso
  rcases h.frm j hj b hb1 with h1 | h1
  · rcases hf b hb2 with h2 | h2
    · exact hC.dis j k (by omega) hk (by omega) b h1 h2
    · have := (hC.blk j (by omega) b h1).2.1; omega
  · rcases hf b hb2 with h2 | h2
    · have := (hC.blk k hk b h2).2.1; omega
    · omega

/-- The grown slice k is stored. -/
theorem ApG.put (_hk : k < N) (hte : T ≠ e) (h : ApG w base N e size V G T Q L W H k) (hL : L ≤ W.heap.size) {v : Value} {mv : Nat} {zs : List Value} (hv : W.ownsRow base e size v mv zs) (hq : Q k mv zs) (hf : ∀ b, v.ownBlock = some b → (V k).ownBlock = some b ∨ w.heap.size ≤ b) :
    ApG w base N e size V G T Q W.heap.size (W.setCell ⟨G, k, none⟩ v) (fun j => if j = k then v else H j) (k + 1) := by
  have hg : W.grownBy (W.setCell ⟨G, k, none⟩ v) (some G) := ⟨rfl, rfl, rfl, by simp, fun b _ hb => heap_setCell_other W ⟨G, k, none⟩ b v (fun e' => hb (by simp [e']))⟩
  refine ⟨h.row.set k v, fun j hj => ?_, fun j hj b hb => ?_⟩
  · by_cases hjk : j = k
    · subst hjk
      refine ⟨mv, zs, ?_, hq⟩
      rw [if_pos rfl]
      exact hv.kept hg (.inr (row_not h.row hte hv).symm)
    · obtain ⟨m, ys, ho, hq'⟩ := h.own j (by omega)
      refine ⟨m, ys, ?_, hq'⟩
      rw [if_neg hjk]
      exact ho.kept hg (.inr (row_not h.row hte ho).symm)
  · by_cases hjk : j = k
    · subst hjk
      rw [if_pos rfl] at hb
      rcases hf b hb with h1 | h1
      · exact .inl h1
      · exact .inr ⟨h1, (hv.lt b hb).2⟩
    · rw [if_neg hjk] at hb
      rcases h.frm j (by omega) b hb with h1 | h1
      · exact .inl h1
      · exact .inr ⟨h1.1, by omega⟩
theorem ApI.put (hC : ApC w base S N V) (h : ApI w base S N e size V n W xs) (hG : w.heap.size ≤ G) (k : Nat) (v : Value) : ApI w base S N e size V n (W.setCell ⟨G, k, none⟩ v) xs :=
  h.grown hC (row := some G) ⟨rfl, rfl, rfl, by simp, fun b _ hb => heap_setCell_other W ⟨G, k, none⟩ b v (fun e' => hb (by simp [e']))⟩ (fun b hb => by cases hb; exact hG)

end

/-- The first m marks of slice k. -/
def mS (k m : Nat) : Sps := (List.range m).map fun (i : Nat) => (mkI k (i : Int), (0 : Int))
theorem mS_len (k m : Nat) : (mS k m).length = m := by simp [mS]
theorem mS_get (k m i : Nat) (h : i < (mS k m).length) : (mS k m)[i] = (mkI k (i : Int), 0) := by simp [mS]
theorem mS_succ (k m : Nat) : mS k (m + 1) = mS k m ++ [(mkI k (m : Int), 0)] := by simp [mS, List.range_succ]

end Go.Proofs.YtbpoedopdnjffaaGreat
