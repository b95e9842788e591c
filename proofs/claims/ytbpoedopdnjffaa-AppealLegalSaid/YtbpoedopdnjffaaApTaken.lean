/- taken, last; the filings of the example. -/
import Derived.Test.YtbpoedopdnjffaaApKit
namespace Go.Proofs.Ytbpoedopdnjffaa
open Go.RowKit Go.Shelf Sp

def flRow (f : Fl) : List Value := [.int .u8 f.kind, .int .i64 f.day, .int .i64 f.case, .int .i64 f.n, .int .i64 f.til, .bool f.hold]
def fflat (l : List Fl) : List Value := l.flatMap flRow
theorem fflat_cons (f : Fl) (l : List Fl) : fflat (f :: l) = flRow f ++ fflat l := rfl
theorem fflat_append (a b : List Fl) : fflat (a ++ b) = fflat a ++ fflat b := by unfold fflat; rw [List.flatMap_append]
theorem fflat_length (l : List Fl) : (fflat l).length = l.length * 6 := by
  induction l with
  | nil => rfl
  | cons f l ih => rw [fflat_cons, List.length_append, ih]; simp [flRow]; omega
theorem fflat_get (l : List Fl) : ∀ i j : Nat, (h : i < l.length) → j < 6 → (fflat l)[i * 6 + j]? = (flRow l[i])[j]? := by
  induction l with
  | nil => intro i j h; simp at h
  | cons f l ih =>
    intro i j h hj
    rw [fflat_cons]
    cases i with
    | zero => rw [Nat.zero_mul, Nat.zero_add, List.getElem?_append_left (by simp [flRow]; omega)]; rfl
    | succ i =>
      have := ih i j (by simpa using h) hj
      rw [show (i + 1) * 6 + j = i * 6 + j + 6 by omega, List.getElem?_append_right (by simp [flRow]), show (flRow f).length = 6 from rfl, Nat.add_sub_cancel]
      exact this
/-- The slice v is the filings l, in memory of its own. -/
def FOwns (W : World) (base : Nat) (v : Value) (l : List Fl) : Prop := W.ownsRow base 30 6 v l.length (fflat l)
theorem fcells_row {W : World} {g : Nat} {cur : Array Value} {t : TypeId} {z : Nat × Nat} {l : List Fl} (hg : W.heap[g]? = some (.cells cur t z)) (ht : cur.toList.take (l.length * 6) = fflat l) : FCells W (some ⟨g, 0, none⟩) l := by
  refine .inr ⟨g, 0, rfl, fun i hi => ?_⟩
  have key : ∀ j, j < 6 → W.cell? ⟨g, i * 6 + j, none⟩ = (flRow l[i])[j]? := fun j hj => by
    have e1 := fflat_get l i j hi hj
    rw [← ht, List.getElem?_take, if_pos (by omega), Array.getElem?_toList] at e1
    rw [← e1]
    simp [World.cell?, hg]
  simp only [Nat.zero_add]
  exact ⟨key 0 (by omega), key 1 (by omega), key 2 (by omega), key 3 (by omega), key 4 (by omega), key 5 (by omega)⟩
theorem FOwns.form {W : World} {base : Nat} {v : Value} {l : List Fl} (h : FOwns W base v l) : ∃ p cap, v = .slice p l.length cap ∧ FCells W p l := by
  obtain ⟨hl, hv⟩ := h
  rcases hv with ⟨rfl, h0⟩ | ⟨g, cap, cur, rfl, _, hg, hc, _, _, ht⟩
  · have : l = [] := List.eq_nil_of_length_eq_zero h0
    subst this
    exact ⟨none, 0, rfl, .inl rfl⟩
  · exact ⟨_, _, rfl, fcells_row hg ht⟩
theorem info_filing : (Try.prog.info? 30).map (fun i => (i.zero, i.size, i.bytes)) = some (some (.agg #[.int .u8 0, .int .i64 0, .int .i64 0, .int .i64 0, .int .i64 0, .bool false]), 6, 48) := by kernel_rfl
theorem EOwns.form {W : World} {base : Nat} {v : Value} {es : List Int} (h : EOwns W base v es) : ∃ p cap, v = .slice p es.length cap ∧ ∀ i, (hi : i < es.length) → ∃ g, p = some ⟨g, 0, none⟩ ∧ base ≤ g ∧ g < W.heap.size ∧ W.cell? ⟨g, i, none⟩ = some (.int .i64 es[i]) := by
  obtain ⟨hl, hv⟩ := h
  rcases hv with ⟨rfl, h0⟩ | ⟨g, cap, cur, rfl, hb, hg, hc, _, _, ht⟩
  · exact ⟨none, 0, by rw [h0], fun i hi => by omega⟩
  · refine ⟨_, _, rfl, fun i hi => ⟨g, rfl, hb, (Array.getElem?_eq_some_iff.1 hg).1, ?_⟩⟩
    have e1 : (es.map (Value.int .i64))[i]? = some (.int .i64 es[i]) := by simp [hi]
    rw [← ht, List.getElem?_take, if_pos (by omega), Array.getElem?_toList] at e1
    simp [World.cell?, hg, e1]

/-- The filings that are accepted. -/
def takenFrom (D : Dk) : List Fl → List Fl
  | [] => []
  | f :: l => if errD D f = 0 then f :: takenFrom (stepD D f) l else takenFrom (stepD D f) l
def takenP (l : List Fl) : List Fl := takenFrom ⟨0, [], -1⟩ l
theorem takenFrom_snoc (D : Dk) (l : List Fl) (f : Fl) : takenFrom D (l ++ [f]) = takenFrom D l ++ (if errD (l.foldl stepD D) f = 0 then [f] else []) := by
  induction l generalizing D with
  | nil => simp only [List.nil_append, takenFrom, List.foldl_nil]; rfl
  | cons g l ih => rw [List.cons_append, takenFrom, takenFrom, ih, List.foldl_cons]; split <;> simp
theorem takenP_snoc (l : List Fl) (f : Fl) : takenP (l ++ [f]) = takenP l ++ (if errD (runD l) f = 0 then [f] else []) := takenFrom_snoc _ l f
theorem takenFrom_len (D : Dk) (l : List Fl) : (takenFrom D l).length ≤ l.length := by
  induction l generalizing D with
  | nil => simp [takenFrom]
  | cons f l ih =>
    rw [takenFrom]
    have := ih (stepD D f)
    split <;> simp <;> omega
theorem takenP_len (l : List Fl) : (takenP l).length ≤ l.length := takenFrom_len _ l
theorem takenP_take {l : List Fl} {k : Nat} (h : k < l.length) (h2 : k < (errsD l).length) : takenP (l.take (k + 1)) = takenP (l.take k) ++ (if (errsD l)[k] = 0 then [l[k]] else []) := by
  rw [List.take_succ_eq_append_getElem h, takenP_snoc, errsD_get l k h h2]
theorem takenFrom_mem {D : Dk} {l : List Fl} {f : Fl} (h : f ∈ takenFrom D l) : f ∈ l := by
  induction l generalizing D with
  | nil => cases h
  | cons g l ih =>
    rw [takenFrom] at h
    split at h
    · rcases List.mem_cons.1 h with rfl | h
      · exact List.mem_cons_self ..
      · exact List.mem_cons_of_mem _ (ih h)
    · exact List.mem_cons_of_mem _ (ih h)

theorem fcell_six (w : World) (f : Fl) (k : Nat) (hk : w.heap.size = k) : ∀ j x, (flRow f)[j]? = some x → (w.alloc (.cells #[.int .u8 f.kind, .int .i64 f.day, .int .i64 f.case, .int .i64 f.n, .int .i64 f.til, .bool f.hold] 30)).cell? ((⟨k, 0, none⟩ : Addr).add j) = some x := by
  subst hk
  exact World.news_of_block (World.alloc_heap_new w _)
theorem flRow_cell (f : Fl) : ∀ u ∈ flRow f, u.oneCell' = true := by simp [flRow, Value.oneCell']

set_option maxHeartbeats 4000000 in
set_option maxRecDepth 100000 in
theorem taken_any (l : List Fl) (p : Option Addr) (cap : Nat) (w : World) (hc : FCells w p l) (bd : ∀ f ∈ l, f.Bd) (hl : l.length ≤ 100000) :
    Calls Try.prog 21 #[.slice p l.length cap] w fun e W' => ∃ v, e = .returned v ∧ FOwns W' w.heap.size v (takenP l) ∧ Below w.heap.size w W' := by
  have CR := Lib.hid (run_any l p cap w hc bd hl)
  have HC := Lib.hid hc
  clear hc bd
  obtain ⟨i0, hi0, hz0, hz1, hz2⟩ := info_parts info_filing
  go_enter Try.func21, Try.ntmps21
  go_wp2_with fail
  refine CR.out.mono ?_
  rintro e W1 ⟨ev, rfl, hE, hb1⟩
  obtain ⟨pe, ce, rfl, hEc⟩ := hE.form
  have HE := Lib.hid hEc
  have B1 := Lib.hid hb1
  have hel : (errsD l).length = l.length := errsD_length l
  obtain ⟨n, hn⟩ : ∃ n, n = (errsD l).length := ⟨_, rfl⟩
  rw [← hn] at hel ⊢
  have HN := Lib.hid hn
  have HEL := Lib.hid hel
  have hnl : n ≤ 100000 := by omega
  have hs1 := hb1.size
  clear hE hEc hb1 hn hel
  go_wp2
  go_loopw [9, 3] (fun i u wr => ∃ (k : Nat) (v : Value), k ≤ n ∧ i = .int .i64 k ∧ v = u ∧ Hid (FOwns wr W1.heap.size v (takenP (l.take k))) ∧ Hid (Below W1.heap.size W1 wr)) (fun i _ _ => n - (intOf i).toNat)
  case atStart => exact ⟨0, _, by omega, rfl, rfl, Lib.hid (World.ownsRow_nil _ _ _ _), Lib.hid (Below.refl _ _)⟩
  case round =>
    obtain ⟨k, v, hk, rfl, rfl, hI, hb⟩ := hrel
    by_cases hlt : k < n
    · have hkl : k < l.length := by have := HEL.out; omega
      have hke : k < (errsD l).length := by have := HN.out; omega
      obtain ⟨g, rfl, _, hgl, hce⟩ := HE.out k hke
      have ce := (hb.out.cell (p := ⟨g, k, none⟩) hgl).trans hce
      have hst := takenP_take hkl hke
      obtain ⟨ee, hee⟩ : ∃ ee, ee = (errsD l)[k] := ⟨_, rfl⟩
      rw [← hee] at ce hst
      clear hce hee
      have hkn : ((k : Int) < (l.length : Int)) := by omega
      by_cases h0 : ee = 0
      · subst h0
        rw [if_pos rfl] at hst
        obtain ⟨b, off, rfl, r0, r1, r2, r3, r4, r5⟩ := ((HC.out.below B1.out).below hb.out).at k hkl
        obtain ⟨f, hf⟩ : ∃ f, f = l[k] := ⟨_, rfl⟩
        rw [← hf] at r0 r1 r2 r3 r4 r5 hst
        have HST := Lib.hid hst
        obtain ⟨m, hm⟩ : ∃ m, m = (takenP (l.take k)).length := ⟨_, rfl⟩
        have hml : m ≤ 100000 := by
          have h1 := takenP_len (l.take k)
          rw [List.length_take] at h1
          omega
        have HM := Lib.hid hm
        have HR := Lib.hid (show wr.ownsRow W1.heap.size 30 6 v m (fflat (takenP (l.take k))) by rw [hm]; exact hI.out)
        have hsz := hb.out.size
        clear hf hst hm hI
        go_wp2_with (first | (at_builtin; refine wpList_append_own _ rfl _ _ 22 rfl W1.heap.size 30 i0 _ 6 48 Try.underlying22 hi0 hz0 hz1 hz2 rfl (by decide) _ _ _ rfl (HR.out.alloc _) ⟨wr.heap.size, 0, none⟩ 1 1 (flRow f) rfl rfl (fcell_six wr f _ rfl) (flRow_cell f) (by unfold maxLen; omega) (by omega) (by simp; omega) ?_; intro v' w1 hown' hgrow _) | fail)
        have H1 := Lib.hid (show FOwns w1 W1.heap.size v' (takenP (l.take (k + 1))) by
          rw [HST.out]
          unfold FOwns
          rw [List.length_append, List.length_singleton, ← HM.out, fflat_append]
          simpa [fflat] using hown')
        have H2 := Lib.hid (show Below W1.heap.size W1 w1 from (hb.out.alloc hsz _).grown hgrow (by simp; omega) (fun g' e => (World.ownsRow.lt HR.out g' e).1))
        clear hown' hgrow
        go_roundw
        case rel => exact ⟨k + 1, _, by omega, by go_num, rfl, H1, H2⟩
        case measure => simp [intOf]; omega
      · have b0 : (ee == 0) = false := by simpa using h0
        rw [if_neg h0, List.append_nil] at hst
        have H1 := Lib.hid (show FOwns wr W1.heap.size v (takenP (l.take (k + 1))) by rw [hst]; exact hI.out)
        clear hst hI
        go_wp2
        go_roundw
        case rel => exact ⟨k + 1, _, by omega, by go_num, rfl, H1, hb⟩
        case measure => simp [intOf]; omega
    · obtain rfl : k = n := by omega
      have H1 := Lib.hid (show FOwns wr w.heap.size v (takenP l) by
        have := hI.out
        rw [List.take_of_length_le (by have := HEL.out; omega)] at this
        exact ownsRow_low this hs1)
      have H2 := Lib.hid (show Below w.heap.size w wr from B1.out.trans (hb.out.mono hs1))
      go_wp2
      go_ret
      exact ⟨v, rfl, H1.out, H2.out⟩

/-- The day of the last accepted filing; 0 if there is none. -/
def lastP (l : List Fl) : Int := max 0 (runD l).last
theorem lastP_spec (l : List Fl) : (takenP l = [] ∧ (runD l).last = -1) ∨ ∃ t f, takenP l = t ++ [f] ∧ (runD l).last = f.day ∧ 0 ≤ f.day ∧ f.day ≤ 65535 := by
  generalize hl : l.length = n
  induction n generalizing l with
  | zero => rw [List.eq_nil_of_length_eq_zero hl]; exact .inl ⟨rfl, rfl⟩
  | succ n ih =>
    rcases List.eq_nil_or_concat l with rfl | ⟨l', f, rfl⟩
    · simp at hl
    · rw [List.concat_eq_append] at hl ⊢
      rw [takenP_snoc, runD_snoc]
      have ih' := ih l' (by simpa using hl)
      by_cases h0 : errD (runD l') f = 0
      · right
        rw [if_pos h0]
        refine ⟨takenP l', f, rfl, by unfold stepD; rw [if_pos h0], ?_⟩
        have hw : wf f = true := by
          unfold errD at h0
          split at h0
          · omega
          · split at h0
            · assumption
            · omega
        exact ((wf_iff f).1 hw).day
      · rw [if_neg h0, List.append_nil]
        have e : (stepD (runD l') f).last = (runD l').last := by unfold stepD; rw [if_neg h0]
        rw [e]
        exact ih'

set_option maxHeartbeats 2000000 in
theorem last_any (l : List Fl) (p : Option Addr) (cap : Nat) (w : World) (hc : FCells w p l) (bd : ∀ f ∈ l, f.Bd) (hl : l.length ≤ 100000) :
    Calls Try.prog 15 #[.slice p l.length cap] w fun e W' => e = .returned (.int .i64 (lastP l)) ∧ Below w.heap.size w W' := by
  have CT := Lib.hid (taken_any l p cap w hc bd hl)
  have htl := takenP_len l
  clear hc bd
  rcases lastP_spec l with ⟨h1, h2⟩ | ⟨t, f, h1, h2, h3, _⟩
  · have HR := Lib.hid (show lastP l = 0 by unfold lastP; rw [h2]; rfl)
    rw [h1] at CT
    clear h1 h2 htl
    go_enter Try.func15, Try.ntmps15
    go_wp2_with fail
    refine CT.out.mono ?_
    rintro e W1 ⟨v, rfl, ho, hb⟩
    obtain ⟨pv, cv, rfl, _⟩ := ho.form
    clear ho
    go_wp2
    go_ret
    exact ⟨ret_int HR.out.symm, hb⟩
  · have HR := Lib.hid (show lastP l = f.day by unfold lastP; rw [h2]; omega)
    rw [h1] at CT htl
    rw [List.length_append, List.length_singleton] at htl
    clear h1 h2 h3
    go_enter Try.func15, Try.ntmps15
    go_wp2_with fail
    refine CT.out.mono ?_
    rintro e W1 ⟨v, rfl, ho, hb⟩
    obtain ⟨pv, cv, rfl, hc⟩ := ho.form
    obtain ⟨b, off, rfl, r0, r1, r2, r3, r4, r5⟩ := hc.at t.length (by simp)
    have e1 : (t ++ [f])[t.length] = f := by simp
    rw [e1] at r1
    have e2 : (t ++ [f]).length = t.length + 1 := by simp
    rw [e2]
    clear ho hc r0 r2 r3 r4 r5 e1 e2
    go_wp2
    go_ret
    exact ⟨ret_int HR.out.symm, hb⟩

end Go.Proofs.Ytbpoedopdnjffaa
