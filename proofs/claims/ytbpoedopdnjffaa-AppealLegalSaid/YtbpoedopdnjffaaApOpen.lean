/- The list's method open. -/
import Derived.Test.YtbpoedopdnjffaaApList
import Derived.Deep.AppendLies
import Derived.Deep.RegionLaw
namespace Go.Proofs.Ytbpoedopdnjffaa
open Go.RowKit Go.Shelf Sp

theorem info_case : (Try.prog.info? 39).map (fun i => (i.zero, i.size, i.bytes)) = some (some (.agg #[.bool false, .int .u8 0, .int .i64 0, .int .i64 0, .int .i64 0, .int .i64 0, .int .i64 0, .bool false, .int .i64 0, .slice none 0 0]), 10, 88) := by kernel_rfl

theorem DkAt.parts {W : World} {base B : Nat} {L : List Cs} {last : Int} (h : DkAt W base B L last) :
    ∃ p cap ps, ps.map Prod.fst = L ∧ ps.length = L.length ∧ W.heap[B]? = some (.cells #[.slice p L.length cap, .int .i64 last] 66 (0, 0)) ∧ CRow W base (.slice p L.length cap) ps ∧ (Value.slice p L.length cap).ownBlock ≠ some B := by
  obtain ⟨v, ps, rfl, hB, hr⟩ := h
  obtain ⟨p, cap, rfl, hr2⟩ := hr.form
  refine ⟨p, cap, ps, rfl, by simp, by simpa using hB, by simpa using hr, ?_⟩
  cases ps with
  | nil =>
    rcases hr.1.2 with ⟨e, _⟩ | ⟨g, cap', cur, e, _, hg, _⟩
    · cases e; simp [Value.ownBlock]
    · intro e'
      cases e
      simp [Value.ownBlock] at e'
      subst e'
      rw [hB] at hg
      injection hg with hg
      injection hg with _ e _
      exact absurd e (by decide)
  | cons q qs =>
    obtain ⟨g, rfl, _, _, ⟨cur, hg⟩, _⟩ := hr2 (by simp)
    intro e'
    simp [Value.ownBlock] at e'
    subst e'
    rw [hB] at hg
    injection hg with hg
    injection hg with _ e _
    exact absurd e (by decide)

/-- A case is appended, and the slice stored. -/
theorem DkAt.appended {W w1 : World} {base B : Nat} {L : List Cs} {last : Int} {p : Option Addr} {cap : Nat} {ps : List (Cs × Value)} (hm : ps.map Prod.fst = L) (hn : ps.length = L.length)
    (hB : W.heap[B]? = some (.cells #[.slice p L.length cap, .int .i64 last] 66 (0, 0))) (hr : CRow W base (.slice p L.length cap) ps) (hne : (Value.slice p L.length cap).ownBlock ≠ some B) 
    (c : Cs) (hc : c.held = []) {g cap' : Nat} (hown : w1.ownsRow base 39 10 (.slice (some ⟨g, 0, none⟩) (L.length + 1) cap') (L.length + 1) (cflat ps ++ csRow c (.slice none 0 0)))
    (hg : W.grownBy w1 (Value.slice p L.length cap).ownBlock) (hat : (Value.slice p L.length cap).ownBlock = some g ∨ W.heap.size ≤ g) :
    DkAt (w1.setCell ⟨B, 0, none⟩ (.slice (some ⟨g, 0, none⟩) (L.length + 1) cap')) base B (L ++ [c]) last ∧ DFr base B W (w1.setCell ⟨B, 0, none⟩ (.slice (some ⟨g, 0, none⟩) (L.length + 1) cap')) := by
  have hBl := (Array.getElem?_eq_some_iff.1 hB).1
  have hB1 : w1.heap[B]? = some (.cells #[.slice p L.length cap, .int .i64 last] 66 (0, 0)) := (hg.block B hBl (fun e => hne e.symm)).trans hB
  have hgB : g ≠ B := by
    rintro rfl
    rcases hat with e | e
    · exact hne e
    · omega
  have hcase : ∀ k, (Value.slice p L.length cap).ownBlock = some k → ∃ cur, W.heap[k]? = some (.cells cur 39 (0, 0)) ∧ base ≤ k := by
    intro k hk
    rcases hr.1.2 with ⟨e, _⟩ | ⟨g', _, cur, e, hb', hg', _⟩
    · rw [e] at hk; cases hk
    · rw [e] at hk
      obtain rfl : g' = k := Option.some.inj hk
      exact ⟨cur, hg', hb'⟩
  have hfr : DFr base B W (w1.setCell ⟨B, 0, none⟩ (.slice (some ⟨g, 0, none⟩) (L.length + 1) cap')) := by
    refine ⟨hg.os, hg.tape, hg.output, by simpa using hg.size, fun k hk hkB hcs => ?_⟩
    refine (Below.heap_setCell w1 ⟨B, 0, none⟩ _ k hkB).trans (hg.block k hk ?_)
    intro e
    obtain ⟨cur, h1, h2⟩ := hcase k e.symm
    rcases hcs with hcs | hcs
    · omega
    · exact hcs cur (0, 0) h1
  refine ⟨⟨.slice (some ⟨g, 0, none⟩) (L.length + 1) cap', ps ++ [(c, .slice none 0 0)], by rw [List.map_append, hm]; rfl, ?_, ⟨?_, fun q hq => ?_⟩⟩, hfr⟩
  · have := setCell_row (i := 0) (.slice (some ⟨g, 0, none⟩) (L.length + 1) cap') hB1
    simpa using this
  · rw [List.length_append, List.length_singleton, hn, cflat_append]
    refine ⟨by rw [List.length_append, cflat_length, hn]; simp [cflat, csRow]; omega, .inr ?_⟩
    rcases hown.2 with ⟨e, _⟩ | ⟨g2, cap2, cur2, e, h1, h2, h3⟩
    · cases e
    · cases e
      exact ⟨g, cap', cur2, rfl, h1, (Below.heap_setCell w1 ⟨B, 0, none⟩ _ g hgB).trans h2, h3⟩
  · rcases List.mem_append.1 hq with hq | hq
    · exact (hr.2 q hq).dfr hfr (fun cs z e => by rw [hB] at e; injection e with e; injection e with _ e _; exact absurd e (by decide))
    · rw [List.mem_singleton.1 hq]
      show Owns _ 0 (.slice none 0 0) c.held
      rw [hc]
      exact Owns.nil _ _

theorem far_B {w w1 : World} {o o' : Obj} {B : Nat} {row : Option Nat} (hg : (((w.alloc o).alloc o').drew).grownBy w1 row) (hne : row ≠ some B) (hB : B < w.heap.size) : w1.heap[B]? = w.heap[B]? := by
  refine (hg.block B (by simp; omega) (fun e => hne e.symm)).trans ?_
  exact (((Below.refl _ w).alloc (Nat.le_refl _) o).alloc (by simp) o').block B hB
theorem news_case {w : World} {o : Obj} {c : Cs} {v : Value} : ∀ j u, (csRow c v)[j]? = some u → (((w.alloc o).alloc (.cells #[.bool c.el, .int .u8 c.st, .int .i64 c.opened, .int .i64 c.days, .int .i64 c.choice, .int .i64 c.level, .int .i64 c.due, .bool c.hold, .int .i64 c.since, v] 39)).drew).cell? ((⟨w.heap.size + 1, 0, none⟩ : Addr).add j) = some u := by
  have h : (((w.alloc o).alloc (.cells #[.bool c.el, .int .u8 c.st, .int .i64 c.opened, .int .i64 c.days, .int .i64 c.choice, .int .i64 c.level, .int .i64 c.due, .bool c.hold, .int .i64 c.since, v] 39)).drew).heap[w.heap.size + 1]? = some (.cells #[.bool c.el, .int .u8 c.st, .int .i64 c.opened, .int .i64 c.days, .int .i64 c.choice, .int .i64 c.level, .int .i64 c.due, .bool c.hold, .int .i64 c.since, v] 39 (0, 0)) := by
    have := World.alloc_heap_new (w.alloc o) (.cells #[.bool c.el, .int .u8 c.st, .int .i64 c.opened, .int .i64 c.days, .int .i64 c.choice, .int .i64 c.level, .int .i64 c.due, .bool c.hold, .int .i64 c.since, v] 39)
    rw [World.size_alloc] at this
    exact this
  exact World.news_of_block h

theorem open_end {w w1 : World} {o o' : Obj} {base B : Nat} {L : List Cs} {last : Int} {p : Option Addr} {cap : Nat} {ps : List (Cs × Value)} (hm : ps.map Prod.fst = L) (hn : ps.length = L.length)
    (hB : w.heap[B]? = some (.cells #[.slice p L.length cap, .int .i64 last] 66 (0, 0))) (hr : CRow w base (.slice p L.length cap) ps) (hne : (Value.slice p L.length cap).ownBlock ≠ some B)
    (c : Cs) (hc : c.held = []) {g cap' : Nat} (hown : w1.ownsRow base 39 10 (.slice (some ⟨g, 0, none⟩) (L.length + 1) cap') (L.length + 1) (cflat ps ++ csRow c (.slice none 0 0)))
    (hg : (((w.alloc o).alloc o').drew).grownBy w1 (Value.slice p L.length cap).ownBlock) (hat : (Value.slice p L.length cap).ownBlock = some g ∨ g = w.heap.size + 1 + 1) :
    DkAt (w1.setCell ⟨B, 0, none⟩ (.slice (some ⟨g, 0, none⟩) (L.length + 1) cap')) base B (L ++ [c]) last ∧ DFr base B w (w1.setCell ⟨B, 0, none⟩ (.slice (some ⟨g, 0, none⟩) (L.length + 1) cap')) := by
  have hb : Below w.heap.size w (((w.alloc o).alloc o').drew) := (((Below.refl _ w).alloc (Nat.le_refl _) o).alloc (by simp) o').drew
  have hBl := (Array.getElem?_eq_some_iff.1 hB).1
  obtain ⟨h1, h2⟩ := DkAt.appended hm hn ((hb.block B hBl).trans hB) (hr.later hb) hne c hc hown hg (hat.imp id fun e => by rw [e]; simp)
  exact ⟨h1, (DFr.of_below hb).trans h2⟩

set_option maxHeartbeats 2000000 in
set_option maxRecDepth 100000 in
theorem open_go (base B : Nat) (L : List Cs) (last : Int) (c : Cs) (hc : c.held = []) (w : World) (h : DkAt w base B L last) (hb : base ≤ w.heap.size) (hL : L.length < 100) :
    Calls Try.prog 65 #[.pointer (some ⟨B, 0, none⟩), .agg #[.bool c.el, .int .u8 c.st, .int .i64 c.opened, .int .i64 c.days, .int .i64 c.choice, .int .i64 c.level, .int .i64 c.due, .bool c.hold, .int .i64 c.since, .slice none 0 0]] w
      fun e w' => e = .returned (.int .i64 0) ∧ DkAt w' base B (L ++ [c]) last ∧ DFr base B w w' := by
  have hBl := h.lt
  obtain ⟨p, cap, ps, hm, hn, hB, hr, hne⟩ := h.parts
  have c0 : w.cell? ⟨B, 0, none⟩ = some (.slice p L.length cap) := by simp [World.cell?, hB]
  have z0 : w.frozen? ⟨B, 0, none⟩ = false := by simp [World.frozen?, hB]
  have HO := Lib.hid hr.1
  have ag : (Value.slice p L.length cap).ownBlock ≠ some w.heap.size := by
    intro e
    have := (hr.1.lt _ e).2
    omega
  have HM := Lib.hid hm
  have HN := Lib.hid hn
  have HB := Lib.hid hB
  have HR := Lib.hid hr
  have HNE := Lib.hid hne
  have HC := Lib.hid hc
  have AG := Lib.hid ag
  obtain ⟨i0, hi0, hz0, hz1, hz2⟩ := info_parts info_case
  have hB0 : B ≠ w.heap.size := by omega
  clear h hm hn hB hr hne hc ag
  go_enter Try.func65, Try.ntmps65
  go_wp2
  go_region_law ((refine step_append_lies _ (by rfl) _ _ _ (by rfl) base 39 i0 _ 10 88 Try.underlying33 hi0 hz0 hz1 hz2 rfl (by omega) (.slice p L.length cap) L.length (cflat ps) (by rfl) (by have := HO.out; rw [HN.out] at this; exact ((this.alloc _).alloc _).drew) ⟨w.heap.size + 1, 0, none⟩ 1 1 (csRow c (.slice none 0 0)) (by rfl) (by rfl) news_case (by simp [csRow, Value.oneCell']) (by omega) (by unfold maxLen; omega) (by omega) (by simp; omega) (w.heap.size + 1 + 1) (by simp) ?_; intro gg cap' w1 hown1 hgrow hat hlt'; have zf : w1.frozen? ⟨B, 0, none⟩ = false := (World.frozen?_of_block (far_B hgrow HNE.out hBl)).trans z0; have zc : w1.cell? ⟨B, 0, none⟩ = some (.slice p L.length cap) := (World.cell?_of_block (a := ⟨B, 0, none⟩) (far_B hgrow HNE.out hBl)).trans c0))
  all_goals
    have X := Lib.hid (open_end HM.out HN.out HB.out HR.out HNE.out c HC.out hown1 hgrow hat)
    clear hown1 hgrow hat hlt' zf zc
    go_wp2
    go_ret
    exact ⟨rfl, X.out.1, X.out.2⟩

end Go.Proofs.Ytbpoedopdnjffaa
