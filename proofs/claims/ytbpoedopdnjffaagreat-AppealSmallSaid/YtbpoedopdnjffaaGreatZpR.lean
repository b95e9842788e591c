/- From a walk of a law to its given row: the arguments read afterwards as they read before; an argument that is a slice of notes, or of filings, opened. -/
import Derived.Test.YtbpoedopdnjffaaGreatZpF
import Derived.Test.YtbpoedopdnjffaaGreatRows
import Derived.ProofKit
import Derived.ReadAgain
import Derived.WideKeyArgs
import Derived.ChangeSlices
import Derived.SizedLaws
import Derived.Deep.SlicePairs
namespace Go.Proofs.YtbpoedopdnjffaaGreat
open Go.ChangeShapes Go.WideShapes Go.ChangeAt Go.RowKit Go.Deep Sp

set_option maxRecDepth 100000

theorem own : ownKnob Tryz.prog.godebug = none := by kernel_rfl
theorem laidOut : laidOutB Tryz.prog = true := by kernel_rfl

theorem trodAll_stays {H : Type} {enc : TypeId × Value → H} {W W' : World} {sp' : Nat → Bool} : ∀ {ts : List TypeId} {vs : List Value} {ds : List (DataW H)} {ps : List MemPlace}, (∀ t ∈ ts, Tryz.prog.readableRec t = true ∧ t < Tryz.prog.types.size) →
    DataW.TrodAll enc Tryz.prog W 0 (fun _ => true) true ts vs ds ps → (∀ p ∈ ps, W.sameAt W' p) → (∀ p ∈ ps, sp' p.block = true) → DataW.TrodAll enc Tryz.prog W' 0 sp' true ts vs ds ps
  | [], [], [], _, _, h, _, _ => h
  | t :: _, _ :: _, _ :: _, _, hT, ⟨p, q, h1, h2, e⟩, hs, hp =>
    ⟨p, q, WideElems.Trod_stays laidOut (hT t (List.mem_cons.2 (.inl rfl))).1 (hT t (List.mem_cons.2 (.inl rfl))).2 h1 (fun x hx => hs x (by rw [e]; exact List.mem_append_left _ hx)) (fun x hx => hp x (by rw [e]; exact List.mem_append_left _ hx)),
      trodAll_stays (fun t ht => hT t (List.mem_cons.2 (.inr ht))) h2 (fun x hx => hs x (by rw [e]; exact List.mem_append_right _ hx)) (fun x hx => hp x (by rw [e]; exact List.mem_append_right _ hx)), e⟩

section
variable {H : Type} {enc : TypeId × Value → H}

theorem law_post {f : Func} {s : ChangeSpec} {apart fresh handsOn again : Bool} {W W' : World} {args : Array Value} {ds gs : List (DataW H)} {before : List MemPlace} {p : List MemPlace}
    (hW : DataW.Whole enc Tryz.prog f.params.toList s.vars apart W args.toList ds gs before) (hA : DataW.TrodAll enc Tryz.prog W 0 (fun _ => true) true f.params.toList args.toList ds p) (hp : before = p)
    (hT : ∀ t ∈ f.params.toList, Tryz.prog.readableRec t = true ∧ t < Tryz.prog.types.size) (hr : f.resultTypes = #[4]) (hv : s.vars = [])
    (h1 : (s.fn H (ds ++ gs)).results = [.lit (.bool true)]) (h2 : (s.fn H (ds ++ gs)).args = ds) (h3 : (s.fn H (ds ++ gs)).vars = [])
    (hb : Below W.heap.size W W') : s.post enc Tryz.prog f apart fresh handsOn again W args (.bool true) W' := by
  have hlt : ∀ p ∈ before, p.block < W.heap.size := fun p hp => hW.lt p hp
  have hold : ∀ p ∈ before, (fun b => decide (b < W.heap.size)) p.block = true := fun p hp => by simpa using hlt p hp
  have hres : ∀ (b : Nat) (sp : Nat → Bool) (hd : Bool), DataW.TrodAll enc Tryz.prog W' b sp hd f.resultTypes.toList ((Value.bool true).resultList f.resultTypes.size) (s.fn H (ds ++ gs)).results [] := fun b sp hd => by
    rw [h1, hr]; exact trodAll_mk1 (shut_bool Tryz.underlying4 _)
  have hargs : ∀ sp : Nat → Bool, (∀ p ∈ before, sp p.block = true) → DataW.TrodAll enc Tryz.prog W' 0 sp true f.params.toList args.toList (s.fn H (ds ++ gs)).args p := fun sp hsp => by
    rw [h2]; exact trodAll_stays hT hA (fun x hx => hb.same (hlt x (by rw [hp]; exact hx))) (fun x hx => hsp x (by rw [hp]; exact hx))
  have hvars : ∀ sp : Nat → Bool, DataW.TrodVars enc Tryz.prog W' sp s.vars (s.fn H (ds ++ gs)).vars [] := fun sp => by
    rw [h3, hv]; rfl
  refine ⟨ds, gs, before, [], p, [], hW, hres _ _ _, hargs _ hold, hvars _, World.keptBut_mono (fun q hq => ⟨hq, ?_⟩) (hb.frame (· ∈ before)), fun _ => ?_⟩
  · rw [hp] at hq
    exact .inr (.inl hq)
  · obtain ⟨_, _, _, _, _, hz, hn⟩ := hW
    refine ⟨fun j t r ht hr' => ?_, _, _, ([] ++ p) ++ [], ⟨[] ++ p, [], trodAll_append (hargs _ (fun _ _ => rfl)) (hres _ _ _), hvars _, rfl, ?_, ?_⟩, ?_⟩
    · rw [hr] at ht hr'
      cases j with
      | zero =>
        simp at ht
        subst ht
        have : r = .bool true := by simpa [Value.resultList] using hr'.symm
        subst this
        exact okWide_bool_mk Tryz.underlying4 _
      | succ j => simp at ht
    · intro b off hq
      have hin : MemPlace.cell b off ∈ before := by rw [hp]; simpa using hq
      rw [hb.frozen (hlt _ hin)]
      exact hz b off hin
    · intro ha
      have := hn ha
      rw [hp] at this
      simpa using this
    · intro q hq _
      rw [hp]
      simpa using hq

theorem filings_of {W : World} {v : Value} {d : DataW H} {ps : List MemPlace} {base : Nat} (hok : Value.okWide Tryz.prog W .any base 22 v) (h : DataW.Trod enc Tryz.prog W 0 (fun _ => true) true 22 v d ps) :
    ∃ (p : Option Addr) (l : List Fl) (cap : Nat), v = .slice p l.length cap ∧ FCells W p l ∧ (∀ x ∈ l, x.Bd) ∧ l.length ≤ maxLen := by
  obtain ⟨a0, len, cap, rfl⟩ := okWide_slice Tryz.underlying22 hok
  obtain ⟨fuel, hf⟩ := h
  rcases open_slice Tryz.underlying22 hf with ⟨hcs, _⟩ | ⟨a, len', cap', m, n, D, Pl, hcs, _, hl, hmx, hmm, _, hx⟩
  · simp [Value.cells] at hcs
    obtain ⟨rfl, rfl, rfl⟩ := hcs
    exact ⟨none, [], 0, rfl, .inl rfl, by simp, by simp [maxLen]⟩
  · simp [Value.cells] at hcs
    obtain ⟨rfl, rfl, rfl⟩ := hcs
    have hlm : len ≤ m := by rw [hmm]; split <;> omega
    have ce : Tryz.prog.cellsOf 26 = 6 := by kernel_rfl
    have cu : Tryz.prog.cellsOf 5 = 1 := by kernel_rfl
    have ci : Tryz.prog.cellsOf 3 = 1 := by kernel_rfl
    have cb : Tryz.prog.cellsOf 4 = 1 := by kernel_rfl
    obtain ⟨b, off, sp⟩ := a
    have hspot : 0 < len → sp = none := fun h0 => by
      obtain ⟨cs', h1, _⟩ := hx 0 (by omega)
      rw [ce] at h1
      obtain ⟨_, hlen, hcell⟩ := World.cells?_some h1
      have h9 := hcell 0 (by omega)
      match cs', hlen with
      | [v0, v1, v2, v3, v4, v5], _ => simpa [Addr.add] using World.cell?_spot h9
    have each : ∀ i, i < len → ∃ x : Fl, sp = none ∧ (W.cell? ⟨b, off + i * 6, none⟩ = some (.int .u8 x.kind) ∧ W.cell? ⟨b, off + i * 6 + 1, none⟩ = some (.int .i64 x.day) ∧ W.cell? ⟨b, off + i * 6 + 2, none⟩ = some (.int .i64 x.case) ∧ W.cell? ⟨b, off + i * 6 + 3, none⟩ = some (.int .i64 x.n) ∧ W.cell? ⟨b, off + i * 6 + 4, none⟩ = some (.int .i64 x.til) ∧ W.cell? ⟨b, off + i * 6 + 5, none⟩ = some (.bool x.hold)) ∧ x.Bd := by
      intro i hi
      obtain ⟨cs', h1, h2⟩ := hx i (by omega)
      rw [ce] at h1
      obtain ⟨_, hlen, hcell⟩ := World.cells?_some h1
      obtain ⟨xs, n', _, _, _, hxl, hfs⟩ := DataW.trod_struct Tryz.underlying26 h2
      match xs, hxl, cs', hlen with
      | [y0, y1, y2, y3, y4, y5], _, [v0, v1, v2, v3, v4, v5], _ =>
        have g0 : DataW.trod enc Tryz.prog W 0 (fun _ => true) true n' 5 (([v0, v1, v2, v3, v4, v5].drop 0).take (Tryz.prog.cellsOf 5)) = some y0 := hfs 0 _ rfl
        have g1 : DataW.trod enc Tryz.prog W 0 (fun _ => true) true n' 3 (([v0, v1, v2, v3, v4, v5].drop 1).take (Tryz.prog.cellsOf 3)) = some y1 := hfs 1 _ rfl
        have g2 : DataW.trod enc Tryz.prog W 0 (fun _ => true) true n' 3 (([v0, v1, v2, v3, v4, v5].drop 2).take (Tryz.prog.cellsOf 3)) = some y2 := hfs 2 _ rfl
        have g3 : DataW.trod enc Tryz.prog W 0 (fun _ => true) true n' 3 (([v0, v1, v2, v3, v4, v5].drop 3).take (Tryz.prog.cellsOf 3)) = some y3 := hfs 3 _ rfl
        have g4 : DataW.trod enc Tryz.prog W 0 (fun _ => true) true n' 3 (([v0, v1, v2, v3, v4, v5].drop 4).take (Tryz.prog.cellsOf 3)) = some y4 := hfs 4 _ rfl
        have g5 : DataW.trod enc Tryz.prog W 0 (fun _ => true) true n' 4 (([v0, v1, v2, v3, v4, v5].drop 5).take (Tryz.prog.cellsOf 4)) = some y5 := hfs 5 _ rfl
        rw [cu] at g0
        obtain ⟨n0, e0, _, w0⟩ := DataW.trod_int Tryz.underlying5 g0
        have b0 := bounds_u8 w0
        rw [ci] at g1
        obtain ⟨n1, e1, _, w1⟩ := DataW.trod_int Tryz.underlying3 g1
        have b1 := bounds_i64 w1
        rw [ci] at g2
        obtain ⟨n2, e2, _, w2⟩ := DataW.trod_int Tryz.underlying3 g2
        have b2 := bounds_i64 w2
        rw [ci] at g3
        obtain ⟨n3, e3, _, w3⟩ := DataW.trod_int Tryz.underlying3 g3
        have b3 := bounds_i64 w3
        rw [ci] at g4
        obtain ⟨n4, e4, _, w4⟩ := DataW.trod_int Tryz.underlying3 g4
        have b4 := bounds_i64 w4
        rw [cb] at g5
        obtain ⟨n5, e5, _⟩ := DataW.trod_bool Tryz.underlying4 g5
        have c0 := hcell 0 (by omega)
        have c1 := hcell 1 (by omega)
        have c2 := hcell 2 (by omega)
        have c3 := hcell 3 (by omega)
        have c4 := hcell 4 (by omega)
        have c5 := hcell 5 (by omega)
        simp at e0 e1 e2 e3 e4 e5 c0 c1 c2 c3 c4 c5
        subst e0 e1 e2 e3 e4 e5
        have hsp := hspot (by omega)
        subst hsp
        simp only [add_plain, Nat.add_zero] at c0 c1 c2 c3 c4 c5
        exact ⟨⟨n0, n1, n2, n3, n4, n5⟩, rfl, ⟨c0, c1, c2, c3, c4, c5⟩, ⟨by dsimp only; omega, by dsimp only; omega, by dsimp only; omega, by dsimp only; omega, by dsimp only; omega⟩⟩
    haveI : Inhabited Fl := ⟨⟨0, 0, 0, 0, 0, false⟩⟩
    obtain ⟨q, hq⟩ := choose_lt each
    refine ⟨some ⟨b, off, sp⟩, (List.range len).map q, cap, by simp, ?_, fun x hx => ?_, by simp; omega⟩
    · rcases Nat.eq_zero_or_pos len with h0 | h0
      · left; subst h0; rfl
      · have hsp := hspot h0
        subst hsp
        refine .inr ⟨b, off, rfl, fun i hi => ?_⟩
        simp at hi
        obtain ⟨_, h1, _⟩ := hq i hi
        simp only [List.getElem_map, List.getElem_range]
        exact h1
    · obtain ⟨i, hi, rfl⟩ := List.mem_map.1 hx
      exact (hq i (List.mem_range.1 hi)).2.2

end

end Go.Proofs.YtbpoedopdnjffaaGreat
