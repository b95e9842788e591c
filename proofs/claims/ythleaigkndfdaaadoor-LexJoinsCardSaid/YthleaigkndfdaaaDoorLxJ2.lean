/- For LexJoins: an argument that is a slice of tokens, opened; the arguments read afterwards as they read before. -/
import Derived.Test.YthleaigkndfdaaaDoorLxJ1
import Derived.Test.YthleaigkndfdaaaDoorRows
import Derived.ProofKit
import Derived.ReadAgain
import Derived.WideKeyArgs
import Derived.ChangeSlices
import Derived.SizedLaws
import Derived.Deep.SlicePairs
import Derived.Deep.Strs
namespace Go.Proofs.YthleaigkndfdaaaDoor
open Go.ChangeShapes Go.WideShapes Go.ChangeAt Go.RowKit Go.Deep

theorem laidOut : laidOutB Tryd.prog = true := by kernel_rfl

theorem trodAll_stays {H : Type} {enc : TypeId × Value → H} {W W' : World} {sp' : Nat → Bool} : ∀ {ts : List TypeId} {vs : List Value} {ds : List (DataW H)} {ps : List MemPlace}, (∀ t ∈ ts, Tryd.prog.readableRec t = true ∧ t < Tryd.prog.types.size) →
    DataW.TrodAll enc Tryd.prog W 0 (fun _ => true) true ts vs ds ps → (∀ p ∈ ps, W.sameAt W' p) → (∀ p ∈ ps, sp' p.block = true) → DataW.TrodAll enc Tryd.prog W' 0 sp' true ts vs ds ps
  | [], [], [], _, _, h, _, _ => h
  | t :: _, _ :: _, _ :: _, _, hT, ⟨p, q, h1, h2, e⟩, hs, hp =>
    ⟨p, q, WideElems.Trod_stays laidOut (hT t (List.mem_cons.2 (.inl rfl))).1 (hT t (List.mem_cons.2 (.inl rfl))).2 h1 (fun x hx => hs x (by rw [e]; exact List.mem_append_left _ hx)) (fun x hx => hp x (by rw [e]; exact List.mem_append_left _ hx)),
      trodAll_stays (fun t ht => hT t (List.mem_cons.2 (.inr ht))) h2 (fun x hx => hs x (by rw [e]; exact List.mem_append_right _ hx)) (fun x hx => hp x (by rw [e]; exact List.mem_append_right _ hx)), e⟩

section
variable {H : Type} {enc : TypeId × Value → H}

theorem law_post {f : Func} {s : ChangeSpec} {apart fresh handsOn again : Bool} {W W' : World} {args : Array Value} {ds gs : List (DataW H)} {before : List MemPlace} {p : List MemPlace}
    (hW : DataW.Whole enc Tryd.prog f.params.toList s.vars apart W args.toList ds gs before) (hA : DataW.TrodAll enc Tryd.prog W 0 (fun _ => true) true f.params.toList args.toList ds p) (hp : before = p)
    (hT : ∀ t ∈ f.params.toList, Tryd.prog.readableRec t = true ∧ t < Tryd.prog.types.size) (hr : f.resultTypes = #[4]) (hv : s.vars = [])
    (h1 : (s.fn H (ds ++ gs)).results = [.lit (.bool true)]) (h2 : (s.fn H (ds ++ gs)).args = ds) (h3 : (s.fn H (ds ++ gs)).vars = [])
    (hb : Below W.heap.size W W') : s.post enc Tryd.prog f apart fresh handsOn again W args (.bool true) W' := by
  have hlt : ∀ p ∈ before, p.block < W.heap.size := fun p hp => hW.lt p hp
  have hold : ∀ p ∈ before, (fun b => decide (b < W.heap.size)) p.block = true := fun p hp => by simpa using hlt p hp
  have hres : ∀ (b : Nat) (sp : Nat → Bool) (hd : Bool), DataW.TrodAll enc Tryd.prog W' b sp hd f.resultTypes.toList ((Value.bool true).resultList f.resultTypes.size) (s.fn H (ds ++ gs)).results [] := fun b sp hd => by
    rw [h1, hr]; exact trodAll_mk1 (shut_bool Tryd.underlying4 _)
  have hargs : ∀ sp : Nat → Bool, (∀ p ∈ before, sp p.block = true) → DataW.TrodAll enc Tryd.prog W' 0 sp true f.params.toList args.toList (s.fn H (ds ++ gs)).args p := fun sp hsp => by
    rw [h2]; exact trodAll_stays hT hA (fun x hx => hb.same (hlt x (by rw [hp]; exact hx))) (fun x hx => hsp x (by rw [hp]; exact hx))
  have hvars : ∀ sp : Nat → Bool, DataW.TrodVars enc Tryd.prog W' sp s.vars (s.fn H (ds ++ gs)).vars [] := fun sp => by
    rw [h3, hv]; rfl
  refine ⟨ds, gs, before, [], p, [], hW, hres _ _ _, hargs _ hold, hvars _, World.keptBut_mono (fun q hq => ⟨hq, ?_⟩) (hb.frame (· ∈ before)), fun _ => ?_⟩
  · rw [hp] at hq
    exact .inr (.inl hq)
  · obtain ⟨_, _, _, _, _, hz, hn⟩ := hW
    refine ⟨fun j t r ht hr' => ?_, _, _, ([] ++ p) ++ [], ⟨[] ++ p, [], trodAll_append (hargs _ (fun _ _ => rfl)) (hres _ _ _), hvars _, rfl, ?_, ?_⟩, ?_⟩
    · rw [hr] at ht hr'
      cases j with
      | zero =>
        simp at ht
        subst ht
        have : r = .bool true := by simpa [Value.resultList] using hr'.symm
        subst this
        exact okWide_bool_mk Tryd.underlying4 _
      | succ j => simp at ht
    · intro b off hq
      have hin : MemPlace.cell b off ∈ before := by rw [hp]; simpa using hq
      rw [hb.frozen (hlt _ hin)]
      exact hz b off hin
    · intro ha
      have := hn ha
      rw [hp] at this
      simpa using this
    · intro q hq _
      rw [hp]
      simpa using hq

theorem toks_of {W : World} {v : Value} {d : DataW H} {ps : List MemPlace} {base : Nat} (hok : Value.okWide Tryd.prog W .any base 22 v) (h : DataW.Trod enc Tryd.prog W 0 (fun _ => true) true 22 v d ps) :
    ∃ (p : Option Addr) (l : List Tok) (cap : Nat), v = .slice p l.length cap ∧ TCells W p l ∧ (∀ x ∈ l, x.2.1.size ≤ maxLen) ∧ l.length ≤ maxLen := by
  obtain ⟨a0, len, cap, rfl⟩ := okWide_slice Tryd.underlying22 hok
  obtain ⟨fuel, hf⟩ := h
  rcases open_slice Tryd.underlying22 hf with ⟨hcs, _⟩ | ⟨a, len', cap', m, n, D, Pl, hcs, _, hl, hmx, hmm, _, hx⟩
  · simp [Value.cells] at hcs
    obtain ⟨rfl, rfl, rfl⟩ := hcs
    exact ⟨none, [], 0, rfl, fun i hi => by simp at hi, fun x hx => by simp at hx, by simp [maxLen]⟩
  · simp [Value.cells] at hcs
    obtain ⟨rfl, rfl, rfl⟩ := hcs
    have hlm : len ≤ m := by rw [hmm]; split <;> omega
    have ce : Tryd.prog.cellsOf 27 = 4 := by kernel_rfl
    have cb : Tryd.prog.cellsOf 5 = 1 := by kernel_rfl
    have cS : Tryd.prog.cellsOf 9 = 1 := by kernel_rfl
    have cp : Tryd.prog.cellsOf 25 = 2 := by kernel_rfl
    have ci : Tryd.prog.cellsOf 3 = 1 := by kernel_rfl
    obtain ⟨b, off, sp⟩ := a
    have hspot : 0 < len → sp = none := fun h0 => by
      obtain ⟨cs', h1, _⟩ := hx 0 (by omega)
      rw [ce] at h1
      obtain ⟨_, hlen, hcell⟩ := World.cells?_some h1
      have h9 := hcell 0 (by omega)
      match cs', hlen with
      | [v0, v1, v2, v3], _ => simpa [Addr.add] using World.cell?_spot h9
    have each : ∀ i, i < len → ∃ x : Tok, sp = none ∧ W.cell? ⟨b, off + i * 4, none⟩ = some (.int .u8 (x.1 : Int)) ∧ W.cell? ⟨b, off + i * 4 + 1, none⟩ = some (.string x.2.1) ∧
        W.cell? ⟨b, off + i * 4 + 2, none⟩ = some (.int .i64 x.2.2.1) ∧ W.cell? ⟨b, off + i * 4 + 3, none⟩ = some (.int .i64 x.2.2.2) ∧ x.2.1.size ≤ maxLen := by
      intro i hi
      obtain ⟨cs', h1, h2⟩ := hx i (by omega)
      rw [ce] at h1
      obtain ⟨_, hlen, hcell⟩ := World.cells?_some h1
      obtain ⟨y0, y1, y2, k, _, _, g0, g1, g2⟩ := trod_struct3 Tryd.underlying27 h2
      match cs', hlen with
      | [v0, v1, v2, v3], _ =>
        dsimp only at g0 g1 g2
        rw [cb] at g0
        rw [cS] at g1
        rw [cp] at g2
        obtain ⟨z0, z1, k', _, _, q0, q1⟩ := trod_struct2 Tryd.underlying25 g2
        dsimp only at q0 q1
        rw [ci] at q0 q1
        obtain ⟨n0, e0, _, w0⟩ := DataW.trod_int Tryd.underlying5 g0
        obtain ⟨s1, e1, _, w1⟩ := DataW.trod_string Tryd.underlying9 g1
        obtain ⟨n2, e2, _, _⟩ := DataW.trod_int Tryd.underlying3 q0
        obtain ⟨n3, e3, _, _⟩ := DataW.trod_int Tryd.underlying3 q1
        have hb0 := bounds_u8 w0
        have c0 := hcell 0 (by omega)
        have c1 := hcell 1 (by omega)
        have c2 := hcell 2 (by omega)
        have c3 := hcell 3 (by omega)
        simp at e0 e1 e2 e3 c0 c1 c2 c3
        subst e0 e1 e2 e3
        have hsp := hspot (by omega)
        subst hsp
        simp only [add_plain, Nat.add_zero] at c0 c1 c2 c3
        exact ⟨(n0.toNat, s1, n2, n3), rfl, by rw [c0, Int.toNat_of_nonneg hb0.1], c1, c2, c3, w1⟩
    obtain ⟨q, hq⟩ := choose_lt each
    refine ⟨some ⟨b, off, sp⟩, (List.range len).map q, cap, by simp, fun i hi => ?_, fun x hx => ?_, by simp; omega⟩
    · simp at hi
      obtain ⟨hsp, h0, h1, h2, h3, _⟩ := hq i hi
      refine ⟨b, off, by rw [hsp], ?_⟩
      simp only [List.getElem_map, List.getElem_range]
      exact ⟨h0, h1, h2, h3⟩
    · obtain ⟨i, hi, rfl⟩ := List.mem_map.1 hx
      obtain ⟨_, _, _, _, _, h⟩ := hq i (List.mem_range.1 hi)
      exact h

end

end Go.Proofs.YthleaigkndfdaaaDoor
