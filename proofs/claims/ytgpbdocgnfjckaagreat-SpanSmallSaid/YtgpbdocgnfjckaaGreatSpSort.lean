/- slices.SortFunc at spans, by their first days. -/
import Derived.Test.YtgpbdocgnfjckaaGreatSpW9
import Derived.Test.YtgpbdocgnfjckaaGreatSpPlain6
import Derived.Test.YtgpbdocgnfjckaaGreatSpLay
namespace Go.Proofs.YtgpbdocgnfjckaaGreat
open Go.RowKit Go.Shelf Sp Go.Lib Go.Sort

theorem Owns.below {W W2 : World} {base : Nat} {v : Value} {l : Sps} (h : Owns W base v l) (hb : RowKit.Below W.heap.size W W2) : Owns W2 base v l := by
  obtain ⟨hl, hv⟩ := h
  rcases hv with ⟨rfl, h0⟩ | ⟨g, cap, cur, rfl, hbs, hg, rest⟩
  · exact ⟨hl, .inl ⟨rfl, h0⟩⟩
  · exact ⟨hl, .inr ⟨g, cap, cur, rfl, hbs, (hb.block g (Array.getElem?_eq_some_iff.1 hg).1).trans hg, rest⟩⟩

def encSp (x : Int × Int) : List Value := [.int .i64 x.1, .int .i64 x.2]

theorem ltFrom (x y : Int × Int) : ltOf (fun x y : Int × Int => Lib.compareInt x.1 y.1) x y = decide (x.1 < y.1) := by
  unfold ltOf Lib.compareInt
  by_cases h1 : x.1 < y.1
  · simp [h1]
  · by_cases h2 : y.1 < x.1 <;> simp [h1, h2]

theorem swoFrom : SWO (ltOf fun x y : Int × Int => Lib.compareInt x.1 y.1) where
  irrefl x := by rw [ltFrom]; simp
  trans x y z h1 h2 := by rw [ltFrom] at *; simp at *; omega
  ntrans x y z h1 h2 := by rw [ltFrom] at *; simp at *; omega

set_option maxHeartbeats 1000000 in
theorem make1_any (x y : Int × Int) (W : World) : Calls Tryz.prog 49 #[.agg #[.int .i64 x.1, .int .i64 x.2], .agg #[.int .i64 y.1, .int .i64 y.2]] W fun e w' => e = .returned (.int .i64 (Lib.compareInt x.1 y.1)) ∧ ∃ q os', w' = grow (W.drewN q) os' := by
  have hcon := fun W' => AnyG.cmp_Compare_int cmpI x.1 y.1 W'
  change ∀ W', Calls Tryz.prog 50 _ _ _ at hcon
  generalize Lib.compareInt x.1 y.1 = r at hcon ⊢
  go_enter Tryz.func49, Tryz.ntmps49
  go_wp2_with (go_at_call 50; refine (hcon _).mono ?_; rintro e w' ⟨rfl, rfl⟩)
  go_ret
  exact ⟨rfl, 0, _, by rw [alloc_eq_grow, alloc_eq_grow, grow_grow]; rfl⟩

theorem grownBy_sortedK {w : World} {g n : Nat} {os : Array Obj} (d : Array (Int × Int)) : w.grownBy (sortWorldK encSp 2 w g 0 n d os) (some g) := by
  unfold sortWorldK putRowK
  refine ⟨rfl, rfl, rfl, by simp, fun k hk hne => ?_⟩
  rw [heap_grow_old _ _ (by simpa using hk)]
  have : g ≠ k := fun e => hne (by rw [e])
  simp [putRow, mapBlock, Sort.ahead, Array.getElem?_modify, this]

theorem holds_of_owns {W : World} {base g cap : Nat} {l : Sps} (h : Owns W base (.slice (some ⟨g, 0, none⟩) l.length cap) l) : HoldsK encSp 2 W g 0 l.toArray ∧ base ≤ g ∧ g < W.heap.size := by
  obtain ⟨_, hv⟩ := h
  rcases hv with ⟨hv, _⟩ | ⟨g', cap', cur, hv, hbs, hg, hc, hm, hs, ht⟩
  · cases hv
  · cases hv
    refine ⟨fun j hj => ?_, hbs, (Array.getElem?_eq_some_iff.1 hg).1⟩
    rw [size_flatK] at hj
    simp only [List.size_toArray] at hj
    have hf := flat_get l (j / 2) (by omega)
    rw [← ht] at hf
    have e1 : (cur.toList.take (l.length * 2))[j / 2 * 2]? = cur[j / 2 * 2]? := by
      rw [List.getElem?_take, if_pos (by omega), Array.getElem?_toList]
    have e2 : (cur.toList.take (l.length * 2))[j / 2 * 2 + 1]? = cur[j / 2 * 2 + 1]? := by
      rw [List.getElem?_take, if_pos (by omega), Array.getElem?_toList]
    rw [e1, e2] at hf
    rw [get_flatK _ _ _ _ (by simpa using hj)]
    have hx : l.toArray[j / 2]! = l[j / 2]'(by omega) := by
      rw [getElem!_pos l.toArray (j / 2) (by simp; omega)]; simp
    rw [hx]
    refine ⟨?_, by simp [World.frozen?, hg]⟩
    rcases Nat.mod_two_eq_zero_or_one j with e | e
    · have ej : j / 2 * 2 = j := by omega
      have h1 := hf.1
      rw [ej] at h1
      rw [e]
      simp [World.cell?, hg, h1, encSp]
    · have ej : j / 2 * 2 + 1 = j := by omega
      have h1 := hf.2
      rw [ej] at h1
      rw [e]
      simp [World.cell?, hg, h1, encSp]

theorem cells_of_holds {W : World} {g : Nat} {d : Array (Int × Int)} (h : HoldsK encSp 2 W g 0 d) : Cells W (some ⟨g, 0, none⟩) d.toList := by
  refine .inr ⟨g, 0, rfl, fun i hi => ?_⟩
  have hi' : i < d.size := by simpa using hi
  have h0 := (h.cell (i := i) (c := 0) hi' (by omega)).1
  have h1 := (h.cell (i := i) (c := 1) hi' (by omega)).1
  rw [getElem!_pos d i hi'] at h0 h1
  simp only [Array.getElem_toList]
  exact ⟨by simpa [encSp] using h0, by simpa [encSp] using h1⟩

theorem sort_any (sp : Sps) (c : Value) (base : Nat) (W : World) (ho : Owns W base c sp) (hl : sp.length ≤ 10000) (hz : base ≤ W.heap.size) :
    Calls Tryz.prog 48 #[c, .func (.func 49) #[] #[]] W fun e W' => e = .returned (.tuple #[]) ∧ ∃ m, m.length = sp.length ∧ m.Perm sp ∧ Srt m ∧ (∃ p cap, c = .slice p m.length cap ∧ Cells W' p m) ∧ RowKit.Below base W W' := by
  obtain ⟨p, cap, rfl, _⟩ := ho.form
  by_cases h0 : sp = []
  · subst h0
    have hn := AnyF.slices_SortFunc_none sortSp p cap (.func (.func 49) #[] #[]) W
    change Calls Tryz.prog 48 _ _ _ at hn
    refine hn.mono ?_
    rintro e w' ⟨rfl, rfl⟩
    exact ⟨rfl, [], rfl, List.Perm.refl _, fun i j h => absurd h (by simp), ⟨p, cap, rfl, Cells.nil _ _⟩, RowKit.Below.refl _ _⟩
  · have hform : ∃ g, p = some ⟨g, 0, none⟩ := by
      rcases ho.2 with ⟨hv, h1⟩ | ⟨g, cap', cur, hv, _⟩
      · exact absurd (List.eq_nil_of_length_eq_zero h1) h0
      · cases hv; exact ⟨g, rfl⟩
    obtain ⟨g, rfl⟩ := hform
    obtain ⟨hH, hbs, hlt⟩ := holds_of_owns ho
    have eg : ∀ args w, (callFunc 49 args).run Tryz.prog w = .ok (.enter 49 args) w := enters_of Tryz.func49 (by kernel_rfl) rfl
    have hcon := AnyQ.slices_SortFunc sortSp 2 Tryz.isAgg30 Tryz.sizeOf30 encSp (fun _ => rfl) (fun x v hv => by simp [encSp] at hv; rcases hv with rfl | rfl <;> rfl) (fun x y => Lib.compareInt x.1 y.1) swoFrom 49 #[] g 0 cap sp.toArray W eg (fun _ _ _ _ x y => make1_any x y _) hH hlt (by simp; omega)
    change Calls Tryz.prog 48 _ _ _ at hcon
    simp only [List.size_toArray] at hcon
    refine hcon.mono ?_
    rintro e w' ⟨rfl, d', n, os, ⟨hds, _, hperm⟩, hsort, rfl⟩
    have hds' : d'.size = sp.length := by simpa using hds
    have hp : d'.toList.Perm sp := by
      have h1 : (d'.extract 0 sp.length).toList = d'.toList := by simp [← hds']
      have h2 : (sp.toArray.extract 0 sp.length).toList = sp := by simp
      rw [h1, h2] at hperm
      exact hperm
    have hlen : d'.toList.length = sp.length := by simpa using hds'
    refine ⟨rfl, d'.toList, hlen, hp, fun i j hj hij => ?_, ⟨_, cap, by rw [hlen], cells_of_holds (holdsK_sortWorldK_c encSp 2 W g 0 sp.toArray d' n os hH hlt (by simpa using hds))⟩, (RowKit.Below.refl base W).grown (grownBy_sortedK d') hz fun k hk => by cases hk; exact hbs⟩
    have hj' : j < d'.size := by simpa using hj
    have := hsort i j (Nat.zero_le _) hij (by omega)
    rw [ltFrom, getElem!_pos d' i (by omega), getElem!_pos d' j hj'] at this
    simp at this
    simpa using this

end Go.Proofs.YtgpbdocgnfjckaaGreat
