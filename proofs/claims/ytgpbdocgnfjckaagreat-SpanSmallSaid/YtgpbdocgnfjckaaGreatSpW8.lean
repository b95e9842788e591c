/- in, SameSpans, set. -/
import Derived.Test.YtgpbdocgnfjckaaGreatSpW7
namespace Go.Proofs.YtgpbdocgnfjckaaGreat
open Go.RowKit Go.Shelf Sp

theorem mem_take_snoc {l : Sps} {k : Nat} {x y : Int} (h : k < l.length) (hxy : l[k] = (x, y)) (d : Int) : mem (l.take (k + 1)) d = (mem (l.take k) d || (decide (x ≤ d) && decide (d < y))) := by
  rw [take_succ_snoc h, mem_append, hxy, mem_cons, mem_nil, Bool.or_false]

theorem mem_of_take {l : Sps} {k : Nat} {d : Int} (h : mem (l.take k) d = true) : mem l d = true := by
  rw [mem_iff] at h ⊢
  obtain ⟨s, hs, h'⟩ := h
  exact ⟨s, List.mem_of_mem_take hs, h'⟩

set_option maxHeartbeats 1000000 in
theorem set_any (p : Option Addr) (n cap : Nat) (w : World) :
    Calls Tryz.prog 9 #[.slice p n cap] w fun e w' => e = .returned (.slice p n cap) ∧ w' = w := by
  go_enter Tryz.func9, Tryz.ntmps9
  go_wp2
  go_ret
  exact ⟨rfl, rfl⟩

theorem take_eq_succ {a b : Sps} {k : Nat} (ha : k < a.length) (hb : k < b.length) (h : a.take k = b.take k) (he : a[k] = b[k]) : a.take (k + 1) = b.take (k + 1) := by
  rw [take_succ_snoc ha, take_succ_snoc hb, h, he]

set_option maxHeartbeats 1000000 in
theorem same_any (a b : Sps) (pa pb : Option Addr) (ca cb : Nat) (w : World) (la : a.length ≤ 100000) (hA : Cells w pa a) (hB : Cells w pb b) :
    Calls Tryz.prog 22 #[.slice pa a.length ca, .slice pb b.length cb] w fun e w' => e = .returned (.bool (decide (a = b))) ∧ Below w.heap.size w w' := by
  by_cases hab : a.length = b.length
  · have HA := Lib.hid hA
    have HB := Lib.hid hB
    clear hA hB
    have hne : ((a.length : Int) != (b.length : Int)) = false := by simp [hab]
    go_enter Tryz.func22, Tryz.ntmps22
    go_wp2_with fail
    go_loopw [5] (fun i wr => ∃ k : Nat, k ≤ a.length ∧ i = .int .i64 k ∧ Hid (a.take k = b.take k) ∧ ∃ m, wr = w.drewN m) (fun i _ => a.length - (intOf i).toNat)
    case atStart => exact ⟨0, by omega, rfl, Lib.hid (by simp), 0, rfl⟩
    case round =>
      obtain ⟨k, hk, rfl, hm, m, rfl⟩ := hrel
      by_cases hlt : k < a.length
      · obtain ⟨ba, oa, rfl, _, x, y, hxy, c1, c2⟩ := HA.out.at k hlt
        obtain ⟨bb, ob, rfl, _, x', y', hxy', c3, c4⟩ := HB.out.at k (by omega)
        have hlb : k < b.length := by omega
        by_cases he : x = x' ∧ y = y'
        · obtain ⟨rfl, rfl⟩ := he
          have hf := Lib.hid (take_eq_succ hlt hlb hm.out (hxy.trans hxy'.symm))
          clear hxy hxy' hab hne
          go_wp2_with fail
          go_quiet (fail)
          go_wp2
          go_roundw
          case rel => exact ⟨k + 1, by omega, by go_num, hf, m + nq, rfl⟩
          case measure => simp [intOf]; omega
        · have hf := Lib.hid (show decide (a = b) = false by simp; intro h; subst h; rw [hxy] at hxy'; cases hxy'; exact he ⟨rfl, rfl⟩)
          clear hxy hxy' hab hne
          by_cases hx : x = x'
          · subst hx
            have hy : ¬ y = y' := fun h => he ⟨rfl, h⟩
            have hy' : (y == y') = false := by simpa using hy
            clear he
            go_wp2_with fail
            go_quiet (fail)
            go_wp2
            go_ret
            exact ⟨ret_bool hf.out.symm, below_drewN (below_drewN (Below.refl _ _) _) _⟩
          · have hx' : (x == x') = false := by simpa using hx
            clear he
            go_wp2_with fail
            go_quiet (fail)
            go_wp2
            go_ret
            exact ⟨ret_bool hf.out.symm, below_drewN (below_drewN (Below.refl _ _) _) _⟩
      · obtain rfl : k = a.length := by omega
        have hf := Lib.hid (show decide (a = b) = true by have := hm.out; rw [List.take_length, hab, List.take_length] at this; simpa using this)
        go_wp2
        go_ret
        exact ⟨ret_bool hf.out.symm, below_drewN (Below.refl _ _) _⟩
  · have hf := Lib.hid (show decide (a = b) = false by simp; intro h; exact hab (by rw [h]))
    have hne : ((a.length : Int) == (b.length : Int)) = false := by simp; omega
    clear hA hB
    go_enter Tryz.func22, Tryz.ntmps22
    go_wp2
    go_ret
    exact ⟨ret_bool hf.out.symm, Below.refl _ _⟩

end Go.Proofs.YtgpbdocgnfjckaaGreat
