/- Union, Meet, Minus; Before, Days, Nth. -/
import Derived.Test.YtbpoedopdnjffaaSpW4
import Derived.Test.YtbpoedopdnjffaaSpPlain3
namespace Go.Proofs.Ytbpoedopdnjffaa
open Go.RowKit Go.Shelf Sp

theorem ret_two {a b c d : Value} (h : a = c) (k : b = d) : Ending.returned (.tuple #[a, b]) = .returned (.tuple #[c, d]) := by rw [h, k]

theorem Cells.at {w : World} {p : Option Addr} {l : Sps} (h : Cells w p l) (k : Nat) (hk : k < l.length) :
    ∃ b off, p = some ⟨b, off, none⟩ ∧ b < w.heap.size ∧ ∃ x y, l[k] = (x, y) ∧ w.cell? ⟨b, off + k * 2, none⟩ = some (.int .i64 x) ∧ w.cell? ⟨b, off + k * 2 + 1, none⟩ = some (.int .i64 y) := by
  rcases h with rfl | ⟨b, off, rfl, hc⟩
  · simp at hk
  · have h1 := hc k hk
    exact ⟨b, off, rfl, World.block_lt_of_cell? w _ h1.1, _, _, rfl, h1.1, h1.2⟩

set_option maxHeartbeats 1000000 in
theorem union_ok (a b : Sps) (pa pb : Option Addr) (ca cb : Nat) (la : a.length ≤ 10000) (lb : b.length ≤ 10000) (va : validB a = true) (vb : validB b = true) (w : World) (hA : Cells w pa a) (hB : Cells w pb b) :
    Calls Try.prog 20 #[.slice pa a.length ca, .slice pb b.length cb] w fun e W' => ∃ v l, e = .returned (.tuple #[v, .int .i64 0]) ∧ IsSet (fun d => mem a d || mem b d) l ∧ l.length ≤ 2 * (a.length + b.length) ∧ Owns W' w.heap.size v l ∧ Below w.heap.size w W' := by
  have C := Lib.hid (choose_ok 36 _ keeps_union (enters_of Try.func36 (by kernel_rfl) rfl) rfl a b pa pb ca cb la lb va vb w hA hB)
  clear va vb hA hB
  go_enter Try.func20, Try.ntmps20
  go_wp2_with (first | (go_at_call 35; refine C.out.mono ?_; rintro e w1 ⟨v, l, rfl, hs, hl, ho, hb⟩))
  go_ret2
  exact ⟨v, l, rfl, hs, hl, ho, hb⟩

section
variable (a b : Sps) (pa pb : Option Addr) (ca cb : Nat) (la : a.length ≤ 10000) (lb : b.length ≤ 10000) (hv : (validB a && validB b) = false) (w : World) (hA : Cells w pa a) (hB : Cells w pb b)
include la lb hv hA hB
set_option maxHeartbeats 1000000 in
theorem union_bad : Calls Try.prog 20 #[.slice pa a.length ca, .slice pb b.length cb] w fun e W' => e = .returned (.tuple #[.slice none 0 0, .int .i64 2]) ∧ Below w.heap.size w W' := by
  have C := Lib.hid (choose_bad _ a b pa pb ca cb la lb hv w 36 rfl hA hB)
  clear hv hA hB
  go_enter Try.func20, Try.ntmps20
  go_wp2_with (first | (go_at_call 35; refine C.out.mono ?_; rintro e w1 ⟨rfl, hb⟩))
  go_ret2
  exact ⟨rfl, hb⟩
end

/-- What Before answers. -/
def befv (l : Sps) (d : Int) : Int := if validB l = true then bef l d else 0

end Go.Proofs.Ytbpoedopdnjffaa
