/- The walks of the reference's digits and Text. -/
import Derived.Test.YtncnmokaamjlbaaDoorCalR2
import Derived.Test.YtncnmokaamjlbaaDoorCalW5
namespace Go.Proofs.YtncnmokaamjlbaaDoor
open Go.RowKit

theorem one_byte (W : World) (x : Int) (T : TypeId) (B : Nat) (hB : B = W.heap.size) : (convert 39 9 (.slice (some ⟨B, 0, none⟩) 1 1)).run Tryd.prog (W.alloc (.cells #[.int .u8 x] T)) = .ok (.string (strOfNums [x])) (W.alloc (.cells #[.int .u8 x] T)) := by
  subst hB
  exact run_convert_bytes_arg _ 39 5 Tryd.underlying39 Tryd.underlying5 _ 0 1 1 [x] rfl (by
    intro i hi
    obtain rfl : i = 0 := by omega
    simp [go_sem]) 9 Tryd.underlying9

/-- The last k digits of n, as bytes. -/
def dl (n : Int) : Nat → List Int
  | 0 => []
  | k + 1 => (48 + n / 10 ^ k % 10) :: dl n k

theorem dl_length (n : Int) (k : Nat) : (dl n k).length = k := by
  induction k with
  | zero => rfl
  | succ k ih => simp [dl, ih]

theorem strOfNums_append (a b : List Int) : strOfNums a ++ strOfNums b = strOfNums (a ++ b) := by
  apply ByteArray.ext
  simp [strOfNums]

theorem strOfNums_nil : strOfNums [] = ⟨#[]⟩ := rfl

set_option maxHeartbeats 1000000 in
theorem digits_any (n m : Int) (w : World) (h0 : 0 ≤ n) (h1 : n ≤ 9999) (hm0 : 0 ≤ m) (hm1 : m ≤ 4) :
    Calls Tryd.prog 51 #[.int .i64 n, .int .i64 m] w fun e w' =>
      e = .returned (.string (strOfNums (dl n m.toNat))) ∧ Below w.heap.size w w' := by
  obtain ⟨m, rfl⟩ := Int.eq_ofNat_of_zero_le hm0
  rw [Int.toNat_natCast]
  go_enter Tryd.func51, Tryd.ntmps51
  go_wp2
  go_loopw [0, 5, 6] (fun c s i wr => ∃ (k : Nat) (z : Int), k ≤ m ∧ 0 ≤ z ∧ z ≤ 9999 ∧ Hid (z = n / 10 ^ k) ∧ c = .int .i64 z ∧ s = .string (strOfNums (dl n k)) ∧ i = .int .i64 k ∧ Below w.heap.size w wr) (fun _ _ i _ => 10 - (intOf i).toNat)
  case atStart => exact ⟨0, n, by omega, h0, h1, by unfold Hid; simp, rfl, rfl, rfl, Below.refl _ _⟩
  case round =>
    obtain ⟨k, z, hk, hz0, hz1, hz, rfl, rfl, rfl, hb⟩ := hrel
    by_cases hlt : k < m
    · have kc := one_byte
      have hl : (strOfNums (dl n k)).size ≤ 4 := by rw [strOfNums_size, dl_length]; omega
      have hl1 : (strOfNums [48 + z % 10]).size ≤ 1 := by rw [strOfNums_size]; simp
      have hz' := Lib.hid (show z / 10 = n / 10 ^ (k + 1) by rw [hz.out, Int.pow_succ, Int.ediv_ediv_of_nonneg (Int.pow_nonneg (by decide))])
      go_wp2
      go_roundw
      case rel => exact ⟨k + 1, z / 10, by omega, by omega, by omega, hz', rfl, by rw [strOfNums_append, hz.out]; rfl, by go_num, hb.alloc hb.size _⟩
      case measure => simp [intOf]; omega
    · obtain rfl : k = m := by omega
      go_wp2
      go_ret
      exact ⟨rfl, hb⟩

theorem ret_str {a b : ByteArray} (h : a = b) : Ending.returned (.string a) = .returned (.string b) := by rw [h]

theorem txt_eq (y m d : Int) : txt y m d = strOfNums (dl y 4 ++ [45] ++ dl m 2 ++ [45] ++ dl d 2) := by
  unfold txt
  simp only [dl, List.cons_append, List.nil_append]
  rw [show y / 10 / 10 / 10 = y / 10 ^ 3 by omega, show y / 10 / 10 = y / 10 ^ 2 by omega, show y / 10 = y / 10 ^ 1 by omega, show y / (10 : Int) ^ 0 = y by omega, show m / 10 = m / 10 ^ 1 by omega, show m / (10 : Int) ^ 0 = m by omega, show d / 10 = d / 10 ^ 1 by omega, show d / (10 : Int) ^ 0 = d by omega]

set_option maxHeartbeats 1000000 in
theorem rtext_any (d : Int) (w : World) :
    Calls Tryd.prog 41 #[.int .i64 d] w fun e w' => e = .returned (.string (textv d)) ∧ Below w.heap.size w w' := by
  by_cases hd : Cal.IsD d
  · have hb := Cal.yv_bd d hd
    have he := Lib.hid (show Cal.ev d = 0 by unfold Cal.ev; rw [if_pos hd])
    have hn := Lib.hid (show textv d = strOfNums (dl (Cal.yv d) 4 ++ [45] ++ dl (Cal.mv d) 2 ++ [45] ++ dl (Cal.dv d) 2) by unfold textv; rw [if_pos hd, txt_eq])
    have hc : (⟨#[45]⟩ : ByteArray) = strOfNums [45] := rfl
    have l1 : (strOfNums (dl (Cal.yv d) 4)).size ≤ 4 := by rw [strOfNums_size, dl_length]; omega
    have l2 : (strOfNums (dl (Cal.mv d) 2)).size ≤ 2 := by rw [strOfNums_size, dl_length]; omega
    have l3 : (strOfNums (dl (Cal.dv d) 2)).size ≤ 2 := by rw [strOfNums_size, dl_length]; omega
    have HC := Lib.hid hc
    clear hd hc
    go_enter Tryd.func41, Tryd.ntmps41
    go_wp2_with fail
    refine (rymd_any d _).mono ?_
    rintro e w' ⟨rfl, rfl⟩
    rw [he.out]
    go_wp2_with fail
    refine (digits_any _ _ _ (by omega) (by omega) (by omega) (by omega)).mono ?_
    rintro e w1 ⟨rfl, hb1⟩
    rw [show (4 : Int).toNat = 4 from rfl]
    go_wp2_with fail
    refine (digits_any _ _ _ (by omega) (by omega) (by omega) (by omega)).mono ?_
    rintro e w2 ⟨rfl, hb2⟩
    rw [show (2 : Int).toNat = 2 from rfl]
    go_wp2_with fail
    refine (digits_any _ _ _ (by omega) (by omega) (by omega) (by omega)).mono ?_
    rintro e w3 ⟨rfl, hb3⟩
    rw [show (2 : Int).toNat = 2 from rfl]
    go_wp2
    go_ret
    exact ⟨ret_str (by rw [hn.out, HC.out, strOfNums_append, strOfNums_append, strOfNums_append, strOfNums_append]), below_next (below_next hb1 hb2) hb3⟩
  · have he := Lib.hid (show Cal.ev d = 2 by unfold Cal.ev; rw [if_neg hd])
    have hn := Lib.hid (show textv d = ⟨#[]⟩ by unfold textv; rw [if_neg hd])
    clear hd
    go_enter Tryd.func41, Tryd.ntmps41
    go_wp2_with fail
    refine (rymd_any d _).mono ?_
    rintro e w' ⟨rfl, rfl⟩
    rw [he.out]
    go_wp2
    go_ret
    exact ⟨by rw [hn.out]; rfl, Below.refl _ _⟩

end Go.Proofs.YtncnmokaamjlbaaDoor
