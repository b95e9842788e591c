/- The walk of digits. -/
import Derived.Test.YthleaigkndfdaaaDoorLxL2
import Derived.Test.YthleaigkndfdaaaDoorLxPlain4
namespace Go.Proofs.YthleaigkndfdaaaDoor
open Go.RowKit Go.Shelf

theorem one_byte_of (W : World) (x : Int) (T : TypeId) : (convert 49 9 (.slice (some ⟨W.heap.size, 0, none⟩) 1 1)).run Tryd.prog (W.alloc (.cells #[.int .u8 x] T)) = .ok (.string (strOfNums [x])) (W.alloc (.cells #[.int .u8 x] T)) :=
  run_convert_bytes_arg _ 49 5 Tryd.underlying49 Tryd.underlying5 _ 0 1 1 [x] rfl (by
    intro i hi
    obtain rfl : i = 0 := by omega
    simp [go_sem]) 9 Tryd.underlying9

theorem str_dgc (n : Nat) : strOfNums [48 + (n : Int) % 10] = bs [Lx.dgc n] := by
  rw [show 48 + (n : Int) % 10 = ((48 + n % 10 : Nat) : Int) by omega]
  have : n % 10 < 10 := Nat.mod_lt _ (by decide)
  unfold Lx.dgc
  generalize n % 10 = k at this ⊢
  rcases show k = 0 ∨ k = 1 ∨ k = 2 ∨ k = 3 ∨ k = 4 ∨ k = 5 ∨ k = 6 ∨ k = 7 ∨ k = 8 ∨ k = 9 by omega with rfl | rfl | rfl | rfl | rfl | rfl | rfl | rfl | rfl | rfl <;> rfl

set_option maxHeartbeats 2000000 in
set_option maxRecDepth 100000 in
theorem digits_any (a : Nat) (w : World) (ha : a ≤ 18446744073709551615) :
    Calls Tryd.prog 21 #[.int .u64 (a : Int)] w fun e w' => e = .returned (.string (bs (Lx.dgs a))) ∧ Below w.heap.size w w' := by
  have hlen := Lib.hid (Lx.dgs_len a ha)
  have kc := one_byte_of
  have m0 : (0 : Int) ≤ (a : Int) ∧ (a : Int) ≤ 18446744073709551615 := by omega
  have m1 : (0 : Int) ≤ (a : Int) % 10 ∧ (a : Int) % 10 < 10 := by omega
  have m3 : IntKind.u8.wrap (48 + (a : Int) % 10) = 48 + (a : Int) % 10 := IntWalk.u8_in _ (by omega)
  have m4 : IntKind.u64.wrap (48 + (a : Int) % 10) = 48 + (a : Int) % 10 := IntWalk.u64_in _ (by omega)
  have m5 : (0 : Int) ≤ 48 + (a : Int) % 10 ∧ 48 + (a : Int) % 10 ≤ 18446744073709551615 := by omega
  go_enter Tryd.func21, Tryd.ntmps21
  go_wp2
  go_loopw [0, 3] (fun i s wr => ∃ (n : Nat) (t : ByteArray), n ≤ 18446744073709551615 ∧ i = .int .u64 (n : Int) ∧ s = .string t ∧ Hid (Lx.dgs0 n ++ ls t = Lx.dgs a ∧ Below w.heap.size w wr)) (fun i _ _ => (intOf i).toNat)
  case atStart =>
    refine ⟨a / 10, _, by omega, by simp, rfl, Lib.hid ⟨?_, (Below.refl _ _).alloc (Nat.le_refl _) _⟩⟩
    rw [str_dgc]; rfl
  case round =>
    obtain ⟨n, t, hn, rfl, rfl, hI⟩ := hrel
    clear m0 m1 m3 m4 m5
    rcases Nat.eq_zero_or_pos n with rfl | h0
    · have hv : t = bs (Lx.dgs a) := bs_ls_eq (by rw [← hI.out.1, Lx.dgs0_zero]; rfl)
      subst hv
      go_wp2
      go_ret
      exact ⟨rfl, hI.out.2⟩
    · have m0 : (0 : Int) < (n : Int) ∧ (n : Int) ≤ 18446744073709551615 := by omega
      have m1 : (0 : Int) ≤ (n : Int) % 10 ∧ (n : Int) % 10 < 10 := by omega
      have m3 : IntKind.u8.wrap (48 + (n : Int) % 10) = 48 + (n : Int) % 10 := IntWalk.u8_in _ (by omega)
      have m4 : IntKind.u64.wrap (48 + (n : Int) % 10) = 48 + (n : Int) % 10 := IntWalk.u64_in _ (by omega)
      have m5 : (0 : Int) ≤ 48 + (n : Int) % 10 ∧ 48 + (n : Int) % 10 ≤ 18446744073709551615 := by omega
      have hts : t.size ≤ 20 := by
        have h1 := congrArg List.length hI.out.1
        have h2 := hlen.out
        rw [List.length_append] at h1
        rw [size_ls]; omega
      have l3 : (strOfNums [48 + (n : Int) % 10]).size ≤ 1 := by rw [strOfNums_size]; simp
      have hN : Hid (Lx.dgs0 (n / 10) ++ ls (strOfNums [48 + (n : Int) % 10] ++ t) = Lx.dgs a ∧ Below w.heap.size w (wr.alloc (.cells #[.int .u8 (48 + (n : Int) % 10)] 5))) := by
        refine Lib.hid ⟨?_, hI.out.2.alloc hI.out.2.size _⟩
        rw [ls_app, str_dgc, ← hI.out.1, Lx.dgs0_pos h0]
        unfold Lx.dgs
        simp [ls, bs]
      go_wp2
      go_roundw
      case rel => exact ⟨n / 10, _, by omega, by simp, rfl, hN⟩
      case measure => simp [intOf]; omega

end Go.Proofs.YthleaigkndfdaaaDoor
