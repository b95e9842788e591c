/- The law LexPlaces. -/
import Derived.Test.YthleaigkndfdaaaDoorLxL3
namespace Go.Proofs.YthleaigkndfdaaaDoor
open Go.RowKit Go.Shelf

set_option maxHeartbeats 2000000 in
theorem rat_any (s : ByteArray) (o : Int) (w : World) (hs : s.size ≤ 100000) (ho : o ≤ 9223372036854775807) :
    Calls Tryd.prog 25 #[.string s, .int .i64 o] w fun e w' => e = .returned (.tuple #[.int .i64 ((atv s o).1 : Int), .int .i64 ((atv s o).2 : Int)]) ∧ w = w' := by
  by_cases h0 : o < 0
  · have hv := Lib.hid (show atv s o = (0, 0) by unfold atv; rw [if_pos h0])
    go_enter Tryd.func25, Tryd.ntmps25
    go_wp2
    rw [hv.out]
    go_ret2
    exact ⟨rfl, rfl⟩
  · obtain ⟨n, rfl⟩ := Int.eq_ofNat_of_zero_le (Int.not_lt.1 h0)
    obtain ⟨m, hm⟩ : ∃ m : Nat, m = min n s.size := ⟨_, rfl⟩
    have hms : m ≤ s.size := by omega
    have hmn : m ≤ n := by omega
    have hmx : n ≤ m ∨ s.size ≤ m := by omega
    have hv0 : atv s (n : Int) = Lx.pl (ls s) m := by
      unfold atv
      rw [if_neg h0, Int.toNat_natCast]
      by_cases h : n ≤ s.size
      · rw [hm, Nat.min_eq_left h]
      · rw [hm, Nat.min_eq_right (by omega), pl_ge _ _ (by rw [ls_len]; omega), ls_len]
    have HV := Lib.hid hv0
    have n0 : (0 : Int) ≤ (n : Int) := by omega
    clear hv0 hm h0
    go_enter Tryd.func25, Tryd.ntmps25
    go_wp2
    go_loop [6, 7, 8] (fun a b i => ∃ k : Nat, k ≤ m ∧ i = .int .i64 k ∧ a = .int .i64 ((Lx.pl (ls s) k).1 : Int) ∧ b = .int .i64 ((Lx.pl (ls s) k).2 : Int)) (fun _ _ i => s.size - (intOf i).toNat)
    case atStart => exact ⟨0, by omega, rfl, rfl, rfl⟩
    case round =>
      obtain ⟨k, hk, rfl, rfl, rfl⟩ := hrel
      have hbk := pl_bd (ls s) k
      by_cases hlt : k < m
      · have hks : k < s.size := by omega
        have hkn : k < n := by omega
        have hst := Lib.hid (show Lx.pl (ls s) (k + 1) = Lx.pstep (Lx.pl (ls s) k) s[k] from Lx.pl_succ (ls s) k (by simpa using hks))
        obtain ⟨pk, hpk⟩ : ∃ pk, pk = Lx.pl (ls s) k := ⟨_, rfl⟩
        rw [← hpk] at hbk hst ⊢
        clear hpk
        by_cases h10 : s[k] = 10
        · have e10 : ((s[k].toNat : Int) == 10) = true := by rw [h10]; rfl
          have hst2 := Lib.hid (show Lx.pl (ls s) (k + 1) = (pk.1 + 1, 1) by rw [hst.out, h10]; rfl)
          clear hst h10
          go_wp2
          go_round
          case rel => exact ⟨k + 1, by omega, by go_num, by rw [hst2.out]; go_num, by rw [hst2.out]; rfl⟩
          case measure => simp [intOf]; omega
        · have e10 : ((s[k].toNat : Int) == 10) = false := beq_eq_false_iff_ne.2 (fun h => h10 (UInt8.toNat_inj.1 (Int.ofNat_inj.1 h)))
          have hst2 := Lib.hid (show Lx.pl (ls s) (k + 1) = (pk.1, pk.2 + 1) by rw [hst.out]; unfold Lx.pstep; rw [if_neg h10])
          clear hst h10
          go_wp2
          go_round
          case rel => exact ⟨k + 1, by omega, by go_num, by rw [hst2.out], by rw [hst2.out]; go_num⟩
          case measure => simp [intOf]; omega
      · have hkm : m ≤ k := by omega
        have hfin := Lib.hid (show Lx.pl (ls s) k = Lx.pl (ls s) m by rw [show k = m by omega])
        rcases hmx with hx | hx
        · have hge : n ≤ k := by omega
          go_wp2
          go_ret2
          exact ⟨ret_two (by rw [HV.out, hfin.out]) (by rw [HV.out, hfin.out]), rfl⟩
        · have hge : s.size ≤ k := by omega
          go_wp2
          all_goals
            go_ret2
            exact ⟨ret_two (by rw [HV.out, hfin.out]) (by rw [HV.out, hfin.out]), rfl⟩

set_option maxHeartbeats 2000000 in
set_option maxRecDepth 100000 in
theorem places_law (s : ByteArray) (o : Int) (w : World) (hL : Lens w) (ho : o ≤ 9223372036854775807) (hs : s.size ≤ 9223372036854775807) :
    Calls Tryd.prog 11 #[.string s, .int .i64 o] w fun e w' => e = .returned (.bool true) ∧ Below w.heap.size w w' := by
  have HL := Lib.hid hL; clear hL
  by_cases h3 : 3000 < s.size
  · have CA := Lib.hid (awake_any w HL.out)
    go_enter Tryd.func11, Tryd.ntmps11
    go_wp2_with fail
    refine CA.out.mono ?_
    rintro e w1 ⟨rfl, b1⟩
    go_wp2
    go_ret
    exact ⟨rfl, b1⟩
  · have h3' : s.size ≤ 3000 := by omega
    have CR := Lib.hid (rat_any s o w (by omega) ho)
    have CT := Lib.hid (at_any s o w (by omega) ho)
    go_enter Tryd.func11, Tryd.ntmps11
    go_wp2_with fail
    refine CR.out.mono ?_
    rintro e w1 ⟨rfl, rfl⟩
    go_wp2_with fail
    refine CT.out.mono ?_
    rintro e w1 ⟨rfl, b1⟩
    go_wp2_with fail
    refine (awake_any w1 (HL.out.below b1)).mono ?_
    rintro e w2 ⟨rfl, b2⟩
    go_wp2
    go_ret
    exact ⟨rfl, below_next b1 b2⟩

end Go.Proofs.YthleaigkndfdaaaDoor
