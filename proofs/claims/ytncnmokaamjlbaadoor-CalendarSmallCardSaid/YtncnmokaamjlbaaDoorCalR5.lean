/- The walks of the reference's value and Parse, and of the law CalendarReads. -/
import Derived.Test.YtncnmokaamjlbaaDoorCalR4
import Derived.Test.YtncnmokaamjlbaaDoorCalPlain4
import Derived.Test.YtncnmokaamjlbaaDoorCalAwake
namespace Go.Proofs.YtncnmokaamjlbaaDoor
open Go.RowKit

theorem str_inj {a b : ByteArray} (h : a.toList = b.toList) : a = b := by
  rw [ByteArray.toList_eq, ByteArray.toList_eq] at h
  exact ByteArray.ext (Array.toList_inj.1 h)

set_option maxHeartbeats 1000000 in
theorem rvalue_any (s : ByteArray) (w : World) (hs : s.size ≤ 4) :
    Calls Tryd.prog 48 #[.string s] w fun e w' => e = .returned (.int .i64 (valI s.data.toList)) ∧ w = w' := by
  go_enter Tryd.func48, Tryd.ntmps48
  go_wp2
  go_loop [3, 4] (fun n i => ∃ j : Nat, j ≤ s.size ∧ i = .int .i64 j ∧ Hid (allD (s.data.toList.take j) = true) ∧ n = .int .i64 (numL (s.data.toList.take j))) (fun _ i => 10 - (intOf i).toNat)
  case atStart => exact ⟨0, by omega, rfl, rfl, rfl⟩
  case round =>
    obtain ⟨j, hj, rfl, ha, rfl⟩ := hrel
    have hb := numL_small s j hj (by omega) ha.out
    by_cases hlt : j < s.size
    · have hts := Lib.hid (take_snoc s j hlt)
      by_cases hd : 48 ≤ (s[j].toNat : Int) ∧ (s[j].toNat : Int) ≤ 57
      · obtain ⟨hd1, hd2⟩ := hd
        have hn := Lib.hid (show numL (s.data.toList.take (j + 1)) = 10 * numL (s.data.toList.take j) + ((s[j].toNat : Int) - 48) by rw [hts.out, numL_snoc])
        have ha' := Lib.hid (show allD (s.data.toList.take (j + 1)) = true by rw [hts.out, allD_snoc, ha.out, (isDg_iff _).2 ⟨hd1, hd2⟩]; rfl)
        go_wp2
        go_round
        case rel => exact ⟨j + 1, by omega, by go_num, ha', by rw [hn.out]⟩
        case measure => simp [intOf]; omega
      · have hf := Lib.hid (show valI s.data.toList = -1 by unfold valI; rw [if_neg (by rw [allD_false s j hlt (by rw [← Bool.not_eq_true, isDg_iff]; exact hd)]; decide)])
        have hd' : (s[j].toNat : Int) < 48 ∨ (48 ≤ (s[j].toNat : Int) ∧ 57 < (s[j].toNat : Int)) := by omega
        clear hd
        rcases hd' with hd' | ⟨hd1, hd2⟩
        all_goals
          go_wp2
          go_ret
          exact ⟨ret_int hf.out.symm, rfl⟩
    · obtain rfl : j = s.size := by omega
      rw [take_all]
      rw [take_all] at ha
      have hf := Lib.hid (show valI s.data.toList = numL s.data.toList by unfold valI; rw [if_pos ha.out])
      clear hb hlt hj
      go_wp2
      go_ret
      exact ⟨ret_int hf.out.symm, rfl⟩

theorem valI_bd (s : ByteArray) (hs : s.size ≤ 4) : -1 ≤ valI s.data.toList ∧ valI s.data.toList ≤ 9999 := by
  unfold valI
  split
  · have := part_bd s hs (by assumption); omega
  · omega

set_option maxHeartbeats 2000000 in
set_option maxRecDepth 100000 in
theorem rparse_any (s : ByteArray) (w : World) (hs : s.size ≤ 9223372036854775807) :
    Calls Tryd.prog 34 #[.string s] w fun e w' => e = .returned (.tuple #[.int .i64 (parsev s), .int .i64 (parsee s)]) ∧ Below w.heap.size w w' := by
  by_cases h10 : s.size = 10
  · have hcases := ref_parse s h10
    have z1 : s.size ≤ 10 ∧ 10 ≤ s.size := by omega
    have s0 : (s.extract 0 4).size ≤ 4 := by simp; omega
    have s1 : (s.extract 5 7).size ≤ 4 := by simp; omega
    have s2 : (s.extract 8 s.size).size ≤ 4 := by simp; omega
    have S0 := Lib.hid s0
    have S1 := Lib.hid s1
    have S2 := Lib.hid s2
    have b0 := valI_bd _ s0
    have b1 := valI_bd _ s1
    have b2 := valI_bd _ s2
    have v0 := Lib.hid (fun W => rvalue_any (s.extract 0 4) W s0)
    have v1 := Lib.hid (fun W => rvalue_any (s.extract 5 7) W s1)
    have v2 := Lib.hid (fun W => rvalue_any (s.extract 8 s.size) W s2)
    generalize valI (s.extract 0 4).data.toList = y at *
    generalize valI (s.extract 5 7).data.toList = m at *
    generalize valI (s.extract 8 s.size).data.toList = d at *
    clear s0 s1 s2 h10 S0 S1 S2
    rcases hcases with ⟨he, hf⟩ | ⟨day, hv, he, hcase⟩
    · have HE := Lib.hid he
      have hf := Lib.hid hf
      clear he
      go_enter Tryd.func34, Tryd.ntmps34
      go_wp2
      go_quiet ((first | (go_at_call 48; (first | (with_reducible exact quiet_left (v0.out _)) | (with_reducible exact quiet_left (v1.out _)) | (with_reducible exact quiet_left (v2.out _)))) | (go_at_call 16; exact quiet_left (rday_any _ _ _ _))))
      rw [HE.out]
      go_wp2
      go_ret2
      exact ⟨ret_two hf.out.1.symm hf.out.2.symm, below_drewN (Below.refl _ _) _⟩
    · have HE := Lib.hid he
      have HV := Lib.hid hv
      clear he hv
      rcases hcase with ⟨ht, hf⟩ | ⟨ht, hf⟩
      · have HT := Lib.hid ht
        have hf := Lib.hid hf
        clear ht
        go_enter Tryd.func34, Tryd.ntmps34
        go_wp2
        go_quiet ((first | (go_at_call 48; (first | (with_reducible exact quiet_left (v0.out _)) | (with_reducible exact quiet_left (v1.out _)) | (with_reducible exact quiet_left (v2.out _)))) | (go_at_call 16; exact quiet_left (rday_any _ _ _ _))))
        rw [HE.out, HV.out]
        go_wp2_with fail
        refine (rtext_any _ _).mono ?_; rintro e w1 ⟨rfl, hb1⟩
        rw [HT.out]
        go_wp2
        go_ret2
        exact ⟨ret_two hf.out.1.symm hf.out.2.symm, (below_drewN (Below.refl _ _) _).trans hb1⟩
      · have ht' : ((textv day).toList == s.toList) = false := beq_eq_false_iff_ne.2 (fun e => ht (str_inj e))
        have hf' := Lib.hid hf
        clear ht hf
        go_enter Tryd.func34, Tryd.ntmps34
        go_wp2
        go_quiet ((first | (go_at_call 48; (first | (with_reducible exact quiet_left (v0.out _)) | (with_reducible exact quiet_left (v1.out _)) | (with_reducible exact quiet_left (v2.out _)))) | (go_at_call 16; exact quiet_left (rday_any _ _ _ _))))
        rw [HE.out, HV.out]
        go_wp2_with fail
        refine (rtext_any _ _).mono ?_; rintro e w1 ⟨rfl, hb1⟩
        go_wp2
        go_ret2
        exact ⟨ret_two hf'.out.1.symm hf'.out.2.symm, (below_drewN (Below.refl _ _) _).trans hb1⟩
  · have hf := Lib.hid (show parsev s = 0 ∧ parsee s = 2 by
      have hP : PForm s = false := by unfold PForm; rw [beq_eq_false_iff_ne.2 h10]; simp
      unfold parsev parsee; rw [hP]; exact ⟨rfl, rfl⟩)
    have b10 : ((s.size : Int) != 10) = true := bne_iff_ne.2 (by omega)
    clear h10
    go_enter Tryd.func34, Tryd.ntmps34
    go_wp2
    go_ret2
    exact ⟨ret_two hf.out.1.symm hf.out.2.symm, Below.refl _ _⟩

set_option maxHeartbeats 1000000 in
theorem reads_any (s : ByteArray) (w : World) (hL : Lens w) (hs : s.size ≤ 9223372036854775807) :
    Calls Tryd.prog 12 #[.string s] w fun e w' => e = .returned (.bool true) ∧ Below w.heap.size w w' := by
  have HL := Lib.hid hL; clear hL
  by_cases h : 100 < s.size
  · go_enter Tryd.func12, Tryd.ntmps12
    go_wp2_with fail
    refine (awake_any _ HL.out).mono ?_; rintro e w1 ⟨rfl, hb1⟩
    go_wp2
    go_ret
    exact ⟨rfl, hb1⟩
  · go_enter Tryd.func12, Tryd.ntmps12
    go_wp2_with fail
    refine (parse_any _ _ HL.out hs).mono ?_; rintro e w1 ⟨rfl, hb1⟩; have HL1 := Lib.hid (HL.out.below hb1)
    go_wp2_with fail
    refine (rparse_any _ _ hs).mono ?_; rintro e w2 ⟨rfl, hb2⟩; have HL2 := Lib.hid (HL1.out.below hb2)
    go_wp2_with fail
    refine (awake_any _ HL2.out).mono ?_; rintro e w3 ⟨rfl, hb3⟩
    go_wp2
    go_ret
    exact ⟨rfl, below_next (below_next hb1 hb2) hb3⟩

end Go.Proofs.YtncnmokaamjlbaaDoor
