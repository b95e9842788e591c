/- The reference's classes of bytes, words, Reserved and Name. -/
import Derived.Test.YthleaigkndfdaaaDoorLxR3
namespace Go.Proofs.YthleaigkndfdaaaDoor
open Go.RowKit Go.Shelf

set_option maxHeartbeats 400000 in
theorem letterR_any (c : UInt8) (w : World) :
    Calls Tryd.prog 47 #[.int .u8 c.toNat] w fun e w' => e = .returned (.bool (Lx.isLet c)) ∧ w = w' := by
  have hf : Lx.isLet c = ((decide (97 ≤ (c.toNat : Int)) && decide ((c.toNat : Int) ≤ 122)) || (decide (65 ≤ (c.toNat : Int)) && decide ((c.toNat : Int) ≤ 90))) := by
    unfold Lx.isLet
    rw [Bool.or_comm]
    rw [dec_iff (show 65 ≤ c.toNat ↔ 65 ≤ (c.toNat : Int) by omega), dec_iff (show c.toNat ≤ 90 ↔ (c.toNat : Int) ≤ 90 by omega), dec_iff (show 97 ≤ c.toNat ↔ 97 ≤ (c.toNat : Int) by omega), dec_iff (show c.toNat ≤ 122 ↔ (c.toNat : Int) ≤ 122 by omega)]
  have h256 := c.toNat_lt
  generalize Lx.isLet c = r at hf
  generalize c.toNat = m at *
  have HF := Lib.hid hf; clear hf
  by_cases h1 : 97 ≤ (m : Int)
  · by_cases h2 : (m : Int) ≤ 122
    · have hr := Lib.hid (HF.out.trans (show _ = true by simp [h1, h2])); clear HF
      go_enter Tryd.func47, Tryd.ntmps47
      go_wp2
      go_ret
      exact ⟨ret_bool hr.out.symm, rfl⟩
    · have h3 : ¬ (m : Int) ≤ 90 := by omega
      have hr := Lib.hid (HF.out.trans (show _ = false by simp [h2, h3])); clear HF
      have h4 : 65 ≤ (m : Int) := by omega
      go_enter Tryd.func47, Tryd.ntmps47
      go_wp2
      go_ret
      exact ⟨ret_bool hr.out.symm, rfl⟩
  · by_cases h3 : 65 ≤ (m : Int)
    · have hr := Lib.hid (HF.out.trans (show _ = decide ((m : Int) ≤ 90) by simp [h1, h3])); clear HF
      go_enter Tryd.func47, Tryd.ntmps47
      go_wp2
      go_ret
      exact ⟨ret_bool hr.out.symm, rfl⟩
    · have hr := Lib.hid (HF.out.trans (show _ = false by simp [h1, h3])); clear HF
      go_enter Tryd.func47, Tryd.ntmps47
      go_wp2
      go_ret
      exact ⟨ret_bool hr.out.symm, rfl⟩

set_option maxHeartbeats 400000 in
theorem digitR_any (c : UInt8) (w : World) :
    Calls Tryd.prog 66 #[.int .u8 c.toNat] w fun e w' => e = .returned (.bool (Lx.isDg c)) ∧ w = w' := by
  have hf : Lx.isDg c = (decide (48 ≤ (c.toNat : Int)) && decide ((c.toNat : Int) ≤ 57)) := by
    unfold Lx.isDg
    rw [dec_iff (show 48 ≤ c.toNat ↔ 48 ≤ (c.toNat : Int) by omega), dec_iff (show c.toNat ≤ 57 ↔ (c.toNat : Int) ≤ 57 by omega)]
  generalize Lx.isDg c = r at hf
  generalize c.toNat = m at *
  have HF := Lib.hid hf; clear hf
  by_cases h1 : 48 ≤ (m : Int)
  · have hr := Lib.hid (HF.out.trans (show _ = decide ((m : Int) ≤ 57) by simp [h1])); clear HF
    go_enter Tryd.func66, Tryd.ntmps66
    go_wp2
    go_ret
    exact ⟨ret_bool hr.out.symm, rfl⟩
  · have hr := Lib.hid (HF.out.trans (show _ = false by simp [h1])); clear HF
    go_enter Tryd.func66, Tryd.ntmps66
    go_wp2
    go_ret
    exact ⟨ret_bool hr.out.symm, rfl⟩

set_option maxHeartbeats 400000 in
theorem partR_any (c : UInt8) (w : World) :
    Calls Tryd.prog 60 #[.int .u8 c.toNat] w fun e w' => e = .returned (.bool (Lx.inW c)) ∧ w = w' := by
  have hf : Lx.inW c = (Lx.isLet c || Lx.isDg c || decide ((c.toNat : Int) = 95)) := by
    unfold Lx.inW
    rw [dec_iff (show c.toNat = 95 ↔ (c.toNat : Int) = 95 by omega)]
  have c1 := Lib.hid (letterR_any c)
  have c2 := Lib.hid (digitR_any c)
  generalize Lx.inW c = r at *
  generalize Lx.isLet c = p at *
  generalize Lx.isDg c = q at *
  generalize c.toNat = m at *
  have HF := Lib.hid hf; clear hf
  cases p with
  | true =>
    have hr := Lib.hid (HF.out.trans (show _ = true by simp)); clear HF
    go_enter Tryd.func60, Tryd.ntmps60
    go_wp2_with (go_at_call 47; refine (c1.out _).mono ?_; rintro e w' ⟨rfl, rfl⟩)
    go_ret
    exact ⟨ret_bool hr.out.symm, rfl⟩
  | false =>
    cases q with
    | true =>
      have hr := Lib.hid (HF.out.trans (show _ = true by simp)); clear HF
      go_enter Tryd.func60, Tryd.ntmps60
      go_wp2_with (first | (go_at_call 47; refine (c1.out _).mono ?_; rintro e w' ⟨rfl, rfl⟩) | (go_at_call 66; refine (c2.out _).mono ?_; rintro e w' ⟨rfl, rfl⟩))
      go_ret
      exact ⟨ret_bool hr.out.symm, rfl⟩
    | false =>
      have hr := Lib.hid (HF.out.trans (show _ = ((m : Int) == 95) by simp only [Bool.false_or]; rfl)); clear HF
      go_enter Tryd.func60, Tryd.ntmps60
      go_wp2_with (first | (go_at_call 47; refine (c1.out _).mono ?_; rintro e w' ⟨rfl, rfl⟩) | (go_at_call 66; refine (c2.out _).mono ?_; rintro e w' ⟨rfl, rfl⟩))
      go_ret
      exact ⟨ret_bool hr.out.symm, rfl⟩

theorem ret_nat {a b : Nat} (h : a = b) : Ending.returned (.int .i64 (a : Int)) = .returned (.int .i64 (b : Int)) := by rw [h]
/-- The byte at a place; 0 behind the end. -/
theorem atR_in (s : ByteArray) (k : Nat) (h : k < s.size) (w : World) :
    Calls Tryd.prog 61 #[.string s, .int .i64 (k : Int)] w fun e w' => e = .returned (.int .u8 s[k].toNat) ∧ w = w' := by
  go_enter Tryd.func61, Tryd.ntmps61
  go_wp2
  go_ret
  exact ⟨rfl, rfl⟩
theorem atR_out (s : ByteArray) (k : Nat) (h : s.size ≤ k) (w : World) :
    Calls Tryd.prog 61 #[.string s, .int .i64 (k : Int)] w fun e w' => e = .returned (.int .u8 ((0 : UInt8).toNat : Int)) ∧ w = w' := by
  go_enter Tryd.func61, Tryd.ntmps61
  go_wp2
  go_ret
  exact ⟨rfl, rfl⟩

set_option maxHeartbeats 1000000 in
theorem wordR_any (s : ByteArray) (w : World) (hs : s.size ≤ 9223372036854775806) :
    Calls Tryd.prog 48 #[.string s, .int .i64 0] w fun e w' => e = .returned (.int .i64 (((ls s).takeWhile Lx.inW).length : Int)) ∧ w = w' := by
  have hle := tw_le Lx.inW s
  have CP := Lib.hid partR_any
  go_enter Tryd.func48, Tryd.ntmps48
  go_wp2
  go_loop [1] (fun i => ∃ k : Nat, k ≤ ((ls s).takeWhile Lx.inW).length ∧ i = .int .i64 k) (fun i => s.size - (intOf i).toNat)
  case atStart => exact ⟨0, by omega, rfl⟩
  case round =>
    obtain ⟨k, hk, rfl⟩ := hrel
    by_cases hlt : k < s.size
    · have hst := Lib.hid (tw_step Lx.inW s k hlt hk)
      have CK := Lib.hid (CP.out s[k])
      have CT := Lib.hid (fun W => atR_in s k hlt W)
      obtain ⟨b, hb⟩ : ∃ b, b = Lx.inW s[k] := ⟨_, rfl⟩
      rw [← hb] at CK
      rw [← hb] at hst
      clear hb
      generalize s[k].toNat = m at CK CT
      cases b with
      | true =>
        have h1 := hst.out.1 rfl
        clear hst
        go_wp2_with (first | (go_at_call 61; refine (CT.out _).mono ?_; rintro e w' ⟨rfl, rfl⟩) | (go_at_call 60; refine (CK.out _).mono ?_; rintro e w' ⟨rfl, rfl⟩))
        go_round
        case rel => exact ⟨k + 1, by omega, by go_num⟩
        case measure => simp [intOf]; omega
      | false =>
        have h1 := Lib.hid (hst.out.2 rfl)
        clear hst
        go_wp2_with (first | (go_at_call 61; refine (CT.out _).mono ?_; rintro e w' ⟨rfl, rfl⟩) | (go_at_call 60; refine (CK.out _).mono ?_; rintro e w' ⟨rfl, rfl⟩))
        go_ret
        exact ⟨ret_nat h1.out, rfl⟩
    · have h1 := Lib.hid (show k = ((ls s).takeWhile Lx.inW).length by omega)
      have CT := Lib.hid (fun W => atR_out s k (by omega) W)
      have CK := Lib.hid (fun W => CP.out 0 W)
      rw [show Lx.inW 0 = false by decide] at CK
      generalize (0 : UInt8).toNat = m at CK CT
      go_wp2_with (first | (go_at_call 61; refine (CT.out _).mono ?_; rintro e w' ⟨rfl, rfl⟩) | (go_at_call 60; refine (CK.out _).mono ?_; rintro e w' ⟨rfl, rfl⟩))
      go_ret
      exact ⟨ret_nat h1.out, rfl⟩

set_option maxHeartbeats 2000000 in
set_option maxRecDepth 100000 in
theorem wordsR_any (w : World) :
    Calls Tryd.prog 46 #[] w fun e w' => ∃ b, e = .returned (.slice (some ⟨b, 0, none⟩) 47 47) ∧ (∀ i (h : i < 47), w'.cell? ⟨b, i, none⟩ = some (.string (bs (Lx.resw[i]'h)))) ∧ Below w.heap.size w w' := by
  go_enter Tryd.func46, Tryd.ntmps46
  go_wp2
  go_ret
  refine ⟨_, rfl, ?_, (Below.refl _ _).alloc (Nat.le_refl _) _⟩
  intro i h
  refine ((Blk.new w _ _).cell i).trans ?_
  show ((Lx.resw.map fun x => Value.string (bs x)).toArray)[i]? = _
  have h' : i < Lx.resw.length := h
  simp [h']
  rfl

theorem not_resw {s : Lx.Bs} (h : ∀ j (hj : j < 47), Lx.resw[j]'hj ≠ s) : Lx.resv s = false := by
  cases hr : Lx.resv s with
  | false => rfl
  | true =>
    obtain ⟨j, hj, e⟩ := List.mem_iff_getElem.1 ((Lx.resv_iff s).1 hr)
    exact absurd e (h j hj)

set_option maxHeartbeats 2000000 in
theorem reservedR_any (s : ByteArray) (w : World) :
    Calls Tryd.prog 31 #[.string s] w fun e w' => e = .returned (.bool (Lx.resv (ls s))) ∧ Below w.heap.size w w' := by
  have CW := Lib.hid wordsR_any
  go_enter Tryd.func31, Tryd.ntmps31
  go_wp2_with fail
  refine (CW.out _).mono ?_
  rintro e w1 ⟨b, rfl, hc, b1⟩
  have HC := Lib.hid hc
  have B1 := Lib.hid b1
  clear hc b1
  go_wp2
  go_loop [4] (fun i => ∃ k : Nat, k ≤ 47 ∧ i = .int .i64 k ∧ Hid (∀ j (_ : j < k) (hj : j < 47), Lx.resw[j]'hj ≠ ls s)) (fun i => 47 - (intOf i).toNat)
  case atStart => exact ⟨0, by omega, rfl, Lib.hid (fun j h => absurd h (by omega))⟩
  case round =>
    obtain ⟨k, hk, rfl, hI⟩ := hrel
    by_cases hlt : k < 47
    · have q0 := HC.out k hlt
      have hx : Hid (bs (Lx.resw[k]'hlt) = bs (Lx.resw[k]'hlt)) := Lib.hid rfl
      revert hx
      generalize hX : bs (Lx.resw[k]'hlt) = x at q0 ⊢
      intro _
      have HX := Lib.hid hX
      clear hX
      by_cases he : x = s
      · have f1 : (x.toList == s.toList) = true := by rw [he, beq_iff_eq]
        have hr : Hid (Lx.resv (ls s) = true) := Lib.hid ((Lx.resv_iff _).2 (by rw [← he, ← HX.out]; exact List.getElem_mem _))
        clear he
        go_wp2
        go_ret
        exact ⟨ret_bool hr.out.symm, B1.out⟩
      · have f1 : (x.toList == s.toList) = false := by rw [ls_toList, ls_toList, beq_eq_false_iff_ne]; intro e; exact he (bs_ls_eq e)
        have hN : Hid (∀ j (_ : j < k + 1) (hj : j < 47), Lx.resw[j]'hj ≠ ls s) := Lib.hid (fun j hjk hj => by
          rcases Nat.lt_or_ge j k with h | h
          · exact hI.out j h hj
          · obtain rfl : j = k := by omega
            intro e
            have hh := HX.out
            rw [e] at hh
            exact he hh.symm)
        clear he
        go_wp2
        go_round
        case rel => exact ⟨k + 1, by omega, by go_num, hN⟩
        case measure => simp [intOf]; omega
    · have hr : Hid (Lx.resv (ls s) = false) := Lib.hid (not_resw (fun j hj => hI.out j (by omega) hj))
      go_wp2
      go_ret
      exact ⟨ret_bool hr.out.symm, B1.out⟩

end Go.Proofs.YthleaigkndfdaaaDoor
