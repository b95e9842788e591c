/- The walks of the lexer's classes of bytes and of run. -/
import Derived.Test.YthleaigkndfdaaaDoorLxPlain3
import Derived.Test.YthleaigkndfdaaaDoorLxCal
import Derived.LoopTactic
import Derived.Shelf.Abstract
namespace Go.Proofs.YthleaigkndfdaaaDoor
open Go.RowKit Go.Shelf

/-- Bytes as a string. -/
def bs (l : Lx.Bs) : ByteArray := ⟨l.toArray⟩
abbrev ls (s : ByteArray) : Lx.Bs := s.data.toList
theorem ls_bs (l : Lx.Bs) : ls (bs l) = l := rfl
theorem bs_ls (s : ByteArray) : bs (ls s) = s := rfl
theorem ls_len (s : ByteArray) : (ls s).length = s.size := Array.length_toList
theorem bs_size (l : Lx.Bs) : (bs l).size = l.length := rfl
theorem ls_get (s : ByteArray) (i : Nat) (h : i < s.size) : (ls s)[i]? = some s[i] := by
  rw [List.getElem?_eq_getElem (by simpa using h)]; rfl
theorem ext_bs (s : ByteArray) (a b : Nat) : s.extract a b = bs (((ls s).take b).drop a) := by
  apply ByteArray.ext
  apply Array.toList_inj.1
  simp [bs, List.drop_take]
theorem ls_ext (s : ByteArray) (a b : Nat) : ls (s.extract a b) = ((ls s).take b).drop a := by rw [ext_bs]; rfl
theorem take_len (p : UInt8 → Bool) (s : ByteArray) : s.extract 0 ((ls s).takeWhile p).length = bs ((ls s).takeWhile p) := by
  rw [ext_bs, List.drop_zero, Lx.takeWhile_drop]

theorem ret_str {a b : ByteArray} (h : a = b) : Ending.returned (.string a) = .returned (.string b) := by rw [h]
theorem dec_iff {a b : Prop} [Decidable a] [Decidable b] (h : a ↔ b) : decide a = decide b := decide_eq_decide.2 h

set_option maxHeartbeats 400000 in
theorem isLetter_any (c : UInt8) (w : World) :
    Calls Tryd.prog 33 #[.int .u8 c.toNat] w fun e w' => e = .returned (.bool (Lx.isLet c)) ∧ w = w' := by
  have hf : Lx.isLet c = ((decide (65 ≤ (c.toNat : Int)) && decide ((c.toNat : Int) ≤ 90)) || (decide (97 ≤ (c.toNat : Int)) && decide ((c.toNat : Int) ≤ 122))) := by
    unfold Lx.isLet
    rw [dec_iff (show 65 ≤ c.toNat ↔ 65 ≤ (c.toNat : Int) by omega), dec_iff (show c.toNat ≤ 90 ↔ (c.toNat : Int) ≤ 90 by omega), dec_iff (show 97 ≤ c.toNat ↔ 97 ≤ (c.toNat : Int) by omega), dec_iff (show c.toNat ≤ 122 ↔ (c.toNat : Int) ≤ 122 by omega)]
  have h256 := c.toNat_lt
  generalize Lx.isLet c = r at hf
  generalize c.toNat = m at *
  have HF := Lib.hid hf; clear hf
  by_cases h1 : 65 ≤ (m : Int)
  · by_cases h2 : (m : Int) ≤ 90
    · have hr := Lib.hid (HF.out.trans (show _ = true by simp [h1, h2])); clear HF
      go_enter Tryd.func33, Tryd.ntmps33
      go_wp2
      go_ret
      exact ⟨ret_bool hr.out.symm, rfl⟩
    · by_cases h3 : 97 ≤ (m : Int)
      · have hr := Lib.hid (HF.out.trans (show _ = decide ((m : Int) ≤ 122) by simp [h2, h3])); clear HF
        go_enter Tryd.func33, Tryd.ntmps33
        go_wp2
        go_ret
        exact ⟨ret_bool hr.out.symm, rfl⟩
      · have hr := Lib.hid (HF.out.trans (show _ = false by simp [h2, h3])); clear HF
        go_enter Tryd.func33, Tryd.ntmps33
        go_wp2
        go_ret
        exact ⟨ret_bool hr.out.symm, rfl⟩
  · have h3 : ¬ 97 ≤ (m : Int) := by omega
    have hr := Lib.hid (HF.out.trans (show _ = false by simp [h1, h3])); clear HF
    go_enter Tryd.func33, Tryd.ntmps33
    go_wp2
    go_ret
    exact ⟨ret_bool hr.out.symm, rfl⟩

set_option maxHeartbeats 400000 in
theorem isDigit_any (c : UInt8) (w : World) :
    Calls Tryd.prog 49 #[.int .u8 c.toNat] w fun e w' => e = .returned (.bool (Lx.isDg c)) ∧ w = w' := by
  have hf : Lx.isDg c = (decide (48 ≤ (c.toNat : Int)) && decide ((c.toNat : Int) ≤ 57)) := by
    unfold Lx.isDg
    rw [dec_iff (show 48 ≤ c.toNat ↔ 48 ≤ (c.toNat : Int) by omega), dec_iff (show c.toNat ≤ 57 ↔ (c.toNat : Int) ≤ 57 by omega)]
  generalize Lx.isDg c = r at hf
  generalize c.toNat = m at *
  have HF := Lib.hid hf; clear hf
  by_cases h1 : 48 ≤ (m : Int)
  · have hr := Lib.hid (HF.out.trans (show _ = decide ((m : Int) ≤ 57) by simp [h1])); clear HF
    go_enter Tryd.func49, Tryd.ntmps49
    go_wp2
    go_ret
    exact ⟨ret_bool hr.out.symm, rfl⟩
  · have hr := Lib.hid (HF.out.trans (show _ = false by simp [h1])); clear HF
    go_enter Tryd.func49, Tryd.ntmps49
    go_wp2
    go_ret
    exact ⟨ret_bool hr.out.symm, rfl⟩

set_option maxHeartbeats 400000 in
theorem inWord_any (c : UInt8) (w : World) :
    Calls Tryd.prog 35 #[.int .u8 c.toNat] w fun e w' => e = .returned (.bool (Lx.inW c)) ∧ w = w' := by
  have hf : Lx.inW c = (Lx.isLet c || Lx.isDg c || decide ((c.toNat : Int) = 95)) := by
    unfold Lx.inW
    rw [dec_iff (show c.toNat = 95 ↔ (c.toNat : Int) = 95 by omega)]
  have c1 := Lib.hid (isLetter_any c)
  have c2 := Lib.hid (isDigit_any c)
  generalize Lx.inW c = r at *
  generalize Lx.isLet c = p at *
  generalize Lx.isDg c = q at *
  generalize c.toNat = m at *
  have HF := Lib.hid hf; clear hf
  cases p with
  | true =>
    have hr := Lib.hid (HF.out.trans (show _ = true by simp)); clear HF
    go_enter Tryd.func35, Tryd.ntmps35
    go_wp2_with (go_at_call 33; refine (c1.out _).mono ?_; rintro e w' ⟨rfl, rfl⟩)
    go_ret
    exact ⟨ret_bool hr.out.symm, rfl⟩
  | false =>
    cases q with
    | true =>
      have hr := Lib.hid (HF.out.trans (show _ = true by simp)); clear HF
      go_enter Tryd.func35, Tryd.ntmps35
      go_wp2_with (first | (go_at_call 33; refine (c1.out _).mono ?_; rintro e w' ⟨rfl, rfl⟩) | (go_at_call 49; refine (c2.out _).mono ?_; rintro e w' ⟨rfl, rfl⟩))
      go_ret
      exact ⟨ret_bool hr.out.symm, rfl⟩
    | false =>
      have hr := Lib.hid (HF.out.trans (show _ = ((m : Int) == 95) by simp only [Bool.false_or]; rfl)); clear HF
      go_enter Tryd.func35, Tryd.ntmps35
      go_wp2_with (first | (go_at_call 33; refine (c1.out _).mono ?_; rintro e w' ⟨rfl, rfl⟩) | (go_at_call 49; refine (c2.out _).mono ?_; rintro e w' ⟨rfl, rfl⟩))
      go_ret
      exact ⟨ret_bool hr.out.symm, rfl⟩

theorem noline_any (c : UInt8) (w : World) :
    Calls Tryd.prog 44 #[.int .u8 c.toNat] w fun e w' => e = .returned (.bool (c != 10)) ∧ w = w' := by
  have hr := Lib.hid (show (c != 10) = ((c.toNat : Int) != 10) by
    rw [Bool.eq_iff_iff, bne_iff_ne, bne_iff_ne, Ne, Ne, not_congr]
    rw [← UInt8.toNat_inj]; show _ ↔ _ = ((10 : Nat) : Int); rw [Int.ofNat_inj]; rfl)
  go_enter Tryd.func44, Tryd.ntmps44
  go_wp2
  go_ret
  exact ⟨ret_bool hr.out.symm, rfl⟩

theorem tw_step (p : UInt8 → Bool) (s : ByteArray) (k : Nat) (h : k < s.size) (hk : k ≤ ((ls s).takeWhile p).length) :
    (p s[k] = true → k + 1 ≤ ((ls s).takeWhile p).length) ∧ (p s[k] = false → k = ((ls s).takeWhile p).length) := by
  have key : ∀ (l : Lx.Bs) (k : Nat) (h : k < l.length), k ≤ (l.takeWhile p).length → (p l[k] = true → k + 1 ≤ (l.takeWhile p).length) ∧ (p l[k] = false → k = (l.takeWhile p).length) := by
    intro l
    induction l with
    | nil => intro k h; simp at h
    | cons a l ih =>
      intro k h hk
      by_cases ha : p a = true
      · rw [List.takeWhile_cons_of_pos ha, List.length_cons] at hk ⊢
        cases k with
        | zero => exact ⟨fun _ => by omega, fun h' => by rw [List.getElem_cons_zero, ha] at h'; cases h'⟩
        | succ k =>
          have := ih k (by simpa using h) (by omega)
          rw [List.getElem_cons_succ]
          exact ⟨fun h' => by have := this.1 h'; omega, fun h' => by have := this.2 h'; omega⟩
      · rw [List.takeWhile_cons_of_neg ha, List.length_nil] at hk ⊢
        obtain rfl : k = 0 := by omega
        exact ⟨fun h' => absurd h' (by simpa using ha), fun _ => rfl⟩
  exact key (ls s) k (by rw [ls_len]; exact h) hk

theorem tw_le (p : UInt8 → Bool) (s : ByteArray) : ((ls s).takeWhile p).length ≤ s.size := by
  have := (Lx.takeWhile_pre p (ls s)).length_le
  rwa [ls_len] at this

set_option maxHeartbeats 1000000 in
theorem run_of (kf : Nat) (p : UInt8 → Bool) (ek : ∀ args w, (callFunc kf args).run Tryd.prog w = .ok (.enter kf args) w) (hk : ∀ (c : UInt8) (w : World), Calls Tryd.prog kf #[.int .u8 c.toNat] w fun e w' => e = .returned (.bool (p c)) ∧ w = w')
    (s : ByteArray) (w : World) (hs : s.size ≤ 9223372036854775807) :
    Calls Tryd.prog 34 #[.string s, .func (.func kf) #[] #[]] w fun e w' => e = .returned (.string (bs ((ls s).takeWhile p))) ∧ w = w' := by
  have HK := Lib.hid hk; clear hk
  have hle := tw_le p s
  have hfin := Lib.hid (take_len p s)
  go_enter Tryd.func34, Tryd.ntmps34
  go_wp2
  go_loop [5] (fun i => ∃ k : Nat, k ≤ ((ls s).takeWhile p).length ∧ i = .int .i64 k) (fun i => s.size - (intOf i).toNat)
  case atStart => exact ⟨0, by omega, rfl⟩
  case round =>
    obtain ⟨k, hk, rfl⟩ := hrel
    by_cases hlt : k < s.size
    · have hst := Lib.hid (tw_step p s k hlt hk)
      have CK := Lib.hid (HK.out s[k])
      obtain ⟨b, hb⟩ : ∃ b, b = p s[k] := ⟨_, rfl⟩
      rw [← hb] at CK
      rw [← hb] at hst
      clear hb
      cases b with
      | true =>
        have h1 := hst.out.1 rfl
        clear hst
        go_wp2_with (refine (CK.out _).mono ?_; rintro e w' ⟨rfl, rfl⟩)
        go_round
        case rel => exact ⟨k + 1, by omega, by go_num⟩
        case measure => simp [intOf]; omega
      | false =>
        have h1 := Lib.hid (hst.out.2 rfl)
        clear hst
        go_wp2_with (refine (CK.out _).mono ?_; rintro e w' ⟨rfl, rfl⟩)
        go_ret
        exact ⟨ret_str (Eq.trans (congrArg _ h1.out) hfin.out), rfl⟩
    · have h1 := Lib.hid (show k = ((ls s).takeWhile p).length by omega)
      go_wp2
      go_ret
      exact ⟨ret_str (Eq.trans (congrArg _ h1.out) hfin.out), rfl⟩

theorem run_word (s : ByteArray) (w : World) (hs : s.size ≤ 9223372036854775807) :
    Calls Tryd.prog 34 #[.string s, .func (.func 35) #[] #[]] w fun e w' => e = .returned (.string (bs ((ls s).takeWhile Lx.inW))) ∧ w = w' :=
  run_of _ _ (enters_of Tryd.func35 (by kernel_rfl) rfl) inWord_any s w hs
theorem run_digit (s : ByteArray) (w : World) (hs : s.size ≤ 9223372036854775807) :
    Calls Tryd.prog 34 #[.string s, .func (.func 49) #[] #[]] w fun e w' => e = .returned (.string (bs ((ls s).takeWhile Lx.isDg))) ∧ w = w' :=
  run_of _ _ (enters_of Tryd.func49 (by kernel_rfl) rfl) isDigit_any s w hs
theorem run_letter (s : ByteArray) (w : World) (hs : s.size ≤ 9223372036854775807) :
    Calls Tryd.prog 34 #[.string s, .func (.func 33) #[] #[]] w fun e w' => e = .returned (.string (bs ((ls s).takeWhile Lx.isLet))) ∧ w = w' :=
  run_of _ _ (enters_of Tryd.func33 (by kernel_rfl) rfl) isLetter_any s w hs
theorem run_noline (s : ByteArray) (w : World) (hs : s.size ≤ 9223372036854775807) :
    Calls Tryd.prog 34 #[.string s, .func (.func 44) #[] #[]] w fun e w' => e = .returned (.string (bs ((ls s).takeWhile (· != 10)))) ∧ w = w' :=
  run_of _ _ (enters_of Tryd.func44 (by kernel_rfl) rfl) noline_any s w hs

end Go.Proofs.YthleaigkndfdaaaDoor
