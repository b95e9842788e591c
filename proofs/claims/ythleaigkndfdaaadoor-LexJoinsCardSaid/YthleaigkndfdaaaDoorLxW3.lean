/- The walks of word, dated, padded, date, number. -/
import Derived.Test.YthleaigkndfdaaaDoorLxW2
namespace Go.Proofs.YthleaigkndfdaaaDoor
open Go.RowKit Go.Shelf

theorem ret_strint {k : IntKind} {a b : ByteArray} {x y : Int} (h : a = b) (h' : x = y) : Ending.returned (.tuple #[.string a, .int k x]) = .returned (.tuple #[.string b, .int k y]) := by rw [h, h']

set_option maxHeartbeats 1000000 in
theorem word_any (s : ByteArray) (w : World) (hs : s.size ≤ 9223372036854775807) :
    Calls Tryd.prog 55 #[.string s] w fun e w' => e = .returned (.tuple #[.string (bs (Lx.wordv (ls s)).2), .int .i64 ((Lx.wordv (ls s)).1 : Int)]) ∧ w = w' := by
  have cR := Lib.hid (fun W => run_word s W hs)
  have hle := tw_le Lx.inW s
  have hz := bs_size ((ls s).takeWhile Lx.inW)
  obtain ⟨t, ht⟩ : ∃ t, t = bs ((ls s).takeWhile Lx.inW) := ⟨_, rfl⟩
  rw [← ht] at cR hz
  by_cases h : 24 < ((ls s).takeWhile Lx.inW).length
  · have hf := Lib.hid (show Lx.wordv (ls s) = (111, []) by unfold Lx.wordv; rw [if_pos h])
    have h1 : 24 < t.size := by omega
    have h2 : t.size ≤ 9223372036854775807 := by omega
    clear hz ht hle h
    go_enter Tryd.func55, Tryd.ntmps55
    go_wp2_with (go_at_call 34; refine (cR.out _).mono ?_; rintro e w' ⟨rfl, rfl⟩)
    go_ret2
    exact ⟨by rw [hf.out]; rfl, rfl⟩
  · have hf := Lib.hid (show Lx.wordv (ls s) = (0, (ls s).takeWhile Lx.inW) by unfold Lx.wordv; rw [if_neg h])
    have HT := Lib.hid ht
    have h1 : t.size ≤ 24 := by omega
    clear hz ht hle h
    go_enter Tryd.func55, Tryd.ntmps55
    go_wp2_with (go_at_call 34; refine (cR.out _).mono ?_; rintro e w' ⟨rfl, rfl⟩)
    go_ret2
    exact ⟨by rw [hf.out, HT.out]; rfl, rfl⟩

set_option maxHeartbeats 1000000 in
theorem padded_any (s : ByteArray) (w : World) (hs : s.size ≤ 9223372036854775807) :
    Calls Tryd.prog 64 #[.string s] w fun e w' => e = .returned (.bool (Lx.padB (ls s))) ∧ w = w' := by
  by_cases h : 1 < s.size
  · have h0 : 0 < s.size := by omega
    have hf := Lib.hid (show Lx.padB (ls s) = ((s[0].toNat : Int) == 48) by
      unfold Lx.padB
      rw [ls_len, decide_eq_true h, Bool.true_and, List.head?_eq_getElem?, ls_get s 0 h0]
      rw [Bool.eq_iff_iff, decide_eq_true_eq, Option.some.injEq, beq_iff_eq, ← UInt8.toNat_inj]
      show _ ↔ _ = ((48 : Nat) : Int); rw [Int.ofNat_inj]; rfl)
    go_enter Tryd.func64, Tryd.ntmps64
    go_wp2
    go_ret
    exact ⟨ret_bool hf.out.symm, rfl⟩
  · have hf := Lib.hid (show Lx.padB (ls s) = false by
      unfold Lx.padB
      rw [ls_len, decide_eq_false h, Bool.false_and])
    go_enter Tryd.func64, Tryd.ntmps64
    go_wp2
    go_ret
    exact ⟨ret_bool hf.out.symm, rfl⟩

theorem dat_at (s : ByteArray) (i : Nat) (h : i < s.size) : Lx.dat (ls s) i = Lx.dchk i s[i] := by unfold Lx.dat; rw [ls_get s i h]
theorem dated_no (s : ByteArray) (i : Nat) (hi : i < 10) (h : i < s.size) (hc : Lx.dchk i s[i] = false) : Lx.datedB (ls s) = false := by
  rw [← Bool.not_eq_true, Lx.dated_iff]; intro h'; have := h' i hi; rw [dat_at s i h, hc] at this; cases this
theorem dchk_sep (i : Nat) (h : i = 4 ∨ i = 7) (c : UInt8) : Lx.dchk i c = !((c.toNat : Int) != 45) := by
  unfold Lx.dchk; rw [if_pos h, dec_iff (show c.toNat = 45 ↔ (c.toNat : Int) = 45 by omega), bne, Bool.not_not]; rfl
theorem dchk_dig (i : Nat) (h : ¬ (i = 4 ∨ i = 7)) (c : UInt8) : Lx.dchk i c = Lx.isDg c := by unfold Lx.dchk; rw [if_neg h]

set_option maxHeartbeats 2000000 in
theorem dated_any (s : ByteArray) (w : World) (hs : s.size ≤ 9223372036854775807) :
    Calls Tryd.prog 56 #[.string s] w fun e w' => e = .returned (.bool (Lx.datedB (ls s))) ∧ w = w' := by
  by_cases h : s.size < 10
  · have hf := Lib.hid (show Lx.datedB (ls s) = false by
      rw [← Bool.not_eq_true]; intro h'; have := Lx.dated_len h'; rw [ls_len] at this; omega)
    go_enter Tryd.func56, Tryd.ntmps56
    go_wp2
    go_ret
    exact ⟨ret_bool hf.out.symm, rfl⟩
  · have h10 : 10 ≤ s.size := by omega
    clear h
    go_enter Tryd.func56, Tryd.ntmps56
    go_wp2
    go_loop [3] (fun i => ∃ k : Nat, k ≤ 10 ∧ i = .int .i64 k ∧ Hid (∀ j, j < k → Lx.dat (ls s) j = true)) (fun i => 10 - (intOf i).toNat)
    case atStart => exact ⟨0, by omega, rfl, Lib.hid (fun j h => by omega)⟩
    case round =>
      obtain ⟨k, hk, rfl, hall⟩ := hrel
      by_cases hlt : k < 10
      · have hlt' : k < s.size := by omega
        have hd := Lib.hid (dat_at s k hlt')
        have hno := Lib.hid (dated_no s k hlt hlt')
        have hnext := Lib.hid (show Lx.dchk k s[k] = true → ∀ j, j < k + 1 → Lx.dat (ls s) j = true from fun hc j hj => by
          by_cases e : j = k
          · subst e; rw [hd.out, hc]
          · exact hall.out j (by omega))
        clear hd hall
        by_cases hsep : k = 4 ∨ k = 7
        · have hc := Lib.hid (dchk_sep k hsep s[k])
          by_cases hm : ((s[k].toNat : Int) != 45) = true
          · have hfin := Lib.hid (hno.out (by rw [hc.out, hm]; rfl))
            clear hc hno hnext
            rcases hsep with rfl | rfl
            all_goals
              go_wp2
              go_ret
              exact ⟨ret_bool hfin.out.symm, rfl⟩
          · have hm' : ((s[k].toNat : Int) != 45) = false := by simpa using hm
            have hN := Lib.hid (hnext.out (by rw [hc.out, hm']; rfl))
            clear hc hno hnext hm
            rcases hsep with rfl | rfl
            all_goals
              go_wp2
              go_round
              case rel => first | exact ⟨5, by omega, rfl, hN⟩ | exact ⟨8, by omega, rfl, hN⟩
              case measure => simp [intOf]
        · have hc := Lib.hid (dchk_dig k hsep s[k])
          have e4 : ((k : Int) == 4) = false := beq_eq_false_iff_ne.2 (by omega)
          have e7 : ((k : Int) == 7) = false := beq_eq_false_iff_ne.2 (by omega)
          have CD := Lib.hid (isDigit_any s[k])
          obtain ⟨b, hb⟩ : ∃ b, b = Lx.isDg s[k] := ⟨_, rfl⟩
          rw [← hb] at CD hc
          clear hb hsep
          cases b with
          | true =>
            have hN := Lib.hid (hnext.out hc.out)
            clear hc hno hnext
            go_wp2_with (go_at_call 49; refine (CD.out _).mono ?_; rintro e w' ⟨rfl, rfl⟩)
            go_round
            case rel => exact ⟨k + 1, by omega, by go_num, hN⟩
            case measure => simp [intOf]; omega
          | false =>
            have hfin := Lib.hid (hno.out hc.out)
            clear hc hno hnext
            go_wp2_with (go_at_call 49; refine (CD.out _).mono ?_; rintro e w' ⟨rfl, rfl⟩)
            go_ret
            exact ⟨ret_bool hfin.out.symm, rfl⟩
      · have hf := Lib.hid (show Lx.datedB (ls s) = true from (Lx.dated_iff _).2 (fun j hj => hall.out j (by omega)))
        go_wp2
        go_ret
        exact ⟨ret_bool hf.out.symm, rfl⟩

/-- Ten bytes that the calendar reads as a date. -/
def gd (l : Lx.Bs) : Bool := decide (parsee (bs l) = 0)

theorem fol_at (s : ByteArray) (n : Nat) (h : n < s.size) : Lx.fol (ls s) n = Lx.inW s[n] := by unfold Lx.fol; rw [ls_get s n h]
theorem fol_out (s : ByteArray) (n : Nat) (h : s.size ≤ n) : Lx.fol (ls s) n = false := by unfold Lx.fol; rw [List.getElem?_eq_none (by rw [ls_len]; exact h)]
theorem ext_ten (s : ByteArray) : s.extract 0 10 = bs ((ls s).take 10) := by rw [ext_bs, List.drop_zero]
theorem ext_pre (s : ByteArray) (n : Nat) : s.extract 0 n = bs ((ls s).take n) := by rw [ext_bs, List.drop_zero]
theorem parsee_two (s : ByteArray) : parsee s = 0 ∨ parsee s = 2 := by
  unfold parsee; split
  · unfold Cal.daye; split <;> simp
  · simp

set_option maxHeartbeats 2000000 in
theorem date_any (s : ByteArray) (w : World) (hL : Lens w) (h10 : 10 ≤ s.size) (hs : s.size ≤ 9223372036854775807) :
    Calls Tryd.prog 57 #[.string s] w fun e w' => e = .returned (.tuple #[.string (bs (Lx.datev gd (ls s)).2), .int .i64 ((Lx.datev gd (ls s)).1 : Int)]) ∧ Below w.heap.size w w' := by
  have HL := Lib.hid hL; clear hL
  have he := Lib.hid (ext_ten s)
  have hz : (s.extract 0 10).size ≤ 9223372036854775807 := by simp; omega
  have cP := Lib.hid (fun W hW => parse_any (s.extract 0 10) W hW hz)
  have key : ∀ W, Lens W → Calls Tryd.prog 63 #[.string (s.extract 0 10)] W fun e w' => e = .returned (.tuple #[.int .i64 (parsev (s.extract 0 10)), .int .i64 (parsee (s.extract 0 10))]) ∧ Below W.heap.size W w' := cP.out
  have KEY := Lib.hid key
  clear key cP hz
  by_cases hf : Lx.fol (ls s) 10 = true
  · have hfin := Lib.hid (show Lx.datev gd (ls s) = (113, []) by unfold Lx.datev; rw [if_pos hf])
    have h11 : 10 < s.size := by
      rcases Nat.lt_or_ge 10 s.size with h | h
      · exact h
      · rw [fol_out s 10 h] at hf; cases hf
    have CI := Lib.hid (fun W => inWord_any s[10] W)
    rw [← fol_at s 10 h11, hf] at CI
    clear hf
    go_enter Tryd.func57, Tryd.ntmps57
    go_wp2_with (go_at_call 35; refine (CI.out _).mono ?_; rintro e w' ⟨rfl, rfl⟩)
    go_ret2
    exact ⟨by rw [hfin.out]; rfl, Below.refl _ _⟩
  · have hdv : Lx.datev gd (ls s) = if gd ((ls s).take 10) = true then (0, (ls s).take 10) else (113, []) := by unfold Lx.datev; rw [if_neg hf]
    have hgd : gd ((ls s).take 10) = decide (parsee (s.extract 0 10) = 0) := by rw [he.out]; rfl
    have hf' : Lx.fol (ls s) 10 = false := by simpa using hf
    clear hf
    have h2 := parsee_two (s.extract 0 10)
    obtain ⟨pe, hpe⟩ : ∃ pe, pe = parsee (s.extract 0 10) := ⟨_, rfl⟩
    rw [← hpe] at h2 hgd KEY
    clear hpe
    by_cases h11 : 10 < s.size
    · have CI := Lib.hid (fun W => inWord_any s[10] W)
      rw [← fol_at s 10 h11, hf'] at CI
      clear hf'
      rcases h2 with rfl | rfl
      · have hfin := Lib.hid (show Lx.datev gd (ls s) = (0, (ls s).take 10) by rw [hdv, hgd]; rfl)
        clear hdv hgd
        go_enter Tryd.func57, Tryd.ntmps57
        go_wp2_with (first | (go_at_call 35; refine (CI.out _).mono ?_; rintro e w' ⟨rfl, rfl⟩) | (go_at_call 63; refine (KEY.out _ HL.out).mono ?_; rintro e w' ⟨rfl, hb⟩))
        go_ret2
        exact ⟨by rw [hfin.out]; exact ret_strint he.out rfl, hb⟩
      · have hfin := Lib.hid (show Lx.datev gd (ls s) = (113, []) by rw [hdv, hgd]; rfl)
        clear hdv hgd
        go_enter Tryd.func57, Tryd.ntmps57
        go_wp2_with (first | (go_at_call 35; refine (CI.out _).mono ?_; rintro e w' ⟨rfl, rfl⟩) | (go_at_call 63; refine (KEY.out _ HL.out).mono ?_; rintro e w' ⟨rfl, hb⟩))
        go_ret2
        exact ⟨by rw [hfin.out]; rfl, hb⟩
    · clear hf'
      rcases h2 with rfl | rfl
      · have hfin := Lib.hid (show Lx.datev gd (ls s) = (0, (ls s).take 10) by rw [hdv, hgd]; rfl)
        clear hdv hgd
        go_enter Tryd.func57, Tryd.ntmps57
        go_wp2_with (go_at_call 63; refine (KEY.out _ HL.out).mono ?_; rintro e w' ⟨rfl, hb⟩)
        go_ret2
        exact ⟨by rw [hfin.out]; exact ret_strint he.out rfl, hb⟩
      · have hfin := Lib.hid (show Lx.datev gd (ls s) = (113, []) by rw [hdv, hgd]; rfl)
        clear hdv hgd
        go_enter Tryd.func57, Tryd.ntmps57
        go_wp2_with (go_at_call 63; refine (KEY.out _ HL.out).mono ?_; rintro e w' ⟨rfl, hb⟩)
        go_ret2
        exact ⟨by rw [hfin.out]; rfl, hb⟩

end Go.Proofs.YthleaigkndfdaaaDoor
