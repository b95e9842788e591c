/- The walk of number. -/
import Derived.Test.YthleaigkndfdaaaDoorLxW3
import Derived.Deep.Cut
namespace Go.Proofs.YthleaigkndfdaaaDoor
open Go.RowKit Go.Shelf

theorem toList_bs (l : Lx.Bs) : (bs l).toList = l := by rw [ByteArray.toList_eq]; rfl
theorem ls_toList (s : ByteArray) : s.toList = ls s := ByteArray.toList_eq s

theorem numbad_chain (r : Lx.Bs) (n : Nat) (fl p1 p2 z : Bool) (hn : Lx.numn r = n) (hf : Lx.fol r n = fl) (h1 : Lx.padB (Lx.num1 r) = p1) (h2 : Lx.padB (Lx.num2 r) = p2) (hz : decide (Lx.num2 r = [48]) = z) :
    Lx.numv r = if (decide (200 < n) || fl || p1 || p2 || z) = true then (112, []) else (0, r.take n) := by
  unfold Lx.numv Lx.numbad
  rw [hn, hf, h1, h2, hz]

set_option maxHeartbeats 8000000 in
set_option maxRecDepth 100000 in
theorem number_any (s : ByteArray) (w : World) (hs : s.size ≤ 1000000) :
    Calls Tryd.prog 58 #[.string s] w fun e w' => e = .returned (.tuple #[.string (bs (Lx.numv (ls s)).2), .int .i64 ((Lx.numv (ls s)).1 : Int)]) ∧ w = w' := by
  have hs' : s.size ≤ 9223372036854775807 := by omega
  have cR1 := Lib.hid (fun W => run_digit s W hs')
  have hle := tw_le Lx.isDg s
  obtain ⟨fs, hfs⟩ : ∃ fs, fs = bs (Lx.num1 (ls s)) := ⟨_, rfl⟩
  have hz1 : fs.size = (Lx.num1 (ls s)).length := by rw [hfs]; rfl
  have hl1 : ls fs = Lx.num1 (ls s) := by rw [hfs]; rfl
  have hcR1 : ∀ W, Calls Tryd.prog 34 #[.string s, .func (.func 49) #[] #[]] W fun e w' => e = .returned (.string fs) ∧ W = w' := by rw [hfs]; exact cR1.out
  have CR1 := Lib.hid hcR1
  have hn1 : fs.size ≤ s.size := by rw [hz1]; exact hle
  have cP1 := padded_any fs
  rw [hl1] at cP1
  obtain ⟨p1, hp1⟩ : ∃ p, p = Lx.padB (Lx.num1 (ls s)) := ⟨_, rfl⟩
  rw [← hp1] at cP1
  have CP1 := Lib.hid cP1
  have hnum := numbad_chain (ls s) (Lx.numn (ls s)) _ p1 _ _ rfl rfl hp1.symm rfl rfl
  have hnle := Lx.num2_pre (ls s)
  rw [ls_len] at hnle
  obtain ⟨n, hn⟩ : ∃ n, n = Lx.numn (ls s) := ⟨_, rfl⟩
  rw [← hn] at hnum hnle
  -- what follows the number
  obtain ⟨fl, hfl⟩ : ∃ fl, fl = Lx.fol (ls s) n := ⟨_, rfl⟩
  rw [← hfl] at hnum
  have hfol : (∃ h : n < s.size, Hid (∀ W, Calls Tryd.prog 35 #[.int .u8 (s[n]'h).toNat] W fun e w' => e = .returned (.bool fl) ∧ W = w')) ∨ (s.size ≤ n ∧ fl = false) := by
    rcases Nat.lt_or_ge n s.size with h | h
    · refine .inl ⟨h, Lib.hid fun W => ?_⟩
      rw [hfl, fol_at s n h]; exact inWord_any _ _
    · exact .inr ⟨h, by rw [hfl]; exact fol_out s n h⟩
  clear hfl cR1 hcR1 cP1 hp1 hle
  have hext := Lib.hid (ext_pre s n)
  by_cases h2 : Lx.num2 (ls s) = []
  · -- one run of digits
    have en : n = fs.size := by rw [hn, hz1]; unfold Lx.numn; rw [if_pos h2]
    subst en
    have hp2 : Lx.padB (Lx.num2 (ls s)) = false := by rw [h2]; rfl
    have hz : decide (Lx.num2 (ls s) = [48]) = false := by rw [h2]; rfl
    rw [hp2, hz] at hnum
    have HN := Lib.hid hnum
    have cP2 := padded_any (bs [])
    have CP2 : Hid (∀ W, Calls Tryd.prog 64 #[.string { data := #[] }] W fun e w' => e = .returned (.bool false) ∧ W = w') := fun W => cP2 W (by decide)
    have hslash : (∃ h : fs.size < s.size, (((s[fs.size]'h).toNat : Int) == 47) = true ∧ Hid (∀ W, Calls Tryd.prog 34 #[.string (s.extract (fs.size + 1) s.size), .func (.func 49) #[] #[]] W fun e w' => e = .returned (.string { data := #[] }) ∧ W = w')) ∨
        (∃ h : fs.size < s.size, (((s[fs.size]'h).toNat : Int) == 47) = false) ∨ s.size ≤ fs.size := by
      rcases Nat.lt_or_ge fs.size s.size with h | h
      · by_cases h47 : s[fs.size] = 47
        · refine .inl ⟨h, by rw [h47]; rfl, Lib.hid fun W => ?_⟩
          have e := run_digit (s.extract (fs.size + 1) s.size) W (by simp; omega)
          have e2 : ls (s.extract (fs.size + 1) s.size) = (ls s).drop (fs.size + 1) := by rw [ls_ext, List.take_of_length_le (by rw [ls_len]; omega)]
          have e3 : ((ls s).drop (fs.size + 1)).takeWhile Lx.isDg = [] := by
            have : Lx.num2 (ls s) = ((ls s).drop (fs.size + 1)).takeWhile Lx.isDg := by
              unfold Lx.num2; rw [← hz1, ls_get s fs.size h, h47, if_pos rfl]
            rw [← this]; exact h2
          rw [e2, e3] at e
          exact e
        · refine .inr (.inl ⟨h, ?_⟩)
          rw [beq_eq_false_iff_ne]
          intro e
          refine h47 (UInt8.toNat_inj.1 ?_)
          have : ((s[fs.size].toNat : Nat) : Int) = ((47 : Nat) : Int) := e
          exact Int.ofNat_inj.1 this
      · exact .inr (.inr h)
    have hn2 : (0 : Int) ≤ (fs.size : Int) + 1 := by omega
    have H2 := Lib.hid h2
    clear hnum hp2 hz hz1 hl1 hn h2 cP2
    have HFS := Lib.hid hfs
    clear hfs
    have hchain : (200 < fs.size ∧ Hid (Lx.numv (ls s) = (112, []))) ∨ (fs.size ≤ 200 ∧ fl = true ∧ Hid (Lx.numv (ls s) = (112, []))) ∨ (fs.size ≤ 200 ∧ fl = false ∧ p1 = true ∧ Hid (Lx.numv (ls s) = (112, []))) ∨
        (fs.size ≤ 200 ∧ fl = false ∧ p1 = false ∧ Hid (Lx.numv (ls s) = (0, (ls s).take fs.size))) := by
      have HN' := HN.out
      by_cases h : 200 < fs.size
      · exact .inl ⟨h, Lib.hid (HN'.trans (if_pos (by simp [h])))⟩
      · cases fl with
        | true => exact .inr (.inl ⟨by omega, rfl, Lib.hid (HN'.trans (if_pos (by simp)))⟩)
        | false =>
          cases p1 with
          | true => exact .inr (.inr (.inl ⟨by omega, rfl, rfl, Lib.hid (HN'.trans (if_pos (by simp)))⟩))
          | false => exact .inr (.inr (.inr ⟨by omega, rfl, rfl, Lib.hid (HN'.trans (if_neg (by simp [h])))⟩))
    clear HN H2 HFS
    rcases hchain with ⟨hc, hfin⟩ | ⟨hc, rfl, hfin⟩ | ⟨hc, rfl, rfl, hfin⟩ | ⟨hc, rfl, rfl, hfin⟩
    all_goals
      rcases hslash with ⟨hlt, h47, hrun⟩ | ⟨hlt, h47⟩ | hge
      all_goals
        rcases hfol with ⟨hlt2, CF⟩ | ⟨hge2, hf0⟩
        all_goals
          try omega
        all_goals
          try (exact Bool.noConfusion hf0)
        all_goals
          try clear hf0
          go_enter Tryd.func58, Tryd.ntmps58
          go_wp2_with (first
            | (go_at_call 34; (first | ((with_reducible refine (CR1.out _).mono ?_); rintro e w' ⟨rfl, rfl⟩) | ((with_reducible refine (hrun.out _).mono ?_); rintro e w' ⟨rfl, rfl⟩)))
            | (go_at_call 35; refine (CF.out _).mono ?_; rintro e w' ⟨rfl, rfl⟩)
            | (go_at_call 64; (first | ((with_reducible refine (CP1.out _ (by omega)).mono ?_); rintro e w' ⟨rfl, rfl⟩) | ((with_reducible refine (CP2.out _).mono ?_); rintro e w' ⟨rfl, rfl⟩))))
          go_ret2
          exact ⟨by rw [hfin.out]; first | rfl | exact ret_strint hext.out rfl, rfl⟩
  · -- a fraction
    have h47' : (ls s)[(Lx.num1 (ls s)).length]? = some 47 := by
      unfold Lx.num2 at h2; split at h2
      · assumption
      · exact absurd rfl h2
    have hlt : fs.size < s.size := by
      rcases Nat.lt_or_ge fs.size s.size with h | h
      · exact h
      · rw [← hz1, List.getElem?_eq_none (by rw [ls_len]; exact h)] at h47'; cases h47'
    have h47 : ((s[fs.size].toNat : Int) == 47) = true := by
      rw [← hz1, ls_get s _ hlt, Option.some.injEq] at h47'
      rw [h47']; rfl
    obtain ⟨ss, hss⟩ : ∃ ss, ss = bs (Lx.num2 (ls s)) := ⟨_, rfl⟩
    have hz2 : ss.size = (Lx.num2 (ls s)).length := by rw [hss]; rfl
    have en : fs.size + (1 + ss.size) = n := by rw [hn, hz1, hz2]; unfold Lx.numn; rw [if_neg h2]; omega
    have hrun : Hid (∀ W, Calls Tryd.prog 34 #[.string (s.extract (fs.size + 1) s.size), .func (.func 49) #[] #[]] W fun e w' => e = .returned (.string ss) ∧ W = w') := fun W => by
      have e := run_digit (s.extract (fs.size + 1) s.size) W (by simp; omega)
      have e2 : ls (s.extract (fs.size + 1) s.size) = (ls s).drop (fs.size + 1) := by rw [ls_ext, List.take_of_length_le (by rw [ls_len]; omega)]
      have e3 : ((ls s).drop (fs.size + 1)).takeWhile Lx.isDg = Lx.num2 (ls s) := by unfold Lx.num2; rw [h47', if_pos rfl, hz1]
      rw [e2, e3, ← hss] at e
      exact e
    obtain ⟨p2, hp2⟩ : ∃ p, p = Lx.padB (Lx.num2 (ls s)) := ⟨_, rfl⟩
    rw [← hp2] at hnum
    have cP2 := padded_any ss
    rw [show ls ss = Lx.num2 (ls s) by rw [hss]; rfl, ← hp2] at cP2
    have CP2 := Lib.hid cP2
    obtain ⟨z, hz⟩ : ∃ z, z = decide (Lx.num2 (ls s) = [48]) := ⟨_, rfl⟩
    rw [← hz] at hnum
    have hne : ss.toList.isEmpty = false := by rw [ls_toList, show ls ss = Lx.num2 (ls s) by rw [hss]; rfl]; simpa using h2
    have hz48 : (ss.toList == [48]) = z := by rw [hz, ls_toList, show ls ss = Lx.num2 (ls s) by rw [hss]; rfl, Bool.eq_iff_iff, beq_iff_eq, decide_eq_true_eq]
    have hsz : ss.size ≤ s.size := by omega
    have hchain : (200 < n ∧ Hid (Lx.numv (ls s) = (112, []))) ∨ (n ≤ 200 ∧ fl = true ∧ Hid (Lx.numv (ls s) = (112, []))) ∨ (n ≤ 200 ∧ fl = false ∧ p1 = true ∧ Hid (Lx.numv (ls s) = (112, []))) ∨
        (n ≤ 200 ∧ fl = false ∧ p1 = false ∧ p2 = true ∧ Hid (Lx.numv (ls s) = (112, []))) ∨ (n ≤ 200 ∧ fl = false ∧ p1 = false ∧ p2 = false ∧ z = true ∧ Hid (Lx.numv (ls s) = (112, []))) ∨
        (n ≤ 200 ∧ fl = false ∧ p1 = false ∧ p2 = false ∧ z = false ∧ Hid (Lx.numv (ls s) = (0, (ls s).take n))) := by
      by_cases h : 200 < n
      · exact .inl ⟨h, Lib.hid (hnum.trans (if_pos (by simp [h])))⟩
      · have h' : n ≤ 200 := by omega
        cases fl with
        | true => exact .inr (.inl ⟨h', rfl, Lib.hid (hnum.trans (if_pos (by simp)))⟩)
        | false =>
          cases p1 with
          | true => exact .inr (.inr (.inl ⟨h', rfl, rfl, Lib.hid (hnum.trans (if_pos (by simp)))⟩))
          | false =>
            cases p2 with
            | true => exact .inr (.inr (.inr (.inl ⟨h', rfl, rfl, rfl, Lib.hid (hnum.trans (if_pos (by simp)))⟩)))
            | false =>
              cases z with
              | true => exact .inr (.inr (.inr (.inr (.inl ⟨h', rfl, rfl, rfl, rfl, Lib.hid (hnum.trans (if_pos (by simp)))⟩))))
              | false => exact .inr (.inr (.inr (.inr (.inr ⟨h', rfl, rfl, rfl, rfl, Lib.hid (hnum.trans (if_neg (by simp [h])))⟩))))
    have hn2 : (0 : Int) ≤ (fs.size : Int) + 1 := by omega
    have hb1 : (fs.size : Int) + (1 + (ss.size : Int)) ≤ 1000000 := by omega
    have EN := Lib.hid (show (fs.size : Int) + (1 + (ss.size : Int)) = (n : Int) by omega)
    clear hnum hp2 hz hz1 hl1 hn h2 cP2 hss h47' hz2 en hfs
    rcases hchain with ⟨hc, hfin⟩ | ⟨hc, rfl, hfin⟩ | ⟨hc, rfl, rfl, hfin⟩ | ⟨hc, rfl, rfl, rfl, hfin⟩ | ⟨hc, rfl, rfl, rfl, rfl, hfin⟩ | ⟨hc, rfl, rfl, rfl, rfl, hfin⟩
    all_goals
      rcases hfol with ⟨hlt2, CF⟩ | ⟨hge2, hf0⟩
      all_goals
        try (exact Bool.noConfusion hf0)
      all_goals
        try clear hf0
        go_enter Tryd.func58, Tryd.ntmps58
        go_wp2_with fail
        refine (CR1.out _).mono ?_; rintro e w' ⟨rfl, rfl⟩
        go_wp2_with fail
        refine (hrun.out _).mono ?_; rintro e w' ⟨rfl, rfl⟩
        go_upto_region 8 with (fail)
        rw [EN.out]
        go_wp2_with (first
          | (go_at_call 35; refine (CF.out _).mono ?_; rintro e w' ⟨rfl, rfl⟩)
          | (go_at_call 64; (first | ((with_reducible refine (CP1.out _ (by omega)).mono ?_); rintro e w' ⟨rfl, rfl⟩) | ((with_reducible refine (CP2.out _ (by omega)).mono ?_); rintro e w' ⟨rfl, rfl⟩))))
        go_ret2
        exact ⟨by rw [hfin.out]; first | rfl | exact ret_strint hext.out rfl, rfl⟩

end Go.Proofs.YthleaigkndfdaaaDoor
