/- The walk of Parse. -/
import Derived.Test.YtncnmokaamjlbaaDoorCalW6
import Derived.Deep.RegionWith
namespace Go.Proofs.YtncnmokaamjlbaaDoor
open Go.RowKit

/-- A text has the form of a date: four digits, -, two digits, -, two digits. -/
def PForm (s : ByteArray) : Bool := s.size == 10 && s.data.toList[4]? == some 45 && s.data.toList[7]? == some 45 && (allD (s.extract 0 4).data.toList && allD (s.extract 5 7).data.toList && allD (s.extract 8 s.size).data.toList)
def pY (s : ByteArray) : Int := numL (s.extract 0 4).data.toList
def pM (s : ByteArray) : Int := numL (s.extract 5 7).data.toList
def pD (s : ByteArray) : Int := numL (s.extract 8 s.size).data.toList
def parsev (s : ByteArray) : Int := if PForm s = true then Cal.dayv (pY s) (pM s) (pD s) else 0
def parsee (s : ByteArray) : Int := if PForm s = true then Cal.daye (pY s) (pM s) (pD s) else 2

theorem numbers_yes (s0 s1 s2 : ByteArray) (n0 n1 n2 : Int) (B N : Nat) (w : World) (hN : N = w.heap.size) (hB : B < w.heap.size)
    (h0 : s0.size ≤ 4) (h1 : s1.size ≤ 4) (h2 : s2.size ≤ 4)
    (hc0 : w.cell? ⟨B, 0, none⟩ = some (.string s0)) (hc1 : w.cell? ⟨B, 1, none⟩ = some (.string s1)) (hc2 : w.cell? ⟨B, 2, none⟩ = some (.string s2))
    (ha : Hid ((allD s0.data.toList && allD s1.data.toList && allD s2.data.toList) = true))
    (hn : Hid (numL s0.data.toList = n0 ∧ numL s1.data.toList = n1 ∧ numL s2.data.toList = n2)) :
    Calls Tryd.prog 47 #[.slice (some ⟨B, 0, none⟩) 3 3] w fun e w' =>
      e = .returned (.tuple #[.slice (some ⟨N, 0, none⟩) 3 3, .bool true]) ∧ w'.cell? ⟨N, 0, none⟩ = some (.int .i64 n0) ∧ w'.cell? ⟨N, 1, none⟩ = some (.int .i64 n1) ∧ w'.cell? ⟨N, 2, none⟩ = some (.int .i64 n2) ∧ Below w.heap.size w w' := by
  subst hN
  refine (numbers_any s0 s1 s2 B w hB h0 h1 h2 hc0 hc1 hc2).mono ?_
  rintro e w' (⟨_, he, k, hw⟩ | ⟨hf, _⟩)
  · rw [hn.out.1, hn.out.2.1, hn.out.2.2] at hw
    subst hw
    exact ⟨he, by simp [go_sem], by simp [go_sem], by simp [go_sem], below_drewN ((Below.refl _ _).alloc (Nat.le_refl _) _) _⟩
  · rw [ha.out] at hf; cases hf

theorem numbers_no (s0 s1 s2 : ByteArray) (B : Nat) (w : World) (hB : B < w.heap.size)
    (h0 : s0.size ≤ 4) (h1 : s1.size ≤ 4) (h2 : s2.size ≤ 4)
    (hc0 : w.cell? ⟨B, 0, none⟩ = some (.string s0)) (hc1 : w.cell? ⟨B, 1, none⟩ = some (.string s1)) (hc2 : w.cell? ⟨B, 2, none⟩ = some (.string s2))
    (ha : Hid ((allD s0.data.toList && allD s1.data.toList && allD s2.data.toList) = false)) :
    Calls Tryd.prog 47 #[.slice (some ⟨B, 0, none⟩) 3 3] w fun e w' =>
      e = .returned (.tuple #[.slice none 0 0, .bool false]) ∧ Below w.heap.size w w' := by
  refine (numbers_any s0 s1 s2 B w hB h0 h1 h2 hc0 hc1 hc2).mono ?_
  rintro e w' (⟨hf, _⟩ | ⟨_, he, hw⟩)
  · rw [ha.out] at hf; cases hf
  · exact ⟨he, hw⟩

theorem part_bd (s : ByteArray) (h : s.size ≤ 4) (ha : allD s.data.toList = true) : 0 ≤ numL s.data.toList ∧ numL s.data.toList ≤ 9999 := by
  have := numL_small s s.size (Nat.le_refl _) h (by rw [take_all]; exact ha)
  rwa [take_all] at this

theorem pform_no4 (s : ByteArray) (l : 4 < s.size) (h : s[4] ≠ 45) : PForm s = false := by
  have : s.data.toList[4]? = some s[4] := by rw [List.getElem?_eq_getElem (by simpa using l)]; rfl
  unfold PForm
  rw [this]
  have h' : (some s[4] == some (45 : UInt8)) = false := by simpa using h
  rw [h']; simp

theorem pform_no7 (s : ByteArray) (l : 7 < s.size) (h : s[7] ≠ 45) : PForm s = false := by
  have : s.data.toList[7]? = some s[7] := by rw [List.getElem?_eq_getElem (by simpa using l)]; rfl
  unfold PForm
  rw [this]
  have h' : (some s[7] == some (45 : UInt8)) = false := by simpa using h
  rw [h']; simp

theorem pform_is (s : ByteArray) (l4 : 4 < s.size) (l7 : 7 < s.size) (h10 : s.size = 10) (h4 : s[4] = 45) (h7 : s[7] = 45) : PForm s = (allD (s.extract 0 4).data.toList && allD (s.extract 5 7).data.toList && allD (s.extract 8 s.size).data.toList) := by
  have e4 : s.data.toList[4]? = some s[4] := by rw [List.getElem?_eq_getElem (by simpa using l4)]; rfl
  have e7 : s.data.toList[7]? = some s[7] := by rw [List.getElem?_eq_getElem (by simpa using l7)]; rfl
  unfold PForm
  rw [e4, e7, h4, h7, h10]
  simp

set_option maxHeartbeats 4000000 in
set_option maxRecDepth 100000 in
theorem parse_any (s : ByteArray) (w : World) (hL : Lens w) (hs : s.size ≤ 9223372036854775807) :
    Calls Tryd.prog 33 #[.string s] w fun e w' => e = .returned (.tuple #[.int .i64 (parsev s), .int .i64 (parsee s)]) ∧ Below w.heap.size w w' := by
  have HL := Lib.hid hL; clear hL
  have no : PForm s = false → parsev s = 0 ∧ parsee s = 2 := fun h => by unfold parsev parsee; rw [h]; exact ⟨rfl, rfl⟩
  by_cases h10 : s.size = 10
  · have l4 : 4 < s.size := by omega
    have l7 : 7 < s.size := by omega
    have z1 : s.size ≤ 10 ∧ 10 ≤ s.size := by omega
    have H10 := Lib.hid h10
    clear h10
    by_cases h4 : s[4]'l4 = 45
    · by_cases h7 : s[7]'l7 = 45
      · have b4 : (((s[4]'l4).toNat : Int) != 45) = false := by rw [h4]; rfl
        have b7 : (((s[7]'l7).toNat : Int) != 45) = false := by rw [h7]; rfl
        have hP := pform_is s l4 l7 H10.out h4 h7
        clear h4 h7
        by_cases ha : (allD (s.extract 0 4).data.toList && allD (s.extract 5 7).data.toList && allD (s.extract 8 s.size).data.toList) = true
        · have hP' : PForm s = true := hP.trans ha
          have hf := Lib.hid (show parsev s = Cal.dayv (pY s) (pM s) (pD s) ∧ parsee s = Cal.daye (pY s) (pM s) (pD s) by unfold parsev parsee; rw [if_pos hP', if_pos hP']; exact ⟨rfl, rfl⟩)
          have Ha := Lib.hid ha
          have Hn := Lib.hid (show numL (s.extract 0 4).data.toList = pY s ∧ numL (s.extract 5 7).data.toList = pM s ∧ numL (s.extract 8 s.size).data.toList = pD s from ⟨rfl, rfl, rfl⟩)
          have hcall := Lib.hid (numbers_yes (s.extract 0 4) (s.extract 5 7) (s.extract 8 s.size) (pY s) (pM s) (pD s) w.heap.size (w.heap.size + 1) ((w.alloc (.cells #[.string (s.extract 0 4), .string (s.extract 5 7), .string (s.extract 8 s.size)] 9)).drew) (by simp [go_sem]) (by simp [go_sem]) (by simp; omega) (by simp; omega) (by simp; omega) (by simp [go_sem]) (by simp [go_sem]) (by simp [go_sem]) Ha Hn)
          have hpd := (part_bd (s.extract 8 s.size) (by simp; omega) (by rw [Bool.and_eq_true] at ha; exact ha.2)).2
          rw [Hn.out.2.2] at hpd
          clear ha hP hP' no Ha Hn
          go_enter Tryd.func33, Tryd.ntmps33
          go_wp2
          go_region_with (go_at_call 47; (with_reducible refine hcall.out.mono ?_); rintro e w3 ⟨rfl, c0, c1, c2, hb3⟩)
          clear hcall
          have B3 := Lib.hid (show Below w.heap.size w w3 from ((Below.refl _ _).alloc (Nat.le_refl _) _).drew.trans (hb3.mono (by simp [go_sem])))
          have HL3 := Lib.hid (HL.out.below B3.out)
          clear hb3
          go_wp2
          go_quiet ((go_at_call 15; exact quiet_left (day_any _ _ _ _ (HL3.out.drewN _) (by omega))))
          go_wp2
          go_ret2
          exact ⟨ret_two hf.out.1.symm hf.out.2.symm, below_drewN B3.out _⟩
        · have ha' : (allD (s.extract 0 4).data.toList && allD (s.extract 5 7).data.toList && allD (s.extract 8 s.size).data.toList) = false := by simpa using ha
          have hf := Lib.hid (no (hP.trans ha'))
          have Ha := Lib.hid ha'
          have hcall := Lib.hid (numbers_no (s.extract 0 4) (s.extract 5 7) (s.extract 8 s.size) w.heap.size ((w.alloc (.cells #[.string (s.extract 0 4), .string (s.extract 5 7), .string (s.extract 8 s.size)] 9)).drew) (by simp [go_sem]) (by simp; omega) (by simp; omega) (by simp; omega) (by simp [go_sem]) (by simp [go_sem]) (by simp [go_sem]) Ha)
          clear ha ha' hP no Ha
          go_enter Tryd.func33, Tryd.ntmps33
          go_wp2
          go_region_with (go_at_call 47; (with_reducible refine hcall.out.mono ?_); rintro e w3 ⟨rfl, hb3⟩)
          clear hcall
          have B3 := Lib.hid (show Below w.heap.size w w3 from ((Below.refl _ _).alloc (Nat.le_refl _) _).drew.trans (hb3.mono (by simp [go_sem])))
          clear hb3
          go_wp2
          go_ret2
          exact ⟨ret_two hf.out.1.symm hf.out.2.symm, B3.out⟩
      · have b4 : (((s[4]'l4).toNat : Int) != 45) = false := by rw [h4]; rfl
        have b7 : (((s[7]'l7).toNat : Int) != 45) = true := bne_iff_ne.2 (fun e => h7 (UInt8.toNat.inj (by have : ((s[7]'l7).toNat : Int) = 45 := e; show _ = 45; omega)))
        have hf := Lib.hid (no (pform_no7 s l7 h7))
        clear h4 h7 no
        go_enter Tryd.func33, Tryd.ntmps33
        go_wp2
        go_ret2
        exact ⟨ret_two hf.out.1.symm hf.out.2.symm, Below.refl _ _⟩
    · have b4 : (((s[4]'l4).toNat : Int) != 45) = true := bne_iff_ne.2 (fun e => h4 (UInt8.toNat.inj (by have : ((s[4]'l4).toNat : Int) = 45 := e; show _ = 45; omega)))
      have hf := Lib.hid (no (pform_no4 s l4 h4))
      clear h4 no
      go_enter Tryd.func33, Tryd.ntmps33
      go_wp2
      go_ret2
      exact ⟨ret_two hf.out.1.symm hf.out.2.symm, Below.refl _ _⟩
  · have hf := Lib.hid (no (by unfold PForm; rw [beq_eq_false_iff_ne.2 h10]; simp))
    have b10 : ((s.size : Int) != 10) = true := bne_iff_ne.2 (by omega)
    clear no h10
    go_enter Tryd.func33, Tryd.ntmps33
    go_wp2
    go_ret2
    exact ⟨ret_two hf.out.1.symm hf.out.2.symm, Below.refl _ _⟩

end Go.Proofs.YtncnmokaamjlbaaDoor
