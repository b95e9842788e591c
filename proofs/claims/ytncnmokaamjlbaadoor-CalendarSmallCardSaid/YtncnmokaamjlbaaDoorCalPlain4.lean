/- Plain laws of texts of dates: a text of ten bytes, its numbers, and the text of the date that they make. -/
import Derived.Test.YtncnmokaamjlbaaDoorCalW7
import Derived.Test.YtncnmokaamjlbaaDoorCalPlain3
namespace Go.Proofs.YtncnmokaamjlbaaDoor
open Go.RowKit

theorem ten (s : ByteArray) (h : s.size = 10) : ∃ a0 a1 a2 a3 a4 a5 a6 a7 a8 a9 : UInt8, s = ⟨#[a0, a1, a2, a3, a4, a5, a6, a7, a8, a9]⟩ := by
  obtain ⟨⟨l⟩⟩ := s
  have hl : l.length = 10 := h
  match l, hl with
  | [a0, a1, a2, a3, a4, a5, a6, a7, a8, a9], _ => exact ⟨a0, a1, a2, a3, a4, a5, a6, a7, a8, a9, rfl⟩

theorem byte_back (c : UInt8) (n : Int) (h : n = c.toNat) : UInt8.ofNat n.toNat = c := by
  rw [h, Int.toNat_natCast]; exact UInt8.ofNat_toNat

/-- The text of numbers that digits spell is those digits. -/
theorem txt_back (a0 a1 a2 a3 b0 b1 c0 c1 : UInt8) (hy : allD [a0, a1, a2, a3] = true) (hm : allD [b0, b1] = true) (hd : allD [c0, c1] = true) :
    txt (numL [a0, a1, a2, a3]) (numL [b0, b1]) (numL [c0, c1]) = ⟨#[a0, a1, a2, a3, 45, b0, b1, 45, c0, c1]⟩ := by
  simp only [allD, List.all_cons, List.all_nil, Bool.and_true, Bool.and_eq_true, isDg_iff] at hy hm hd
  have hY : numL [a0, a1, a2, a3] = 1000 * ((a0.toNat : Int) - 48) + 100 * ((a1.toNat : Int) - 48) + 10 * ((a2.toNat : Int) - 48) + ((a3.toNat : Int) - 48) := by
    simp only [numL, List.foldl_cons, List.foldl_nil]; omega
  have hM : numL [b0, b1] = 10 * ((b0.toNat : Int) - 48) + ((b1.toNat : Int) - 48) := by
    simp only [numL, List.foldl_cons, List.foldl_nil]; omega
  have hC : numL [c0, c1] = 10 * ((c0.toNat : Int) - 48) + ((c1.toNat : Int) - 48) := by
    simp only [numL, List.foldl_cons, List.foldl_nil]; omega
  generalize numL [a0, a1, a2, a3] = Y at *
  generalize numL [b0, b1] = M at *
  generalize numL [c0, c1] = C at *
  unfold txt strOfNums
  simp only [List.map_cons, List.map_nil]
  rw [byte_back a0 (48 + Y / 10 / 10 / 10 % 10) (by omega), byte_back a1 (48 + Y / 10 / 10 % 10) (by omega), byte_back a2 (48 + Y / 10 % 10) (by omega), byte_back a3 (48 + Y % 10) (by omega), byte_back b0 (48 + M / 10 % 10) (by omega), byte_back b1 (48 + M % 10) (by omega), byte_back c0 (48 + C / 10 % 10) (by omega), byte_back c1 (48 + C % 10) (by omega)]
  rfl

/-- What a date's text has in its places. -/
theorem text_day {y m d : Int} (h : Cal.DayOk y m d) : textv (Cal.dayv y m d) = txt y m d := by
  obtain ⟨h1, h2, h3, h4, h5, h6, h7⟩ := h
  have hok : Cal.DayOk y m d := ⟨h1, h2, h3, h4, h5, h6, h7⟩
  have hv : Cal.dayv y m d = Cal.st (Cal.mnum y m) + d - 1 := by unfold Cal.dayv; rw [if_pos hok]
  have hn := Cal.st_nonneg (Cal.mnum y m)
  have he := Cal.mnum_eq y m h1 h3 h4
  have hl := Cal.len_month (Cal.mnum y m)
  rw [he.1, he.2] at hl
  have hD : Cal.IsD (Cal.dayv y m d) := by rw [hv]; exact ⟨by omega, h7⟩
  have hmo : Cal.mo (Cal.dayv y m d) = Cal.mnum y m := Cal.mo_eq (by rw [hv]; omega) (by rw [hv]; omega)
  obtain ⟨e1, e2, e3, _⟩ := Cal.isD_val hD
  unfold textv
  rw [if_pos hD, e1, e2, e3, hmo, he.1, he.2, hv]
  congr 1
  omega

def valI (l : List UInt8) : Int := if allD l = true then numL l else -1

theorem ref_parse (s : ByteArray) (h : s.size = 10) :
    (Cal.daye (valI (s.extract 0 4).data.toList) (valI (s.extract 5 7).data.toList) (valI (s.extract 8 s.size).data.toList) = 2 ∧ parsev s = 0 ∧ parsee s = 2) ∨
    (∃ day, Cal.dayv (valI (s.extract 0 4).data.toList) (valI (s.extract 5 7).data.toList) (valI (s.extract 8 s.size).data.toList) = day ∧ Cal.daye (valI (s.extract 0 4).data.toList) (valI (s.extract 5 7).data.toList) (valI (s.extract 8 s.size).data.toList) = 0 ∧
      ((textv day = s ∧ parsev s = day ∧ parsee s = 0) ∨ (textv day ≠ s ∧ parsev s = 0 ∧ parsee s = 2))) := by
  obtain ⟨a0, a1, a2, a3, a4, a5, a6, a7, a8, a9, rfl⟩ := ten s h
  have x0 : ((⟨#[a0, a1, a2, a3, a4, a5, a6, a7, a8, a9]⟩ : ByteArray).extract 0 4).data.toList = [a0, a1, a2, a3] := by simp
  have x1 : ((⟨#[a0, a1, a2, a3, a4, a5, a6, a7, a8, a9]⟩ : ByteArray).extract 5 7).data.toList = [a5, a6] := by simp
  have x2 : ((⟨#[a0, a1, a2, a3, a4, a5, a6, a7, a8, a9]⟩ : ByteArray).extract 8 (⟨#[a0, a1, a2, a3, a4, a5, a6, a7, a8, a9]⟩ : ByteArray).size).data.toList = [a8, a9] := by simp [ByteArray.size]
  have hP : PForm ⟨#[a0, a1, a2, a3, a4, a5, a6, a7, a8, a9]⟩ = (a4 == 45 && a7 == 45 && (allD [a0, a1, a2, a3] && allD [a5, a6] && allD [a8, a9])) := by
    unfold PForm
    rw [x0, x1, x2]
    simp [ByteArray.size]
  have hV : parsev ⟨#[a0, a1, a2, a3, a4, a5, a6, a7, a8, a9]⟩ = if (a4 == 45 && a7 == 45 && (allD [a0, a1, a2, a3] && allD [a5, a6] && allD [a8, a9])) = true then Cal.dayv (numL [a0, a1, a2, a3]) (numL [a5, a6]) (numL [a8, a9]) else 0 := by
    unfold parsev pY pM pD; rw [hP, x0, x1, x2]
  have hE : parsee ⟨#[a0, a1, a2, a3, a4, a5, a6, a7, a8, a9]⟩ = if (a4 == 45 && a7 == 45 && (allD [a0, a1, a2, a3] && allD [a5, a6] && allD [a8, a9])) = true then Cal.daye (numL [a0, a1, a2, a3]) (numL [a5, a6]) (numL [a8, a9]) else 2 := by
    unfold parsee pY pM pD; rw [hP, x0, x1, x2]
  rw [x0, x1, x2, hV, hE]
  clear hP hV hE x0 x1 x2 h
  by_cases hok : Cal.DayOk (valI [a0, a1, a2, a3]) (valI [a5, a6]) (valI [a8, a9])
  · right
    have d0 : allD [a0, a1, a2, a3] = true := by
      by_cases c : allD [a0, a1, a2, a3] = true
      · exact c
      · have := hok.1; unfold valI at this; rw [if_neg c] at this; omega
    have d1 : allD [a5, a6] = true := by
      by_cases c : allD [a5, a6] = true
      · exact c
      · have := hok.2.2.1; unfold valI at this; rw [if_neg c] at this; omega
    have d2 : allD [a8, a9] = true := by
      by_cases c : allD [a8, a9] = true
      · exact c
      · have := hok.2.2.2.2.1; unfold valI at this; rw [if_neg c] at this; omega
    have v0 : valI [a0, a1, a2, a3] = numL [a0, a1, a2, a3] := by unfold valI; rw [if_pos d0]
    have v1 : valI [a5, a6] = numL [a5, a6] := by unfold valI; rw [if_pos d1]
    have v2 : valI [a8, a9] = numL [a8, a9] := by unfold valI; rw [if_pos d2]
    rw [v0, v1, v2] at hok ⊢
    have he : Cal.daye (numL [a0, a1, a2, a3]) (numL [a5, a6]) (numL [a8, a9]) = 0 := by unfold Cal.daye; rw [if_pos hok]
    refine ⟨_, rfl, he, ?_⟩
    rw [text_day hok, txt_back a0 a1 a2 a3 a5 a6 a8 a9 d0 d1 d2, d0, d1, d2, he]
    by_cases e4 : a4 = 45
    · by_cases e7 : a7 = 45
      · subst e4 e7; left; simp
      · right
        refine ⟨fun x => e7 ?_, ?_, ?_⟩
        · simp at x; exact x.2.symm
        · rw [if_neg (by simp [e7])]
        · rw [if_neg (by simp [e7])]
    · right
      refine ⟨fun x => e4 ?_, ?_, ?_⟩
      · simp at x; exact x.1.symm
      · rw [if_neg (by simp [e4])]
      · rw [if_neg (by simp [e4])]
  · left
    refine ⟨by unfold Cal.daye; rw [if_neg hok], ?_, ?_⟩
    · split
      · rename_i c
        simp only [Bool.and_eq_true] at c
        have v0 : valI [a0, a1, a2, a3] = numL [a0, a1, a2, a3] := by unfold valI; rw [if_pos c.2.1.1]
        have v1 : valI [a5, a6] = numL [a5, a6] := by unfold valI; rw [if_pos c.2.1.2]
        have v2 : valI [a8, a9] = numL [a8, a9] := by unfold valI; rw [if_pos c.2.2]
        rw [v0, v1, v2] at hok
        unfold Cal.dayv; rw [if_neg hok]
      · rfl
    · split
      · rename_i c
        simp only [Bool.and_eq_true] at c
        have v0 : valI [a0, a1, a2, a3] = numL [a0, a1, a2, a3] := by unfold valI; rw [if_pos c.2.1.1]
        have v1 : valI [a5, a6] = numL [a5, a6] := by unfold valI; rw [if_pos c.2.1.2]
        have v2 : valI [a8, a9] = numL [a8, a9] := by unfold valI; rw [if_pos c.2.2]
        rw [v0, v1, v2] at hok
        unfold Cal.daye; rw [if_neg hok]
      · rfl

end Go.Proofs.YtncnmokaamjlbaaDoor
