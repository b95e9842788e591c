/- The walk of the law CalendarTexts: the text of a date leads back to it; texts are ordered as dates. -/
import Derived.Test.YtncnmokaamjlbaaDoorCalR5
import Derived.Test.YtncnmokaamjlbaaDoorCalLaw2
namespace Go.Proofs.YtncnmokaamjlbaaDoor
open Go.RowKit

theorem byte_nat (n : Int) (h0 : 0 ≤ n) (h1 : n ≤ 255) : ((UInt8.ofNat n.toNat).toNat : Int) = n := by
  rw [UInt8.toNat_ofNat']
  omega

/-- The text of numbers, read. -/
theorem txt_read (y m d : Int) (hy0 : 0 ≤ y) (hy1 : y ≤ 9999) (hm0 : 0 ≤ m) (hm1 : m ≤ 99) (hd0 : 0 ≤ d) (hd1 : d ≤ 99) :
    (txt y m d).size = 10 ∧ PForm (txt y m d) = true ∧ pY (txt y m d) = y ∧ pM (txt y m d) = m ∧ pD (txt y m d) = d := by
  obtain ⟨a0, e0⟩ : ∃ a0, a0 = UInt8.ofNat (48 + y / 10 / 10 / 10 % 10).toNat := ⟨_, rfl⟩
  obtain ⟨a1, e1⟩ : ∃ a1, a1 = UInt8.ofNat (48 + y / 10 / 10 % 10).toNat := ⟨_, rfl⟩
  obtain ⟨a2, e2⟩ : ∃ a2, a2 = UInt8.ofNat (48 + y / 10 % 10).toNat := ⟨_, rfl⟩
  obtain ⟨a3, e3⟩ : ∃ a3, a3 = UInt8.ofNat (48 + y % 10).toNat := ⟨_, rfl⟩
  obtain ⟨b0, f0⟩ : ∃ b0, b0 = UInt8.ofNat (48 + m / 10 % 10).toNat := ⟨_, rfl⟩
  obtain ⟨b1, f1⟩ : ∃ b1, b1 = UInt8.ofNat (48 + m % 10).toNat := ⟨_, rfl⟩
  obtain ⟨c0, g0⟩ : ∃ c0, c0 = UInt8.ofNat (48 + d / 10 % 10).toNat := ⟨_, rfl⟩
  obtain ⟨c1, g1⟩ : ∃ c1, c1 = UInt8.ofNat (48 + d % 10).toNat := ⟨_, rfl⟩
  have ht : txt y m d = ⟨#[a0, a1, a2, a3, 45, b0, b1, 45, c0, c1]⟩ := by
    unfold txt strOfNums
    rw [e0, e1, e2, e3, f0, f1, g0, g1]
    rfl
  have n0 : (a0.toNat : Int) = 48 + y / 10 / 10 / 10 % 10 := by rw [e0]; exact byte_nat _ (by omega) (by omega)
  have n1 : (a1.toNat : Int) = 48 + y / 10 / 10 % 10 := by rw [e1]; exact byte_nat _ (by omega) (by omega)
  have n2 : (a2.toNat : Int) = 48 + y / 10 % 10 := by rw [e2]; exact byte_nat _ (by omega) (by omega)
  have n3 : (a3.toNat : Int) = 48 + y % 10 := by rw [e3]; exact byte_nat _ (by omega) (by omega)
  have p0 : (b0.toNat : Int) = 48 + m / 10 % 10 := by rw [f0]; exact byte_nat _ (by omega) (by omega)
  have p1 : (b1.toNat : Int) = 48 + m % 10 := by rw [f1]; exact byte_nat _ (by omega) (by omega)
  have q0 : (c0.toNat : Int) = 48 + d / 10 % 10 := by rw [g0]; exact byte_nat _ (by omega) (by omega)
  have q1 : (c1.toNat : Int) = 48 + d % 10 := by rw [g1]; exact byte_nat _ (by omega) (by omega)
  rw [ht]
  clear ht e0 e1 e2 e3 f0 f1 g0 g1
  have x0 : ((⟨#[a0, a1, a2, a3, 45, b0, b1, 45, c0, c1]⟩ : ByteArray).extract 0 4).data.toList = [a0, a1, a2, a3] := by simp
  have x1 : ((⟨#[a0, a1, a2, a3, 45, b0, b1, 45, c0, c1]⟩ : ByteArray).extract 5 7).data.toList = [b0, b1] := by simp
  have x2 : ((⟨#[a0, a1, a2, a3, 45, b0, b1, 45, c0, c1]⟩ : ByteArray).extract 8 (⟨#[a0, a1, a2, a3, 45, b0, b1, 45, c0, c1]⟩ : ByteArray).size).data.toList = [c0, c1] := by simp [ByteArray.size]
  refine ⟨rfl, ?_, ?_, ?_, ?_⟩
  · have d0 : allD [a0, a1, a2, a3] = true := by
      simp only [allD, List.all_cons, List.all_nil, Bool.and_true, Bool.and_eq_true, isDg_iff]; omega
    have d1 : allD [b0, b1] = true := by
      simp only [allD, List.all_cons, List.all_nil, Bool.and_true, Bool.and_eq_true, isDg_iff]; omega
    have d2 : allD [c0, c1] = true := by
      simp only [allD, List.all_cons, List.all_nil, Bool.and_true, Bool.and_eq_true, isDg_iff]; omega
    unfold PForm
    rw [x0, x1, x2, d0, d1, d2]
    simp [ByteArray.size]
  · unfold pY; rw [x0]; simp only [numL, List.foldl_cons, List.foldl_nil]; omega
  · unfold pM; rw [x1]; simp only [numL, List.foldl_cons, List.foldl_nil]; omega
  · unfold pD; rw [x2]; simp only [numL, List.foldl_cons, List.foldl_nil]; omega

theorem text_read (a : Int) (h : Cal.IsD a) : (textv a).size = 10 ∧ parsev (textv a) = a ∧ parsee (textv a) = 0 := by
  have hb := Cal.yv_bd a h
  have hr := txt_read (Cal.yv a) (Cal.mv a) (Cal.dv a) (by omega) (by omega) (by omega) (by omega) (by omega) (by omega)
  have ht : textv a = txt (Cal.yv a) (Cal.mv a) (Cal.dv a) := by unfold textv; rw [if_pos h]
  have hd := Cal.day_back h
  rw [ht]
  unfold parsev parsee
  rw [if_pos hr.2.1, if_pos hr.2.1, hr.2.2.1, hr.2.2.2.1, hr.2.2.2.2]
  exact ⟨hr.1, hd.1, hd.2.1⟩

/-- A string that is read is the text of what it is read as. -/
theorem read_text (s : ByteArray) : (parsee s = 0 ∧ textv (parsev s) = s) ∨ (parsee s = 2 ∧ parsev s = 0) := by
  by_cases h10 : s.size = 10
  · rcases ref_parse s h10 with ⟨_, h1, h2⟩ | ⟨day, _, _, h | h⟩
    · exact .inr ⟨h2, h1⟩
    · exact .inl ⟨h.2.2, by rw [h.2.1]; exact h.1⟩
    · exact .inr ⟨h.2.2, h.2.1⟩
  · have hP : PForm s = false := by unfold PForm; rw [beq_eq_false_iff_ne.2 h10]; simp
    right; unfold parsev parsee; rw [hP]; exact ⟨rfl, rfl⟩

theorem less_cons (a b : UInt8) (x y : List UInt8) : Op.bytesLess (a :: x) (b :: y) = true ↔ (a.toNat < b.toNat ∨ (a.toNat = b.toNat ∧ Op.bytesLess x y = true)) := by
  simp only [Op.bytesLess, Bool.or_eq_true, Bool.and_eq_true, decide_eq_true_eq, beq_iff_eq]
  rw [UInt8.lt_iff_toNat_lt, ← UInt8.toNat_inj]

theorem less_nil : Op.bytesLess [] [] = false := rfl

theorem byte_natN (n : Int) (h0 : 0 ≤ n) (h1 : n ≤ 255) : (UInt8.ofNat n.toNat).toNat = n.toNat := by
  rw [UInt8.toNat_ofNat']
  omega

theorem txt_less (y m d y' m' d' : Int) (hy0 : 0 ≤ y) (hy1 : y ≤ 9999) (hm0 : 0 ≤ m) (hm1 : m ≤ 99) (hd0 : 0 ≤ d) (hd1 : d ≤ 99) (hy0' : 0 ≤ y') (hy1' : y' ≤ 9999) (hm0' : 0 ≤ m') (hm1' : m' ≤ 99) (hd0' : 0 ≤ d') (hd1' : d' ≤ 99) :
    Op.bytesLess (txt y m d).toList (txt y' m' d').toList = true ↔ (y < y' ∨ (y = y' ∧ (m < m' ∨ (m = m' ∧ d < d')))) := by
  rw [ByteArray.toList_eq, ByteArray.toList_eq]
  unfold txt
  rw [strOfNums_data, strOfNums_data]
  simp only [List.map_cons, List.map_nil, less_cons, less_nil]
  simp only [byte_natN (48 + y / 10 / 10 / 10 % 10) (by omega) (by omega), byte_natN (48 + y / 10 / 10 % 10) (by omega) (by omega), byte_natN (48 + y / 10 % 10) (by omega) (by omega), byte_natN (48 + y % 10) (by omega) (by omega), byte_natN (48 + m / 10 % 10) (by omega) (by omega), byte_natN (48 + m % 10) (by omega) (by omega), byte_natN (48 + d / 10 % 10) (by omega) (by omega), byte_natN (48 + d % 10) (by omega) (by omega),
    byte_natN (48 + y' / 10 / 10 / 10 % 10) (by omega) (by omega), byte_natN (48 + y' / 10 / 10 % 10) (by omega) (by omega), byte_natN (48 + y' / 10 % 10) (by omega) (by omega), byte_natN (48 + y' % 10) (by omega) (by omega), byte_natN (48 + m' / 10 % 10) (by omega) (by omega), byte_natN (48 + m' % 10) (by omega) (by omega), byte_natN (48 + d' / 10 % 10) (by omega) (by omega), byte_natN (48 + d' % 10) (by omega) (by omega)]
  have e45 : (UInt8.ofNat (45 : Int).toNat).toNat = 45 := by decide
  simp only [e45, Nat.lt_irrefl, false_or, true_and, and_false, or_false, Bool.false_eq_true]
  have hy : ∀ z : Int, 0 ≤ z → z ≤ 9999 → ∃ p q r t : Nat, z = 1000 * p + 100 * q + 10 * r + t ∧ (48 + z / 10 / 10 / 10 % 10).toNat = 48 + p ∧ (48 + z / 10 / 10 % 10).toNat = 48 + q ∧ (48 + z / 10 % 10).toNat = 48 + r ∧ (48 + z % 10).toNat = 48 + t ∧ p ≤ 9 ∧ q ≤ 9 ∧ r ≤ 9 ∧ t ≤ 9 := fun z h0 h1 =>
    ⟨(z / 10 / 10 / 10 % 10).toNat, (z / 10 / 10 % 10).toNat, (z / 10 % 10).toNat, (z % 10).toNat, by omega, by omega, by omega, by omega, by omega, by omega, by omega, by omega, by omega⟩
  have h2 : ∀ z : Int, 0 ≤ z → z ≤ 99 → ∃ r t : Nat, z = 10 * r + t ∧ (48 + z / 10 % 10).toNat = 48 + r ∧ (48 + z % 10).toNat = 48 + t ∧ r ≤ 9 ∧ t ≤ 9 := fun z h0 h1 =>
    ⟨(z / 10 % 10).toNat, (z % 10).toNat, by omega, by omega, by omega, by omega, by omega⟩
  obtain ⟨p, q, r, t, z1, z2, z3, z4, z5, z6⟩ := hy y hy0 hy1
  obtain ⟨p', q', r', t', z1', z2', z3', z4', z5', z6'⟩ := hy y' hy0' hy1'
  obtain ⟨i, j, k1, k2, k3, k4⟩ := h2 m hm0 hm1
  obtain ⟨i', j', k1', k2', k3', k4'⟩ := h2 m' hm0' hm1'
  obtain ⟨u, v, l1, l2, l3, l4⟩ := h2 d hd0 hd1
  obtain ⟨u', v', l1', l2', l3', l4'⟩ := h2 d' hd0' hd1'
  rw [z2, z3, z4, z5, z2', z3', z4', z5', k2, k3, k2', k3', l2, l3, l2', l3', z1, z1', k1, k1', l1, l1']
  omega

theorem less_dates (a b : Int) (ha : Cal.IsD a) (hb : Cal.IsD b) : decide (a < b) = Op.bytesLess (textv a).toList (textv b).toList := by
  have h1 := Cal.yv_bd a ha
  have h2 := Cal.yv_bd b hb
  have ht := txt_less (Cal.yv a) (Cal.mv a) (Cal.dv a) (Cal.yv b) (Cal.mv b) (Cal.dv b) (by omega) (by omega) (by omega) (by omega) (by omega) (by omega) (by omega) (by omega) (by omega) (by omega) (by omega) (by omega)
  have ea : textv a = txt (Cal.yv a) (Cal.mv a) (Cal.dv a) := by unfold textv; rw [if_pos ha]
  have eb : textv b = txt (Cal.yv b) (Cal.mv b) (Cal.dv b) := by unfold textv; rw [if_pos hb]
  rw [ea, eb, Bool.eq_iff_iff, ht, decide_eq_true_eq]
  have m1 := Cal.mo_of_ym a ha
  have m2 := Cal.mo_of_ym b hb
  have v1 := (Cal.isD_val ha).2.2.1
  have v2 := (Cal.isD_val hb).2.2.1
  have s1 := Cal.mo_spec a ha.1 ha.2
  have s2 := Cal.mo_spec b hb.1 hb.2
  rcases Nat.lt_trichotomy (Cal.mo a) (Cal.mo b) with c | c | c
  · have := Cal.st_le (show Cal.mo a + 1 ≤ Cal.mo b from c)
    omega
  · rw [c] at v1 m1
    omega
  · have := Cal.st_le (show Cal.mo b + 1 ≤ Cal.mo a from c)
    omega

set_option maxHeartbeats 4000000 in
set_option maxRecDepth 100000 in
theorem texts_law (a0 b0 : Int) (s : ByteArray) (w : World) (hL : Lens w) (hs : s.size ≤ 9223372036854775807) :
    Calls Tryd.prog 14 #[.int .i64 a0, .int .i64 b0, .string s] w fun e w' => e = .returned (.bool true) ∧ Below w.heap.size w w' := by
  have HL := Lib.hid hL; clear hL
  have ha0 := pick_isD a0
  have hb0 := pick_isD b0
  obtain ⟨a1, ea⟩ : ∃ a1, a1 = a0 % 65536 := ⟨_, rfl⟩
  obtain ⟨b1, eb⟩ : ∃ b1, b1 = b0 % 65536 := ⟨_, rfl⟩
  rw [← ea] at ha0
  rw [← eb] at hb0
  have EA := Lib.hid ea.symm
  have EB := Lib.hid eb.symm
  clear ea eb
  have hr := text_read a1 ha0
  have hsz : (textv a1).size ≤ 10 ∧ 10 ≤ (textv a1).size := by omega
  have R := Lib.hid (show parsev (textv a1) = a1 ∧ parsee (textv a1) = 0 from hr.2)
  have hl := less_dates a1 b1 ha0 hb0
  clear hr ha0 hb0
  have hcase : (a1 < b1 ∧ Op.bytesLess (textv a1).toList (textv b1).toList = true) ∨ (b1 ≤ a1 ∧ Op.bytesLess (textv a1).toList (textv b1).toList = false) := by
    by_cases c : a1 < b1
    · exact .inl ⟨c, by rw [← hl]; simpa using c⟩
    · exact .inr ⟨by omega, by rw [← hl]; simpa using c⟩
  clear hl
  have hread := read_text s
  rcases hcase with ⟨c, hb⟩ | ⟨c, hb⟩
  all_goals
    by_cases h100 : 100 < s.size
    · clear hread
      go_enter Tryd.func14, Tryd.ntmps14
      go_wp2_with fail
      refine (awake_any _ HL.out).mono ?_; rintro e w1 ⟨rfl, hb1⟩; have HL1 := Lib.hid (HL.out.below hb1)
      go_wp2_with fail
      refine (pick_any _ _ _ (by omega) (by omega)).mono ?_; rintro e w' ⟨rfl, rfl⟩; rw [EA.out]
      go_wp2_with fail
      refine (pick_any _ _ _ (by omega) (by omega)).mono ?_; rintro e w' ⟨rfl, rfl⟩; rw [EB.out]
      go_wp2_with fail
      refine (text_any _ _ HL1.out).mono ?_; rintro e w2 ⟨rfl, hb2⟩; have HL2 := Lib.hid (HL1.out.below hb2)
      go_wp2_with fail
      refine (text_any _ _ HL2.out).mono ?_; rintro e w3 ⟨rfl, hb3⟩; have HL3 := Lib.hid (HL2.out.below hb3)
      go_wp2_with fail
      refine (parse_any _ _ HL3.out (by omega)).mono ?_; rintro e w4 ⟨rfl, hb4⟩; have HL4 := Lib.hid (HL3.out.below hb4)
      rw [R.out.1, R.out.2]
      go_wp2
      go_ret
      exact ⟨rfl, below_next (below_next (below_next hb1 hb2) hb3) hb4⟩
    rcases hread with hread | hread
    all_goals
      have HR := Lib.hid hread
      clear hread
      go_enter Tryd.func14, Tryd.ntmps14
      go_wp2_with fail
      refine (awake_any _ HL.out).mono ?_; rintro e w1 ⟨rfl, hb1⟩; have HL1 := Lib.hid (HL.out.below hb1)
      go_wp2_with fail
      refine (pick_any _ _ _ (by omega) (by omega)).mono ?_; rintro e w' ⟨rfl, rfl⟩; rw [EA.out]
      go_wp2_with fail
      refine (pick_any _ _ _ (by omega) (by omega)).mono ?_; rintro e w' ⟨rfl, rfl⟩; rw [EB.out]
      go_wp2_with fail
      refine (text_any _ _ HL1.out).mono ?_; rintro e w2 ⟨rfl, hb2⟩; have HL2 := Lib.hid (HL1.out.below hb2)
      go_wp2_with fail
      refine (text_any _ _ HL2.out).mono ?_; rintro e w3 ⟨rfl, hb3⟩; have HL3 := Lib.hid (HL2.out.below hb3)
      go_wp2_with fail
      refine (parse_any _ _ HL3.out (by omega)).mono ?_; rintro e w4 ⟨rfl, hb4⟩; have HL4 := Lib.hid (HL3.out.below hb4)
      rw [R.out.1, R.out.2]
      go_wp2_with fail
      refine (parse_any _ _ HL4.out hs).mono ?_; rintro e w5 ⟨rfl, hb5⟩; have HL5 := Lib.hid (HL4.out.below hb5)
      first
        | (rw [HR.out.1]
           go_wp2_with fail
           refine (text_any _ _ HL5.out).mono ?_; rintro e w6 ⟨rfl, hb6⟩
           rw [HR.out.2]
           go_wp2
           go_ret
           exact ⟨rfl, below_next (below_next (below_next (below_next (below_next hb1 hb2) hb3) hb4) hb5) hb6⟩)
        | (rw [HR.out.1, HR.out.2]
           go_wp2
           go_ret
           exact ⟨rfl, below_next (below_next (below_next (below_next hb1 hb2) hb3) hb4) hb5⟩)

end Go.Proofs.YtncnmokaamjlbaaDoor
