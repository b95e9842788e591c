/- The walk of LexNumbers. -/
import Derived.Test.YthleaigkndfdaaaDoorLxN2
namespace Go.Proofs.YthleaigkndfdaaaDoor
open Go.RowKit Go.Shelf

theorem head_cells {W : World} {p : Option Addr} {tx : ByteArray} {l : List Tok} (h : TCells W p ((2, tx, 1, 1) :: l)) : ∃ b off, p = some ⟨b, off, none⟩ ∧ W.cell? ⟨b, off, none⟩ = some (.int .u8 2) ∧ W.cell? ⟨b, off + 1, none⟩ = some (.string tx) := by
  obtain ⟨b, off, e, h0, h1, _, _⟩ := h 0 (by simp)
  rw [Nat.zero_mul, Nat.add_zero] at h0 h1
  exact ⟨b, off, e, h0, h1⟩

theorem fine_cases (t : ByteArray) (h : 0 < t.size) : (t = ⟨#[48]⟩ ∧ Lx.padB (ls t) = false) ∨ (t ≠ ⟨#[48]⟩ ∧ t[0] ≠ 48 ∧ Lx.padB (ls t) = false) ∨ (t ≠ ⟨#[48]⟩ ∧ t[0] = 48 ∧ Lx.padB (ls t) = true) := by
  obtain ⟨c, r, hcr⟩ : ∃ c r, ls t = c :: r := by
    cases hh : ls t with
    | nil => rw [size_ls, hh] at h; simp at h
    | cons c r => exact ⟨c, r, rfl⟩
  have h0 : t[0] = c := by
    have := ls_get t 0 h
    rw [hcr] at this; simpa using this.symm
  by_cases hq : t = ⟨#[48]⟩
  · left; subst hq; exact ⟨rfl, by decide⟩
  · right
    rw [h0, hcr]
    by_cases hc : c = 48
    · right
      refine ⟨hq, hc, ?_⟩
      unfold Lx.padB
      subst hc
      have : r ≠ [] := by
        rintro rfl; exact hq (bs_ls_eq hcr)
      cases r with
      | nil => exact absurd rfl this
      | cons d r => simp
    · left
      refine ⟨hq, hc, ?_⟩
      unfold Lx.padB; simp [hc]

set_option maxHeartbeats 40000000 in
set_option maxRecDepth 100000 in
theorem numbers_law (a b x0 x1 : Nat) (w : World) (hL : Lens w) (ha : a ≤ 18446744073709551615) (hb : b ≤ 18446744073709551615) (h0 : x0 ≤ 255) (h1 : x1 ≤ 255) :
    Calls Tryd.prog 8 #[.int .u64 (a : Int), .int .u64 (b : Int), .agg #[.int .u8 (x0 : Int), .int .u8 (x1 : Int)]] w fun e w' => e = .returned (.bool true) ∧ Below w.heap.size w w' := by
  have HL := Lib.hid (show Lens (w.alloc (.cells #[.int .u8 (x0 : Int), .int .u8 (x1 : Int)] 41)) from hL.below ((Below.refl _ _).alloc (Nat.le_refl _) _))
  have B0 := Lib.hid ((Below.refl w.heap.size w).alloc (Nat.le_refl _) (.cells #[.int .u8 (x0 : Int), .int .u8 (x1 : Int)] 41))
  have CA := Lib.hid (awake_any _ HL.out)
  have m0 : (0 : Int) ≤ (x0 : Int) ∧ (x0 : Int) ≤ 255 := by omega
  go_enter Tryd.func8, Tryd.ntmps8
  go_wp2_with fail
  refine CA.out.mono ?_
  rintro e w1 ⟨rfl, b1⟩
  have K1 := boxed_below (Blk.new w 41 #[.int .u8 (x0 : Int), .int .u8 (x1 : Int)]) b1
  have c0 : w1.cell? ⟨w.heap.size, 0, none⟩ = some (.int .u8 (x0 : Int)) := K1.cell 0
  have c1 : w1.cell? ⟨w.heap.size, 1, none⟩ = some (.int .u8 (x1 : Int)) := K1.cell 1
  have B1 := Lib.hid (below_next B0.out b1)
  clear K1 b1 CA
  go_wp2
  go_quiet (fail)
  go_wp2_with fail
  refine (digits_any a _ ha).mono ?_
  rintro e w2 ⟨rfl, b2⟩
  have B2 := Lib.hid (below_next (below_drewN B1.out nq) b2)
  clear b2 B1
  have z0 : (0 : Int) ≤ (x0 : Int) % 3 ∧ (x0 : Int) % 3 < 3 := by omega
  obtain ⟨z, hz⟩ : ∃ z : Nat, (z : Int) = (x0 : Int) % 3 := ⟨x0 % 3, by omega⟩
  rw [← hz] at z0 ⊢
  clear hz m0 c0 c1
  go_wp2
  go_loop [10, 9] (fun i s => ∃ (k : Nat) (t : ByteArray), k ≤ z ∧ i = .int .u8 (k : Int) ∧ s = .string t ∧ Hid (ls t = nv k 0 a)) (fun i _ => z - (intOf i).toNat)
  case atStart => exact ⟨0, _, by omega, rfl, rfl, Lib.hid (by simp [nv, ls, bs])⟩
  case round =>
    obtain ⟨k, t, hk, rfl, rfl, ht⟩ := hrel
    have htz : t.size ≤ 500 := by rw [size_ls, ht.out]; have := nv_len k 0 a ha; omega
    by_cases hlt : k < z
    · go_wp2
      go_round
      case rel => exact ⟨k + 1, _, by omega, by go_num, rfl, Lib.hid (by rw [ls_app, ht.out]; simp [nv, ls, List.replicate_succ])⟩
      case measure => simp [intOf]; omega
    · obtain rfl : k = z := by omega
      go_wp2
      go_loop [11, 9] (fun i s => ∃ (j : Nat) (t : ByteArray), j ≤ x1 ∧ i = .int .u8 (j : Int) ∧ s = .string t ∧ Hid (ls t = nv k j a)) (fun i _ => x1 - (intOf i).toNat)
      case atStart => exact ⟨0, _, by omega, rfl, rfl, ht⟩
      case round =>
        obtain ⟨j, t, hj, rfl, rfl, ht⟩ := hrel
        have htz : t.size ≤ 500 := by rw [size_ls, ht.out]; have := nv_len k j a ha; omega
        by_cases hlt : j < x1
        · go_wp2
          go_round
          case rel => exact ⟨j + 1, _, by omega, by go_num, rfl, Lib.hid (by rw [ls_app, ht.out]; simp [nv, ls, List.replicate_succ'])⟩
          case measure => simp [intOf]; omega
        · obtain rfl : j = x1 := by omega
          have htp : 0 < t.size := by rw [size_ls, ht.out]; have := nv_ne k j a; exact List.length_pos_iff.2 this
          obtain ⟨G, hG⟩ : ∃ G, G = bs (Lx.dgs b) := ⟨_, rfl⟩
          have CG := Lib.hid (fun W => digits_any b W hb)
          rw [← hG] at CG
          have hGz : G.size ≤ 20 := by rw [hG, bs_size]; exact Lx.dgs_len b hb
          have HG := Lib.hid hG
          clear hG
          have HF := Lib.hid (fine_cases t htp)
          have hd1 := nv_ne k j a
          have hd2 := nv_all k j a
          have hd3 := nv_len k j a ha
          have hT := three (nv k j a) (Lx.dgs b) hd1 (Lx.dgs_ne b) hd2 (Lx.dgs_all b) (Lx.dgs_pad b) (by omega) (Lx.dgs_len b hb)
          rw [← ht.out] at hT
          have hgl := Lx.dgs_len b hb
          have hlF : (ls t ++ 47 :: Lx.dgs b).length = t.size + 1 + (Lx.dgs b).length := by rw [List.length_append, List.length_cons, ls_len]; omega
          have hF : bs (ls t ++ 47 :: Lx.dgs b) = t ++ ⟨#[47]⟩ ++ G := by
            rw [HG.out]; apply ByteArray.ext; apply Array.toList_inj.1; simp [bs]
          have hTT : bs (ls t ++ 32 :: 47 :: 32 :: Lx.dgs b) = t ++ ⟨#[32, 47, 32]⟩ ++ G := by
            rw [HG.out]; apply ByteArray.ext; apply Array.toList_inj.1; simp [bs]
          have hGs : G.size = (Lx.dgs b).length := by rw [HG.out, bs_size]
          rw [hF, hTT, hlF, ← hGs, show bs (ls t) = t from rfl] at hT
          have hok : Lx.okD (ls t) = (decide (t.size ≤ 200) && !Lx.padB (ls t)) := by unfold Lx.okD; rw [ls_len]
          rw [hok, Ne, Lx.dgs_48] at hT
          clear hF hTT hlF hgl hok hd1 hd2 hd3
          have HT := Lib.hid hT
          clear hT hGs
          have key' : ((t.toList = [48] ∨ ¬ t.toList = [48] ∧ ((t[0].toNat : Int) != 48) = true) ∧ (
                (∃ l m l', LexIs t 2 0 0 ((2, t, 1, 1) :: l) ∧ LexIs (t ++ ⟨#[32, 47, 32]⟩ ++ G) 4 0 0 m ∧ LexIs (t ++ ⟨#[47]⟩ ++ G) 2 0 0 ((2, t ++ ⟨#[47]⟩ ++ G, 1, 1) :: l') ∧ (t ++ ⟨#[47]⟩ ++ G).size ≤ 200 ∧ t.size ≤ 200 ∧ 0 < b) ∨
                (∃ l m, LexIs t 2 0 0 ((2, t, 1, 1) :: l) ∧ LexIs (t ++ ⟨#[32, 47, 32]⟩ ++ G) 4 0 0 m ∧ LexIs (t ++ ⟨#[47]⟩ ++ G) 0 1 112 [] ∧ (t ++ ⟨#[47]⟩ ++ G).size ≤ 200 ∧ t.size ≤ 200 ∧ b = 0) ∨
                (∃ l m, LexIs t 2 0 0 ((2, t, 1, 1) :: l) ∧ LexIs (t ++ ⟨#[32, 47, 32]⟩ ++ G) 4 0 0 m ∧ LexIs (t ++ ⟨#[47]⟩ ++ G) 0 1 112 [] ∧ 200 < (t ++ ⟨#[47]⟩ ++ G).size ∧ t.size ≤ 200) ∨
                (LexIs t 0 1 112 [] ∧ LexIs (t ++ ⟨#[32, 47, 32]⟩ ++ G) 0 1 112 [] ∧ LexIs (t ++ ⟨#[47]⟩ ++ G) 0 1 112 [] ∧ 200 < (t ++ ⟨#[47]⟩ ++ G).size ∧ 200 < t.size))) ∨
              (¬ t.toList = [48] ∧ ((t[0].toNat : Int) != 48) = false ∧ LexIs t 0 1 112 [] ∧ LexIs (t ++ ⟨#[32, 47, 32]⟩ ++ G) 0 1 112 [] ∧ LexIs (t ++ ⟨#[47]⟩ ++ G) 0 1 112 []) := by
            obtain ⟨q1, q2, q3, q4⟩ := HT.out
            have hz : (t ++ ⟨#[47]⟩ ++ G).size = t.size + 1 + G.size := by rw [ByteArray.size_append, ByteArray.size_append]; rfl
            have hfin : Lx.padB (ls t) = false → (
                (∃ l m l', LexIs t 2 0 0 ((2, t, 1, 1) :: l) ∧ LexIs (t ++ ⟨#[32, 47, 32]⟩ ++ G) 4 0 0 m ∧ LexIs (t ++ ⟨#[47]⟩ ++ G) 2 0 0 ((2, t ++ ⟨#[47]⟩ ++ G, 1, 1) :: l') ∧ (t ++ ⟨#[47]⟩ ++ G).size ≤ 200 ∧ t.size ≤ 200 ∧ 0 < b) ∨
                (∃ l m, LexIs t 2 0 0 ((2, t, 1, 1) :: l) ∧ LexIs (t ++ ⟨#[32, 47, 32]⟩ ++ G) 4 0 0 m ∧ LexIs (t ++ ⟨#[47]⟩ ++ G) 0 1 112 [] ∧ (t ++ ⟨#[47]⟩ ++ G).size ≤ 200 ∧ t.size ≤ 200 ∧ b = 0) ∨
                (∃ l m, LexIs t 2 0 0 ((2, t, 1, 1) :: l) ∧ LexIs (t ++ ⟨#[32, 47, 32]⟩ ++ G) 4 0 0 m ∧ LexIs (t ++ ⟨#[47]⟩ ++ G) 0 1 112 [] ∧ 200 < (t ++ ⟨#[47]⟩ ++ G).size ∧ t.size ≤ 200) ∨
                (LexIs t 0 1 112 [] ∧ LexIs (t ++ ⟨#[32, 47, 32]⟩ ++ G) 0 1 112 [] ∧ LexIs (t ++ ⟨#[47]⟩ ++ G) 0 1 112 [] ∧ 200 < (t ++ ⟨#[47]⟩ ++ G).size ∧ 200 < t.size)) := by
              intro hp
              rw [hz]
              by_cases ht2 : t.size ≤ 200
              · obtain ⟨l, m, x1, x2⟩ := q1 (by rw [hp, decide_eq_true ht2]; rfl)
                by_cases hf2 : t.size + 1 + G.size ≤ 200
                · rcases Nat.eq_zero_or_pos b with hb0 | hb0
                  · exact .inr (.inl ⟨l, m, x1, x2, q4 (.inr (.inr hb0)), hf2, ht2, hb0⟩)
                  · obtain ⟨l', x3⟩ := q3 hf2 hp (by omega)
                    exact .inl ⟨l, m, l', x1, x2, x3, hf2, ht2, hb0⟩
                · exact .inr (.inr (.inl ⟨l, m, x1, x2, q4 (.inl (by omega)), by omega, ht2⟩))
              · obtain ⟨x1, x2⟩ := q2 (by rw [hp, decide_eq_false ht2]; rfl)
                exact .inr (.inr (.inr ⟨x1, x2, q4 (.inl (by omega)), by omega, by omega⟩))
            rcases HF.out with ⟨hq, hp⟩ | ⟨hq, h0', hp⟩ | ⟨hq, h0', hp⟩
            · exact .inl ⟨.inl (by rw [hq, ls_toList]), hfin hp⟩
            · refine .inl ⟨.inr ⟨fun h => hq ?_, bne_iff_ne.2 (fun h => h0' (UInt8.toNat_inj.1 (Int.ofNat_inj.1 h)))⟩, hfin hp⟩
              exact bs_ls_eq (by rw [← ls_toList]; exact h)
            · obtain ⟨x1, x2⟩ := q2 (by rw [hp]; simp)
              refine .inr ⟨fun h => hq ?_, by rw [h0']; rfl, x1, x2, q4 (.inr (.inl hp))⟩
              exact bs_ls_eq (by rw [← ls_toList]; exact h)
          clear HF HT HG ht
          have HLw := Lib.hid hL
          clear hL HL B0
          rcases key' with ⟨hfine, ⟨l, m, l', x1, x2, x3, hf2, ht2, hb0⟩ | ⟨l, m, x1, x2, x3, hf2, ht2, hb0⟩ | ⟨l, m, x1, x2, x3, hf2, ht2⟩ | ⟨x1, x2, x3, hf2, ht2⟩⟩ | ⟨hq, h48, x1, x2, x3⟩
          · have CX := Lib.hid x1; have CT := Lib.hid x2; have CF := Lib.hid x3
            clear x1 x2 x3
            have hf3 : (t.size : Int) + 1 + (G.size : Int) ≤ 200 := by rw [ByteArray.size_append, ByteArray.size_append, show (⟨#[47]⟩ : ByteArray).size = 1 from rfl] at hf2; omega
            have hb1 : ((b : Int) != 0) = true := bne_iff_ne.2 (by omega)
            clear hf2
            rcases hfine with hq | ⟨hq, h48⟩
            all_goals
              go_wp2_with fail
              refine (CG.out _).mono ?_
              rintro e w3 ⟨rfl, b3⟩
              have B3 := below_next B2.out b3
              clear b3
              go_wp2_with fail
              refine (CX.out _ (HLw.out.below B3)).mono ?_
              rintro e w4 ⟨p4, cap4, rfl, t4, b4⟩
              have B4 := below_next B3 b4
              have B4a := B4.alloc B4.size (.cells #[.int .i64 0, .int .i64 0] 25)
              have T4 := t4.below ((Below.refl _ _).alloc (Nat.le_refl _) (.cells #[.int .i64 0, .int .i64 0] 25))
              clear t4 b4 B4 B3
              go_wp2_with fail
              refine (CF.out _ (HLw.out.below B4a)).mono ?_
              rintro e w5 ⟨p5, cap5, rfl, t5, b5⟩
              have B5 := below_next B4a b5
              have B5a := B5.alloc B5.size (.cells #[.int .i64 0, .int .i64 0] 25)
              have T5 := t5.below ((Below.refl _ _).alloc (Nat.le_refl _) (.cells #[.int .i64 0, .int .i64 0] 25))
              have T5' := (T4.below b5).below ((Below.refl _ _).alloc (Nat.le_refl _) (.cells #[.int .i64 0, .int .i64 0] 25))
              clear t5 b5 B5 B4a T4
              go_wp2_with fail
              refine (CG.out _).mono ?_
              rintro e w6 ⟨rfl, b6⟩
              have B6 := below_next B5a b6
              have T6 := T5.below b6
              have T6' := T5'.below b6
              clear T5 T5' B5a b6
              go_wp2_with fail
              refine (CT.out _ (HLw.out.below B6)).mono ?_
              rintro e w7 ⟨p7, cap7, rfl, t7, b7⟩
              have B7 := below_next B6 b7
              have B7a := B7.alloc B7.size (.cells #[.int .i64 0, .int .i64 0] 25)
              have T7 := (T6.below b7).below ((Below.refl _ _).alloc (Nat.le_refl _) (.cells #[.int .i64 0, .int .i64 0] 25))
              have T7' := (T6'.below b7).below ((Below.refl _ _).alloc (Nat.le_refl _) (.cells #[.int .i64 0, .int .i64 0] 25))
              clear T6 T6' B6 t7 b7 B7
              obtain ⟨g4, f4, rfl, h40, h41⟩ := head_cells T7'
              obtain ⟨g5, f5, rfl, h50, h51⟩ := head_cells T7
              go_wp2
              go_ret
              exact ⟨rfl, B7a⟩
          · have CX := Lib.hid x1; have CT := Lib.hid x2; have CF := Lib.hid x3
            clear x1 x2 x3
            have hf3 : (t.size : Int) + 1 + (G.size : Int) ≤ 200 := by rw [ByteArray.size_append, ByteArray.size_append, show (⟨#[47]⟩ : ByteArray).size = 1 from rfl] at hf2; omega
            have hb1 : ((b : Int) != 0) = false := by rw [hb0]; rfl
            clear hf2 hb0
            rcases hfine with hq | ⟨hq, h48⟩
            all_goals
              go_wp2_with fail
              refine (CG.out _).mono ?_
              rintro e w3 ⟨rfl, b3⟩
              have B3 := below_next B2.out b3
              clear b3
              go_wp2_with fail
              refine (CX.out _ (HLw.out.below B3)).mono ?_
              rintro e w4 ⟨p4, cap4, rfl, t4, b4⟩
              have B4 := below_next B3 b4
              have B4a := B4.alloc B4.size (.cells #[.int .i64 0, .int .i64 0] 25)
              have T4 := t4.below ((Below.refl _ _).alloc (Nat.le_refl _) (.cells #[.int .i64 0, .int .i64 0] 25))
              clear t4 b4 B4 B3
              go_wp2_with fail
              refine (CF.out _ (HLw.out.below B4a)).mono ?_
              rintro e w5 ⟨p5, cap5, rfl, t5, b5⟩
              have B5 := below_next B4a b5
              have B5a := B5.alloc B5.size (.cells #[.int .i64 1, .int .i64 1] 25)
              have T5 := t5.below ((Below.refl _ _).alloc (Nat.le_refl _) (.cells #[.int .i64 1, .int .i64 1] 25))
              have T5' := (T4.below b5).below ((Below.refl _ _).alloc (Nat.le_refl _) (.cells #[.int .i64 1, .int .i64 1] 25))
              clear t5 b5 B5 B4a T4
              go_wp2_with fail
              refine (CG.out _).mono ?_
              rintro e w6 ⟨rfl, b6⟩
              have B6 := below_next B5a b6
              have T6 := T5.below b6
              have T6' := T5'.below b6
              clear T5 T5' B5a b6
              go_wp2_with fail
              refine (CT.out _ (HLw.out.below B6)).mono ?_
              rintro e w7 ⟨p7, cap7, rfl, t7, b7⟩
              have B7 := below_next B6 b7
              have B7a := B7.alloc B7.size (.cells #[.int .i64 0, .int .i64 0] 25)
              have T7 := (T6.below b7).below ((Below.refl _ _).alloc (Nat.le_refl _) (.cells #[.int .i64 0, .int .i64 0] 25))
              have T7' := (T6'.below b7).below ((Below.refl _ _).alloc (Nat.le_refl _) (.cells #[.int .i64 0, .int .i64 0] 25))
              clear T6 T6' B6 t7 b7 B7
              obtain ⟨g4, f4, rfl, h40, h41⟩ := head_cells T7'
              go_wp2
              go_ret
              exact ⟨rfl, B7a⟩
          · have CX := Lib.hid x1; have CT := Lib.hid x2; have CF := Lib.hid x3
            clear x1 x2 x3
            have hf3 : 200 < (t.size : Int) + 1 + (G.size : Int) := by rw [ByteArray.size_append, ByteArray.size_append, show (⟨#[47]⟩ : ByteArray).size = 1 from rfl] at hf2; omega
            clear hf2
            rcases hfine with hq | ⟨hq, h48⟩
            all_goals
              go_wp2_with fail
              refine (CG.out _).mono ?_
              rintro e w3 ⟨rfl, b3⟩
              have B3 := below_next B2.out b3
              clear b3
              go_wp2_with fail
              refine (CX.out _ (HLw.out.below B3)).mono ?_
              rintro e w4 ⟨p4, cap4, rfl, t4, b4⟩
              have B4 := below_next B3 b4
              have B4a := B4.alloc B4.size (.cells #[.int .i64 0, .int .i64 0] 25)
              have T4 := t4.below ((Below.refl _ _).alloc (Nat.le_refl _) (.cells #[.int .i64 0, .int .i64 0] 25))
              clear t4 b4 B4 B3
              go_wp2_with fail
              refine (CF.out _ (HLw.out.below B4a)).mono ?_
              rintro e w5 ⟨p5, cap5, rfl, t5, b5⟩
              have B5 := below_next B4a b5
              have B5a := B5.alloc B5.size (.cells #[.int .i64 1, .int .i64 1] 25)
              have T5 := t5.below ((Below.refl _ _).alloc (Nat.le_refl _) (.cells #[.int .i64 1, .int .i64 1] 25))
              have T5' := (T4.below b5).below ((Below.refl _ _).alloc (Nat.le_refl _) (.cells #[.int .i64 1, .int .i64 1] 25))
              clear t5 b5 B5 B4a T4
              go_wp2_with fail
              refine (CG.out _).mono ?_
              rintro e w6 ⟨rfl, b6⟩
              have B6 := below_next B5a b6
              have T6 := T5.below b6
              have T6' := T5'.below b6
              clear T5 T5' B5a b6
              go_wp2_with fail
              refine (CT.out _ (HLw.out.below B6)).mono ?_
              rintro e w7 ⟨p7, cap7, rfl, t7, b7⟩
              have B7 := below_next B6 b7
              have B7a := B7.alloc B7.size (.cells #[.int .i64 0, .int .i64 0] 25)
              have T7 := (T6.below b7).below ((Below.refl _ _).alloc (Nat.le_refl _) (.cells #[.int .i64 0, .int .i64 0] 25))
              have T7' := (T6'.below b7).below ((Below.refl _ _).alloc (Nat.le_refl _) (.cells #[.int .i64 0, .int .i64 0] 25))
              clear T6 T6' B6 t7 b7 B7
              obtain ⟨g4, f4, rfl, h40, h41⟩ := head_cells T7'
              go_wp2
              go_ret
              exact ⟨rfl, B7a⟩
          · have CX := Lib.hid x1; have CT := Lib.hid x2; have CF := Lib.hid x3
            clear x1 x2 x3
            have hf3 : 200 < (t.size : Int) + 1 + (G.size : Int) := by rw [ByteArray.size_append, ByteArray.size_append, show (⟨#[47]⟩ : ByteArray).size = 1 from rfl] at hf2; omega
            clear hf2
            rcases hfine with hq | ⟨hq, h48⟩
            all_goals
              go_wp2_with fail
              refine (CG.out _).mono ?_
              rintro e w3 ⟨rfl, b3⟩
              have B3 := below_next B2.out b3
              clear b3
              go_wp2_with fail
              refine (CX.out _ (HLw.out.below B3)).mono ?_
              rintro e w4 ⟨p4, cap4, rfl, t4, b4⟩
              have B4 := below_next B3 b4
              have B4a := B4.alloc B4.size (.cells #[.int .i64 1, .int .i64 1] 25)
              have T4 := t4.below ((Below.refl _ _).alloc (Nat.le_refl _) (.cells #[.int .i64 1, .int .i64 1] 25))
              clear t4 b4 B4 B3
              go_wp2_with fail
              refine (CF.out _ (HLw.out.below B4a)).mono ?_
              rintro e w5 ⟨p5, cap5, rfl, t5, b5⟩
              have B5 := below_next B4a b5
              have B5a := B5.alloc B5.size (.cells #[.int .i64 1, .int .i64 1] 25)
              have T5 := t5.below ((Below.refl _ _).alloc (Nat.le_refl _) (.cells #[.int .i64 1, .int .i64 1] 25))
              have T5' := (T4.below b5).below ((Below.refl _ _).alloc (Nat.le_refl _) (.cells #[.int .i64 1, .int .i64 1] 25))
              clear t5 b5 B5 B4a T4
              go_wp2_with fail
              refine (CG.out _).mono ?_
              rintro e w6 ⟨rfl, b6⟩
              have B6 := below_next B5a b6
              have T6 := T5.below b6
              have T6' := T5'.below b6
              clear T5 T5' B5a b6
              go_wp2_with fail
              refine (CT.out _ (HLw.out.below B6)).mono ?_
              rintro e w7 ⟨p7, cap7, rfl, t7, b7⟩
              have B7 := below_next B6 b7
              have B7a := B7.alloc B7.size (.cells #[.int .i64 1, .int .i64 1] 25)
              have T7 := (T6.below b7).below ((Below.refl _ _).alloc (Nat.le_refl _) (.cells #[.int .i64 1, .int .i64 1] 25))
              have T7' := (T6'.below b7).below ((Below.refl _ _).alloc (Nat.le_refl _) (.cells #[.int .i64 1, .int .i64 1] 25))
              clear T6 T6' B6 t7 b7 B7
              go_wp2
              go_ret
              exact ⟨rfl, B7a⟩
          · have CX := Lib.hid x1; have CT := Lib.hid x2; have CF := Lib.hid x3
            clear x1 x2 x3
            go_wp2_with fail
            refine (CG.out _).mono ?_
            rintro e w3 ⟨rfl, b3⟩
            have B3 := below_next B2.out b3
            clear b3
            go_wp2_with fail
            refine (CX.out _ (HLw.out.below B3)).mono ?_
            rintro e w4 ⟨p4, cap4, rfl, t4, b4⟩
            have B4 := below_next B3 b4
            have B4a := B4.alloc B4.size (.cells #[.int .i64 1, .int .i64 1] 25)
            have T4 := t4.below ((Below.refl _ _).alloc (Nat.le_refl _) (.cells #[.int .i64 1, .int .i64 1] 25))
            clear t4 b4 B4 B3
            go_wp2_with fail
            refine (CF.out _ (HLw.out.below B4a)).mono ?_
            rintro e w5 ⟨p5, cap5, rfl, t5, b5⟩
            have B5 := below_next B4a b5
            have B5a := B5.alloc B5.size (.cells #[.int .i64 1, .int .i64 1] 25)
            have T5 := t5.below ((Below.refl _ _).alloc (Nat.le_refl _) (.cells #[.int .i64 1, .int .i64 1] 25))
            have T5' := (T4.below b5).below ((Below.refl _ _).alloc (Nat.le_refl _) (.cells #[.int .i64 1, .int .i64 1] 25))
            clear t5 b5 B5 B4a T4
            go_wp2_with fail
            refine (CG.out _).mono ?_
            rintro e w6 ⟨rfl, b6⟩
            have B6 := below_next B5a b6
            have T6 := T5.below b6
            have T6' := T5'.below b6
            clear T5 T5' B5a b6
            go_wp2_with fail
            refine (CT.out _ (HLw.out.below B6)).mono ?_
            rintro e w7 ⟨p7, cap7, rfl, t7, b7⟩
            have B7 := below_next B6 b7
            have B7a := B7.alloc B7.size (.cells #[.int .i64 1, .int .i64 1] 25)
            have T7 := (T6.below b7).below ((Below.refl _ _).alloc (Nat.le_refl _) (.cells #[.int .i64 1, .int .i64 1] 25))
            have T7' := (T6'.below b7).below ((Below.refl _ _).alloc (Nat.le_refl _) (.cells #[.int .i64 1, .int .i64 1] 25))
            clear T6 T6' B6 t7 b7 B7
            go_wp2
            go_ret
            exact ⟨rfl, B7a⟩

end Go.Proofs.YthleaigkndfdaaaDoor
