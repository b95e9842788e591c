/- The walk of LexGlued. Printed by gen_glued.py. -/
import Derived.Test.YthleaigkndfdaaaDoorLxG2
namespace Go.Proofs.YthleaigkndfdaaaDoor
open Go.RowKit Go.Shelf

theorem lexT_len (s : ByteArray) (hs : s.size ≤ 3001) : (lexT' s).length ≤ 10000 := by
  rcases lex_cases s (by omega) with ⟨_, _, a3, _⟩ | ⟨x, _, _, _, _, a5⟩
  · have := evs_length s; rw [a3, List.length_map]; omega
  · rw [a5]; simp

theorem lexP_bd (s : ByteArray) (hs : s.size ≤ 3000) : (lexP' s).1 ≤ 3000 := by
  rcases lex_cases s (by omega) with ⟨_, a2, _⟩ | ⟨x, a1, _, _, a4, _⟩
  · rw [a2]; decide
  · rw [a4]
    obtain ⟨k1, _⟩ := errors s hs x a1
    have := (pl_bd (ls s) x.2).1
    omega

set_option maxHeartbeats 40000000 in
set_option maxRecDepth 100000 in
theorem glued_law (a b : ByteArray) (w : World) (hL : Lens w) (ha : a.size ≤ 9223372036854775807) (hb : b.size ≤ 9223372036854775807) :
    Calls Tryd.prog 6 #[.string a, .string b] w fun e w' => e = .returned (.bool true) ∧ Below w.heap.size w w' := by
  have HL := Lib.hid hL; clear hL
  have CA := Lib.hid (awake_any w HL.out)
  by_cases h3 : 1500 < a.size
  · go_enter Tryd.func6, Tryd.ntmps6
    go_wp2_with fail
    refine CA.out.mono ?_
    rintro e w1 ⟨rfl, b1⟩
    go_wp2
    go_ret
    exact ⟨rfl, b1⟩
  by_cases h4 : 1500 < b.size
  · go_enter Tryd.func6, Tryd.ntmps6
    go_wp2_with fail
    refine CA.out.mono ?_
    rintro e w1 ⟨rfl, b1⟩
    go_wp2
    go_ret
    exact ⟨rfl, b1⟩
  have h3' : a.size ≤ 1500 := by omega
  have h4' : b.size ≤ 1500 := by omega
  clear h3 h4
  have hz : (glue a b).size ≤ 3001 := by
    unfold glue; rw [ByteArray.size_append, ByteArray.size_append, show (⟨#[10]⟩ : ByteArray).size = 1 from rfl]; omega
  have key := glue_cases a b h3' h4'
  have CX := fun W h => lex_two a W h ha
  have CY := fun W h => lex_two b W h hb
  have CZ := fun W h => lex_two (glue a b) W h (by omega)
  have la := lexT_len a (by omega)
  have lb := lexT_len b (by omega)
  have hpb := lexP_bd b (by omega)
  generalize lexE' a = ea at CX key
  generalize lexE' b = eb at CY key
  generalize lexE' (glue a b) = eg at CZ key
  generalize lexP' a = pa at CX key
  generalize lexP' b = pb at CY key hpb
  generalize lexP' (glue a b) = pg at CZ key
  generalize lexT' a = ta at CX key la
  generalize lexT' b = tb at CY key lb
  generalize lexT' (glue a b) = tg at CZ key
  clear hz
  obtain ⟨pa1, pa2⟩ := pa
  obtain ⟨pb1, pb2⟩ := pb
  obtain ⟨pg1, pg2⟩ := pg
  dsimp only at CX CY CZ hpb key
  rw [Prod.mk.injEq, Prod.mk.injEq] at key
  obtain ⟨cf, hcf⟩ : ∃ cf : Nat → Nat, ∀ k, cf k = 1 + ((ls a).take k).count 10 := ⟨_, fun _ => rfl⟩
  have HC : Hid (cf 0 = 1 ∧ (∀ k, k ≤ a.size → cf k ≤ 3000) ∧ (∀ k, (h : k < a.size) → a[k] = 10 → cf (k + 1) = cf k + 1) ∧ (∀ k, (h : k < a.size) → a[k] ≠ 10 → cf (k + 1) = cf k)) := by
    refine Lib.hid ⟨by rw [hcf]; rfl, fun k hk => ?_, fun k h h10 => ?_, fun k h h10 => ?_⟩
    · rw [hcf]
      have := List.count_le_length (a := (10 : UInt8)) (l := (ls a).take k)
      have := List.length_take_le k (ls a)
      omega
    · rw [hcf, hcf, ls_take_succ a k h, List.count_append, h10]; simp; omega
    · rw [hcf, hcf, ls_take_succ a k h, List.count_append, List.count_singleton]; simp [h10]
  have hcnt : (ls a).count 10 + 1 = cf a.size := by rw [hcf, ls_take_all]; omega
  rw [hcnt] at key
  clear hcf hcnt
  rcases key with ⟨e0, rfl, ⟨rfl, rfl⟩, rfl⟩ | ⟨rfl, e0, rfl, ⟨hp1, rfl⟩, rfl⟩ | ⟨rfl, rfl, rfl, hkt⟩
  all_goals
    replace CX := Lib.hid CX
    replace CY := Lib.hid CY
    replace CZ := Lib.hid CZ
  · have hne : ((eg : Int) != 0) = true := bne_iff_ne.2 (by omega)
    clear e0
    go_enter Tryd.func6, Tryd.ntmps6
    go_wp2_with fail
    refine CA.out.mono ?_
    rintro e w1 ⟨rfl, b1⟩
    go_wp2_with fail
    refine (CX.out _ (HL.out.below b1)).mono ?_
    rintro e w2 ⟨p2, cap2, rfl, t2, s2, b2⟩
    have B2 := below_next b1 b2
    have B2a := B2.alloc B2.size (.cells #[.int .i64 (pg1 : Int), .int .i64 (pg2 : Int)] 25)
    have S2 := s2.below ((Below.refl _ _).alloc (Nat.le_refl _) (.cells #[.int .i64 (pg1 : Int), .int .i64 (pg2 : Int)] 25))
    clear t2 s2 b2 B2 b1
    go_wp2_with fail
    refine (CY.out _ (HL.out.below B2a)).mono ?_
    rintro e w3 ⟨p3, cap3, rfl, t3, s3, b3⟩
    have B3 := below_next B2a b3
    have B3a := B3.alloc B3.size (.cells #[.int .i64 (pb1 : Int), .int .i64 (pb2 : Int)] 25)
    have S3 := s3.below ((Below.refl _ _).alloc (Nat.le_refl _) (.cells #[.int .i64 (pb1 : Int), .int .i64 (pb2 : Int)] 25))
    have S3' := (S2.below b3).below ((Below.refl _ _).alloc (Nat.le_refl _) (.cells #[.int .i64 (pb1 : Int), .int .i64 (pb2 : Int)] 25))
    have K3 := (boxed_below (Blk.new w2 25 #[.int .i64 (pg1 : Int), .int .i64 (pg2 : Int)]) b3).alloc (.cells #[.int .i64 (pb1 : Int), .int .i64 (pb2 : Int)] 25)
    clear t3 s3 b3 B3 B2a S2
    go_wp2_with fail
    rw [show a ++ { data := #[10] } ++ b = glue a b from rfl]
    refine (CZ.out _ (HL.out.below B3a)).mono ?_
    rintro e w4 ⟨p4, cap4, rfl, t4, s4, b4⟩
    have B4 := below_next B3a b4
    have B4a := Lib.hid (B4.alloc B4.size (.cells #[.int .i64 (pg1 : Int), .int .i64 (pg2 : Int)] 25))
    have T4 := Lib.hid (t4.below ((Below.refl _ _).alloc (Nat.le_refl _) (.cells #[.int .i64 (pg1 : Int), .int .i64 (pg2 : Int)] 25)))
    have S4 := Lib.hid ((S3.below b4).below ((Below.refl _ _).alloc (Nat.le_refl _) (.cells #[.int .i64 (pg1 : Int), .int .i64 (pg2 : Int)] 25)))
    have S4' := Lib.hid ((S3'.below b4).below ((Below.refl _ _).alloc (Nat.le_refl _) (.cells #[.int .i64 (pg1 : Int), .int .i64 (pg2 : Int)] 25)))
    have K4 := (boxed_below K3 b4).alloc (.cells #[.int .i64 (pg1 : Int), .int .i64 (pg2 : Int)] 25)
    have L4 := (boxed_below (Blk.new w3 25 #[.int .i64 (pb1 : Int), .int .i64 (pb2 : Int)]) b4).alloc (.cells #[.int .i64 (pg1 : Int), .int .i64 (pg2 : Int)] 25)
    have k0 := K4.cell 0
    have k1 := K4.cell 1
    have l0 := L4.cell 0
    have l1 := L4.cell 1
    simp only [List.getElem?_toArray, List.getElem?_cons_zero, List.getElem?_cons_succ] at k0 k1 l0 l1
    clear t4 s4 b4 B4 B3a S3 S3' K3 K4 L4
    go_wp2
    go_ret
    exact ⟨rfl, B4a.out⟩
  · have hne : ((eg : Int) != 0) = true := bne_iff_ne.2 (by omega)
    have hE := Lib.hid (show (pb1 : Int) + (cf a.size : Int) = (pg1 : Int) by omega)
    clear hp1
    clear e0
    go_enter Tryd.func6, Tryd.ntmps6
    go_wp2_with fail
    refine CA.out.mono ?_
    rintro e w1 ⟨rfl, b1⟩
    go_wp2_with fail
    refine (CX.out _ (HL.out.below b1)).mono ?_
    rintro e w2 ⟨p2, cap2, rfl, t2, s2, b2⟩
    have B2 := below_next b1 b2
    have B2a := B2.alloc B2.size (.cells #[.int .i64 (pa1 : Int), .int .i64 (pa2 : Int)] 25)
    have S2 := s2.below ((Below.refl _ _).alloc (Nat.le_refl _) (.cells #[.int .i64 (pa1 : Int), .int .i64 (pa2 : Int)] 25))
    clear t2 s2 b2 B2 b1
    go_wp2_with fail
    refine (CY.out _ (HL.out.below B2a)).mono ?_
    rintro e w3 ⟨p3, cap3, rfl, t3, s3, b3⟩
    have B3 := below_next B2a b3
    have B3a := B3.alloc B3.size (.cells #[.int .i64 (pb1 : Int), .int .i64 (pg2 : Int)] 25)
    have S3 := s3.below ((Below.refl _ _).alloc (Nat.le_refl _) (.cells #[.int .i64 (pb1 : Int), .int .i64 (pg2 : Int)] 25))
    have S3' := (S2.below b3).below ((Below.refl _ _).alloc (Nat.le_refl _) (.cells #[.int .i64 (pb1 : Int), .int .i64 (pg2 : Int)] 25))
    have K3 := (boxed_below (Blk.new w2 25 #[.int .i64 (pa1 : Int), .int .i64 (pa2 : Int)]) b3).alloc (.cells #[.int .i64 (pb1 : Int), .int .i64 (pg2 : Int)] 25)
    clear t3 s3 b3 B3 B2a S2
    go_wp2_with fail
    rw [show a ++ { data := #[10] } ++ b = glue a b from rfl]
    refine (CZ.out _ (HL.out.below B3a)).mono ?_
    rintro e w4 ⟨p4, cap4, rfl, t4, s4, b4⟩
    have B4 := below_next B3a b4
    have B4a := Lib.hid (B4.alloc B4.size (.cells #[.int .i64 (pg1 : Int), .int .i64 (pg2 : Int)] 25))
    have T4 := Lib.hid (t4.below ((Below.refl _ _).alloc (Nat.le_refl _) (.cells #[.int .i64 (pg1 : Int), .int .i64 (pg2 : Int)] 25)))
    have S4 := Lib.hid ((S3.below b4).below ((Below.refl _ _).alloc (Nat.le_refl _) (.cells #[.int .i64 (pg1 : Int), .int .i64 (pg2 : Int)] 25)))
    have S4' := Lib.hid ((S3'.below b4).below ((Below.refl _ _).alloc (Nat.le_refl _) (.cells #[.int .i64 (pg1 : Int), .int .i64 (pg2 : Int)] 25)))
    have K4 := (boxed_below K3 b4).alloc (.cells #[.int .i64 (pg1 : Int), .int .i64 (pg2 : Int)] 25)
    have L4 := (boxed_below (Blk.new w3 25 #[.int .i64 (pb1 : Int), .int .i64 (pg2 : Int)]) b4).alloc (.cells #[.int .i64 (pg1 : Int), .int .i64 (pg2 : Int)] 25)
    have k0 := K4.cell 0
    have k1 := K4.cell 1
    have l0 := L4.cell 0
    have l1 := L4.cell 1
    simp only [List.getElem?_toArray, List.getElem?_cons_zero, List.getElem?_cons_succ] at k0 k1 l0 l1
    clear t4 s4 b4 B4 B3a S3 S3' K3 K4 L4
    go_wp2
    go_loop [14, 15] (fun n i => ∃ k : Nat, k ≤ a.size ∧ i = .int .i64 k ∧ n = .int .i64 (cf k : Int)) (fun _ i => a.size - (intOf i).toNat)
    case atStart => exact ⟨0, by omega, rfl, by rw [HC.out.1]; rfl⟩
    case round =>
      obtain ⟨k, hk, rfl, rfl⟩ := hrel
      have hcl := HC.out.2.1 k hk
      by_cases hlt : k < a.size
      · by_cases h10 : a[k] = 10
        · have e10 : ((a[k].toNat : Int) == 10) = true := by rw [h10]; rfl
          have hN := Lib.hid (HC.out.2.2.1 k hlt h10)
          clear h10
          go_wp2
          go_round
          case rel => exact ⟨k + 1, by omega, by go_num, by rw [hN.out]; go_num⟩
          case measure => simp [intOf]; omega
        · have e10 : ((a[k].toNat : Int) == 10) = false := beq_eq_false_iff_ne.2 (fun h => h10 (UInt8.toNat_inj.1 (Int.ofNat_inj.1 h)))
          have hN := Lib.hid (HC.out.2.2.2 k hlt h10)
          clear h10
          go_wp2
          go_round
          case rel => exact ⟨k + 1, by omega, by go_num, by rw [hN.out]⟩
          case measure => simp [intOf]; omega
      · obtain rfl : k = a.size := by omega
        have hE' := hE.out
        go_wp2
        go_ret
        exact ⟨rfl, B4a.out⟩
  · go_enter Tryd.func6, Tryd.ntmps6
    go_wp2_with fail
    refine CA.out.mono ?_
    rintro e w1 ⟨rfl, b1⟩
    go_wp2_with fail
    refine (CX.out _ (HL.out.below b1)).mono ?_
    rintro e w2 ⟨p2, cap2, rfl, t2, s2, b2⟩
    have B2 := below_next b1 b2
    have B2a := B2.alloc B2.size (.cells #[.int .i64 (pa1 : Int), .int .i64 (pa2 : Int)] 25)
    have S2 := s2.below ((Below.refl _ _).alloc (Nat.le_refl _) (.cells #[.int .i64 (pa1 : Int), .int .i64 (pa2 : Int)] 25))
    clear t2 s2 b2 B2 b1
    go_wp2_with fail
    refine (CY.out _ (HL.out.below B2a)).mono ?_
    rintro e w3 ⟨p3, cap3, rfl, t3, s3, b3⟩
    have B3 := below_next B2a b3
    have B3a := B3.alloc B3.size (.cells #[.int .i64 (pb1 : Int), .int .i64 (pb2 : Int)] 25)
    have S3 := s3.below ((Below.refl _ _).alloc (Nat.le_refl _) (.cells #[.int .i64 (pb1 : Int), .int .i64 (pb2 : Int)] 25))
    have S3' := (S2.below b3).below ((Below.refl _ _).alloc (Nat.le_refl _) (.cells #[.int .i64 (pb1 : Int), .int .i64 (pb2 : Int)] 25))
    have K3 := (boxed_below (Blk.new w2 25 #[.int .i64 (pa1 : Int), .int .i64 (pa2 : Int)]) b3).alloc (.cells #[.int .i64 (pb1 : Int), .int .i64 (pb2 : Int)] 25)
    clear t3 s3 b3 B3 B2a S2
    go_wp2_with fail
    rw [show a ++ { data := #[10] } ++ b = glue a b from rfl]
    refine (CZ.out _ (HL.out.below B3a)).mono ?_
    rintro e w4 ⟨p4, cap4, rfl, t4, s4, b4⟩
    have B4 := below_next B3a b4
    have B4a := Lib.hid (B4.alloc B4.size (.cells #[.int .i64 (pg1 : Int), .int .i64 (pg2 : Int)] 25))
    have T4 := Lib.hid (t4.below ((Below.refl _ _).alloc (Nat.le_refl _) (.cells #[.int .i64 (pg1 : Int), .int .i64 (pg2 : Int)] 25)))
    have S4 := Lib.hid ((S3.below b4).below ((Below.refl _ _).alloc (Nat.le_refl _) (.cells #[.int .i64 (pg1 : Int), .int .i64 (pg2 : Int)] 25)))
    have S4' := Lib.hid ((S3'.below b4).below ((Below.refl _ _).alloc (Nat.le_refl _) (.cells #[.int .i64 (pg1 : Int), .int .i64 (pg2 : Int)] 25)))
    have K4 := (boxed_below K3 b4).alloc (.cells #[.int .i64 (pg1 : Int), .int .i64 (pg2 : Int)] 25)
    have L4 := (boxed_below (Blk.new w3 25 #[.int .i64 (pb1 : Int), .int .i64 (pb2 : Int)]) b4).alloc (.cells #[.int .i64 (pg1 : Int), .int .i64 (pg2 : Int)] 25)
    have k0 := K4.cell 0
    have k1 := K4.cell 1
    have l0 := L4.cell 0
    have l1 := L4.cell 1
    simp only [List.getElem?_toArray, List.getElem?_cons_zero, List.getElem?_cons_succ] at k0 k1 l0 l1
    clear t4 s4 b4 B4 B3a S3 S3' K3 K4 L4
    go_wp2
    go_loop [14, 15] (fun n i => ∃ k : Nat, k ≤ a.size ∧ i = .int .i64 k ∧ n = .int .i64 (cf k : Int)) (fun _ i => a.size - (intOf i).toNat)
    case atStart => exact ⟨0, by omega, rfl, by rw [HC.out.1]; rfl⟩
    case round =>
      obtain ⟨k, hk, rfl, rfl⟩ := hrel
      have hcl := HC.out.2.1 k hk
      by_cases hlt : k < a.size
      · by_cases h10 : a[k] = 10
        · have e10 : ((a[k].toNat : Int) == 10) = true := by rw [h10]; rfl
          have hN := Lib.hid (HC.out.2.2.1 k hlt h10)
          clear h10
          go_wp2
          go_round
          case rel => exact ⟨k + 1, by omega, by go_num, by rw [hN.out]; go_num⟩
          case measure => simp [intOf]; omega
        · have e10 : ((a[k].toNat : Int) == 10) = false := beq_eq_false_iff_ne.2 (fun h => h10 (UInt8.toNat_inj.1 (Int.ofNat_inj.1 h)))
          have hN := Lib.hid (HC.out.2.2.2 k hlt h10)
          clear h10
          go_wp2
          go_round
          case rel => exact ⟨k + 1, by omega, by go_num, by rw [hN.out]⟩
          case measure => simp [intOf]; omega
      · obtain rfl : k = a.size := by omega
        have W4 : ∃ W, W = w4.alloc (.cells #[.int .i64 (pg1 : Int), .int .i64 (pg2 : Int)] 25) := ⟨_, rfl⟩
        obtain ⟨W, hW⟩ := W4
        rw [← hW] at k0 k1 l0 l1 ⊢
        have B4b := Lib.hid (hW ▸ B4a.out)
        have T4b := Lib.hid (hW ▸ T4.out)
        have S4b := Lib.hid (hW ▸ S4.out)
        have S4b' := Lib.hid (hW ▸ S4'.out)
        clear B4a T4 S4 S4' hW
        have hO0 := owns_empty W
        have hB0 : Below W.heap.size W (W.alloc (.cells #[] 27)) := (Below.refl _ _).alloc (Nat.le_refl _) _
        have hsz : W.heap.size ≤ (W.alloc (.cells #[] 27)).heap.size := hB0.size
        go_wp2_with (first
          | (at_builtin
             refine BigFrame.wpList_want (by first | rfl | simp [Region.wanted, yielded]) ?_
             intro KK hKK
             refine wp_append_toks _ (.tmp 99) (.tmp 100) rfl rfl W.heap.size (.slice (some ⟨W.heap.size, 0, none⟩) 0 0) [] rfl hO0 p2 ta.length cap2 ta rfl rfl (S4b'.out.below hB0) (by simp; omega) hsz ?_
             intro v1 w5 hown1 hg1 hat1
             have hv1 := app_blocks hat1
             have hB1 := app_below hB0 hg1
             refine hKK _ _ ?_)
          | (at_builtin
             refine BigFrame.wpList_want (by first | rfl | simp [Region.wanted, yielded]) ?_
             intro KK hKK
             refine wp_append_toks _ (.tmp 101) (.tmp 102) rfl rfl W.heap.size v1 _ rfl hown1 p3 tb.length cap3 tb rfl rfl (S4b.out.below hB1) (by simp; omega) hB1.size ?_
             intro v2 w6 hown2 hg2 hat2
             have hB2 : Below W.heap.size W w6 := below_app hB1 hg2 hv1
             obtain ⟨p6, cap6, rfl, hc6⟩ := hown2.form
             refine hKK _ _ ?_))
        have htl : tg.length ≤ 1000000 := by
          have := congrArg List.length hkt
          rw [List.length_map, List.length_map, List.length_append] at this
          omega
        refine (alike_yes tg ([] ++ ta ++ tb) p4 p6 cap4 cap6 tg.length (ta.length + tb.length) _ rfl (by simp) (by rw [List.nil_append]; exact hkt) htl (T4b.out.below hB2) hc6).mono ?_
        rintro e w7 ⟨rfl, q, rfl⟩
        go_wp2
        go_ret
        exact ⟨rfl, below_drewN (B4b.out.trans (hB2.mono B4b.out.size)) q⟩

end Go.Proofs.YthleaigkndfdaaaDoor
