/- The law LexRemarks. -/
import Derived.Test.YthleaigkndfdaaaDoorLxL1
namespace Go.Proofs.YthleaigkndfdaaaDoor
open Go.RowKit Go.Shelf

theorem ls_app (a b : ByteArray) : ls (a ++ b) = ls a ++ ls b := by simp
theorem ls_one (s : ByteArray) (k : Nat) (h : k < s.size) : ls (s.extract k (k + 1)) = [s[k]] := by
  rw [ls_ext, List.take_succ_eq_append_getElem (by rw [ls_len]; exact h), List.drop_left' (by rw [List.length_take, ls_len]; omega)]
  rfl
theorem ls_take_succ (s : ByteArray) (k : Nat) (h : k < s.size) : (ls s).take (k + 1) = (ls s).take k ++ [s[k]] := by
  rw [List.take_succ_eq_append_getElem (by rw [ls_len]; exact h)]; rfl
theorem ls_take_all (s : ByteArray) : (ls s).take s.size = ls s := List.take_of_length_le (by rw [ls_len]; exact Nat.le_refl _)
theorem bs_ls_eq {t : ByteArray} {l : Lx.Bs} (h : ls t = l) : t = bs l := by rw [← h]; rfl
theorem size_ls (t : ByteArray) : t.size = (ls t).length := (ls_len t).symm

theorem ins_append (rem a b : Lx.Bs) : Lx.ins rem (a ++ b) = Lx.ins rem a ++ Lx.ins rem b := by unfold Lx.ins; rw [List.flatMap_append]
theorem ins_len (rem s : Lx.Bs) : (Lx.ins rem s).length ≤ s.length * (rem.length + 7) := by
  induction s with
  | nil => simp [Lx.ins]
  | cons c s ih =>
    rw [Lx.ins_cons, List.length_append, List.length_cons, Nat.succ_mul]
    have : (if c = 10 then (32 :: 9 :: 35 :: rem) ++ 10 :: 32 :: 10 :: [10] else [c]).length ≤ rem.length + 7 := by
      split <;> simp
    omega

theorem lexE_kt (s t : ByteArray) (hs : s.size ≤ 65536) (ht : t.size ≤ 65536) (h : Lx.kt (evsOf s) = Lx.kt (evsOf t)) : lexE' s = lexE' t ∧ (lexT' s).map kt2 = (lexT' t).map kt2 := by
  have he : (Lx.erOf (evsOf s)).map (·.1) = (Lx.erOf (evsOf t)).map (·.1) := by rw [Lx.erOf_kt, Lx.erOf_kt, h]
  rcases lex_cases s hs with ⟨a1, _, a3, _, a5⟩ | ⟨x, a1, a2, a3, _, a5⟩
  · rcases lex_cases t ht with ⟨b1, _, b3, _, b5⟩ | ⟨y, b1, _⟩
    · exact ⟨by rw [a1, b1], by rw [a3, b3, kt2_toks, kt2_toks, h]⟩
    · rw [a5, b1] at he; cases he
  · rcases lex_cases t ht with ⟨b1, _, b3, _, b5⟩ | ⟨y, b1, b2, _, _, b5⟩
    · rw [a1, b5] at he; cases he
    · rw [a1, b1] at he
      have : x.1 = y.1 := Option.some.inj he
      exact ⟨by rw [a2, b2, this], by rw [a5, b5]⟩

theorem remarks_evs (s rem : ByteArray) (hr : ∀ c ∈ ls rem, c ≠ 10) (t : ByteArray) (ht : ls t = 32 :: 9 :: 10 :: (Lx.ins (ls rem) (ls s) ++ (9 :: 35 :: ls rem))) : Lx.kt (evsOf s) = Lx.kt (evsOf t) := by
  have h := Lx.remarks gd (ls rem) hr (ls s).length (ls s) (Nat.le_refl _) 3 0
  unfold evsOf
  rw [ht, Lx.ev_blank gd (.inl rfl), Lx.ev_blank gd (.inr rfl), Lx.ev_line]
  exact h.symm

set_option maxHeartbeats 4000000 in
set_option maxRecDepth 100000 in
theorem remarks_law (s rem : ByteArray) (w : World) (hL : Lens w) (hs : s.size ≤ 9223372036854775807) (hr : rem.size ≤ 9223372036854775807) :
    Calls Tryd.prog 7 #[.string s, .string rem] w fun e w' => e = .returned (.bool true) ∧ Below w.heap.size w w' := by
  have HL := Lib.hid hL; clear hL
  have CA := Lib.hid (awake_any w HL.out)
  by_cases h3 : 1000 < s.size
  · go_enter Tryd.func7, Tryd.ntmps7
    go_wp2_with fail
    refine CA.out.mono ?_
    rintro e w1 ⟨rfl, b1⟩
    go_wp2
    go_ret
    exact ⟨rfl, b1⟩
  by_cases h4 : 30 < rem.size
  · go_enter Tryd.func7, Tryd.ntmps7
    go_wp2_with fail
    refine CA.out.mono ?_
    rintro e w1 ⟨rfl, b1⟩
    go_wp2
    go_ret
    exact ⟨rfl, b1⟩
  have h3' : s.size ≤ 1000 := by omega
  have h4' : rem.size ≤ 30 := by omega
  clear h3 h4
  have CX := Lib.hid (fun W h => lex_form s W h hs)
  go_enter Tryd.func7, Tryd.ntmps7
  go_wp2_with fail
  refine CA.out.mono ?_
  rintro e w1 ⟨rfl, b1⟩
  have HL1 := Lib.hid (HL.out.below b1)
  go_wp2
  go_loop [5] (fun i => ∃ k : Nat, k ≤ rem.size ∧ i = .int .i64 k ∧ Hid (∀ c ∈ (ls rem).take k, c ≠ 10)) (fun i => rem.size - (intOf i).toNat)
  case atStart => exact ⟨0, by omega, rfl, Lib.hid (by simp)⟩
  case round =>
    obtain ⟨k, hk, rfl, hall⟩ := hrel
    by_cases hlt : k < rem.size
    · by_cases h10 : rem[k] = 10
      · have e10 : ((rem[k].toNat : Int) == 10) = true := by rw [h10]; rfl
        clear h10
        go_wp2
        go_ret
        exact ⟨rfl, b1⟩
      · have e10 : ((rem[k].toNat : Int) == 10) = false := beq_eq_false_iff_ne.2 (fun h => h10 (UInt8.toNat_inj.1 (Int.ofNat_inj.1 h)))
        have hN := Lib.hid (show ∀ c ∈ (ls rem).take (k + 1), c ≠ 10 from fun c hc => by
          rw [ls_take_succ rem k hlt, List.mem_append] at hc
          rcases hc with hc | hc
          · exact hall.out c hc
          · simp at hc; subst hc; exact h10)
        clear h10
        go_wp2
        go_round
        case rel => exact ⟨k + 1, by omega, by go_num, hN⟩
        case measure => simp [intOf]; omega
    · obtain rfl : k = rem.size := by omega
      rw [ls_take_all] at hall
      go_wp2
      go_loop [7, 6] (fun i t => ∃ (k : Nat) (tt : ByteArray), k ≤ s.size ∧ i = .int .i64 k ∧ t = .string tt ∧ Hid (ls tt = 32 :: 9 :: 10 :: Lx.ins (ls rem) ((ls s).take k))) (fun i _ => s.size - (intOf i).toNat)
      case atStart => exact ⟨0, _, by omega, rfl, rfl, Lib.hid rfl⟩
      case round =>
        obtain ⟨k, tt, hk, rfl, rfl, ht⟩ := hrel
        have htz : tt.size ≤ 40000 := by
          rw [size_ls, ht.out]
          have h1 := ins_len (ls rem) ((ls s).take k)
          have h2 : ((ls s).take k).length ≤ k := List.length_take_le _ _
          have h3 := Nat.mul_le_mul (Nat.le_trans h2 (Nat.le_trans hk h3')) (show (ls rem).length + 7 ≤ 37 by rw [ls_len]; omega)
          simp only [List.length_cons]; omega
        by_cases hlt2 : k < s.size
        · have hst := Lib.hid (ls_take_succ s k hlt2)
          have hone := Lib.hid (ls_one s k hlt2)
          by_cases h10 : s[k] = 10
          · have e10 : ((s[k].toNat : Int) == 10) = true := by rw [h10]; rfl
            have H10 := Lib.hid h10
            clear h10
            go_wp2
            go_round
            case rel =>
              refine ⟨k + 1, _, by omega, by go_num, rfl, Lib.hid ?_⟩
              rw [hst.out, ins_append]
              simp only [ls_app, ht.out, hone.out, H10.out]
              simp [Lx.ins, ls]
            case measure => simp [intOf]; omega
          · have e10 : ((s[k].toNat : Int) == 10) = false := beq_eq_false_iff_ne.2 (fun h => h10 (UInt8.toNat_inj.1 (Int.ofNat_inj.1 h)))
            have H10 := Lib.hid h10
            clear h10
            go_wp2
            go_round
            case rel =>
              refine ⟨k + 1, _, by omega, by go_num, rfl, Lib.hid ?_⟩
              rw [hst.out, ins_append]
              simp only [ls_app, ht.out, hone.out]
              simp [Lx.ins, H10.out]
            case measure => simp [intOf]; omega
        · obtain rfl : k = s.size := by omega
          rw [ls_take_all] at ht
          obtain ⟨T, hT⟩ : ∃ T : ByteArray, ls T = ls tt ++ (9 :: 35 :: ls rem) := ⟨bs (ls tt ++ (9 :: 35 :: ls rem)), rfl⟩
          have hTz : T.size ≤ 50000 := by rw [size_ls, hT, List.length_append, List.length_cons, List.length_cons, ls_len, ls_len]; omega
          have hT2 : ls T = 32 :: 9 :: 10 :: (Lx.ins (ls rem) (ls s) ++ (9 :: 35 :: ls rem)) := by rw [hT, ht.out]; rfl
          have hkt := lexE_kt s T (by omega) (by omega) (remarks_evs s rem hall.out T hT2)
          have hTT := Lib.hid (show (tt ++ { data := #[9, 35] }) ++ rem = T by
            rw [bs_ls_eq hT]
            apply ByteArray.ext; apply Array.toList_inj.1
            simp [bs])
          have CY := Lib.hid (fun W h => lex_form T W h (by omega))
          rw [← hkt.1] at CY
          have HM := Lib.hid hkt.2
          obtain ⟨m, hm⟩ : ∃ m, m = lexT' T := ⟨_, rfl⟩
          rw [← hm] at HM CY
          obtain ⟨l, hl⟩ : ∃ l, l = lexT' s := ⟨_, rfl⟩
          rw [← hl] at HM CX
          have hlen : l.length ≤ 10000 := by
            rcases lex_cases s (by omega) with ⟨_, _, a3, _⟩ | ⟨x, _, _, _, _, a5⟩
            · have := evs_length s; rw [hl, a3, List.length_map]; omega
            · rw [hl, a5]; simp
          obtain ⟨n, hn⟩ : ∃ n, n = l.length := ⟨_, rfl⟩
          have hml : m.length = n := by have := congrArg List.length HM.out; rw [hn]; simpa using this.symm
          have HN := Lib.hid (And.intro hn.symm hml)
          rw [hml] at CY
          rw [← hn] at CX
          have hn6 : n ≤ 10000 := by omega
          obtain ⟨er, her⟩ : ∃ er, er = lexE' s := ⟨_, rfl⟩
          rw [← her] at CX CY
          clear hml hn hlen hl hm hT hT2 hkt her
          go_wp2_with fail
          refine (CX.out _ HL1.out).mono ?_
          rintro e w2 ⟨p, cap, rfl, t2, b2⟩
          have B2 := below_next b1 b2
          have T2 := Lib.hid (t2.below ((Below.refl _ _).alloc (Nat.le_refl _) (.cells #[.int .i64 ((lexP' s).1 : Int), .int .i64 ((lexP' s).2 : Int)] 25)))
          have B2a := B2.alloc B2.size (.cells #[.int .i64 ((lexP' s).1 : Int), .int .i64 ((lexP' s).2 : Int)] 25)
          clear t2 b2
          go_wp2_with fail
          rw [hTT.out]
          refine (CY.out _ (HL.out.below B2a)).mono ?_
          rintro e w4 ⟨q, cap', rfl, t4, b4⟩
          have T4 := Lib.hid ((T2.out.below b4).below ((Below.refl _ _).alloc (Nat.le_refl _) (.cells #[.int .i64 ((lexP' T).1 : Int), .int .i64 ((lexP' T).2 : Int)] 25)))
          have U4 := Lib.hid (t4.below ((Below.refl _ _).alloc (Nat.le_refl _) (.cells #[.int .i64 ((lexP' T).1 : Int), .int .i64 ((lexP' T).2 : Int)] 25)))
          have B4 := B2a.trans (b4.mono B2a.size)
          have B4a := B4.alloc B4.size (.cells #[.int .i64 ((lexP' T).1 : Int), .int .i64 ((lexP' T).2 : Int)] 25)
          clear t4 b4
          go_wp2_with fail
          refine (alike_yes l m p q cap cap' n n _ HN.out.1 HN.out.2 HM.out (by omega) T4.out U4.out).mono ?_
          rintro e w5 ⟨rfl, k, rfl⟩
          go_wp2
          go_ret
          exact ⟨rfl, below_drewN B4a k⟩

end Go.Proofs.YthleaigkndfdaaaDoor
