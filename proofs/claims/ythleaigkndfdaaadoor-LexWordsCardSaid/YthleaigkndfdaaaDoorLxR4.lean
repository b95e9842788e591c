/- The law LexWords. -/
import Derived.Test.YthleaigkndfdaaaDoorLxR3
import Derived.Test.YthleaigkndfdaaaDoorLxAwake
import Derived.Test.YthleaigkndfdaaaDoorSpLater
import Derived.Test.YthleaigkndfdaaaDoorLxN2
namespace Go.Proofs.YthleaigkndfdaaaDoor
open Go.RowKit Go.Shelf

theorem tok_first {W : World} {p : Option Addr} {k : Nat} {tx : ByteArray} {a b : Int} {l : List Tok} (h : TCells W p ((k, tx, a, b) :: l)) : ∃ g off, p = some ⟨g, off, none⟩ ∧ W.cell? ⟨g, off, none⟩ = some (.int .u8 (k : Int)) ∧ W.cell? ⟨g, off + 1, none⟩ = some (.string tx) := by
  obtain ⟨b, off, e, h0, h1, _, _⟩ := h 0 (by simp)
  rw [Nat.zero_mul, Nat.add_zero] at h0 h1
  exact ⟨b, off, e, h0, h1⟩

/-- A word alone: its tokens. -/
theorem lex_word (s : ByteArray) (h : Lx.wordB (ls s) = true) (h24 : s.size ≤ 24) : ∃ l, LexIs s 2 0 0 ((1, s, 1, 1) :: l) :=
  ⟨_, lexIs_good s _ 2 rfl (by omega) (Lx.ev_word gd (ls s) h (by rw [ls_len]; exact h24)) (okE_two 1 _ _ _)⟩
/-- What is no word alone has no such tokens. -/
theorem lex_no_word (s : ByteArray) (h : Lx.wordB (ls s) = false) (h24 : s.size ≤ 24) (he : lexE' s = 0) (tx : ByteArray) (a b : Int) (l : List Tok) (hl : lexT' s = (1, tx, a, b) :: l) : tx ≠ s := by
  rintro rfl
  rcases lex_cases tx (by omega) with ⟨_, _, h3, h4, _⟩ | ⟨x, _, _, h2, _⟩
  · have hwf := Lx.ev_wf gd (ls tx).length (ls tx) (Nat.le_refl _) 0 none h4
    have hm : ((0, 1, ls tx) : Lx.Tk) ∈ Lx.kt (Lx.ev gd (ls tx) 0 0 none) := by
      rw [h3] at hl
      cases hev : evsOf tx with
      | nil => rw [hev] at hl; cases hl
      | cons x r =>
        have hok : x.1.1 = 0 := by
          rw [hev] at h4; unfold Lx.okE at h4; rw [List.all_cons, Bool.and_eq_true] at h4; simpa using h4.1
        rw [hev, List.map_cons, List.cons.injEq] at hl
        have h1 := hl.1
        unfold tokOf at h1
        simp only [Prod.mk.injEq] at h1
        have e : x.1 = (0, 1, ls tx) := by
          obtain ⟨⟨x1, x2, x3⟩, o⟩ := x
          dsimp only at h1 hok ⊢
          rw [hok, h1.1, ← h1.2.1]; rfl
        show _ ∈ Lx.kt (evsOf tx)
        rw [hev]
        exact List.mem_map.2 ⟨x, by simp, e⟩
    rw [Lx.wf_word gd hwf _ hm] at h; cases h
  · omega

set_option maxHeartbeats 40000000 in
set_option maxRecDepth 100000 in
theorem words_yes (s : ByteArray) (w : World) (hL : Lens w) (hM : MaxAt w) (h24 : s.size ≤ 24) (hw : Lx.wordB (ls s) = true) :
    Calls Tryd.prog 10 #[.string s] w fun e w' => e = .returned (.bool true) ∧ Below w.heap.size w w' := by
  obtain ⟨l, hl⟩ := lex_word s hw h24
  have CX := Lib.hid hl
  have CA := Lib.hid (awake_any w hL)
  have CZ := reserved_any s
  have CN := name_any s
  have hv : Lx.nmv (ls s) = !Lx.resv (ls s) := by unfold Lx.nmv; rw [hw, ls_len, decide_eq_true h24]; rfl
  rw [hv] at CN
  clear hv hw hl
  have HL := Lib.hid hL
  have HM := Lib.hid hM
  clear hL hM
  generalize Lx.resv (ls s) = r at CZ CN
  have CZ' := Lib.hid (fun W => CZ W (by omega))
  have CN' := Lib.hid (fun W => CN W (by omega))
  clear CZ CN
  cases r with
  | true =>
    go_enter Tryd.func10, Tryd.ntmps10
    go_wp2_with fail
    refine CA.out.mono ?_
    rintro e w1 ⟨rfl, b1⟩
    go_wp2_with fail
    refine (CX.out _ (HL.out.below b1)).mono ?_
    rintro e w2 ⟨p, cap, rfl, hc, b2⟩
    have B2' := below_next b1 b2
    have B2 := B2'.alloc B2'.size (.cells #[.int .i64 0, .int .i64 0] 25)
    obtain ⟨g, off, rfl, q0, q1⟩ := tok_first hc
    have D2 := (Below.refl w2.heap.size w2).alloc (Nat.le_refl _) (.cells #[.int .i64 0, .int .i64 0] 25)
    rw [← D2.cell (World.block_lt_of_cell? w2 _ q0)] at q0
    rw [← D2.cell (World.block_lt_of_cell? w2 _ q1)] at q1
    clear b2 hc D2 B2'
    go_wp2_with fail
    refine (CZ'.out _ (HM.out.below B2)).mono ?_
    rintro e w3 ⟨rfl, b3⟩
    have B3 := B2.trans (b3.mono B2.size)
    rw [← b3.cell (World.block_lt_of_cell? _ _ q0)] at q0
    rw [← b3.cell (World.block_lt_of_cell? _ _ q1)] at q1
    clear b3 B2
    go_wp2_with fail
    refine (CN'.out _ (HM.out.below B3)).mono ?_
    rintro e w4 ⟨rfl, b4⟩
    have B4 := B3.trans (b4.mono B3.size)
    rw [← b4.cell (World.block_lt_of_cell? _ _ q0)] at q0
    rw [← b4.cell (World.block_lt_of_cell? _ _ q1)] at q1
    clear b4 B3
    go_wp2_with fail
    refine (CZ'.out _ (HM.out.below B4)).mono ?_
    rintro e w5 ⟨rfl, b5⟩
    have B5 := B4.trans (b5.mono B4.size)
    rw [← b5.cell (World.block_lt_of_cell? _ _ q0)] at q0
    rw [← b5.cell (World.block_lt_of_cell? _ _ q1)] at q1
    clear b5 B4
    go_wp2_with fail
    refine (CN'.out _ (HM.out.below B5)).mono ?_
    rintro e w6 ⟨rfl, b6⟩
    have B6 := B5.trans (b6.mono B5.size)
    rw [← b6.cell (World.block_lt_of_cell? _ _ q0)] at q0
    rw [← b6.cell (World.block_lt_of_cell? _ _ q1)] at q1
    clear b6 B5
    go_wp2_with fail
    go_ret
    exact ⟨rfl, B6⟩
  | false =>
    go_enter Tryd.func10, Tryd.ntmps10
    go_wp2_with fail
    refine CA.out.mono ?_
    rintro e w1 ⟨rfl, b1⟩
    go_wp2_with fail
    refine (CX.out _ (HL.out.below b1)).mono ?_
    rintro e w2 ⟨p, cap, rfl, hc, b2⟩
    have B2' := below_next b1 b2
    have B2 := B2'.alloc B2'.size (.cells #[.int .i64 0, .int .i64 0] 25)
    obtain ⟨g, off, rfl, q0, q1⟩ := tok_first hc
    have D2 := (Below.refl w2.heap.size w2).alloc (Nat.le_refl _) (.cells #[.int .i64 0, .int .i64 0] 25)
    rw [← D2.cell (World.block_lt_of_cell? w2 _ q0)] at q0
    rw [← D2.cell (World.block_lt_of_cell? w2 _ q1)] at q1
    clear b2 hc D2 B2'
    go_wp2_with fail
    refine (CZ'.out _ (HM.out.below B2)).mono ?_
    rintro e w3 ⟨rfl, b3⟩
    have B3 := B2.trans (b3.mono B2.size)
    rw [← b3.cell (World.block_lt_of_cell? _ _ q0)] at q0
    rw [← b3.cell (World.block_lt_of_cell? _ _ q1)] at q1
    clear b3 B2
    go_wp2_with fail
    refine (CN'.out _ (HM.out.below B3)).mono ?_
    rintro e w4 ⟨rfl, b4⟩
    have B4 := B3.trans (b4.mono B3.size)
    rw [← b4.cell (World.block_lt_of_cell? _ _ q0)] at q0
    rw [← b4.cell (World.block_lt_of_cell? _ _ q1)] at q1
    clear b4 B3
    go_wp2_with fail
    refine (CZ'.out _ (HM.out.below B4)).mono ?_
    rintro e w5 ⟨rfl, b5⟩
    have B5 := B4.trans (b5.mono B4.size)
    rw [← b5.cell (World.block_lt_of_cell? _ _ q0)] at q0
    rw [← b5.cell (World.block_lt_of_cell? _ _ q1)] at q1
    clear b5 B4
    go_wp2_with fail
    go_ret
    exact ⟨rfl, B5⟩

/-- What Lex answers where it is not one word: an error, another number of tokens, another kind, another text. -/
inductive NoWord (s : ByteArray) : List Tok → Nat → Prop where
  | err (l : List Tok) (e : Nat) (h : e ≠ 0) : NoWord s l e
  | len (l : List Tok) (h : l.length ≠ 2) : NoWord s l 0
  | kind (k : Nat) (tx : ByteArray) (a b : Int) (x : Tok) (h : k ≠ 1) : NoWord s [(k, tx, a, b), x] 0
  | text (tx : ByteArray) (a b : Int) (x : Tok) (h : tx ≠ s) : NoWord s [(1, tx, a, b), x] 0

theorem no_word (s : ByteArray) (h : Lx.wordB (ls s) = false) (h24 : s.size ≤ 24) : NoWord s (lexT' s) (lexE' s) := by
  by_cases he : lexE' s = 0
  · have hn := lex_no_word s h h24 he
    rw [he]
    generalize lexT' s = m at hn
    match m with
    | [] => exact .len _ (by simp)
    | [_] => exact .len _ (by simp)
    | _ :: _ :: _ :: _ => exact .len _ (by simp)
    | [(k, tx, a, b), x] =>
      by_cases hk : k = 1
      · subst hk; exact .text tx a b x (hn tx a b [x] rfl)
      · exact .kind k tx a b x hk
  · exact .err _ _ he

set_option maxHeartbeats 40000000 in
set_option maxRecDepth 100000 in
theorem words_no (s : ByteArray) (w : World) (hL : Lens w) (hM : MaxAt w) (h24 : s.size ≤ 24) (hw : Lx.wordB (ls s) = false) :
    Calls Tryd.prog 10 #[.string s] w fun e w' => e = .returned (.bool true) ∧ Below w.heap.size w w' := by
  have CX := lex_form s
  have hno := no_word s hw h24
  have CA := Lib.hid (awake_any w hL)
  have CZ := reserved_any s
  have CN := name_any s
  have hr : Lx.resv (ls s) = false := by
    cases h : Lx.resv (ls s) with
    | false => rfl
    | true => rw [(Lx.resv_word h).1] at hw; cases hw
  rw [nm_no hw] at CN
  rw [hr] at CZ
  clear hr hw
  have HL := Lib.hid hL
  have HM := Lib.hid hM
  clear hL hM
  have CZ' := Lib.hid (fun W => CZ W (by omega))
  have CN' := Lib.hid (fun W => CN W (by omega))
  clear CZ CN
  generalize (lexP' s).1 = y1 at CX
  generalize (lexP' s).2 = y2 at CX
  generalize lexE' s = er at CX hno
  generalize lexT' s = tl at CX hno
  cases hno with
  | err _ _ h =>
    replace CX := Lib.hid (fun W h => CX W h (by omega))
    have f1 : ((er : Int) == 0) = false := by rw [beq_eq_false_iff_ne]; omega
    clear h
    generalize tl.length = n at CX
    go_enter Tryd.func10, Tryd.ntmps10
    go_wp2_with fail
    refine CA.out.mono ?_
    rintro e w1 ⟨rfl, b1⟩
    go_wp2_with fail
    refine (CX.out _ (HL.out.below b1)).mono ?_
    rintro e w2 ⟨p, cap, rfl, hc, b2⟩
    have B2' := below_next b1 b2
    have B2 := B2'.alloc B2'.size (.cells #[.int .i64 (y1 : Int), .int .i64 (y2 : Int)] 25)
    clear b2 B2' hc
    go_wp2_with fail
    refine (CN'.out _ (HM.out.below B2)).mono ?_
    rintro e w3 ⟨rfl, b3⟩
    have B3 := B2.trans (b3.mono B2.size)
    clear b3 B2
    go_wp2_with fail
    refine (CZ'.out _ (HM.out.below B3)).mono ?_
    rintro e w4 ⟨rfl, b4⟩
    have B4 := B3.trans (b4.mono B3.size)
    clear b4 B3
    go_wp2_with fail
    go_ret
    exact ⟨rfl, B4⟩
  | len _ h =>
    replace CX := Lib.hid (fun W h => CX W h (by omega))
    generalize hn : tl.length = n at CX h
    have f1 : ((n : Int) == 2) = false := by rw [beq_eq_false_iff_ne]; omega
    clear h hn
    go_enter Tryd.func10, Tryd.ntmps10
    go_wp2_with fail
    refine CA.out.mono ?_
    rintro e w1 ⟨rfl, b1⟩
    go_wp2_with fail
    refine (CX.out _ (HL.out.below b1)).mono ?_
    rintro e w2 ⟨p, cap, rfl, hc, b2⟩
    have B2' := below_next b1 b2
    have B2 := B2'.alloc B2'.size (.cells #[.int .i64 (y1 : Int), .int .i64 (y2 : Int)] 25)
    clear b2 B2' hc
    go_wp2_with fail
    refine (CN'.out _ (HM.out.below B2)).mono ?_
    rintro e w3 ⟨rfl, b3⟩
    have B3 := B2.trans (b3.mono B2.size)
    clear b3 B2
    go_wp2_with fail
    refine (CZ'.out _ (HM.out.below B3)).mono ?_
    rintro e w4 ⟨rfl, b4⟩
    have B4 := B3.trans (b4.mono B3.size)
    clear b4 B3
    go_wp2_with fail
    go_ret
    exact ⟨rfl, B4⟩
  | kind k tx a b x h =>
    replace CX := Lib.hid (fun W h => CX W h (by omega))
    have f1 : ((k : Int) == 1) = false := by rw [beq_eq_false_iff_ne]; omega
    clear h
    go_enter Tryd.func10, Tryd.ntmps10
    go_wp2_with fail
    refine CA.out.mono ?_
    rintro e w1 ⟨rfl, b1⟩
    go_wp2_with fail
    refine (CX.out _ (HL.out.below b1)).mono ?_
    rintro e w2 ⟨p, cap, rfl, hc, b2⟩
    have B2' := below_next b1 b2
    have B2 := B2'.alloc B2'.size (.cells #[.int .i64 (y1 : Int), .int .i64 (y2 : Int)] 25)
    obtain ⟨g, off, rfl, q0, q1⟩ := tok_first hc
    have D2 := (Below.refl w2.heap.size w2).alloc (Nat.le_refl _) (.cells #[.int .i64 (y1 : Int), .int .i64 (y2 : Int)] 25)
    rw [← D2.cell (World.block_lt_of_cell? w2 _ q0)] at q0
    rw [← D2.cell (World.block_lt_of_cell? w2 _ q1)] at q1
    clear b2 hc D2 B2'
    go_wp2_with fail
    refine (CN'.out _ (HM.out.below B2)).mono ?_
    rintro e w3 ⟨rfl, b3⟩
    have B3 := B2.trans (b3.mono B2.size)
    rw [← b3.cell (World.block_lt_of_cell? _ _ q0)] at q0
    rw [← b3.cell (World.block_lt_of_cell? _ _ q1)] at q1
    clear b3 B2
    go_wp2_with fail
    refine (CZ'.out _ (HM.out.below B3)).mono ?_
    rintro e w4 ⟨rfl, b4⟩
    have B4 := B3.trans (b4.mono B3.size)
    rw [← b4.cell (World.block_lt_of_cell? _ _ q0)] at q0
    rw [← b4.cell (World.block_lt_of_cell? _ _ q1)] at q1
    clear b4 B3
    go_wp2_with fail
    go_ret
    exact ⟨rfl, B4⟩
  | text tx a b x h =>
    replace CX := Lib.hid (fun W h => CX W h (by omega))
    have f1 : (tx.toList == s.toList) = false := by rw [ls_toList, ls_toList, beq_eq_false_iff_ne]; intro e; exact h (bs_ls_eq e)
    clear h
    go_enter Tryd.func10, Tryd.ntmps10
    go_wp2_with fail
    refine CA.out.mono ?_
    rintro e w1 ⟨rfl, b1⟩
    go_wp2_with fail
    refine (CX.out _ (HL.out.below b1)).mono ?_
    rintro e w2 ⟨p, cap, rfl, hc, b2⟩
    have B2' := below_next b1 b2
    have B2 := B2'.alloc B2'.size (.cells #[.int .i64 (y1 : Int), .int .i64 (y2 : Int)] 25)
    obtain ⟨g, off, rfl, q0, q1⟩ := tok_first hc
    have D2 := (Below.refl w2.heap.size w2).alloc (Nat.le_refl _) (.cells #[.int .i64 (y1 : Int), .int .i64 (y2 : Int)] 25)
    rw [← D2.cell (World.block_lt_of_cell? w2 _ q0)] at q0
    rw [← D2.cell (World.block_lt_of_cell? w2 _ q1)] at q1
    clear b2 hc D2 B2'
    go_wp2_with fail
    refine (CN'.out _ (HM.out.below B2)).mono ?_
    rintro e w3 ⟨rfl, b3⟩
    have B3 := B2.trans (b3.mono B2.size)
    rw [← b3.cell (World.block_lt_of_cell? _ _ q0)] at q0
    rw [← b3.cell (World.block_lt_of_cell? _ _ q1)] at q1
    clear b3 B2
    go_wp2_with fail
    refine (CZ'.out _ (HM.out.below B3)).mono ?_
    rintro e w4 ⟨rfl, b4⟩
    have B4 := B3.trans (b4.mono B3.size)
    rw [← b4.cell (World.block_lt_of_cell? _ _ q0)] at q0
    rw [← b4.cell (World.block_lt_of_cell? _ _ q1)] at q1
    clear b4 B3
    go_wp2_with fail
    go_ret
    exact ⟨rfl, B4⟩

set_option maxHeartbeats 40000000 in
set_option maxRecDepth 100000 in
theorem words_law (s : ByteArray) (w : World) (hL : Lens w) (hM : MaxAt w) (hs : s.size ≤ 9223372036854775807) :
    Calls Tryd.prog 10 #[.string s] w fun e w' => e = .returned (.bool true) ∧ Below w.heap.size w w' := by
  by_cases h24 : s.size ≤ 24
  · cases hw : Lx.wordB (ls s) with
    | true => exact words_yes s w hL hM h24 hw
    | false => exact words_no s w hL hM h24 hw
  · have hr : Lx.nmv (ls s) = false := by unfold Lx.nmv; rw [ls_len, decide_eq_false h24]; simp
    have CA := Lib.hid (awake_any w hL)
    have CN := name_any s
    rw [hr] at CN
    have CN' := Lib.hid (fun W => CN W hs)
    have HM := Lib.hid hM
    clear hr CN hM
    go_enter Tryd.func10, Tryd.ntmps10
    go_wp2_with fail
    refine CA.out.mono ?_
    rintro e w1 ⟨rfl, b1⟩
    go_wp2_with fail
    refine (CN'.out _ (HM.out.below b1)).mono ?_
    rintro e w2 ⟨rfl, b2⟩
    have B2 := below_next b1 b2
    clear b2
    go_wp2_with fail
    go_ret
    exact ⟨rfl, B2⟩

end Go.Proofs.YthleaigkndfdaaaDoor
