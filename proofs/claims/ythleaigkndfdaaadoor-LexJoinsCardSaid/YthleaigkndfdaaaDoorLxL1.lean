/- The walk of alike; the law LexJoined. -/
import Derived.Test.YthleaigkndfdaaaDoorLxAwake
namespace Go.Proofs.YthleaigkndfdaaaDoor
open Go.RowKit Go.Shelf

/-- Kind and text. -/
def kt2 (x : Tok) : Nat × ByteArray := (x.1, x.2.1)

set_option maxHeartbeats 2000000 in
theorem alike_yes (l m : List Tok) (p q : Option Addr) (c d n n' : Nat) (w : World) (hn : l.length = n) (hn' : m.length = n') (h : l.map kt2 = m.map kt2) (hN : n ≤ 1000000) (hp : TCells w p l) (hq : TCells w q m) :
    Calls Tryd.prog 18 #[.slice p n c, .slice q n' d] w fun e w' => e = .returned (.bool true) ∧ ∃ k, w' = w.drewN k := by
  have hl : l.length = m.length := by have := congrArg List.length h; simpa using this
  obtain rfl : n' = n := by omega
  have HP := Lib.hid hp; clear hp
  have HQ := Lib.hid hq; clear hq
  have HH := Lib.hid h; clear h
  have HL := Lib.hid hn
  have HL' := Lib.hid hn'
  clear hn hn' hl
  go_enter Tryd.func18, Tryd.ntmps18
  go_wp2
  go_loopw [5] (fun i wr => ∃ k j : Nat, k ≤ n' ∧ i = .int .i64 k ∧ wr = w.drewN j) (fun i _ => n' - (intOf i).toNat)
  case atStart => exact ⟨0, 0, by omega, rfl, rfl⟩
  case round =>
    obtain ⟨k, j, hk, rfl, rfl⟩ := hrel
    by_cases hlt : k < n'
    · have k1 : k < l.length := by have := HL.out; omega
      have k2 : k < m.length := by have := HL'.out; omega
      obtain ⟨b, off, rfl, h0, h1, _, _⟩ := HP.out k k1
      obtain ⟨b', off', rfl, h0', h1', _, _⟩ := HQ.out k k2
      have he : kt2 l[k] = kt2 m[k] := by
        have h1 : (l.map kt2)[k]? = (m.map kt2)[k]? := by rw [HH.out]
        rw [List.getElem?_map, List.getElem?_map, List.getElem?_eq_getElem k1, List.getElem?_eq_getElem k2] at h1
        exact Option.some.inj h1
      unfold kt2 at he
      rw [Prod.mk.injEq] at he
      rw [← he.1] at h0'
      rw [← he.2] at h1'
      obtain ⟨kd, hkd⟩ : ∃ kd, kd = l[k].1 := ⟨_, rfl⟩
      obtain ⟨tx, htx⟩ : ∃ tx, tx = l[k].2.1 := ⟨_, rfl⟩
      rw [← hkd] at h0 h0'
      rw [← htx] at h1 h1'
      clear he hkd htx
      have g0 : (0 : Int) ≤ (k : Int) := by omega
      have g1 : (k : Int) < (n' : Int) := by omega
      go_wp2
      go_quiet (fail)
      go_wp2
      go_roundw
      case rel => exact ⟨k + 1, j + nq, by omega, by go_num, rfl⟩
      case measure => simp [intOf]; omega
    · go_wp2
      go_ret
      exact ⟨rfl, j, rfl⟩

theorem erOf_some {l : List Lx.Ev} {x : Lx.Ev} (h : Lx.erOf l = some x) : x.1.1 ≠ 0 := by
  unfold Lx.erOf at h
  have := List.find?_some h
  simpa using this

/-- A source is read whole, or with an error. -/
theorem lex_cases (s : ByteArray) (hs : s.size ≤ 65536) : (lexE' s = 0 ∧ lexP' s = (0, 0) ∧ lexT' s = (evsOf s).map (tokOf s) ∧ Lx.okE (evsOf s) = true ∧ Lx.erOf (evsOf s) = none) ∨
    (∃ x, Lx.erOf (evsOf s) = some x ∧ lexE' s = x.1.1 ∧ x.1.1 ≠ 0 ∧ lexP' s = Lx.pl (ls s) x.2 ∧ lexT' s = []) := by
  unfold lexE' lexP' lexT' lexE lexP lexT
  rw [if_neg (by omega), if_neg (by omega), if_neg (by omega)]
  cases h : Lx.erOf (evsOf s) with
  | none => exact .inl ⟨rfl, rfl, rfl, Lx.erOf_none.1 h, rfl⟩
  | some x => exact .inr ⟨x, rfl, rfl, erOf_some h, rfl, rfl⟩

def kt1 (x : Lx.Tk) : Nat × ByteArray := (x.2.1, bs x.2.2)
theorem kt2_toks (s : ByteArray) (l : List Lx.Ev) : (l.map (tokOf s)).map kt2 = (Lx.kt l).map kt1 := by
  unfold Lx.kt; rw [List.map_map, List.map_map]; rfl

theorem jn_join (s : ByteArray) (l : List Lx.Ev) : (jn (l.map (tokOf s))).1 = Lx.joinF false (Lx.kt l) := by
  have key : ∀ (l : List Lx.Ev) (acc : Lx.Bs) (op : Bool), ((l.map (tokOf s)).foldl jstep (acc, op)).1 = acc ++ Lx.joinF op (Lx.kt l) := by
    intro l
    induction l with
    | nil => intro acc op; simp [Lx.kt, Lx.joinF]
    | cons x l ih =>
      intro acc op
      have e : Lx.kt (x :: l) = x.1 :: Lx.kt l := rfl
      rw [List.map_cons, List.foldl_cons, e]
      by_cases h : x.1.2.1 = 5
      · have hs : jstep (acc, op) (tokOf s x) = (acc ++ [10], false) := by unfold jstep; rw [if_pos (show (tokOf s x).1 = 5 from h)]
        rw [hs, ih]
        conv => rhs; unfold Lx.joinF
        rw [if_pos h]; simp
      · have hs : jstep (acc, op) (tokOf s x) = (acc ++ ((if op = true then [32] else []) ++ x.1.2.2), true) := by
          unfold jstep; rw [if_neg (show ¬ (tokOf s x).1 = 5 from h)]; rfl
        rw [hs, ih]
        conv => rhs; unfold Lx.joinF
        rw [if_neg h]; simp
  have := key l [] false
  rw [List.nil_append] at this
  exact this

theorem jcost_toks (s : ByteArray) (l : List Lx.Ev) : jcost (l.map (tokOf s)) = Lx.cost (Lx.kt l) := by
  unfold jcost Lx.cost Lx.kt; rw [List.map_map, List.map_map]; rfl

theorem cost_evs (s : ByteArray) : Lx.cost (Lx.kt (evsOf s)) ≤ 3 * s.size := by
  have := (Lx.ev_cost gd (ls s).length (ls s) (Nat.le_refl _) 0 none).2 rfl
  rw [ls_len] at this; exact this

/-- The tokens of a source, joined, are the tokens of the text that comes of it. -/
theorem joined (s : ByteArray) (hs : s.size ≤ 3000) (hok : Lx.okE (evsOf s) = true) :
    lexE' (bs (jn ((evsOf s).map (tokOf s))).1) = 0 ∧ lexP' (bs (jn ((evsOf s).map (tokOf s))).1) = (0, 0) ∧ (lexT' (bs (jn ((evsOf s).map (tokOf s))).1)).map kt2 = ((evsOf s).map (tokOf s)).map kt2 ∧ (bs (jn ((evsOf s).map (tokOf s))).1).size ≤ 9000 := by
  have hj := jn_join s (evsOf s)
  have hl := jn_len ((evsOf s).map (tokOf s))
  rw [jcost_toks] at hl
  have hc := cost_evs s
  have hz : (bs (jn ((evsOf s).map (tokOf s))).1).size ≤ 9000 := by rw [bs_size]; omega
  have hwf := Lx.ev_wf gd (ls s).length (ls s) (Nat.le_refl _) 0 none hok
  have hkt : Lx.kt (evsOf (bs (jn ((evsOf s).map (tokOf s))).1)) = Lx.kt (evsOf s) := by
    show Lx.kt (Lx.ev gd (jn ((evsOf s).map (tokOf s))).1 0 0 none) = _
    rw [hj]
    exact Lx.ev_join gd _ 0 none hwf
  have hok2 : Lx.okE (evsOf (bs (jn ((evsOf s).map (tokOf s))).1)) = true := by rw [Lx.okE_kt, hkt, ← Lx.okE_kt]; exact hok
  rcases lex_cases (bs (jn ((evsOf s).map (tokOf s))).1) (by omega) with ⟨h1, h2, h3, _⟩ | ⟨x, h1, _⟩
  · exact ⟨h1, h2, by rw [h3, kt2_toks, kt2_toks, hkt], hz⟩
  · rw [Lx.erOf_none.2 hok2] at h1; cases h1

set_option maxHeartbeats 4000000 in
set_option maxRecDepth 100000 in
theorem joined_law (s : ByteArray) (w : World) (hL : Lens w) (hs : s.size ≤ 9223372036854775807) :
    Calls Tryd.prog 4 #[.string s] w fun e w' => e = .returned (.bool true) ∧ Below w.heap.size w w' := by
  have HL := Lib.hid hL; clear hL
  have CA := Lib.hid (awake_any w HL.out)
  by_cases h3 : 3000 < s.size
  · go_enter Tryd.func4, Tryd.ntmps4
    go_wp2_with fail
    refine CA.out.mono ?_
    rintro e w1 ⟨rfl, b1⟩
    go_wp2
    go_ret
    exact ⟨rfl, b1⟩
  · have h3' : s.size ≤ 3000 := by omega
    clear h3
    have CX := Lib.hid (fun W h => lex_form s W h hs)
    rcases lex_cases s (by omega) with ⟨e1, e2, e3, hok, _⟩ | ⟨x, _, e1, hx, e2, e3⟩
    · have CJ := Lib.hid (joined s h3' hok)
      rw [e1, e2, e3] at CX
      obtain ⟨l, hl⟩ : ∃ l, l = (evsOf s).map (tokOf s) := ⟨_, rfl⟩
      have hlen : l.length ≤ 10000 := by have := evs_length s; rw [hl, List.length_map]; omega
      have hcost : jcost l ≤ 1000000000 := by have := cost_evs s; rw [hl, jcost_toks]; omega
      rw [← hl] at CX CJ
      clear e1 e2 e3 hok hl
      obtain ⟨t, ht⟩ : ∃ t, t = bs (jn l).1 := ⟨_, rfl⟩
      have CN := Lib.hid (fun W p cap h => join_any l p cap W (by omega) h hcost)
      rw [← ht] at CJ CN
      clear ht
      have CY := Lib.hid (fun W h => lex_form t W h (by have := CJ.out.2.2.2; omega))
      rw [CJ.out.1, CJ.out.2.1] at CY
      have HM := Lib.hid CJ.out.2.2.1
      obtain ⟨m, hm⟩ : ∃ m, m = lexT' t := ⟨_, rfl⟩
      rw [← hm] at HM CY
      clear hm CJ
      obtain ⟨n, hn⟩ : ∃ n, n = l.length := ⟨_, rfl⟩
      have hml : m.length = n := by have := congrArg List.length HM.out; rw [hn]; simpa using this
      have hn6 : n ≤ 10000 := by omega
      have HN := Lib.hid (And.intro hn.symm hml)
      rw [hml] at CY
      rw [← hn] at CX CN
      clear hml hn hlen
      go_enter Tryd.func4, Tryd.ntmps4
      go_wp2_with fail
      refine CA.out.mono ?_
      rintro e w1 ⟨rfl, b1⟩
      go_wp2_with fail
      refine (CX.out _ (HL.out.below b1)).mono ?_
      rintro e w2 ⟨p, cap, rfl, t2, b2⟩
      have B2 := below_next b1 b2
      have T2 := Lib.hid (t2.below ((Below.refl _ _).alloc (Nat.le_refl _) (.cells #[.int .i64 0, .int .i64 0] 25)))
      have B2a := B2.alloc B2.size (.cells #[.int .i64 0, .int .i64 0] 25)
      clear t2 b1 b2
      go_wp2_with fail
      refine (CN.out _ _ _ T2.out).mono ?_
      rintro e w3 ⟨rfl, b3⟩
      have T3 := Lib.hid (T2.out.below b3)
      have B3 := B2a.trans (b3.mono B2a.size)
      go_wp2_with fail
      refine (CY.out _ (HL.out.below B3)).mono ?_
      rintro e w4 ⟨q, cap', rfl, t4, b4⟩
      have T4 := Lib.hid ((T3.out.below b4).below ((Below.refl _ _).alloc (Nat.le_refl _) (.cells #[.int .i64 0, .int .i64 0] 25)))
      have U4 := Lib.hid (t4.below ((Below.refl _ _).alloc (Nat.le_refl _) (.cells #[.int .i64 0, .int .i64 0] 25)))
      have B4 := B3.trans (b4.mono B3.size)
      have B4a := B4.alloc B4.size (.cells #[.int .i64 0, .int .i64 0] 25)
      clear t4 b3 b4
      go_wp2_with fail
      refine (alike_yes l m p q cap cap' n n _ HN.out.1 HN.out.2 HM.out.symm (by omega) T4.out U4.out).mono ?_
      rintro e w5 ⟨rfl, k, rfl⟩
      go_wp2
      go_ret
      exact ⟨rfl, below_drewN B4a k⟩
    · have hne : ((x.1.1 : Int) != 0) = true := bne_iff_ne.2 (by omega)
      rw [e1, e2, e3] at CX
      obtain ⟨er, her⟩ : ∃ er, er = x.1.1 := ⟨_, rfl⟩
      rw [← her] at CX hne
      clear e1 e2 e3 hx her
      go_enter Tryd.func4, Tryd.ntmps4
      go_wp2_with fail
      refine CA.out.mono ?_
      rintro e w1 ⟨rfl, b1⟩
      go_wp2_with fail
      refine (CX.out _ (HL.out.below b1)).mono ?_
      rintro e w2 ⟨p, cap, rfl, t2, b2⟩
      have B2 := below_next b1 b2
      go_wp2
      go_ret
      exact ⟨rfl, B2.alloc B2.size _⟩

end Go.Proofs.YthleaigkndfdaaaDoor
