/- The walk of the calendar's Parse, for the seat of the lexer: Day, numbers, Parse. -/
import Derived.Test.YthleaigkndfdaaaDoorCalW1
import Derived.Test.YthleaigkndfdaaaDoorCalPlain2
import Derived.RegionTactic
import Derived.ChangeAlike
import Derived.BigRegion
import Derived.Deep.RegionWith
namespace Go.Proofs.YthleaigkndfdaaaDoor
open Go.RowKit

theorem Lens.drewN {w : World} (h : Lens w) (n : Nat) : Lens (w.drewN n) := h

theorem Lens.alloc {w : World} (h : Lens w) (o : Obj) : Lens (w.alloc o) := h.below ((Below.refl _ _).alloc (Nat.le_refl _) _)
theorem below_drewN {B : Nat} {a w : World} (h : Below B a w) (n : Nat) : Below B a (w.drewN n) := ⟨h.os, h.tape, h.output, h.size, h.block⟩

theorem quiet_left {P : Program} {f : FuncId} {args : Array Value} {w : World} {n : Nat} {v : Value}
    (h : Calls P f args (w.drewN n) fun e w' => e = .returned v ∧ w.drewN n = w') : Calls P f args (w.drewN n) fun e w'' => e = .returned v ∧ ∃ m, w'' = w.drewN m :=
  h.mono fun _ _ ⟨he, hm⟩ => ⟨he, n, hm.symm⟩

theorem results_tmp4 {fn : Func} {t u v x : Tmp} (h : fn.results = #[.tmp t, .tmp u, .tmp v, .tmp x]) (tmps : Array Value) (P : Program) (w : World) :
    (results fn tmps).run P w = .ok (.tuple #[tmps.getD t undef, tmps.getD u undef, tmps.getD v undef, tmps.getD x undef]) w := by simp [results, h]

theorem ret_two {k l : IntKind} {a b c d : Int} (h : a = c) (h' : b = d) : Ending.returned (.tuple #[.int k a, .int l b]) = .returned (.tuple #[.int k c, .int l d]) := by rw [h, h']
theorem ret_four {k l m n : IntKind} {a b c d a' b' c' d' : Int} (h : a = a') (h1 : b = b') (h2 : c = c') (h3 : d = d') : Ending.returned (.tuple #[.int k a, .int l b, .int m c, .int n d]) = .returned (.tuple #[.int k a', .int l b', .int m c', .int n d']) := by rw [h, h1, h2, h3]

theorem below_next {w w1 w2 : World} (h1 : Below w.heap.size w w1) (h2 : Below w1.heap.size w1 w2) : Below w.heap.size w w2 := h1.trans (h2.mono h1.size)

theorem isDate_yes (d : Int) (w : World) (h : Cal.IsD d) :
    Calls Tryd.prog 76 #[.int .i64 d] w fun e w' => e = .returned (.bool true) ∧ w = w' := by
  obtain ⟨h0, h1⟩ := h
  go_enter Tryd.func76, Tryd.ntmps76
  go_wp2
  go_ret
  exact ⟨rfl, rfl⟩

theorem isDate_no (d : Int) (w : World) (h : ¬ Cal.IsD d) :
    Calls Tryd.prog 76 #[.int .i64 d] w fun e w' => e = .returned (.bool false) ∧ w = w' := by
  by_cases h0 : d < 0
  · clear h
    go_enter Tryd.func76, Tryd.ntmps76
    go_wp2
    go_ret
    exact ⟨rfl, rfl⟩
  · have h1 : 65536 ≤ d := by unfold Cal.IsD at h; omega
    clear h
    go_enter Tryd.func76, Tryd.ntmps76
    go_wp2
    go_ret
    exact ⟨ret_bool (decide_eq_false (by omega)), rfl⟩

set_option maxHeartbeats 400000 in
theorem day_any (y m d : Int) (w : World) (hL : Lens w) (hd : d ≤ 9223372036854775807) :
    Calls Tryd.prog 71 #[.int .i64 y, .int .i64 m, .int .i64 d] w fun e w' => e = .returned (.tuple #[.int .i64 (Cal.dayv y m d), .int .i64 (Cal.daye y m d)]) ∧ w = w' := by
  have HL := Lib.hid hL; clear hL
  have no : ¬ Cal.DayOk y m d → Cal.dayv y m d = 0 ∧ Cal.daye y m d = 2 := fun h => ⟨by unfold Cal.dayv; rw [if_neg h], by unfold Cal.daye; rw [if_neg h]⟩
  by_cases h1 : y < 1900
  · have hn := Lib.hid (no (fun h => by unfold Cal.DayOk at h; omega)); clear no
    go_enter Tryd.func71, Tryd.ntmps71
    go_wp2
    go_ret2
    exact ⟨ret_two hn.out.1.symm hn.out.2.symm, rfl⟩
  by_cases h2 : 2079 < y
  · have hn := Lib.hid (no (fun h => by unfold Cal.DayOk at h; omega)); clear no
    go_enter Tryd.func71, Tryd.ntmps71
    go_wp2
    go_ret2
    exact ⟨ret_two hn.out.1.symm hn.out.2.symm, rfl⟩
  by_cases h3 : d < 1
  · have hn := Lib.hid (no (fun h => by unfold Cal.DayOk at h; omega)); clear no
    go_enter Tryd.func71, Tryd.ntmps71
    go_wp2
    go_ret2
    exact ⟨ret_two hn.out.1.symm hn.out.2.symm, rfl⟩
  by_cases h4 : Cal.lenI y m < d
  · have hn := Lib.hid (no (fun h => by unfold Cal.DayOk at h; omega)); clear no
    go_enter Tryd.func71, Tryd.ntmps71
    go_wp2_with (go_at_call 74; refine (len_any _ _ _ HL.out).mono ?_; rintro e w' ⟨rfl, rfl⟩)
    go_ret2
    exact ⟨ret_two hn.out.1.symm hn.out.2.symm, rfl⟩
  have hm : 1 ≤ m ∧ m ≤ 12 := by
    by_cases h : m < 1 ∨ 12 < m
    · have := Cal.len_out y m h; omega
    · omega
  obtain ⟨hm1, hm2⟩ := hm
  have hle := Cal.len_le y m
  have hb := Cal.st_add 0 (Cal.mnum y m)
  rw [Cal.st_zero, Nat.zero_add] at hb
  have hmb : Cal.mnum y m ≤ 2160 := by unfold Cal.mnum; omega
  have Hn := Lib.hid (show (12 * (y - 1900) + m - 1).toNat = Cal.mnum y m from rfl)
  by_cases h5 : Cal.st (Cal.mnum y m) + d - 1 < 65536
  · have hok : Cal.DayOk y m d := ⟨by omega, by omega, hm1, hm2, by omega, by omega, h5⟩
    have hn := Lib.hid (show Cal.dayv y m d = Cal.st (Cal.mnum y m) + d - 1 ∧ Cal.daye y m d = 0 from ⟨by unfold Cal.dayv; rw [if_pos hok], by unfold Cal.daye; rw [if_pos hok]⟩)
    clear no hok
    go_enter Tryd.func71, Tryd.ntmps71
    go_wp2_with (first | (go_at_call 74; refine (len_any _ _ _ HL.out).mono ?_; rintro e w' ⟨rfl, rfl⟩) | (go_at_call 75; refine (start_any _ _ HL.out (by omega) (by omega)).mono ?_; rintro e w' ⟨rfl, rfl⟩; rw [Hn.out]) | (go_at_call 76; refine (isDate_yes _ _ ⟨by omega, by omega⟩).mono ?_; rintro e w' ⟨rfl, rfl⟩))
    go_ret2
    exact ⟨ret_two hn.out.1.symm hn.out.2.symm, rfl⟩
  · have hn := Lib.hid (no (fun h => by unfold Cal.DayOk at h; omega)); clear no
    go_enter Tryd.func71, Tryd.ntmps71
    go_wp2_with (first | (go_at_call 74; refine (len_any _ _ _ HL.out).mono ?_; rintro e w' ⟨rfl, rfl⟩) | (go_at_call 75; refine (start_any _ _ HL.out (by omega) (by omega)).mono ?_; rintro e w' ⟨rfl, rfl⟩; rw [Hn.out]) | (go_at_call 76; refine (isDate_no _ _ (fun h => by unfold Cal.IsD at h; omega)).mono ?_; rintro e w' ⟨rfl, rfl⟩))
    go_ret2
    exact ⟨ret_two hn.out.1.symm hn.out.2.symm, rfl⟩

/-- The number that digits spell. -/
def numL (l : List UInt8) : Int := l.foldl (fun n c => 10 * n + ((c.toNat : Int) - 48)) 0
def isDg (c : UInt8) : Bool := decide (48 ≤ (c.toNat : Int)) && decide ((c.toNat : Int) ≤ 57)
def allD (l : List UInt8) : Bool := l.all isDg

theorem numL_snoc (l : List UInt8) (c : UInt8) : numL (l ++ [c]) = 10 * numL l + ((c.toNat : Int) - 48) := by
  unfold numL; rw [List.foldl_append]; rfl
theorem allD_snoc (l : List UInt8) (c : UInt8) : allD (l ++ [c]) = (allD l && isDg c) := by
  unfold allD; simp
theorem take_snoc (s : ByteArray) (k : Nat) (h : k < s.size) : s.data.toList.take (k + 1) = s.data.toList.take k ++ [s[k]] := by
  rw [List.take_succ_eq_append_getElem (by simpa using h)]; rfl
theorem isDg_iff (c : UInt8) : isDg c = true ↔ 48 ≤ (c.toNat : Int) ∧ (c.toNat : Int) ≤ 57 := by unfold isDg; simp

theorem numL_take_bd (s : ByteArray) (k : Nat) (hk : k ≤ s.size) (h : allD (s.data.toList.take k) = true) : 0 ≤ numL (s.data.toList.take k) ∧ numL (s.data.toList.take k) < 10 ^ k := by
  induction k with
  | zero => simp [numL]
  | succ k ih =>
    rw [take_snoc s k hk] at h ⊢
    rw [allD_snoc, Bool.and_eq_true, isDg_iff] at h
    have := ih (by omega) h.1
    rw [numL_snoc, Int.pow_succ]
    omega

theorem numL_small (s : ByteArray) (k : Nat) (hk : k ≤ s.size) (h4 : k ≤ 4) (h : allD (s.data.toList.take k) = true) : 0 ≤ numL (s.data.toList.take k) ∧ numL (s.data.toList.take k) ≤ 9999 := by
  have h1 := numL_take_bd s k hk h
  have h2 : (10 : Int) ^ k ≤ 10000 := by
    have : k = 0 ∨ k = 1 ∨ k = 2 ∨ k = 3 ∨ k = 4 := by omega
    rcases this with rfl | rfl | rfl | rfl | rfl <;> decide
  omega

/-- A byte that is no digit stands at place k. -/
theorem allD_false (s : ByteArray) (k : Nat) (hk : k < s.size) (h : isDg s[k] = false) : allD s.data.toList = false := by
  unfold allD
  rw [List.all_eq_false]
  exact ⟨s[k], Array.mem_toList_iff.2 (Array.getElem_mem hk), by rw [h]; decide⟩

theorem take_all (s : ByteArray) : s.data.toList.take s.size = s.data.toList :=
  List.take_of_length_le (Nat.le_of_eq (Array.length_toList (xs := s.data)))

theorem set0 (w : World) (a b c v : Value) (T : TypeId) (k : Nat) : ((w.alloc (.cells #[a, b, c] T)).drewN k).setCell ⟨w.heap.size, 0, none⟩ v = (w.alloc (.cells #[v, b, c] T)).drewN k := by
  show ((w.alloc (.cells #[a, b, c] T)).setCell ⟨w.heap.size, 0, none⟩ v).drewN k = _
  rw [World.setCell_alloc_at _ _ _ _ _ rfl]; rfl
theorem set1 (w : World) (a b c v : Value) (T : TypeId) (k : Nat) : ((w.alloc (.cells #[a, b, c] T)).drewN k).setCell ⟨w.heap.size, 1, none⟩ v = (w.alloc (.cells #[a, v, c] T)).drewN k := by
  show ((w.alloc (.cells #[a, b, c] T)).setCell ⟨w.heap.size, 1, none⟩ v).drewN k = _
  rw [World.setCell_alloc_at _ _ _ _ _ rfl]; rfl
theorem set2 (w : World) (a b c v : Value) (T : TypeId) (k : Nat) : ((w.alloc (.cells #[a, b, c] T)).drewN k).setCell ⟨w.heap.size, 2, none⟩ v = (w.alloc (.cells #[a, b, v] T)).drewN k := by
  show ((w.alloc (.cells #[a, b, c] T)).setCell ⟨w.heap.size, 2, none⟩ v).drewN k = _
  rw [World.setCell_alloc_at _ _ _ _ _ rfl]; rfl

set_option maxHeartbeats 4000000 in
set_option maxRecDepth 100000 in
theorem numbers_any (s0 s1 s2 : ByteArray) (B : Nat) (w : World) (hB : B < w.heap.size)
    (h0 : s0.size ≤ 4) (h1 : s1.size ≤ 4) (h2 : s2.size ≤ 4)
    (hc0 : w.cell? ⟨B, 0, none⟩ = some (.string s0)) (hc1 : w.cell? ⟨B, 1, none⟩ = some (.string s1)) (hc2 : w.cell? ⟨B, 2, none⟩ = some (.string s2)) :
    Calls Tryd.prog 70 #[.slice (some ⟨B, 0, none⟩) 3 3] w fun e w' =>
      ((allD s0.data.toList && allD s1.data.toList && allD s2.data.toList) = true ∧ e = .returned (.tuple #[.slice (some ⟨w.heap.size, 0, none⟩) 3 3, .bool true]) ∧ ∃ k, w' = (w.alloc (.cells #[.int .i64 (numL s0.data.toList), .int .i64 (numL s1.data.toList), .int .i64 (numL s2.data.toList)] 3)).drewN k) ∨
      ((allD s0.data.toList && allD s1.data.toList && allD s2.data.toList) = false ∧ e = .returned (.tuple #[.slice none 0 0, .bool false]) ∧ Below w.heap.size w w') := by
  have hmk : ∀ w : World, (Instr.makeSlice 89 (.int .i64 3) (.int .i64 3)).run Tryd.prog w = .ok (.slice (some ⟨w.heap.size, 0, none⟩) 3 3) (w.alloc (.cells #[.int .i64 0, .int .i64 0, .int .i64 0] 3)) := fun _ => by kernel_rfl
  go_enter Tryd.func70, Tryd.ntmps70
  go_wp2
  clear hmk
  refine wp_loop_rounds 4 ?_
  rw [rounds_succ]
  go_wp2
  go_loopw [20] (fun u wr => ∃ (j k : Nat), j ≤ s0.size ∧ u = .int .i64 j ∧ Hid (allD (s0.data.toList.take j) = true) ∧ wr = (w.alloc (.cells #[.int .i64 (numL (s0.data.toList.take j)), .int .i64 0, .int .i64 0] 3)).drewN k) (fun u _ => 10 - (intOf u).toNat)
  case atStart => exact ⟨0, 0, by omega, rfl, rfl, rfl⟩
  case round =>
    obtain ⟨j, k0, hj, rfl, ha0, rfl⟩ := hrel
    have hb := numL_small s0 j hj (by omega) ha0.out
    by_cases hlt : j < s0.size
    · have hts := Lib.hid (take_snoc s0 j hlt)
      by_cases hd : 48 ≤ (s0[j].toNat : Int) ∧ (s0[j].toNat : Int) ≤ 57
      · obtain ⟨hd1, hd2⟩ := hd
        have hn := Lib.hid (show numL (s0.data.toList.take (j + 1)) = 10 * numL (s0.data.toList.take j) + ((s0[j].toNat : Int) - 48) by rw [hts.out, numL_snoc])
        have ha' := Lib.hid (show allD (s0.data.toList.take (j + 1)) = true by rw [hts.out, allD_snoc, ha0.out, (isDg_iff _).2 ⟨hd1, hd2⟩]; rfl)
        go_wp2
        go_region
        rw [set0]
        go_wp2
        go_roundw
        case rel => exact ⟨j + 1, k0 + 1, by omega, by go_num, ha', by rw [hn.out]⟩
        case measure => simp [intOf]; omega
      · have hf := Lib.hid (allD_false s0 j hlt (by rw [← Bool.not_eq_true, isDg_iff]; exact hd))
        have hd' : (s0[j].toNat : Int) < 48 ∨ (48 ≤ (s0[j].toNat : Int) ∧ 57 < (s0[j].toNat : Int)) := by omega
        clear hd
        rcases hd' with hd' | ⟨hd1, hd2⟩
        all_goals
          go_wp2
          go_ret2
          exact .inr ⟨by rw [hf.out]; rfl, rfl, below_drewN ((Below.refl _ _).alloc (Nat.le_refl _) _) _⟩
    · obtain rfl : j = s0.size := by omega
      rw [take_all]
      rw [take_all] at ha0
      clear hb hlt hj
      go_wp2
      rw [rounds_succ]
      go_wp2
      go_loopw [20] (fun u wr => ∃ (j k : Nat), j ≤ s1.size ∧ u = .int .i64 j ∧ Hid (allD (s1.data.toList.take j) = true) ∧ wr = (w.alloc (.cells #[.int .i64 (numL s0.data.toList), .int .i64 (numL (s1.data.toList.take j)), .int .i64 0] 3)).drewN k) (fun u _ => 10 - (intOf u).toNat)
      case atStart => exact ⟨0, k0, by omega, rfl, rfl, rfl⟩
      case round =>
        obtain ⟨j, k1, hj, rfl, ha1, rfl⟩ := hrel
        have hb := numL_small s1 j hj (by omega) ha1.out
        by_cases hlt : j < s1.size
        · have hts := Lib.hid (take_snoc s1 j hlt)
          by_cases hd : 48 ≤ (s1[j].toNat : Int) ∧ (s1[j].toNat : Int) ≤ 57
          · obtain ⟨hd1, hd2⟩ := hd
            have hn := Lib.hid (show numL (s1.data.toList.take (j + 1)) = 10 * numL (s1.data.toList.take j) + ((s1[j].toNat : Int) - 48) by rw [hts.out, numL_snoc])
            have ha' := Lib.hid (show allD (s1.data.toList.take (j + 1)) = true by rw [hts.out, allD_snoc, ha1.out, (isDg_iff _).2 ⟨hd1, hd2⟩]; rfl)
            go_wp2
            go_region
            rw [set1]
            go_wp2
            go_roundw
            case rel => exact ⟨j + 1, k1 + 1, by omega, by go_num, ha', by rw [hn.out]⟩
            case measure => simp [intOf]; omega
          · have hf := Lib.hid (allD_false s1 j hlt (by rw [← Bool.not_eq_true, isDg_iff]; exact hd))
            have hd' : (s1[j].toNat : Int) < 48 ∨ (48 ≤ (s1[j].toNat : Int) ∧ 57 < (s1[j].toNat : Int)) := by omega
            clear hd
            rcases hd' with hd' | ⟨hd1, hd2⟩
            all_goals
              go_wp2
              go_ret2
              exact .inr ⟨by rw [hf.out, Bool.and_false]; rfl, rfl, below_drewN ((Below.refl _ _).alloc (Nat.le_refl _) _) _⟩
        · obtain rfl : j = s1.size := by omega
          rw [take_all]
          rw [take_all] at ha1
          clear hb hlt hj
          go_wp2
          rw [rounds_succ]
          go_wp2
          go_loopw [20] (fun u wr => ∃ (j k : Nat), j ≤ s2.size ∧ u = .int .i64 j ∧ Hid (allD (s2.data.toList.take j) = true) ∧ wr = (w.alloc (.cells #[.int .i64 (numL s0.data.toList), .int .i64 (numL s1.data.toList), .int .i64 (numL (s2.data.toList.take j))] 3)).drewN k) (fun u _ => 10 - (intOf u).toNat)
          case atStart => exact ⟨0, k1, by omega, rfl, rfl, rfl⟩
          case round =>
            obtain ⟨j, k2, hj, rfl, ha2, rfl⟩ := hrel
            have hb := numL_small s2 j hj (by omega) ha2.out
            by_cases hlt : j < s2.size
            · have hts := Lib.hid (take_snoc s2 j hlt)
              by_cases hd : 48 ≤ (s2[j].toNat : Int) ∧ (s2[j].toNat : Int) ≤ 57
              · obtain ⟨hd1, hd2⟩ := hd
                have hn := Lib.hid (show numL (s2.data.toList.take (j + 1)) = 10 * numL (s2.data.toList.take j) + ((s2[j].toNat : Int) - 48) by rw [hts.out, numL_snoc])
                have ha' := Lib.hid (show allD (s2.data.toList.take (j + 1)) = true by rw [hts.out, allD_snoc, ha2.out, (isDg_iff _).2 ⟨hd1, hd2⟩]; rfl)
                go_wp2
                go_region
                rw [set2]
                go_wp2
                go_roundw
                case rel => exact ⟨j + 1, k2 + 1, by omega, by go_num, ha', by rw [hn.out]⟩
                case measure => simp [intOf]; omega
              · have hf := Lib.hid (allD_false s2 j hlt (by rw [← Bool.not_eq_true, isDg_iff]; exact hd))
                have hd' : (s2[j].toNat : Int) < 48 ∨ (48 ≤ (s2[j].toNat : Int) ∧ 57 < (s2[j].toNat : Int)) := by omega
                clear hd
                rcases hd' with hd' | ⟨hd1, hd2⟩
                all_goals
                  go_wp2
                  go_ret2
                  exact .inr ⟨by rw [hf.out, Bool.and_false], rfl, below_drewN ((Below.refl _ _).alloc (Nat.le_refl _) _) _⟩
            · obtain rfl : j = s2.size := by omega
              rw [take_all]
              rw [take_all] at ha2
              clear hb hlt hj
              go_wp2
              rw [rounds_succ]
              go_wp2
              go_ret2
              exact .inl ⟨by rw [ha0.out, ha1.out, ha2.out]; rfl, rfl, k2, rfl⟩

/-- A text has the form of a date: four digits, -, two digits, -, two digits. -/
def PForm (s : ByteArray) : Bool := s.size == 10 && s.data.toList[4]? == some 45 && s.data.toList[7]? == some 45 && (allD (s.extract 0 4).data.toList && allD (s.extract 5 7).data.toList && allD (s.extract 8 s.size).data.toList)
def pY (s : ByteArray) : Int := numL (s.extract 0 4).data.toList
def pM (s : ByteArray) : Int := numL (s.extract 5 7).data.toList
def pD (s : ByteArray) : Int := numL (s.extract 8 s.size).data.toList
def parsev (s : ByteArray) : Int := if PForm s = true then Cal.dayv (pY s) (pM s) (pD s) else 0
def parsee (s : ByteArray) : Int := if PForm s = true then Cal.daye (pY s) (pM s) (pD s) else 2

theorem numbers_yes (s0 s1 s2 : ByteArray) (n0 n1 n2 : Int) (B N : Nat) (w : World) (hN : N = w.heap.size) (hB : B < w.heap.size)
    (h0 : s0.size ≤ 4) (h1 : s1.size ≤ 4) (h2 : s2.size ≤ 4)
    (hc0 : w.cell? ⟨B, 0, none⟩ = some (.string s0)) (hc1 : w.cell? ⟨B, 1, none⟩ = some (.string s1)) (hc2 : w.cell? ⟨B, 2, none⟩ = some (.string s2))
    (ha : Hid ((allD s0.data.toList && allD s1.data.toList && allD s2.data.toList) = true))
    (hn : Hid (numL s0.data.toList = n0 ∧ numL s1.data.toList = n1 ∧ numL s2.data.toList = n2)) :
    Calls Tryd.prog 70 #[.slice (some ⟨B, 0, none⟩) 3 3] w fun e w' =>
      e = .returned (.tuple #[.slice (some ⟨N, 0, none⟩) 3 3, .bool true]) ∧ w'.cell? ⟨N, 0, none⟩ = some (.int .i64 n0) ∧ w'.cell? ⟨N, 1, none⟩ = some (.int .i64 n1) ∧ w'.cell? ⟨N, 2, none⟩ = some (.int .i64 n2) ∧ Below w.heap.size w w' := by
  subst hN
  refine (numbers_any s0 s1 s2 B w hB h0 h1 h2 hc0 hc1 hc2).mono ?_
  rintro e w' (⟨_, he, k, hw⟩ | ⟨hf, _⟩)
  · rw [hn.out.1, hn.out.2.1, hn.out.2.2] at hw
    subst hw
    exact ⟨he, by simp [go_sem], by simp [go_sem], by simp [go_sem], below_drewN ((Below.refl _ _).alloc (Nat.le_refl _) _) _⟩
  · rw [ha.out] at hf; cases hf

theorem numbers_no (s0 s1 s2 : ByteArray) (B : Nat) (w : World) (hB : B < w.heap.size)
    (h0 : s0.size ≤ 4) (h1 : s1.size ≤ 4) (h2 : s2.size ≤ 4)
    (hc0 : w.cell? ⟨B, 0, none⟩ = some (.string s0)) (hc1 : w.cell? ⟨B, 1, none⟩ = some (.string s1)) (hc2 : w.cell? ⟨B, 2, none⟩ = some (.string s2))
    (ha : Hid ((allD s0.data.toList && allD s1.data.toList && allD s2.data.toList) = false)) :
    Calls Tryd.prog 70 #[.slice (some ⟨B, 0, none⟩) 3 3] w fun e w' =>
      e = .returned (.tuple #[.slice none 0 0, .bool false]) ∧ Below w.heap.size w w' := by
  refine (numbers_any s0 s1 s2 B w hB h0 h1 h2 hc0 hc1 hc2).mono ?_
  rintro e w' (⟨hf, _⟩ | ⟨_, he, hw⟩)
  · rw [ha.out] at hf; cases hf
  · exact ⟨he, hw⟩

theorem part_bd (s : ByteArray) (h : s.size ≤ 4) (ha : allD s.data.toList = true) : 0 ≤ numL s.data.toList ∧ numL s.data.toList ≤ 9999 := by
  have := numL_small s s.size (Nat.le_refl _) h (by rw [take_all]; exact ha)
  rwa [take_all] at this

theorem pform_no4 (s : ByteArray) (l : 4 < s.size) (h : s[4] ≠ 45) : PForm s = false := by
  have : s.data.toList[4]? = some s[4] := by rw [List.getElem?_eq_getElem (by simpa using l)]; rfl
  unfold PForm
  rw [this]
  have h' : (some s[4] == some (45 : UInt8)) = false := by simpa using h
  rw [h']; simp

theorem pform_no7 (s : ByteArray) (l : 7 < s.size) (h : s[7] ≠ 45) : PForm s = false := by
  have : s.data.toList[7]? = some s[7] := by rw [List.getElem?_eq_getElem (by simpa using l)]; rfl
  unfold PForm
  rw [this]
  have h' : (some s[7] == some (45 : UInt8)) = false := by simpa using h
  rw [h']; simp

theorem pform_is (s : ByteArray) (l4 : 4 < s.size) (l7 : 7 < s.size) (h10 : s.size = 10) (h4 : s[4] = 45) (h7 : s[7] = 45) : PForm s = (allD (s.extract 0 4).data.toList && allD (s.extract 5 7).data.toList && allD (s.extract 8 s.size).data.toList) := by
  have e4 : s.data.toList[4]? = some s[4] := by rw [List.getElem?_eq_getElem (by simpa using l4)]; rfl
  have e7 : s.data.toList[7]? = some s[7] := by rw [List.getElem?_eq_getElem (by simpa using l7)]; rfl
  unfold PForm
  rw [e4, e7, h4, h7, h10]
  simp

set_option maxHeartbeats 4000000 in
set_option maxRecDepth 100000 in
theorem parse_any (s : ByteArray) (w : World) (hL : Lens w) (hs : s.size ≤ 9223372036854775807) :
    Calls Tryd.prog 63 #[.string s] w fun e w' => e = .returned (.tuple #[.int .i64 (parsev s), .int .i64 (parsee s)]) ∧ Below w.heap.size w w' := by
  have HL := Lib.hid hL; clear hL
  have no : PForm s = false → parsev s = 0 ∧ parsee s = 2 := fun h => by unfold parsev parsee; rw [h]; exact ⟨rfl, rfl⟩
  by_cases h10 : s.size = 10
  · have l4 : 4 < s.size := by omega
    have l7 : 7 < s.size := by omega
    have z1 : s.size ≤ 10 ∧ 10 ≤ s.size := by omega
    have H10 := Lib.hid h10
    clear h10
    by_cases h4 : s[4]'l4 = 45
    · by_cases h7 : s[7]'l7 = 45
      · have b4 : (((s[4]'l4).toNat : Int) != 45) = false := by rw [h4]; rfl
        have b7 : (((s[7]'l7).toNat : Int) != 45) = false := by rw [h7]; rfl
        have hP := pform_is s l4 l7 H10.out h4 h7
        clear h4 h7
        by_cases ha : (allD (s.extract 0 4).data.toList && allD (s.extract 5 7).data.toList && allD (s.extract 8 s.size).data.toList) = true
        · have hP' : PForm s = true := hP.trans ha
          have hf := Lib.hid (show parsev s = Cal.dayv (pY s) (pM s) (pD s) ∧ parsee s = Cal.daye (pY s) (pM s) (pD s) by unfold parsev parsee; rw [if_pos hP', if_pos hP']; exact ⟨rfl, rfl⟩)
          have Ha := Lib.hid ha
          have Hn := Lib.hid (show numL (s.extract 0 4).data.toList = pY s ∧ numL (s.extract 5 7).data.toList = pM s ∧ numL (s.extract 8 s.size).data.toList = pD s from ⟨rfl, rfl, rfl⟩)
          have hcall := Lib.hid (numbers_yes (s.extract 0 4) (s.extract 5 7) (s.extract 8 s.size) (pY s) (pM s) (pD s) w.heap.size (w.heap.size + 1) ((w.alloc (.cells #[.string (s.extract 0 4), .string (s.extract 5 7), .string (s.extract 8 s.size)] 9)).drew) (by simp [go_sem]) (by simp [go_sem]) (by simp; omega) (by simp; omega) (by simp; omega) (by simp [go_sem]) (by simp [go_sem]) (by simp [go_sem]) Ha Hn)
          have hpd := (part_bd (s.extract 8 s.size) (by simp; omega) (by rw [Bool.and_eq_true] at ha; exact ha.2)).2
          rw [Hn.out.2.2] at hpd
          clear ha hP hP' no Ha Hn
          go_enter Tryd.func63, Tryd.ntmps63
          go_wp2
          go_region_with (go_at_call 70; (with_reducible refine hcall.out.mono ?_); rintro e w3 ⟨rfl, c0, c1, c2, hb3⟩)
          clear hcall
          have B3 := Lib.hid (show Below w.heap.size w w3 from ((Below.refl _ _).alloc (Nat.le_refl _) _).drew.trans (hb3.mono (by simp [go_sem])))
          have HL3 := Lib.hid (HL.out.below B3.out)
          clear hb3
          go_wp2
          go_quiet ((go_at_call 71; exact quiet_left (day_any _ _ _ _ (HL3.out.drewN _) (by omega))))
          go_wp2
          go_ret2
          exact ⟨ret_two hf.out.1.symm hf.out.2.symm, below_drewN B3.out _⟩
        · have ha' : (allD (s.extract 0 4).data.toList && allD (s.extract 5 7).data.toList && allD (s.extract 8 s.size).data.toList) = false := by simpa using ha
          have hf := Lib.hid (no (hP.trans ha'))
          have Ha := Lib.hid ha'
          have hcall := Lib.hid (numbers_no (s.extract 0 4) (s.extract 5 7) (s.extract 8 s.size) w.heap.size ((w.alloc (.cells #[.string (s.extract 0 4), .string (s.extract 5 7), .string (s.extract 8 s.size)] 9)).drew) (by simp [go_sem]) (by simp; omega) (by simp; omega) (by simp; omega) (by simp [go_sem]) (by simp [go_sem]) (by simp [go_sem]) Ha)
          clear ha ha' hP no Ha
          go_enter Tryd.func63, Tryd.ntmps63
          go_wp2
          go_region_with (go_at_call 70; (with_reducible refine hcall.out.mono ?_); rintro e w3 ⟨rfl, hb3⟩)
          clear hcall
          have B3 := Lib.hid (show Below w.heap.size w w3 from ((Below.refl _ _).alloc (Nat.le_refl _) _).drew.trans (hb3.mono (by simp [go_sem])))
          clear hb3
          go_wp2
          go_ret2
          exact ⟨ret_two hf.out.1.symm hf.out.2.symm, B3.out⟩
      · have b4 : (((s[4]'l4).toNat : Int) != 45) = false := by rw [h4]; rfl
        have b7 : (((s[7]'l7).toNat : Int) != 45) = true := bne_iff_ne.2 (fun e => h7 (UInt8.toNat.inj (by have : ((s[7]'l7).toNat : Int) = 45 := e; show _ = 45; omega)))
        have hf := Lib.hid (no (pform_no7 s l7 h7))
        clear h4 h7 no
        go_enter Tryd.func63, Tryd.ntmps63
        go_wp2
        go_ret2
        exact ⟨ret_two hf.out.1.symm hf.out.2.symm, Below.refl _ _⟩
    · have b4 : (((s[4]'l4).toNat : Int) != 45) = true := bne_iff_ne.2 (fun e => h4 (UInt8.toNat.inj (by have : ((s[4]'l4).toNat : Int) = 45 := e; show _ = 45; omega)))
      have hf := Lib.hid (no (pform_no4 s l4 h4))
      clear h4 no
      go_enter Tryd.func63, Tryd.ntmps63
      go_wp2
      go_ret2
      exact ⟨ret_two hf.out.1.symm hf.out.2.symm, Below.refl _ _⟩
  · have hf := Lib.hid (no (by unfold PForm; rw [beq_eq_false_iff_ne.2 h10]; simp))
    have b10 : ((s.size : Int) != 10) = true := bne_iff_ne.2 (by omega)
    clear no h10
    go_enter Tryd.func63, Tryd.ntmps63
    go_wp2
    go_ret2
    exact ⟨ret_two hf.out.1.symm hf.out.2.symm, Below.refl _ _⟩

end Go.Proofs.YthleaigkndfdaaaDoor
