/- Built: the docket of some notes. -/
import Derived.Test.YtbpoedopdnjffaaApTaken
import Derived.Test.YtbpoedopdnjffaaApPlain4
import Derived.Deep.CutRange
namespace Go.Proofs.Ytbpoedopdnjffaa
open Go.RowKit Go.Shelf Sp

/-- Notes in memory. -/
def NCells (w : World) (p : Option Addr) (l : List Nt) : Prop :=
  l = [] ∨ ∃ b off, p = some ⟨b, off, none⟩ ∧ ∀ i : Nat, (h : i < l.length) →
    w.cell? ⟨b, off + i * 5, none⟩ = some (.int .u8 l[i].kind) ∧ w.cell? ⟨b, off + i * 5 + 1, none⟩ = some (.int .u8 l[i].gap) ∧ w.cell? ⟨b, off + i * 5 + 2, none⟩ = some (.int .u8 l[i].case) ∧
    w.cell? ⟨b, off + i * 5 + 3, none⟩ = some (.int .u8 l[i].n) ∧ w.cell? ⟨b, off + i * 5 + 4, none⟩ = some (.bool l[i].hold)
theorem NCells.at {w : World} {p : Option Addr} {l : List Nt} (h : NCells w p l) (i : Nat) (hi : i < l.length) : ∃ b off, p = some ⟨b, off, none⟩ ∧
    w.cell? ⟨b, off + i * 5, none⟩ = some (.int .u8 l[i].kind) ∧ w.cell? ⟨b, off + i * 5 + 1, none⟩ = some (.int .u8 l[i].gap) ∧ w.cell? ⟨b, off + i * 5 + 2, none⟩ = some (.int .u8 l[i].case) ∧
    w.cell? ⟨b, off + i * 5 + 3, none⟩ = some (.int .u8 l[i].n) ∧ w.cell? ⟨b, off + i * 5 + 4, none⟩ = some (.bool l[i].hold) := by
  rcases h with h | ⟨b, off, hv, hc⟩
  · rw [h] at hi; simp at hi
  · exact ⟨b, off, hv, hc i hi⟩
theorem NCells.below {w w' : World} {p : Option Addr} {l : List Nt} (h : NCells w p l) (hb : Below w.heap.size w w') : NCells w' p l := by
  rcases h with h | ⟨b, off, hv, hc⟩
  · exact .inl h
  · refine .inr ⟨b, off, hv, fun i hi => ?_⟩
    have h1 := hc i hi
    have e := hb.block b (World.block_lt_of_cell? w _ h1.1)
    simp only [World.cell?] at h1 ⊢
    simpa only [e] using h1

theorem built_step {w wr X w1 : World} {v v' : Value} {l : List Nt} {k : Nat} (hk : k < l.length) (hO : FOwns wr w.heap.size v (builtFrom 0 (l.take k))) (hb : Below w.heap.size w wr) (hX : Below wr.heap.size wr X) {f : Fl} (hf : f = noteF (bday (bdays 0 (l.take k)) l[k]) l[k])
    (hg : X.grownBy w1 v.ownBlock) {m : Nat} (hm : m = (builtFrom 0 (l.take k)).length) (hown : w1.ownsRow w.heap.size 30 6 v' (m + 1) (fflat (builtFrom 0 (l.take k)) ++ flRow f)) :
    FOwns w1 w.heap.size v' (builtFrom 0 (l.take (k + 1))) ∧ Below w.heap.size w w1 := by
  subst hm
  have hs := hb.size
  have hs2 := hX.size
  refine ⟨?_, (hb.trans (hX.mono hs)).grown hg (by omega) (fun g e => (World.ownsRow.lt hO g e).1)⟩
  rw [List.take_succ_eq_append_getElem hk, builtFrom_snoc, ← hf]
  unfold FOwns
  rw [List.length_append, List.length_singleton, fflat_append]
  simpa [fflat] using hown

theorem new2_1 (X : World) (o1 o2 : Obj) : ((X.alloc o1).alloc o2).heap[X.heap.size + 1]? = some o2 := by
  have h1 := World.alloc_heap_new (X.alloc o1) o2
  rw [World.size_alloc] at h1
  exact h1
theorem below2 (X : World) (o1 o2 : Obj) : Below X.heap.size X ((X.alloc o1).alloc o2) := ((Below.refl _ _).alloc (Nat.le_refl _) _).alloc (by simp) _
theorem six_cells {W : World} {B : Nat} {a b c d e f : Value} {t : TypeId} (h : W.heap[B]? = some (.cells #[a, b, c, d, e, f] t (0, 0))) : W.cell? ⟨B, 0, none⟩ = some a ∧ W.cell? ⟨B, 1, none⟩ = some b ∧ W.cell? ⟨B, 2, none⟩ = some c ∧ W.cell? ⟨B, 3, none⟩ = some d ∧ W.cell? ⟨B, 4, none⟩ = some e ∧ W.cell? ⟨B, 5, none⟩ = some f := by
  simp only [World.cell?, h]
  exact ⟨rfl, rfl, rfl, rfl, rfl, rfl⟩
set_option maxHeartbeats 40000000 in
set_option maxRecDepth 100000 in
theorem built_any (l : List Nt) (p : Option Addr) (cap : Nat) (w : World) (hc : NCells w p l) (bd : ∀ x ∈ l, x.Bd) :
    Calls Try.prog 13 #[.slice p l.length cap] w fun e W' => ∃ v, e = .returned v ∧ FOwns W' w.heap.size v (builtP l) ∧ Below w.heap.size w W' := by
  have HC := Lib.hid hc
  have BD := Lib.hid bd
  clear hc bd
  obtain ⟨i0, hi0, hz0, hz1, hz2⟩ := info_parts info_filing
  go_enter Try.func13, Try.ntmps13
  go_wp2
  go_loopw [5, 3, 4] (fun i u dv wr => ∃ (k : Nat) (v : Value) (d : Int), k ≤ l.length ∧ k ≤ 30 ∧ i = .int .i64 k ∧ v = u ∧ dv = .int .i64 d ∧ Hid (d = bdays 0 (l.take k)) ∧ 0 ≤ d ∧ d ≤ 347 * (k : Int) ∧ Hid (FOwns wr w.heap.size v (builtFrom 0 (l.take k))) ∧ Hid (Below w.heap.size w wr)) (fun i _ _ _ => 30 - (intOf i).toNat)
  case atStart => exact ⟨0, _, 0, by omega, by omega, rfl, rfl, rfl, Lib.hid rfl, by omega, by omega, Lib.hid (World.ownsRow_nil _ _ _ _), Lib.hid (Below.refl _ _)⟩
  case round =>
    obtain ⟨k, v, d, hk, hk30, rfl, rfl, rfl, hD, d0, d1, hI, hb⟩ := hrel
    by_cases hlt : k < l.length
    · by_cases h30 : k < 30
      · obtain ⟨b, off, rfl, r0, r1, r2, r3, r4⟩ := (HC.out.below hb.out).at k hlt
        have hxb := BD.out _ (List.getElem_mem hlt)
        have hbw : b < wr.heap.size := World.block_lt_of_cell? wr _ r0
        have hbne : b ≠ wr.heap.size := Nat.ne_of_lt hbw
        obtain ⟨x, hx⟩ : ∃ x, x = l[k] := ⟨_, rfl⟩
        rw [← hx] at r0 r1 r2 r3 r4 hxb
        have HX := Lib.hid hx
        have x1 := hxb.kind
        have x2 := hxb.gap
        have x3 := hxb.case
        have x4 := hxb.n
        have HDS := Lib.hid (show bdays 0 (l.take (k + 1)) = bday d x by rw [List.take_succ_eq_append_getElem hlt, bdays_snoc, ← hD.out, ← hx])
        have HB9 := Lib.hid (bday_bd hxb d0)
        have HFF := Lib.hid (show noteF (bday (bdays 0 (l.take k)) l[k]) l[k] = noteF (bday d x) x by rw [← hD.out, ← hx])
        obtain ⟨m, hm⟩ : ∃ m, m = (builtFrom 0 (l.take k)).length := ⟨_, rfl⟩
        have hml : m ≤ 30 := by rw [hm, builtFrom_length, List.length_take]; omega
        have HM := Lib.hid hm
        have HR := Lib.hid (show wr.ownsRow w.heap.size 30 6 v m (fflat (builtFrom 0 (l.take k))) by rw [hm]; exact hI.out)
        have hsz := hb.out.size
        have XA := Lib.hid (fun (o1 o2 o3 : Obj) => (((Below.refl wr.heap.size wr).alloc (Nat.le_refl _) o1).alloc (by simp) o2).alloc (by simp; omega) o3)
        have XR := Lib.hid (fun (o1 o2 o3 : Obj) => ((HR.out.alloc o1).alloc o2).alloc o3)
        clear hx hxb hm
        obtain ⟨kk, cc, nn, hh, gg⟩ : True ∧ True ∧ True ∧ True ∧ True := ⟨trivial, trivial, trivial, trivial, trivial⟩
        obtain ⟨xk, xg, xc, xn, xh⟩ := x
        dsimp only at r0 r1 r2 r3 r4 x1 x2 x3 x4
        clear kk cc nn hh gg
        obtain ⟨y, hy⟩ : ∃ y, y = bday d ⟨xk, xg, xc, xn, xh⟩ := ⟨_, rfl⟩
        obtain ⟨z, hz⟩ : ∃ z : Int, z = if 240 ≤ xg then d + xg % 48 + 300 else d + xg % 48 := ⟨_, rfl⟩
        have HY := Lib.hid hy
        have HZ := Lib.hid hz
        rw [← hy] at HDS HB9 HFF
        have hy1 : d ≤ y := HB9.out.1
        have hy2 : y ≤ d + 347 := HB9.out.2
        have hzb : d ≤ z ∧ z ≤ d + 347 := by rw [hz]; split <;> omega
        clear hy hz
        go_upto_if 30 with (fail)
        go_cut [4] from 8 to 102 (fun dv wx => dv = .int .i64 z ∧ wx = wr.alloc (.cells #[.int .u8 xk, .int .u8 xg, .int .u8 xc, .int .u8 xn, .bool xh] 62))
        case first =>
          by_cases g240 : 240 ≤ xg
          · have hv := Lib.hid (show d + xg % 48 + 300 = z by rw [HZ.out, if_pos g240])
            go_wp2_with fail
            go_meet
            exact ⟨congrArg (Value.int .i64) hv.out, rfl⟩
          · have hv := Lib.hid (show d + xg % 48 = z by rw [HZ.out, if_neg g240])
            go_wp2_with fail
            go_meet
            exact ⟨congrArg (Value.int .i64) hv.out, rfl⟩
        case rest =>
        obtain ⟨rfl, rfl⟩ := hcut
        go_upto_region 10 with (fail)
        go_cut [39] from 8 to 102 (fun cv wx => cv = .bool (xg == 239 && decide (0 < z)) ∧ wx = wr.alloc (.cells #[.int .u8 xk, .int .u8 xg, .int .u8 xc, .int .u8 xn, .bool xh] 62))
        case first =>
          by_cases g239 : xg = 239
          · have hz0 : 0 < z := by have := HZ.out; rw [g239, if_neg (by omega)] at this; omega
            subst g239
            go_wp2_with fail
            go_meet
            exact ⟨by simp [hz0], rfl⟩
          · have g2 : (xg == 239) = false := by simpa using g239
            go_wp2_with fail
            go_meet
            exact ⟨by simp [g2], rfl⟩
        case rest =>
        obtain ⟨rfl, rfl⟩ := hcut
        go_upto_if 39 with (fail)
        go_cut [4] from 8 to 102 (fun dv wx => dv = .int .i64 y ∧ wx = wr.alloc (.cells #[.int .u8 xk, .int .u8 xg, .int .u8 xc, .int .u8 xn, .bool xh] 62))
        case first =>
          by_cases g239 : xg = 239
          · have hv := Lib.hid (show z - 1 = y by rw [HZ.out, HY.out]; unfold bday; dsimp only; rw [g239]; rfl)
            have hz0 : 0 < z := by have := HZ.out; rw [g239, if_neg (by omega)] at this; omega
            have hv2 : (xg == 239 && decide (0 < z)) = true := by rw [g239]; simp [hz0]
            rw [hv2]
            go_wp2_with fail
            go_meet
            exact ⟨congrArg (Value.int .i64) hv.out, by rw [g239]⟩
          · have g2 : (xg == 239 && decide (0 < z)) = false := by simp [g239]
            have hv := Lib.hid (show z = y by rw [HZ.out, HY.out]; unfold bday; dsimp only; rw [if_neg g239])
            rw [g2]
            go_wp2_with fail
            go_meet
            exact ⟨congrArg (Value.int .i64) hv.out, rfl⟩
        case rest =>
        obtain ⟨rfl, rfl⟩ := hcut
        clear HY HZ
        obtain ⟨f, hf⟩ : ∃ f, f = noteF y ⟨xk, xg, xc, xn, xh⟩ := ⟨_, rfl⟩
        have HF := Lib.hid hf
        rw [← hf] at HFF
        clear hf
        go_upto_region 12 with (fail)
        go_cut [7] from 8 to 102 (fun v7 wx => v7 = .pointer (some ⟨wr.heap.size + 1, 0, none⟩) ∧ wx = (wr.alloc (.cells #[.int .u8 xk, .int .u8 xg, .int .u8 xc, .int .u8 xn, .bool xh] 62)).alloc (.cells #[.int .u8 (1 + xk % 7), .int .i64 y, .int .i64 (1 + xc % 4), .int .i64 0, .int .i64 0, .bool false] 30))
        case first =>
          go_wp2_with fail
          go_meet
          exact ⟨rfl, rfl⟩
        case rest =>
        obtain ⟨rfl, rfl⟩ := hcut
        go_step
        go_step
        go_cut [] from 8 to 102 (fun wx => wx.heap[wr.heap.size + 1]? = some (.cells #[.int .u8 f.kind, .int .i64 f.day, .int .i64 f.case, .int .i64 f.n, .int .i64 f.til, .bool f.hold] 30 (0, 0)) ∧ Below wr.heap.size wr wx)
        case first =>
          rcases (show xk % 7 = 0 ∨ xk % 7 = 3 ∨ xk % 7 = 1 ∨ xk % 7 = 5 ∨ xk % 7 = 4 ∨ xk % 7 = 2 ∨ xk % 7 = 6 by omega) with h7 | h7 | h7 | h7 | h7 | h7 | h7
          · have HK := Lib.hid (show f = ⟨1, y, 0, 2 + xn % 8, y + xn, false⟩ by rw [HF.out]; unfold noteF; dsimp only; rw [h7]; simp)
            go_wp2
            go_region
            all_goals go_wp2
            all_goals (go_meet; exact ⟨by rw [HK.out]; exact new2_1 wr _ _, (below2 wr _ _).drew⟩)
          · have HK := Lib.hid (show f = ⟨4, y, 0, 1 + xn, 0, false⟩ by rw [HF.out]; unfold noteF; dsimp only; rw [h7]; simp)
            go_wp2
            go_region
            all_goals go_wp2
            all_goals (go_meet; exact ⟨by rw [HK.out]; exact new2_1 wr _ _, (below2 wr _ _).drew⟩)
          · have HK := Lib.hid (show f = ⟨2, y, 1 + xc % 4, 1 + xn % 9, 0, false⟩ by rw [HF.out]; unfold noteF; dsimp only; rw [h7]; simp)
            go_wp2
            all_goals (go_meet; exact ⟨by rw [HK.out]; exact new2_1 wr _ _, below2 wr _ _⟩)
          · have HK := Lib.hid (show f = ⟨6, y, 1 + xc % 4, 1 + xn % 2, 0, false⟩ by rw [HF.out]; unfold noteF; dsimp only; rw [h7]; simp)
            go_wp2
            all_goals (go_meet; exact ⟨by rw [HK.out]; exact new2_1 wr _ _, below2 wr _ _⟩)
          · have HK := Lib.hid (show f = ⟨5, y, 1 + xc % 4, 0, 0, xh⟩ by rw [HF.out]; unfold noteF; dsimp only; rw [h7]; simp)
            go_wp2
            all_goals (go_meet; exact ⟨by rw [HK.out]; exact new2_1 wr _ _, below2 wr _ _⟩)
          · have HK := Lib.hid (show f = ⟨3, y, 1 + xc % 4, 0, 0, false⟩ by rw [HF.out]; unfold noteF; dsimp only; rw [h7]; simp)
            go_wp2
            all_goals (go_meet; exact ⟨by rw [HK.out]; exact new2_1 wr _ _, below2 wr _ _⟩)
          · have HK := Lib.hid (show f = ⟨7, y, 1 + xc % 4, 0, 0, false⟩ by rw [HF.out]; unfold noteF; dsimp only; rw [h7]; simp)
            go_wp2
            all_goals (go_meet; exact ⟨by rw [HK.out]; exact new2_1 wr _ _, below2 wr _ _⟩)
        case rest =>
        obtain ⟨hcf, hbx⟩ := hcut
        have HB3 := Lib.hid hbx
        have hbs := hbx.size
        obtain ⟨c0, c1, c2, c3, c4, c5⟩ := six_cells hcf
        have XR2 := Lib.hid (ownsRow_later HR.out hbx)
        clear hcf hbx
        go_wp2_with (first | (at_builtin; refine wpList_append_own _ rfl _ _ 22 rfl w.heap.size 30 i0 _ 6 48 Try.underlying22 hi0 hz0 hz1 hz2 rfl (by decide) _ _ _ rfl (XR2.out.alloc _) ⟨wc.heap.size, 0, none⟩ 1 1 (flRow f) rfl rfl (fcell_six wc f _ rfl) (by simp [flRow, Value.oneCell']) (by unfold maxLen; omega) (by omega) (by simp; omega) ?_; intro v' w1 hown' hgrow _) | fail)
        have H1 := Lib.hid (built_step hlt hI.out hb.out (HB3.out.alloc (by omega) _) HFF.out.symm hgrow HM.out hown')
        clear hown' hgrow
        go_roundw
        case rel => first | exact ⟨k + 1, _, y, by omega, by omega, by go_num, rfl, rfl, Lib.hid HDS.out.symm, by omega, by omega, Lib.hid H1.out.1, Lib.hid H1.out.2⟩ | ((repeat apply Exists.intro); exact ⟨⟨k + 1, _, y, by omega, by omega, by go_num, rfl, rfl, Lib.hid HDS.out.symm, by omega, by omega, Lib.hid H1.out.1, Lib.hid H1.out.2⟩, rfl⟩)
        case measure => simp [intOf]; omega
      · obtain rfl : k = 30 := by omega
        have H1 := Lib.hid hI.out
        go_wp2
        go_ret
        exact ⟨v, rfl, H1.out, hb.out⟩
    · obtain rfl : k = l.length := by omega
      have H1 := Lib.hid (show FOwns wr w.heap.size v (builtP l) by unfold builtP; have := hI.out; rw [List.take_length] at this; rw [List.take_of_length_le (by omega)]; exact this)
      go_wp2
      go_ret
      exact ⟨v, rfl, H1.out, hb.out⟩

end Go.Proofs.Ytbpoedopdnjffaa
