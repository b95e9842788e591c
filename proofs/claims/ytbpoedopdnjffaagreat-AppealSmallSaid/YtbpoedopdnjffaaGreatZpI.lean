/- The reference's Formed. The reference's File: what is known on the way. The reference's File: what is known behind Pass. The reference's File, walked. The reference's File, walked. -/
import Derived.Test.YtbpoedopdnjffaaGreatZpF
import Derived.Test.YtbpoedopdnjffaaGreatZpH
import Derived.Laws.ResultCell
import Derived.BigRegion
namespace Go.Proofs.YtbpoedopdnjffaaGreat
open Go.RowKit Go.Shelf Sp

/-- What Formed is asked to answer. -/
def FmPost (f : Fl) (w : World) (e : Ending) (w' : World) : Prop := e = .returned (.bool (wf f)) ∧ Below w.heap.size w w'
theorem wf_no {f : Fl} (h : f.Wf → False) : wf f = false := by rw [← Bool.not_eq_true]; exact fun e => h ((wf_iff f).1 e)
theorem FmPost.mk' {f : Fl} {w w' : World} {b : Bool} {e : Ending} (h : wf f = b) (he : e = .returned (.bool b)) (hb : Below w.heap.size w w') : FmPost f w e w' := ⟨by rw [h]; exact he, hb⟩


set_option maxHeartbeats 1000000 in
set_option maxRecDepth 100000 in
theorem fm_a (kd : Int) (dy cs n tl : Int) (ho : Bool) (w : World) (h0 : dy < 0) : Calls Tryz.prog 49 #[.agg #[.int .u8 kd, .int .i64 dy, .int .i64 cs, .int .i64 n, .int .i64 tl, .bool ho]] w (FmPost ⟨kd, dy, cs, n, tl, ho⟩ w) := by
  have HF := Lib.hid (show wf ⟨kd, dy, cs, n, tl, ho⟩ = false from (wf_no fun W => by have d := W.day; have k := W.kind; dsimp only at d k; omega))
  go_enter Tryz.func49, Tryz.ntmps49
  go_wp2
  go_ret
  exact FmPost.mk' HF.out (by first | rfl | (congr 2; simp; done) | (congr 2; simp; omega)) ((Below.refl _ _).alloc (Nat.le_refl _) _)


set_option maxHeartbeats 1000000 in
set_option maxRecDepth 100000 in
theorem fm_b (kd : Int) (dy cs n tl : Int) (ho : Bool) (w : World) (h0 : 0 ≤ dy) (h1 : 65536 ≤ dy) : Calls Tryz.prog 49 #[.agg #[.int .u8 kd, .int .i64 dy, .int .i64 cs, .int .i64 n, .int .i64 tl, .bool ho]] w (FmPost ⟨kd, dy, cs, n, tl, ho⟩ w) := by
  have HF := Lib.hid (show wf ⟨kd, dy, cs, n, tl, ho⟩ = false from (wf_no fun W => by have d := W.day; have k := W.kind; dsimp only at d k; omega))
  go_enter Tryz.func49, Tryz.ntmps49
  go_wp2
  go_ret
  exact FmPost.mk' HF.out (by first | rfl | (congr 2; simp; done) | (congr 2; simp; omega)) ((Below.refl _ _).alloc (Nat.le_refl _) _)


set_option maxHeartbeats 1000000 in
set_option maxRecDepth 100000 in
theorem fm_c (kd : Int) (dy cs n tl : Int) (w : World) (h0 : 0 ≤ dy) (h1 : dy < 65536) (h2 : (kd != 5) = true) : Calls Tryz.prog 49 #[.agg #[.int .u8 kd, .int .i64 dy, .int .i64 cs, .int .i64 n, .int .i64 tl, .bool true]] w (FmPost ⟨kd, dy, cs, n, tl, true⟩ w) := by
  have HF := Lib.hid (show wf ⟨kd, dy, cs, n, tl, true⟩ = false from (wf_no fun W => by have d := W.day; have k := W.kind; dsimp only at d k; have c1 := W.k1; have c4 := W.k4; have c2 := W.k2; have c3 := W.k37; have c6 := W.k6; dsimp only at c1 c4 c2 c3 c6; simp at h2; simp at c1 c4 c2 c3 c6; omega))
  go_enter Tryz.func49, Tryz.ntmps49
  go_wp2
  go_ret
  exact FmPost.mk' HF.out (by first | rfl | (congr 2; simp; done) | (congr 2; simp; omega)) ((Below.refl _ _).alloc (Nat.le_refl _) _)


set_option maxHeartbeats 1000000 in
set_option maxRecDepth 100000 in
theorem fm_d (kd : Int) (dy cs n tl : Int) (w : World) (h0 : 0 ≤ dy) (h1 : dy < 65536) (h2 : (tl != 0) = true) (h3 : (kd != 1) = true) : Calls Tryz.prog 49 #[.agg #[.int .u8 kd, .int .i64 dy, .int .i64 cs, .int .i64 n, .int .i64 tl, .bool false]] w (FmPost ⟨kd, dy, cs, n, tl, false⟩ w) := by
  have HF := Lib.hid (show wf ⟨kd, dy, cs, n, tl, false⟩ = false from (wf_no fun W => by have d := W.day; have k := W.kind; dsimp only at d k; have c4 := W.k4; have cc := W.kc; dsimp only at c4 cc; simp at h2 h3; omega))
  go_enter Tryz.func49, Tryz.ntmps49
  go_wp2
  go_ret
  exact FmPost.mk' HF.out (by first | rfl | (congr 2; simp; done) | (congr 2; simp; omega)) ((Below.refl _ _).alloc (Nat.le_refl _) _)


set_option maxHeartbeats 1000000 in
set_option maxRecDepth 100000 in
theorem fm_d5t (dy cs n tl : Int) (w : World) (h0 : 0 ≤ dy) (h1 : dy < 65536) (h2 : (tl != 0) = true) : Calls Tryz.prog 49 #[.agg #[.int .u8 5, .int .i64 dy, .int .i64 cs, .int .i64 n, .int .i64 tl, .bool true]] w (FmPost ⟨5, dy, cs, n, tl, true⟩ w) := by
  have HF := Lib.hid (show wf ⟨5, dy, cs, n, tl, true⟩ = false from (wf_no fun W => by have d := W.day; have k := W.kind; dsimp only at d k; have cc := W.kc; dsimp only at cc; simp at h2; omega))
  go_enter Tryz.func49, Tryz.ntmps49
  go_wp2
  go_ret
  exact FmPost.mk' HF.out (by first | rfl | (congr 2; simp; done) | (congr 2; simp; omega)) ((Below.refl _ _).alloc (Nat.le_refl _) _)


set_option maxHeartbeats 1000000 in
set_option maxRecDepth 100000 in
theorem fm_d5f (dy cs n tl : Int) (w : World) (h0 : 0 ≤ dy) (h1 : dy < 65536) (h2 : (tl != 0) = true) : Calls Tryz.prog 49 #[.agg #[.int .u8 5, .int .i64 dy, .int .i64 cs, .int .i64 n, .int .i64 tl, .bool false]] w (FmPost ⟨5, dy, cs, n, tl, false⟩ w) := by
  have HF := Lib.hid (show wf ⟨5, dy, cs, n, tl, false⟩ = false from (wf_no fun W => by have d := W.day; have k := W.kind; dsimp only at d k; have cc := W.kc; dsimp only at cc; simp at h2; omega))
  go_enter Tryz.func49, Tryz.ntmps49
  go_wp2
  go_ret
  exact FmPost.mk' HF.out (by first | rfl | (congr 2; simp; done) | (congr 2; simp; omega)) ((Below.refl _ _).alloc (Nat.le_refl _) _)


set_option maxHeartbeats 1000000 in
set_option maxRecDepth 100000 in
theorem fm_1t_0 (dy cs n tl : Int) (w : World) (h0 : 0 ≤ dy) (h1 : dy < 65536) (h2 : (tl != 0) = true) (h3 : (cs == 0) = false) : Calls Tryz.prog 49 #[.agg #[.int .u8 1, .int .i64 dy, .int .i64 cs, .int .i64 n, .int .i64 tl, .bool false]] w (FmPost ⟨1, dy, cs, n, tl, false⟩ w) := by
  have HF := Lib.hid (show wf ⟨1, dy, cs, n, tl, false⟩ = false from (wf_no fun W => by have d := W.day; have k := W.kind; dsimp only at d k; have c := W.k1; have cc := W.kc; dsimp only at c cc; simp at *; omega))
  go_enter Tryz.func49, Tryz.ntmps49
  go_wp2
  go_ret
  exact FmPost.mk' HF.out (by first | rfl | (congr 2; simp; done) | (congr 2; simp; omega)) ((Below.refl _ _).alloc (Nat.le_refl _) _)


set_option maxHeartbeats 1000000 in
set_option maxRecDepth 100000 in
theorem fm_1t_1 (dy cs n tl : Int) (w : World) (h0 : 0 ≤ dy) (h1 : dy < 65536) (h2 : (tl != 0) = true) (h3 : (cs == 0) = true) (h4 : n < 2) : Calls Tryz.prog 49 #[.agg #[.int .u8 1, .int .i64 dy, .int .i64 cs, .int .i64 n, .int .i64 tl, .bool false]] w (FmPost ⟨1, dy, cs, n, tl, false⟩ w) := by
  have HF := Lib.hid (show wf ⟨1, dy, cs, n, tl, false⟩ = false from (wf_no fun W => by have d := W.day; have k := W.kind; dsimp only at d k; have c := W.k1; have cc := W.kc; dsimp only at c cc; simp at *; omega))
  go_enter Tryz.func49, Tryz.ntmps49
  go_wp2
  go_ret
  exact FmPost.mk' HF.out (by first | rfl | (congr 2; simp; done) | (congr 2; simp; omega)) ((Below.refl _ _).alloc (Nat.le_refl _) _)


set_option maxHeartbeats 1000000 in
set_option maxRecDepth 100000 in
theorem fm_1t_2 (dy cs n tl : Int) (w : World) (h0 : 0 ≤ dy) (h1 : dy < 65536) (h2 : (tl != 0) = true) (h3 : (cs == 0) = true) (h4 : 2 ≤ n) (h5 : 9 < n) : Calls Tryz.prog 49 #[.agg #[.int .u8 1, .int .i64 dy, .int .i64 cs, .int .i64 n, .int .i64 tl, .bool false]] w (FmPost ⟨1, dy, cs, n, tl, false⟩ w) := by
  have HF := Lib.hid (show wf ⟨1, dy, cs, n, tl, false⟩ = false from (wf_no fun W => by have d := W.day; have k := W.kind; dsimp only at d k; have c := W.k1; have cc := W.kc; dsimp only at c cc; simp at *; omega))
  go_enter Tryz.func49, Tryz.ntmps49
  go_wp2
  go_ret
  exact FmPost.mk' HF.out (by first | rfl | (congr 2; simp; done) | (congr 2; simp; omega)) ((Below.refl _ _).alloc (Nat.le_refl _) _)


set_option maxHeartbeats 1000000 in
set_option maxRecDepth 100000 in
theorem fm_1t_3 (dy cs n tl : Int) (w : World) (h0 : 0 ≤ dy) (h1 : dy < 65536) (h2 : (tl != 0) = true) (h3 : (cs == 0) = true) (h4 : 2 ≤ n) (h5 : n ≤ 9) (h6 : tl < dy) : Calls Tryz.prog 49 #[.agg #[.int .u8 1, .int .i64 dy, .int .i64 cs, .int .i64 n, .int .i64 tl, .bool false]] w (FmPost ⟨1, dy, cs, n, tl, false⟩ w) := by
  have HF := Lib.hid (show wf ⟨1, dy, cs, n, tl, false⟩ = false from (wf_no fun W => by have d := W.day; have k := W.kind; dsimp only at d k; have c := W.k1; have cc := W.kc; dsimp only at c cc; simp at *; omega))
  go_enter Tryz.func49, Tryz.ntmps49
  go_wp2
  go_ret
  exact FmPost.mk' HF.out (by first | rfl | (congr 2; simp; done) | (congr 2; simp; omega)) ((Below.refl _ _).alloc (Nat.le_refl _) _)


set_option maxHeartbeats 1000000 in
set_option maxRecDepth 100000 in
theorem fm_1t_4 (dy cs n tl : Int) (w : World) (h0 : 0 ≤ dy) (h1 : dy < 65536) (h2 : (tl != 0) = true) (h3 : (cs == 0) = true) (h4 : 2 ≤ n) (h5 : n ≤ 9) (h6 : dy ≤ tl) (h7 : 65536 ≤ tl) : Calls Tryz.prog 49 #[.agg #[.int .u8 1, .int .i64 dy, .int .i64 cs, .int .i64 n, .int .i64 tl, .bool false]] w (FmPost ⟨1, dy, cs, n, tl, false⟩ w) := by
  have HF := Lib.hid (show wf ⟨1, dy, cs, n, tl, false⟩ = false from (wf_no fun W => by have d := W.day; have k := W.kind; dsimp only at d k; have c := W.k1; have cc := W.kc; dsimp only at c cc; simp at *; omega))
  go_enter Tryz.func49, Tryz.ntmps49
  go_wp2
  go_ret
  exact FmPost.mk' HF.out (by first | rfl | (congr 2; simp; done) | (congr 2; simp; omega)) ((Below.refl _ _).alloc (Nat.le_refl _) _)


set_option maxHeartbeats 1000000 in
set_option maxRecDepth 100000 in
theorem fm_1t_y (dy cs n tl : Int) (w : World) (h0 : 0 ≤ dy) (h1 : dy < 65536) (h2 : (tl != 0) = true) (h3 : (cs == 0) = true) (h4 : 2 ≤ n) (h5 : n ≤ 9) (h6 : dy ≤ tl) (h7 : tl < 65536) : Calls Tryz.prog 49 #[.agg #[.int .u8 1, .int .i64 dy, .int .i64 cs, .int .i64 n, .int .i64 tl, .bool false]] w (FmPost ⟨1, dy, cs, n, tl, false⟩ w) := by
  have HF := Lib.hid (show wf ⟨1, dy, cs, n, tl, false⟩ = true from (wf_iff _).2 (by refine ⟨?_, ?_, ?_, ?_, ?_, ?_, ?_, ?_, ?_⟩ <;> dsimp only <;> simp at * <;> omega))
  go_enter Tryz.func49, Tryz.ntmps49
  go_wp2
  go_ret
  exact FmPost.mk' HF.out (by first | rfl | (congr 2; simp; done) | (congr 2; simp; omega)) ((Below.refl _ _).alloc (Nat.le_refl _) _)


set_option maxHeartbeats 1000000 in
set_option maxRecDepth 100000 in
theorem fm_1f_0 (dy cs n tl : Int) (w : World) (h0 : 0 ≤ dy) (h1 : dy < 65536) (h2 : (tl != 0) = false) (h3 : (cs == 0) = false) : Calls Tryz.prog 49 #[.agg #[.int .u8 1, .int .i64 dy, .int .i64 cs, .int .i64 n, .int .i64 tl, .bool false]] w (FmPost ⟨1, dy, cs, n, tl, false⟩ w) := by
  have HF := Lib.hid (show wf ⟨1, dy, cs, n, tl, false⟩ = false from (wf_no fun W => by have d := W.day; have k := W.kind; dsimp only at d k; have c := W.k1; have cc := W.kc; dsimp only at c cc; simp at *; omega))
  go_enter Tryz.func49, Tryz.ntmps49
  go_wp2
  go_ret
  exact FmPost.mk' HF.out (by first | rfl | (congr 2; simp; done) | (congr 2; simp; omega)) ((Below.refl _ _).alloc (Nat.le_refl _) _)


set_option maxHeartbeats 1000000 in
set_option maxRecDepth 100000 in
theorem fm_1f_1 (dy cs n tl : Int) (w : World) (h0 : 0 ≤ dy) (h1 : dy < 65536) (h2 : (tl != 0) = false) (h3 : (cs == 0) = true) (h4 : n < 2) : Calls Tryz.prog 49 #[.agg #[.int .u8 1, .int .i64 dy, .int .i64 cs, .int .i64 n, .int .i64 tl, .bool false]] w (FmPost ⟨1, dy, cs, n, tl, false⟩ w) := by
  have HF := Lib.hid (show wf ⟨1, dy, cs, n, tl, false⟩ = false from (wf_no fun W => by have d := W.day; have k := W.kind; dsimp only at d k; have c := W.k1; have cc := W.kc; dsimp only at c cc; simp at *; omega))
  go_enter Tryz.func49, Tryz.ntmps49
  go_wp2
  go_ret
  exact FmPost.mk' HF.out (by first | rfl | (congr 2; simp; done) | (congr 2; simp; omega)) ((Below.refl _ _).alloc (Nat.le_refl _) _)


set_option maxHeartbeats 1000000 in
set_option maxRecDepth 100000 in
theorem fm_1f_2 (dy cs n tl : Int) (w : World) (h0 : 0 ≤ dy) (h1 : dy < 65536) (h2 : (tl != 0) = false) (h3 : (cs == 0) = true) (h4 : 2 ≤ n) (h5 : 9 < n) : Calls Tryz.prog 49 #[.agg #[.int .u8 1, .int .i64 dy, .int .i64 cs, .int .i64 n, .int .i64 tl, .bool false]] w (FmPost ⟨1, dy, cs, n, tl, false⟩ w) := by
  have HF := Lib.hid (show wf ⟨1, dy, cs, n, tl, false⟩ = false from (wf_no fun W => by have d := W.day; have k := W.kind; dsimp only at d k; have c := W.k1; have cc := W.kc; dsimp only at c cc; simp at *; omega))
  go_enter Tryz.func49, Tryz.ntmps49
  go_wp2
  go_ret
  exact FmPost.mk' HF.out (by first | rfl | (congr 2; simp; done) | (congr 2; simp; omega)) ((Below.refl _ _).alloc (Nat.le_refl _) _)


set_option maxHeartbeats 1000000 in
set_option maxRecDepth 100000 in
theorem fm_1f_3 (dy cs n tl : Int) (w : World) (h0 : 0 ≤ dy) (h1 : dy < 65536) (h2 : (tl != 0) = false) (h3 : (cs == 0) = true) (h4 : 2 ≤ n) (h5 : n ≤ 9) (h6 : tl < dy) : Calls Tryz.prog 49 #[.agg #[.int .u8 1, .int .i64 dy, .int .i64 cs, .int .i64 n, .int .i64 tl, .bool false]] w (FmPost ⟨1, dy, cs, n, tl, false⟩ w) := by
  have HF := Lib.hid (show wf ⟨1, dy, cs, n, tl, false⟩ = false from (wf_no fun W => by have d := W.day; have k := W.kind; dsimp only at d k; have c := W.k1; have cc := W.kc; dsimp only at c cc; simp at *; omega))
  go_enter Tryz.func49, Tryz.ntmps49
  go_wp2
  go_ret
  exact FmPost.mk' HF.out (by first | rfl | (congr 2; simp; done) | (congr 2; simp; omega)) ((Below.refl _ _).alloc (Nat.le_refl _) _)


set_option maxHeartbeats 1000000 in
set_option maxRecDepth 100000 in
theorem fm_1f_4 (dy cs n tl : Int) (w : World) (h0 : 0 ≤ dy) (h1 : dy < 65536) (h2 : (tl != 0) = false) (h3 : (cs == 0) = true) (h4 : 2 ≤ n) (h5 : n ≤ 9) (h6 : dy ≤ tl) (h7 : 65536 ≤ tl) : Calls Tryz.prog 49 #[.agg #[.int .u8 1, .int .i64 dy, .int .i64 cs, .int .i64 n, .int .i64 tl, .bool false]] w (FmPost ⟨1, dy, cs, n, tl, false⟩ w) := by
  have HF := Lib.hid (show wf ⟨1, dy, cs, n, tl, false⟩ = false from (wf_no fun W => by have d := W.day; have k := W.kind; dsimp only at d k; have c := W.k1; have cc := W.kc; dsimp only at c cc; simp at *; omega))
  go_enter Tryz.func49, Tryz.ntmps49
  go_wp2
  go_ret
  exact FmPost.mk' HF.out (by first | rfl | (congr 2; simp; done) | (congr 2; simp; omega)) ((Below.refl _ _).alloc (Nat.le_refl _) _)


set_option maxHeartbeats 1000000 in
set_option maxRecDepth 100000 in
theorem fm_1f_y (dy cs n tl : Int) (w : World) (h0 : 0 ≤ dy) (h1 : dy < 65536) (h2 : (tl != 0) = false) (h3 : (cs == 0) = true) (h4 : 2 ≤ n) (h5 : n ≤ 9) (h6 : dy ≤ tl) (h7 : tl < 65536) : Calls Tryz.prog 49 #[.agg #[.int .u8 1, .int .i64 dy, .int .i64 cs, .int .i64 n, .int .i64 tl, .bool false]] w (FmPost ⟨1, dy, cs, n, tl, false⟩ w) := by
  have HF := Lib.hid (show wf ⟨1, dy, cs, n, tl, false⟩ = true from (wf_iff _).2 (by refine ⟨?_, ?_, ?_, ?_, ?_, ?_, ?_, ?_, ?_⟩ <;> dsimp only <;> simp at * <;> omega))
  go_enter Tryz.func49, Tryz.ntmps49
  go_wp2
  go_ret
  exact FmPost.mk' HF.out (by first | rfl | (congr 2; simp; done) | (congr 2; simp; omega)) ((Below.refl _ _).alloc (Nat.le_refl _) _)


set_option maxHeartbeats 1000000 in
set_option maxRecDepth 100000 in
theorem fm_4_0 (dy cs n tl : Int) (w : World) (h0 : 0 ≤ dy) (h1 : dy < 65536) (h2 : (tl != 0) = false) (h3 : (cs == 0) = false) : Calls Tryz.prog 49 #[.agg #[.int .u8 4, .int .i64 dy, .int .i64 cs, .int .i64 n, .int .i64 tl, .bool false]] w (FmPost ⟨4, dy, cs, n, tl, false⟩ w) := by
  have HF := Lib.hid (show wf ⟨4, dy, cs, n, tl, false⟩ = false from (wf_no fun W => by have d := W.day; have k := W.kind; dsimp only at d k; have c := W.k4; have cc := W.kc; dsimp only at c cc; simp at *; omega))
  go_enter Tryz.func49, Tryz.ntmps49
  go_wp2
  go_ret
  exact FmPost.mk' HF.out (by first | rfl | (congr 2; simp; done) | (congr 2; simp; omega)) ((Below.refl _ _).alloc (Nat.le_refl _) _)


set_option maxHeartbeats 1000000 in
set_option maxRecDepth 100000 in
theorem fm_4_1 (dy cs n tl : Int) (w : World) (h0 : 0 ≤ dy) (h1 : dy < 65536) (h2 : (tl != 0) = false) (h3 : (cs == 0) = true) (h4 : n < 1) : Calls Tryz.prog 49 #[.agg #[.int .u8 4, .int .i64 dy, .int .i64 cs, .int .i64 n, .int .i64 tl, .bool false]] w (FmPost ⟨4, dy, cs, n, tl, false⟩ w) := by
  have HF := Lib.hid (show wf ⟨4, dy, cs, n, tl, false⟩ = false from (wf_no fun W => by have d := W.day; have k := W.kind; dsimp only at d k; have c := W.k4; have cc := W.kc; dsimp only at c cc; simp at *; omega))
  go_enter Tryz.func49, Tryz.ntmps49
  go_wp2
  go_ret
  exact FmPost.mk' HF.out (by first | rfl | (congr 2; simp; done) | (congr 2; simp; omega)) ((Below.refl _ _).alloc (Nat.le_refl _) _)


set_option maxHeartbeats 1000000 in
set_option maxRecDepth 100000 in
theorem fm_4_2 (dy cs n tl : Int) (w : World) (h0 : 0 ≤ dy) (h1 : dy < 65536) (h2 : (tl != 0) = false) (h3 : (cs == 0) = true) (h4 : 1 ≤ n) (h5 : 400 < n) : Calls Tryz.prog 49 #[.agg #[.int .u8 4, .int .i64 dy, .int .i64 cs, .int .i64 n, .int .i64 tl, .bool false]] w (FmPost ⟨4, dy, cs, n, tl, false⟩ w) := by
  have HF := Lib.hid (show wf ⟨4, dy, cs, n, tl, false⟩ = false from (wf_no fun W => by have d := W.day; have k := W.kind; dsimp only at d k; have c := W.k4; have cc := W.kc; dsimp only at c cc; simp at *; omega))
  go_enter Tryz.func49, Tryz.ntmps49
  go_wp2
  go_ret
  exact FmPost.mk' HF.out (by first | rfl | (congr 2; simp; done) | (congr 2; simp; omega)) ((Below.refl _ _).alloc (Nat.le_refl _) _)


set_option maxHeartbeats 1000000 in
set_option maxRecDepth 100000 in
theorem fm_4_y (dy cs n tl : Int) (w : World) (h0 : 0 ≤ dy) (h1 : dy < 65536) (h2 : (tl != 0) = false) (h3 : (cs == 0) = true) (h4 : 1 ≤ n) (h5 : n ≤ 400) : Calls Tryz.prog 49 #[.agg #[.int .u8 4, .int .i64 dy, .int .i64 cs, .int .i64 n, .int .i64 tl, .bool false]] w (FmPost ⟨4, dy, cs, n, tl, false⟩ w) := by
  have HF := Lib.hid (show wf ⟨4, dy, cs, n, tl, false⟩ = true from (wf_iff _).2 (by refine ⟨?_, ?_, ?_, ?_, ?_, ?_, ?_, ?_, ?_⟩ <;> dsimp only <;> simp at * <;> omega))
  go_enter Tryz.func49, Tryz.ntmps49
  go_wp2
  go_ret
  exact FmPost.mk' HF.out (by first | rfl | (congr 2; simp; done) | (congr 2; simp; omega)) ((Below.refl _ _).alloc (Nat.le_refl _) _)


set_option maxHeartbeats 1000000 in
set_option maxRecDepth 100000 in
theorem fm_2_0 (dy cs n tl : Int) (w : World) (h0 : 0 ≤ dy) (h1 : dy < 65536) (h2 : (tl != 0) = false) (h3 : cs < 1) : Calls Tryz.prog 49 #[.agg #[.int .u8 2, .int .i64 dy, .int .i64 cs, .int .i64 n, .int .i64 tl, .bool false]] w (FmPost ⟨2, dy, cs, n, tl, false⟩ w) := by
  have HF := Lib.hid (show wf ⟨2, dy, cs, n, tl, false⟩ = false from (wf_no fun W => by have d := W.day; have k := W.kind; dsimp only at d k; have c := W.k2; have cc := W.kc; dsimp only at c cc; simp at *; omega))
  go_enter Tryz.func49, Tryz.ntmps49
  go_wp2
  go_ret
  exact FmPost.mk' HF.out (by first | rfl | (congr 2; simp; done) | (congr 2; simp; omega)) ((Below.refl _ _).alloc (Nat.le_refl _) _)


set_option maxHeartbeats 1000000 in
set_option maxRecDepth 100000 in
theorem fm_2_1 (dy cs n tl : Int) (w : World) (h0 : 0 ≤ dy) (h1 : dy < 65536) (h2 : (tl != 0) = false) (h3 : 1 ≤ cs) (h4 : n < 1) : Calls Tryz.prog 49 #[.agg #[.int .u8 2, .int .i64 dy, .int .i64 cs, .int .i64 n, .int .i64 tl, .bool false]] w (FmPost ⟨2, dy, cs, n, tl, false⟩ w) := by
  have HF := Lib.hid (show wf ⟨2, dy, cs, n, tl, false⟩ = false from (wf_no fun W => by have d := W.day; have k := W.kind; dsimp only at d k; have c := W.k2; have cc := W.kc; dsimp only at c cc; simp at *; omega))
  go_enter Tryz.func49, Tryz.ntmps49
  go_wp2
  go_ret
  exact FmPost.mk' HF.out (by first | rfl | (congr 2; simp; done) | (congr 2; simp; omega)) ((Below.refl _ _).alloc (Nat.le_refl _) _)


set_option maxHeartbeats 1000000 in
set_option maxRecDepth 100000 in
theorem fm_2_2 (dy cs n tl : Int) (w : World) (h0 : 0 ≤ dy) (h1 : dy < 65536) (h2 : (tl != 0) = false) (h3 : 1 ≤ cs) (h4 : 1 ≤ n) (h5 : 9 < n) : Calls Tryz.prog 49 #[.agg #[.int .u8 2, .int .i64 dy, .int .i64 cs, .int .i64 n, .int .i64 tl, .bool false]] w (FmPost ⟨2, dy, cs, n, tl, false⟩ w) := by
  have HF := Lib.hid (show wf ⟨2, dy, cs, n, tl, false⟩ = false from (wf_no fun W => by have d := W.day; have k := W.kind; dsimp only at d k; have c := W.k2; have cc := W.kc; dsimp only at c cc; simp at *; omega))
  go_enter Tryz.func49, Tryz.ntmps49
  go_wp2
  go_ret
  exact FmPost.mk' HF.out (by first | rfl | (congr 2; simp; done) | (congr 2; simp; omega)) ((Below.refl _ _).alloc (Nat.le_refl _) _)


set_option maxHeartbeats 1000000 in
set_option maxRecDepth 100000 in
theorem fm_2_y (dy cs n tl : Int) (w : World) (h0 : 0 ≤ dy) (h1 : dy < 65536) (h2 : (tl != 0) = false) (h3 : 1 ≤ cs) (h4 : 1 ≤ n) (h5 : n ≤ 9) : Calls Tryz.prog 49 #[.agg #[.int .u8 2, .int .i64 dy, .int .i64 cs, .int .i64 n, .int .i64 tl, .bool false]] w (FmPost ⟨2, dy, cs, n, tl, false⟩ w) := by
  have HF := Lib.hid (show wf ⟨2, dy, cs, n, tl, false⟩ = true from (wf_iff _).2 (by refine ⟨?_, ?_, ?_, ?_, ?_, ?_, ?_, ?_, ?_⟩ <;> dsimp only <;> simp at * <;> omega))
  go_enter Tryz.func49, Tryz.ntmps49
  go_wp2
  go_ret
  exact FmPost.mk' HF.out (by first | rfl | (congr 2; simp; done) | (congr 2; simp; omega)) ((Below.refl _ _).alloc (Nat.le_refl _) _)


set_option maxHeartbeats 1000000 in
set_option maxRecDepth 100000 in
theorem fm_3_0 (dy cs n tl : Int) (w : World) (h0 : 0 ≤ dy) (h1 : dy < 65536) (h2 : (tl != 0) = false) (h3 : cs < 1) : Calls Tryz.prog 49 #[.agg #[.int .u8 3, .int .i64 dy, .int .i64 cs, .int .i64 n, .int .i64 tl, .bool false]] w (FmPost ⟨3, dy, cs, n, tl, false⟩ w) := by
  have HF := Lib.hid (show wf ⟨3, dy, cs, n, tl, false⟩ = false from (wf_no fun W => by have d := W.day; have k := W.kind; dsimp only at d k; have c := W.k37; have cc := W.kc; dsimp only at c cc; simp at *; omega))
  go_enter Tryz.func49, Tryz.ntmps49
  go_wp2
  go_ret
  exact FmPost.mk' HF.out (by first | rfl | (congr 2; simp; done) | (congr 2; simp; omega)) ((Below.refl _ _).alloc (Nat.le_refl _) _)


set_option maxHeartbeats 1000000 in
set_option maxRecDepth 100000 in
theorem fm_3_1 (dy cs n tl : Int) (w : World) (h0 : 0 ≤ dy) (h1 : dy < 65536) (h2 : (tl != 0) = false) (h3 : 1 ≤ cs) (h4 : (n == 0) = false) : Calls Tryz.prog 49 #[.agg #[.int .u8 3, .int .i64 dy, .int .i64 cs, .int .i64 n, .int .i64 tl, .bool false]] w (FmPost ⟨3, dy, cs, n, tl, false⟩ w) := by
  have HF := Lib.hid (show wf ⟨3, dy, cs, n, tl, false⟩ = false from (wf_no fun W => by have d := W.day; have k := W.kind; dsimp only at d k; have c := W.k37; have cc := W.kc; dsimp only at c cc; simp at *; omega))
  go_enter Tryz.func49, Tryz.ntmps49
  go_wp2
  go_ret
  exact FmPost.mk' HF.out (by first | rfl | (congr 2; simp; done) | (congr 2; simp; omega)) ((Below.refl _ _).alloc (Nat.le_refl _) _)


set_option maxHeartbeats 1000000 in
set_option maxRecDepth 100000 in
theorem fm_3_y (dy cs n tl : Int) (w : World) (h0 : 0 ≤ dy) (h1 : dy < 65536) (h2 : (tl != 0) = false) (h3 : 1 ≤ cs) (h4 : (n == 0) = true) : Calls Tryz.prog 49 #[.agg #[.int .u8 3, .int .i64 dy, .int .i64 cs, .int .i64 n, .int .i64 tl, .bool false]] w (FmPost ⟨3, dy, cs, n, tl, false⟩ w) := by
  have HF := Lib.hid (show wf ⟨3, dy, cs, n, tl, false⟩ = true from (wf_iff _).2 (by refine ⟨?_, ?_, ?_, ?_, ?_, ?_, ?_, ?_, ?_⟩ <;> dsimp only <;> simp at * <;> omega))
  go_enter Tryz.func49, Tryz.ntmps49
  go_wp2
  go_ret
  exact FmPost.mk' HF.out (by first | rfl | (congr 2; simp; done) | (congr 2; simp; omega)) ((Below.refl _ _).alloc (Nat.le_refl _) _)


set_option maxHeartbeats 1000000 in
set_option maxRecDepth 100000 in
theorem fm_7_0 (dy cs n tl : Int) (w : World) (h0 : 0 ≤ dy) (h1 : dy < 65536) (h2 : (tl != 0) = false) (h3 : cs < 1) : Calls Tryz.prog 49 #[.agg #[.int .u8 7, .int .i64 dy, .int .i64 cs, .int .i64 n, .int .i64 tl, .bool false]] w (FmPost ⟨7, dy, cs, n, tl, false⟩ w) := by
  have HF := Lib.hid (show wf ⟨7, dy, cs, n, tl, false⟩ = false from (wf_no fun W => by have d := W.day; have k := W.kind; dsimp only at d k; have c := W.k37; have cc := W.kc; dsimp only at c cc; simp at *; omega))
  go_enter Tryz.func49, Tryz.ntmps49
  go_wp2
  go_ret
  exact FmPost.mk' HF.out (by first | rfl | (congr 2; simp; done) | (congr 2; simp; omega)) ((Below.refl _ _).alloc (Nat.le_refl _) _)


set_option maxHeartbeats 1000000 in
set_option maxRecDepth 100000 in
theorem fm_7_1 (dy cs n tl : Int) (w : World) (h0 : 0 ≤ dy) (h1 : dy < 65536) (h2 : (tl != 0) = false) (h3 : 1 ≤ cs) (h4 : (n == 0) = false) : Calls Tryz.prog 49 #[.agg #[.int .u8 7, .int .i64 dy, .int .i64 cs, .int .i64 n, .int .i64 tl, .bool false]] w (FmPost ⟨7, dy, cs, n, tl, false⟩ w) := by
  have HF := Lib.hid (show wf ⟨7, dy, cs, n, tl, false⟩ = false from (wf_no fun W => by have d := W.day; have k := W.kind; dsimp only at d k; have c := W.k37; have cc := W.kc; dsimp only at c cc; simp at *; omega))
  go_enter Tryz.func49, Tryz.ntmps49
  go_wp2
  go_ret
  exact FmPost.mk' HF.out (by first | rfl | (congr 2; simp; done) | (congr 2; simp; omega)) ((Below.refl _ _).alloc (Nat.le_refl _) _)


set_option maxHeartbeats 1000000 in
set_option maxRecDepth 100000 in
theorem fm_7_y (dy cs n tl : Int) (w : World) (h0 : 0 ≤ dy) (h1 : dy < 65536) (h2 : (tl != 0) = false) (h3 : 1 ≤ cs) (h4 : (n == 0) = true) : Calls Tryz.prog 49 #[.agg #[.int .u8 7, .int .i64 dy, .int .i64 cs, .int .i64 n, .int .i64 tl, .bool false]] w (FmPost ⟨7, dy, cs, n, tl, false⟩ w) := by
  have HF := Lib.hid (show wf ⟨7, dy, cs, n, tl, false⟩ = true from (wf_iff _).2 (by refine ⟨?_, ?_, ?_, ?_, ?_, ?_, ?_, ?_, ?_⟩ <;> dsimp only <;> simp at * <;> omega))
  go_enter Tryz.func49, Tryz.ntmps49
  go_wp2
  go_ret
  exact FmPost.mk' HF.out (by first | rfl | (congr 2; simp; done) | (congr 2; simp; omega)) ((Below.refl _ _).alloc (Nat.le_refl _) _)


set_option maxHeartbeats 1000000 in
set_option maxRecDepth 100000 in
theorem fm_5t_0 (dy cs n tl : Int) (w : World) (h0 : 0 ≤ dy) (h1 : dy < 65536) (h2 : (tl != 0) = false) (h3 : cs < 1) : Calls Tryz.prog 49 #[.agg #[.int .u8 5, .int .i64 dy, .int .i64 cs, .int .i64 n, .int .i64 tl, .bool true]] w (FmPost ⟨5, dy, cs, n, tl, true⟩ w) := by
  have HF := Lib.hid (show wf ⟨5, dy, cs, n, tl, true⟩ = false from (wf_no fun W => by have d := W.day; have k := W.kind; dsimp only at d k; have c := W.k5; have cc := W.kc; dsimp only at c cc; simp at *; omega))
  go_enter Tryz.func49, Tryz.ntmps49
  go_wp2
  go_ret
  exact FmPost.mk' HF.out (by first | rfl | (congr 2; simp; done) | (congr 2; simp; omega)) ((Below.refl _ _).alloc (Nat.le_refl _) _)


set_option maxHeartbeats 1000000 in
set_option maxRecDepth 100000 in
theorem fm_5t_1 (dy cs n tl : Int) (w : World) (h0 : 0 ≤ dy) (h1 : dy < 65536) (h2 : (tl != 0) = false) (h3 : 1 ≤ cs) (h4 : (n == 0) = false) : Calls Tryz.prog 49 #[.agg #[.int .u8 5, .int .i64 dy, .int .i64 cs, .int .i64 n, .int .i64 tl, .bool true]] w (FmPost ⟨5, dy, cs, n, tl, true⟩ w) := by
  have HF := Lib.hid (show wf ⟨5, dy, cs, n, tl, true⟩ = false from (wf_no fun W => by have d := W.day; have k := W.kind; dsimp only at d k; have c := W.k5; have cc := W.kc; dsimp only at c cc; simp at *; omega))
  go_enter Tryz.func49, Tryz.ntmps49
  go_wp2
  go_ret
  exact FmPost.mk' HF.out (by first | rfl | (congr 2; simp; done) | (congr 2; simp; omega)) ((Below.refl _ _).alloc (Nat.le_refl _) _)


set_option maxHeartbeats 1000000 in
set_option maxRecDepth 100000 in
theorem fm_5t_y (dy cs n tl : Int) (w : World) (h0 : 0 ≤ dy) (h1 : dy < 65536) (h2 : (tl != 0) = false) (h3 : 1 ≤ cs) (h4 : (n == 0) = true) : Calls Tryz.prog 49 #[.agg #[.int .u8 5, .int .i64 dy, .int .i64 cs, .int .i64 n, .int .i64 tl, .bool true]] w (FmPost ⟨5, dy, cs, n, tl, true⟩ w) := by
  have HF := Lib.hid (show wf ⟨5, dy, cs, n, tl, true⟩ = true from (wf_iff _).2 (by refine ⟨?_, ?_, ?_, ?_, ?_, ?_, ?_, ?_, ?_⟩ <;> dsimp only <;> simp at * <;> omega))
  go_enter Tryz.func49, Tryz.ntmps49
  go_wp2
  go_ret
  exact FmPost.mk' HF.out (by first | rfl | (congr 2; simp; done) | (congr 2; simp; omega)) ((Below.refl _ _).alloc (Nat.le_refl _) _)


set_option maxHeartbeats 1000000 in
set_option maxRecDepth 100000 in
theorem fm_5f_0 (dy cs n tl : Int) (w : World) (h0 : 0 ≤ dy) (h1 : dy < 65536) (h2 : (tl != 0) = false) (h3 : cs < 1) : Calls Tryz.prog 49 #[.agg #[.int .u8 5, .int .i64 dy, .int .i64 cs, .int .i64 n, .int .i64 tl, .bool false]] w (FmPost ⟨5, dy, cs, n, tl, false⟩ w) := by
  have HF := Lib.hid (show wf ⟨5, dy, cs, n, tl, false⟩ = false from (wf_no fun W => by have d := W.day; have k := W.kind; dsimp only at d k; have c := W.k5; have cc := W.kc; dsimp only at c cc; simp at *; omega))
  go_enter Tryz.func49, Tryz.ntmps49
  go_wp2
  go_ret
  exact FmPost.mk' HF.out (by first | rfl | (congr 2; simp; done) | (congr 2; simp; omega)) ((Below.refl _ _).alloc (Nat.le_refl _) _)


set_option maxHeartbeats 1000000 in
set_option maxRecDepth 100000 in
theorem fm_5f_1 (dy cs n tl : Int) (w : World) (h0 : 0 ≤ dy) (h1 : dy < 65536) (h2 : (tl != 0) = false) (h3 : 1 ≤ cs) (h4 : (n == 0) = false) : Calls Tryz.prog 49 #[.agg #[.int .u8 5, .int .i64 dy, .int .i64 cs, .int .i64 n, .int .i64 tl, .bool false]] w (FmPost ⟨5, dy, cs, n, tl, false⟩ w) := by
  have HF := Lib.hid (show wf ⟨5, dy, cs, n, tl, false⟩ = false from (wf_no fun W => by have d := W.day; have k := W.kind; dsimp only at d k; have c := W.k5; have cc := W.kc; dsimp only at c cc; simp at *; omega))
  go_enter Tryz.func49, Tryz.ntmps49
  go_wp2
  go_ret
  exact FmPost.mk' HF.out (by first | rfl | (congr 2; simp; done) | (congr 2; simp; omega)) ((Below.refl _ _).alloc (Nat.le_refl _) _)


set_option maxHeartbeats 1000000 in
set_option maxRecDepth 100000 in
theorem fm_5f_y (dy cs n tl : Int) (w : World) (h0 : 0 ≤ dy) (h1 : dy < 65536) (h2 : (tl != 0) = false) (h3 : 1 ≤ cs) (h4 : (n == 0) = true) : Calls Tryz.prog 49 #[.agg #[.int .u8 5, .int .i64 dy, .int .i64 cs, .int .i64 n, .int .i64 tl, .bool false]] w (FmPost ⟨5, dy, cs, n, tl, false⟩ w) := by
  have HF := Lib.hid (show wf ⟨5, dy, cs, n, tl, false⟩ = true from (wf_iff _).2 (by refine ⟨?_, ?_, ?_, ?_, ?_, ?_, ?_, ?_, ?_⟩ <;> dsimp only <;> simp at * <;> omega))
  go_enter Tryz.func49, Tryz.ntmps49
  go_wp2
  go_ret
  exact FmPost.mk' HF.out (by first | rfl | (congr 2; simp; done) | (congr 2; simp; omega)) ((Below.refl _ _).alloc (Nat.le_refl _) _)


set_option maxHeartbeats 1000000 in
set_option maxRecDepth 100000 in
theorem fm_6_0 (dy cs n tl : Int) (w : World) (h0 : 0 ≤ dy) (h1 : dy < 65536) (h2 : (tl != 0) = false) (h3 : cs < 1) : Calls Tryz.prog 49 #[.agg #[.int .u8 6, .int .i64 dy, .int .i64 cs, .int .i64 n, .int .i64 tl, .bool false]] w (FmPost ⟨6, dy, cs, n, tl, false⟩ w) := by
  have HF := Lib.hid (show wf ⟨6, dy, cs, n, tl, false⟩ = false from (wf_no fun W => by have d := W.day; have k := W.kind; dsimp only at d k; have cc := W.kc; dsimp only at cc; omega))
  go_enter Tryz.func49, Tryz.ntmps49
  go_wp2
  go_ret
  exact FmPost.mk' HF.out (by first | rfl | (congr 2; simp; done) | (congr 2; simp; omega)) ((Below.refl _ _).alloc (Nat.le_refl _) _)


set_option maxHeartbeats 1000000 in
set_option maxRecDepth 100000 in
theorem fm_6_1 (dy cs n tl : Int) (w : World) (h0 : 0 ≤ dy) (h1 : dy < 65536) (h2 : (tl != 0) = false) (h3 : 1 ≤ cs) (h4 : (n == 1) = true) : Calls Tryz.prog 49 #[.agg #[.int .u8 6, .int .i64 dy, .int .i64 cs, .int .i64 n, .int .i64 tl, .bool false]] w (FmPost ⟨6, dy, cs, n, tl, false⟩ w) := by
  have HF := Lib.hid (show wf ⟨6, dy, cs, n, tl, false⟩ = true from (wf_iff _).2 (by refine ⟨?_, ?_, ?_, ?_, ?_, ?_, ?_, ?_, ?_⟩ <;> dsimp only <;> simp at * <;> omega))
  go_enter Tryz.func49, Tryz.ntmps49
  go_wp2
  go_ret
  exact FmPost.mk' HF.out (by first | rfl | (congr 2; simp; done) | (congr 2; simp; omega)) ((Below.refl _ _).alloc (Nat.le_refl _) _)


set_option maxHeartbeats 1000000 in
set_option maxRecDepth 100000 in
theorem fm_6_2 (dy cs n tl : Int) (w : World) (h0 : 0 ≤ dy) (h1 : dy < 65536) (h2 : (tl != 0) = false) (h3 : 1 ≤ cs) (h4 : (n == 1) = false) (h5 : (n == 2) = true) : Calls Tryz.prog 49 #[.agg #[.int .u8 6, .int .i64 dy, .int .i64 cs, .int .i64 n, .int .i64 tl, .bool false]] w (FmPost ⟨6, dy, cs, n, tl, false⟩ w) := by
  have HF := Lib.hid (show wf ⟨6, dy, cs, n, tl, false⟩ = true from (wf_iff _).2 (by refine ⟨?_, ?_, ?_, ?_, ?_, ?_, ?_, ?_, ?_⟩ <;> dsimp only <;> simp at * <;> omega))
  go_enter Tryz.func49, Tryz.ntmps49
  go_wp2
  go_ret
  exact FmPost.mk' HF.out (by first | rfl | (congr 2; simp; done) | (congr 2; simp; omega)) ((Below.refl _ _).alloc (Nat.le_refl _) _)


set_option maxHeartbeats 1000000 in
set_option maxRecDepth 100000 in
theorem fm_6_3 (dy cs n tl : Int) (w : World) (h0 : 0 ≤ dy) (h1 : dy < 65536) (h2 : (tl != 0) = false) (h3 : 1 ≤ cs) (h4 : (n == 1) = false) (h5 : (n == 2) = false) : Calls Tryz.prog 49 #[.agg #[.int .u8 6, .int .i64 dy, .int .i64 cs, .int .i64 n, .int .i64 tl, .bool false]] w (FmPost ⟨6, dy, cs, n, tl, false⟩ w) := by
  have HF := Lib.hid (show wf ⟨6, dy, cs, n, tl, false⟩ = false from (wf_no fun W => by have d := W.day; have k := W.kind; dsimp only at d k; have c := W.k6; dsimp only at c; simp at *; omega))
  go_enter Tryz.func49, Tryz.ntmps49
  go_wp2
  go_ret
  exact FmPost.mk' HF.out (by first | rfl | (congr 2; simp; done) | (congr 2; simp; omega)) ((Below.refl _ _).alloc (Nat.le_refl _) _)


set_option maxHeartbeats 1000000 in
set_option maxRecDepth 100000 in
theorem fm_z (kd : Int) (dy cs n tl : Int) (w : World) (h0 : 0 ≤ dy) (h1 : dy < 65536) (h2 : (tl != 0) = false) (h3 : (kd == 1) = false) (h4 : (kd == 2) = false) (h5 : (kd == 3) = false) (h6 : (kd == 4) = false) (h7 : (kd == 5) = false) (h8 : (kd == 6) = false) (h9 : (kd == 7) = false) : Calls Tryz.prog 49 #[.agg #[.int .u8 kd, .int .i64 dy, .int .i64 cs, .int .i64 n, .int .i64 tl, .bool false]] w (FmPost ⟨kd, dy, cs, n, tl, false⟩ w) := by
  have HF := Lib.hid (show wf ⟨kd, dy, cs, n, tl, false⟩ = false from (wf_no fun W => by have d := W.day; have k := W.kind; dsimp only at d k; simp at *; omega))
  go_enter Tryz.func49, Tryz.ntmps49
  go_wp2
  go_ret
  exact FmPost.mk' HF.out (by first | rfl | (congr 2; simp; done) | (congr 2; simp; omega)) ((Below.refl _ _).alloc (Nat.le_refl _) _)


theorem formedR_any (f : Fl) (w : World) : Calls Tryz.prog 49 #[flAgg f] w (FmPost f w) := by
  obtain ⟨kd, dy, cs, n, tl, ho⟩ := f
  unfold flAgg
  dsimp only
  have bb : ∀ x y : Int, (x == y) = true ∨ (x == y) = false := fun x y => by cases x == y <;> simp
  by_cases a0 : dy < 0
  · exact fm_a kd dy cs n tl ho w a0
  have a0 : 0 ≤ dy := by omega
  by_cases a1 : 65536 ≤ dy
  · exact fm_b kd dy cs n tl ho w a0 a1
  have a1 : dy < 65536 := by omega
  by_cases k5 : kd = 5
  · subst k5
    by_cases t : tl = 0
    · have t : (tl != 0) = false := by simp [t]
      cases ho with
      | true =>
        by_cases x : cs < 1
        · exact fm_5t_0 dy cs n tl w a0 a1 t x
        · rcases bb n 0 with y | y
          · exact fm_5t_y dy cs n tl w a0 a1 t (by omega) y
          · exact fm_5t_1 dy cs n tl w a0 a1 t (by omega) y
      | false =>
        by_cases x : cs < 1
        · exact fm_5f_0 dy cs n tl w a0 a1 t x
        · rcases bb n 0 with y | y
          · exact fm_5f_y dy cs n tl w a0 a1 t (by omega) y
          · exact fm_5f_1 dy cs n tl w a0 a1 t (by omega) y
    · cases ho with
      | true => exact fm_d5t dy cs n tl w a0 a1 (by simp [t])
      | false => exact fm_d5f dy cs n tl w a0 a1 (by simp [t])
  cases ho with
  | true => exact fm_c kd dy cs n tl w a0 a1 (by simp [k5])
  | false =>
    by_cases k1 : kd = 1
    · subst k1
      by_cases t : tl = 0
      · have t : (tl != 0) = false := by simp [t]
        rcases bb cs 0 with x | x
        · by_cases y : n < 2
          · exact fm_1f_1 dy cs n tl w a0 a1 t x y
          · by_cases z : 9 < n
            · exact fm_1f_2 dy cs n tl w a0 a1 t x (by omega) z
            · by_cases p : tl < dy
              · exact fm_1f_3 dy cs n tl w a0 a1 t x (by omega) (by omega) p
              · by_cases q : 65536 ≤ tl
                · exact fm_1f_4 dy cs n tl w a0 a1 t x (by omega) (by omega) (by omega) q
                · exact fm_1f_y dy cs n tl w a0 a1 t x (by omega) (by omega) (by omega) (by omega)
        · exact fm_1f_0 dy cs n tl w a0 a1 t x
      · have t : (tl != 0) = true := by simp [t]
        rcases bb cs 0 with x | x
        · by_cases y : n < 2
          · exact fm_1t_1 dy cs n tl w a0 a1 t x y
          · by_cases z : 9 < n
            · exact fm_1t_2 dy cs n tl w a0 a1 t x (by omega) z
            · by_cases p : tl < dy
              · exact fm_1t_3 dy cs n tl w a0 a1 t x (by omega) (by omega) p
              · by_cases q : 65536 ≤ tl
                · exact fm_1t_4 dy cs n tl w a0 a1 t x (by omega) (by omega) (by omega) q
                · exact fm_1t_y dy cs n tl w a0 a1 t x (by omega) (by omega) (by omega) (by omega)
        · exact fm_1t_0 dy cs n tl w a0 a1 t x
    · by_cases t : tl = 0
      · have t : (tl != 0) = false := by simp [t]
        by_cases k4 : kd = 4
        · subst k4
          rcases bb cs 0 with x | x
          · by_cases y : n < 1
            · exact fm_4_1 dy cs n tl w a0 a1 t x y
            · by_cases z : 400 < n
              · exact fm_4_2 dy cs n tl w a0 a1 t x (by omega) z
              · exact fm_4_y dy cs n tl w a0 a1 t x (by omega) (by omega)
          · exact fm_4_0 dy cs n tl w a0 a1 t x
        by_cases k2 : kd = 2
        · subst k2
          by_cases x : cs < 1
          · exact fm_2_0 dy cs n tl w a0 a1 t x
          · by_cases y : n < 1
            · exact fm_2_1 dy cs n tl w a0 a1 t (by omega) y
            · by_cases z : 9 < n
              · exact fm_2_2 dy cs n tl w a0 a1 t (by omega) (by omega) z
              · exact fm_2_y dy cs n tl w a0 a1 t (by omega) (by omega) (by omega)
        by_cases k3 : kd = 3
        · subst k3
          by_cases x : cs < 1
          · exact fm_3_0 dy cs n tl w a0 a1 t x
          · rcases bb n 0 with y | y
            · exact fm_3_y dy cs n tl w a0 a1 t (by omega) y
            · exact fm_3_1 dy cs n tl w a0 a1 t (by omega) y
        by_cases k7 : kd = 7
        · subst k7
          by_cases x : cs < 1
          · exact fm_7_0 dy cs n tl w a0 a1 t x
          · rcases bb n 0 with y | y
            · exact fm_7_y dy cs n tl w a0 a1 t (by omega) y
            · exact fm_7_1 dy cs n tl w a0 a1 t (by omega) y
        by_cases k6 : kd = 6
        · subst k6
          by_cases x : cs < 1
          · exact fm_6_0 dy cs n tl w a0 a1 t x
          · rcases bb n 1 with y | y
            · exact fm_6_1 dy cs n tl w a0 a1 t (by omega) y
            · rcases bb n 2 with z | z
              · exact fm_6_2 dy cs n tl w a0 a1 t (by omega) y z
              · exact fm_6_3 dy cs n tl w a0 a1 t (by omega) y z
        exact fm_z kd dy cs n tl w a0 a1 t (by simp [k1]) (by simp [k2]) (by simp [k3]) (by simp [k4]) (by simp [k5]) (by simp [k6]) (by simp [k7])
      · exact fm_d kd dy cs n tl w a0 a1 (by simp [t]) (by simp [k1])

end Go.Proofs.YtbpoedopdnjffaaGreat

namespace Go.Proofs.YtbpoedopdnjffaaGreat
open Go.RowKit Go.Shelf Sp

theorem results_cell_row_tmp {P : Program} {fn : Func} {p u : Tmp} {ty : TypeId} (h : fn.results = #[.cell p ty, .tmp u]) (tmps : Array Value) (w : World) (g : Nat) (t : TypeId) (cs : Array Value) (fr : Nat × Nat) (d : TypeDesc)
    (hp : tmps.getD p undef = .pointer (some ⟨g, 0, none⟩)) (x : Value) (hx : tmps.getD u undef = x) (hg : w.heap[g]? = some (.cells cs t fr))
    (hu : P.underlying ty = some d) (hd : (match d with | .struct _ | .array _ _ => true | _ => false) = true) (hi : (P.info? ty).map (·.size) = some cs.size) :
    (results fn tmps).run P w = .ok (.tuple #[.agg cs, x]) w := by
  rw [results_cell_tmp h, hp, hx]
  simp [asAddr, Result.andThen, run_loadVar_row w g t ty cs fr d hg hu hd hi]

/-- What File hands back. -/
def FilePost (D : Dk) (f : Fl) (w : World) (e : Ending) (w' : World) : Prop :=
  ∃ v ps, e = .returned (.tuple #[.agg #[v, .int .i64 (max 0 (stepD D f).last), .int .i64 (max 0 (stepD D f).last)], .int .i64 (errD D f)]) ∧ ps.map Prod.fst = bkCs (stepD D f) ∧ CRow w' 0 v ps ∧ Below w.heap.size w w'

structure FW (w : World) (B F R : Nat) (v : Value) (m : Int) (f : Fl) (L : List Cs) (X : World) : Prop where
  box : BkAt X B v m m
  fl : FlBox X F f
  res : BkAt X R (.slice none 0 0) 0 0
  row : ∃ ps, ps.map Prod.fst = L ∧ CRow X 0 v ps
  bel : Below w.heap.size w X
  lo : w.heap.size ≤ R
theorem FlBox.later {X X' : World} {F : Nat} {f : Fl} (h : FlBox X F f) (hb : Below X.heap.size X X') : FlBox X' F f := h.of_block (hb.block F h.lt)
theorem FW.later {w X X' : World} {B F R : Nat} {v : Value} {m : Int} {f : Fl} {L : List Cs} (h : FW w B F R v m f L X) (hb : Below X.heap.size X X') : FW w B F R v m f L X' := by
  obtain ⟨ps, h1, h2⟩ := h.row
  exact ⟨h.box.later hb, h.fl.later hb, h.res.later hb, ⟨ps, h1, h2.later hb⟩, h.bel.trans (hb.mono h.bel.size), h.lo⟩
theorem CRow.low0 {X : World} {base : Nat} {v : Value} {ps : List (Cs × Value)} (h : CRow X base v ps) : CRow X 0 v ps := ⟨ownsRow_low h.1 (Nat.zero_le _), h.2⟩
theorem FW.bad {w X : World} {B F R : Nat} {v : Value} {m : Int} {f : Fl} {D : Dk} (h : FW w B F R v m f (bkCs D) X) (hm : m = max 0 D.last) {er : Int} (he : errD D f = er) (h0 : er ≠ 0) :
    BkAt (setBk X R v m m) R v m m ∧ FilePost D f w (.returned (.tuple #[.agg #[v, .int .i64 m, .int .i64 m], .int .i64 er])) (setBk X R v m m) := by
  obtain ⟨ps, h1, h2⟩ := h.row
  have b := setBk_but X R v m m
  have hn := bk_none (D := D) f (by rw [he]; exact h0)
  refine ⟨setBk_at h.res, v, ps, ?_, by rw [hn.1]; exact h1, h2.butBk h.res b, b.belowOf h.bel h.bel.size h.lo⟩
  rw [hn.2, he, ← hm]
theorem FW.res_cell {w X : World} {B F R : Nat} {v : Value} {m : Int} {f : Fl} {L : List Cs} (h : FW w B F R v m f L X) : X.cell? ⟨R, 0, none⟩ = some (.slice none 0 0) ∧ X.cell? ⟨R, 1, none⟩ = some (.int .i64 0) ∧ X.cell? ⟨R, 2, none⟩ = some (.int .i64 0) ∧ X.frozen? ⟨R, 0, none⟩ = false ∧ X.frozen? ⟨R, 1, none⟩ = false ∧ X.frozen? ⟨R, 2, none⟩ = false :=
  ⟨h.res.cell.1, h.res.cell.2.1, h.res.cell.2.2.1, h.res.cell.2.2.2 0, h.res.cell.2.2.2 1, h.res.cell.2.2.2 2⟩
theorem three_alloc (w : World) (o1 o2 o3 : Obj) : (((w.alloc o1).alloc o2).alloc o3).heap[w.heap.size]? = some o1 ∧ (((w.alloc o1).alloc o2).alloc o3).heap[w.heap.size + 1]? = some o2 ∧ (((w.alloc o1).alloc o2).alloc o3).heap[w.heap.size + 1 + 1]? = some o3 ∧ Below w.heap.size w (((w.alloc o1).alloc o2).alloc o3) := by
  obtain ⟨a1, a2, a3⟩ := two_alloc w o1 o2
  have hb : Below ((w.alloc o1).alloc o2).heap.size ((w.alloc o1).alloc o2) (((w.alloc o1).alloc o2).alloc o3) := (Below.refl _ _).alloc (Nat.le_refl _) _
  refine ⟨(hb.block _ (by simp; omega)).trans a1, (hb.block _ (by simp)).trans a2, ?_, a3.trans (hb.mono (by simp; omega))⟩
  have h1 := World.alloc_heap_new ((w.alloc o1).alloc o2) o3
  simp only [World.size_alloc] at h1
  exact h1
theorem FW.start {w : World} {v : Value} {ps : List (Cs × Value)} {L : List Cs} (m : Int) (f : Fl) (hrow : CRow w 0 v ps) (hps : ps.map Prod.fst = L) {B F R : Nat} (hB : w.heap.size = B) (hF : B + 1 = F) (hR : F + 1 = R) :
    FW w B F R v m f L (((w.alloc (.cells #[v, .int .i64 m, .int .i64 m] 37)).alloc (.cells #[.int .u8 f.kind, .int .i64 f.day, .int .i64 f.case, .int .i64 f.n, .int .i64 f.til, .bool f.hold] 26)).alloc (.cells #[.slice none 0 0, .int .i64 0, .int .i64 0] 37)) := by
  subst hR hF hB
  obtain ⟨a1, a2, a3, a4⟩ := three_alloc w (.cells #[v, .int .i64 m, .int .i64 m] 37) (.cells #[.int .u8 f.kind, .int .i64 f.day, .int .i64 f.case, .int .i64 f.n, .int .i64 f.til, .bool f.hold] 26) (.cells #[.slice none 0 0, .int .i64 0, .int .i64 0] 37)
  exact ⟨a1, a2, a3, ⟨ps, hps, hrow.later a4⟩, a4, by omega⟩

set_option maxHeartbeats 2000000 in
set_option maxRecDepth 100000 in
theorem file_wf (D : Dk) (f : Fl) (m : Int) (hm : m = max 0 D.last) (hnum : D.num < 1000) (v : Value) (ps : List (Cs × Value)) (w : World) (hrow : CRow w 0 v ps) (hps : ps.map Prod.fst = bkCs D) (hw : wf f = false) :
    Calls Tryz.prog 28 #[.agg #[v, .int .i64 m, .int .i64 m], flAgg f] w (FilePost D f w) := by
  obtain ⟨q0, cap0, rfl, _⟩ := hrow.src
  obtain ⟨n, hn⟩ : ∃ n, n = ps.length := ⟨_, rfl⟩
  rw [← hn] at hrow ⊢
  obtain ⟨B, hB⟩ : ∃ B, w.heap.size = B := ⟨_, rfl⟩
  obtain ⟨F, hF⟩ : ∃ F, B + 1 = F := ⟨_, rfl⟩
  obtain ⟨R, hR⟩ : ∃ R, F + 1 = R := ⟨_, rfl⟩
  have W0 := Lib.hid (FW.start m f hrow hps hB hF hR)
  have hBF : B ≠ F := by omega
  have hBR : B ≠ R := by omega
  have hFR : F ≠ R := by omega
  have HE := Lib.hid (show errD D f = 2 by unfold errD; rw [if_neg (by omega), hw, if_neg (by decide)])
  have HM := Lib.hid hm
  have CF := Lib.hid (fun X => (formedR_any f X).mono fun e w' h => show e = .returned (.bool false) ∧ Below X.heap.size X w' from ⟨by rw [h.1, hw], h.2⟩)
  unfold flAgg at CF ⊢
  obtain ⟨kd, dy, cs, nn, tl, ho⟩ := f
  dsimp only at CF W0 ⊢
  clear hrow hps hn hw hm hnum
  go_enter Tryz.func28, Tryz.ntmps28
  go_upto_region 1 with (fail)
  generalize hX : (World.alloc (World.alloc (World.alloc w _) _) _) = X
  have FX : FW w B F R (.slice q0 n cap0) m ⟨kd, dy, cs, nn, tl, ho⟩ (bkCs D) X := by rw [← hX]; exact W0.out
  have HX := Lib.hid FX
  obtain ⟨f0, f1, f2, f3, f4, f5⟩ := FX.fl.cell
  clear hX W0 FX hB hF hR
  go_wp2_with fail
  refine (CF.out X).mono ?_
  rintro e W1 ⟨rfl, hb1⟩
  have FX := HX.out.later hb1
  have E := Lib.hid (FX.bad HM.out HE.out (by decide))
  obtain ⟨b0, b1, b2, _⟩ := FX.box.cell
  obtain ⟨y0, y1, y2, z0, z1, z2⟩ := FX.res_cell
  clear FX hb1 HX
  go_wp2
  refine bodyPost_ret (results_cell_row_tmp rfl _ _ R 37 _ (0, 0) _ rfl _ rfl E.out.1 Tryz.underlying37 rfl (by kernel_rfl)) rfl ?_
  exact E.out.2

end Go.Proofs.YtbpoedopdnjffaaGreat

namespace Go.Proofs.YtbpoedopdnjffaaGreat
open Go.RowKit Go.Shelf Sp

structure GW (w : World) (B F R N base : Nat) (v v2 : Value) (m last2 : Int) (f : Fl) (L0 L1 : List Cs) (X : World) : Prop where
  fw : FW w B F R v m f L0 X
  nxt : BkAt X N v2 f.day last2
  row2 : ∃ ps, ps.map Prod.fst = L1 ∧ CRow X base v2 ps
  lo2 : w.heap.size ≤ base ∧ w.heap.size ≤ N ∧ N ≠ B ∧ N ≠ F ∧ N ≠ R
  ap : ∀ g, v.ownBlock = some g → g < base
theorem FlBox.not_bk {X : World} {F N : Nat} {f : Fl} {v : Value} {e l : Int} (h : FlBox X F f) (hN : BkAt X N v e l) : F ≠ N := by
  rintro rfl
  unfold FlBox at h
  unfold BkAt at hN
  rw [h] at hN
  injection hN with hN
  injection hN with _ e _
  exact absurd e (by decide)
theorem GW.new {w W2 : World} {B F R base : Nat} {v v2 : Value} {m last2 : Int} {f : Fl} {L0 L1 : List Cs} {ps2 : List (Cs × Value)} (h : FW w B F R v m f L0 W2) (hp : ps2.map Prod.fst = L1) (hr : CRow W2 base v2 ps2) (hb : w.heap.size ≤ base) (ap : ∀ g, v.ownBlock = some g → g < base) {N : Nat} (hN : W2.heap.size = N) :
    GW w B F R N base v v2 m last2 f L0 L1 (W2.alloc (.cells #[v2, .int .i64 f.day, .int .i64 last2] 37)) := by
  subst hN
  have b : Below W2.heap.size W2 (W2.alloc (.cells #[v2, .int .i64 f.day, .int .i64 last2] 37)) := (Below.refl _ _).alloc (Nat.le_refl _) _
  exact ⟨h.later b, World.alloc_heap_new W2 _, ⟨ps2, hp, hr.later b⟩, ⟨hb, h.bel.size, Ne.symm (Nat.ne_of_lt h.box.lt), Ne.symm (Nat.ne_of_lt h.fl.lt), Ne.symm (Nat.ne_of_lt h.res.lt)⟩, ap⟩
theorem GW.later {w X X' : World} {B F R N base : Nat} {v v2 : Value} {m last2 : Int} {f : Fl} {L0 L1 : List Cs} (h : GW w B F R N base v v2 m last2 f L0 L1 X) (hb : Below X.heap.size X X') : GW w B F R N base v v2 m last2 f L0 L1 X' := by
  obtain ⟨ps, h1, h2⟩ := h.row2
  exact ⟨h.fw.later hb, h.nxt.later hb, ⟨ps, h1, h2.later hb⟩, h.lo2, h.ap⟩
/-- The box N alone is written. -/
theorem GW.butN {w X X' : World} {B F R N base : Nat} {v v2 v3 : Value} {m last2 last3 : Int} {f : Fl} {L0 L1 : List Cs} (h : GW w B F R N base v v2 m last2 f L0 L1 X) (hb : But N X X') (hN : BkAt X' N v3 f.day last3) (hr : ∃ ps, ps.map Prod.fst = L1 ∧ CRow X base v3 ps) : GW w B F R N base v v3 m last3 f L0 L1 X' := by
  obtain ⟨ps, h1, h2⟩ := hr
  obtain ⟨p0, h3, h4⟩ := h.fw.row
  exact ⟨⟨h.fw.box.but hb h.lo2.2.2.1.symm, h.fw.fl.of_block (hb.block F h.fw.fl.lt h.lo2.2.2.2.1.symm), h.fw.res.but hb h.lo2.2.2.2.2.symm, ⟨p0, h3, h4.butBk h.nxt hb⟩, hb.belowOf h.fw.bel h.fw.bel.size h.lo2.2.1, h.fw.lo⟩, hN, ⟨ps, h1, h2.butBk h.nxt hb⟩, h.lo2, h.ap⟩
theorem GW.last {w X : World} {B F R N base : Nat} {v v2 : Value} {m last2 : Int} {f : Fl} {L0 L1 : List Cs} (h : GW w B F R N base v v2 m last2 f L0 L1 X) (x : Int) : GW w B F R N base v v2 m x f L0 L1 (X.setCell ⟨N, 2, none⟩ (.int .i64 x)) :=
  h.butN ((But.refl N X).set_ 2 _) (h.nxt.set_.2.2 x) h.row2
theorem GW.done {w X : World} {B F R N base : Nat} {v v2 : Value} {m : Int} {f : Fl} {L0 L1 : List Cs} (h : GW w B F R N base v v2 m f.day f L0 L1 X) {D : Dk} (he : errD D f = 0) (hd : 0 ≤ f.day) (hL : L1 = bkCs (stepD D f)) :
    BkAt (setBk X R v2 f.day f.day) R v2 f.day f.day ∧ FilePost D f w (.returned (.tuple #[.agg #[v2, .int .i64 f.day, .int .i64 f.day], .int .i64 0])) (setBk X R v2 f.day f.day) := by
  obtain ⟨ps, h1, h2⟩ := h.row2
  have b := setBk_but X R v2 f.day f.day
  refine ⟨setBk_at h.fw.res, v2, ps, ?_, by rw [h1, hL], (h2.butBk h.fw.res b).low0, b.belowOf h.fw.bel h.fw.bel.size h.fw.lo⟩
  rw [stepD_yes he, he, show max 0 f.day = f.day by omega]
theorem GW.read {w X : World} {B F R N base : Nat} {v v2 : Value} {m last2 : Int} {f : Fl} {L0 L1 : List Cs} (h : GW w B F R N base v v2 m last2 f L0 L1 X) (k : Nat) (hk : k < L1.length) :
    ∃ g cap u, v2 = .slice (some ⟨g, 0, none⟩) L1.length cap ∧ base ≤ g ∧ g < X.heap.size ∧ g ≠ N ∧ g ≠ B ∧ g ≠ R ∧ CaseCells X g (k * 10) L1[k] u ∧ Owns X 0 u L1[k].held ∧ ∀ j, X.frozen? ⟨g, j, none⟩ = false := by
  obtain ⟨ps, rfl, h2⟩ := h.row2
  obtain ⟨g, cap, e1, hb, hlt, ⟨cur, hg⟩, hcc, ho, hz⟩ := h2.read k (by simpa using hk)
  exact ⟨g, cap, ps[k]'(by simpa using hk) |>.2, by rw [List.length_map]; exact e1, hb, hlt, (h.nxt.not_case hg).symm, (h.fw.box.not_case hg).symm, (h.fw.res.not_case hg).symm, by simpa using hcc, by simpa using ho, hz⟩
theorem GW.cells {w X : World} {B F R N base : Nat} {v v2 : Value} {m last2 : Int} {f : Fl} {L0 L1 : List Cs} (h : GW w B F R N base v v2 m last2 f L0 L1 X) :
    X.cell? ⟨N, 0, none⟩ = some v2 ∧ X.cell? ⟨N, 1, none⟩ = some (.int .i64 f.day) ∧ X.cell? ⟨N, 2, none⟩ = some (.int .i64 last2) ∧ X.frozen? ⟨N, 0, none⟩ = false ∧ X.frozen? ⟨N, 2, none⟩ = false :=
  ⟨h.nxt.cell.1, h.nxt.cell.2.1, h.nxt.cell.2.2.1, h.nxt.cell.2.2.2 0, h.nxt.cell.2.2.2 2⟩

/-- Beside the case's box. -/
structure HW (w : World) (B F R N C base : Nat) (v v2 : Value) (m last2 : Int) (f : Fl) (L0 L1 : List Cs) (c : Cs) (u : Value) (X : World) : Prop where
  gw : GW w B F R N base v v2 m last2 f L0 L1 X
  at_ : CsAt X C c u
  own : Owns X 0 u c.held
  ne : v.ownBlock ≠ some C ∧ v2.ownBlock ≠ some C
  lo3 : w.heap.size ≤ C ∧ C ≠ B ∧ C ≠ F ∧ C ≠ R ∧ C ≠ N
theorem CRow.butBox {X X' : World} {C base : Nat} {c : Cs} {u v : Value} {ps : List (Cs × Value)} (h : CRow X base v ps) (hC : CsAt X C c u) (hb : But C X X') (hne : v.ownBlock ≠ some C) : CRow X' base v ps :=
  ⟨World.ownsRow.kept h.1 hb.grown (.inr hne), fun p hp => Owns.butCase hC hb (h.2 p hp)⟩
theorem HW.but {w X X' : World} {B F R N C base : Nat} {v v2 : Value} {m last2 : Int} {f : Fl} {L0 L1 : List Cs} {c c' : Cs} {u u' : Value} (h : HW w B F R N C base v v2 m last2 f L0 L1 c u X) (hb : But C X X') (ha : CsAt X' C c' u') (ho : Owns X' 0 u' c'.held) : HW w B F R N C base v v2 m last2 f L0 L1 c' u' X' := by
  obtain ⟨ps, h1, h2⟩ := h.gw.row2
  obtain ⟨p0, h3, h4⟩ := h.gw.fw.row
  obtain ⟨l1, l2, l3, l4, l5⟩ := h.lo3
  exact ⟨⟨⟨h.gw.fw.box.but hb l2.symm, h.gw.fw.fl.of_block (hb.block F h.gw.fw.fl.lt l3.symm), h.gw.fw.res.but hb l4.symm, ⟨p0, h3, h4.butBox h.at_ hb h.ne.1⟩, hb.belowOf h.gw.fw.bel h.gw.fw.bel.size l1, h.gw.fw.lo⟩, h.gw.nxt.but hb l5.symm, ⟨ps, h1, h2.butBox h.at_ hb h.ne.2⟩, h.gw.lo2, h.gw.ap⟩, ha, ho, h.ne, h.lo3⟩
theorem HW.later {w X X' : World} {B F R N C base : Nat} {v v2 : Value} {m last2 : Int} {f : Fl} {L0 L1 : List Cs} {c : Cs} {u : Value} (h : HW w B F R N C base v v2 m last2 f L0 L1 c u X) (hb : Below X.heap.size X X') : HW w B F R N C base v v2 m last2 f L0 L1 c u X' :=
  ⟨h.gw.later hb, h.at_.later hb, h.own.later hb, h.ne, h.lo3⟩
theorem ownBlock_lt {X : World} {base : Nat} {v : Value} {ps : List (Cs × Value)} (h : CRow X base v ps) : v.ownBlock ≠ some X.heap.size := fun e => by
  have := (World.ownsRow.lt h.1 _ e).2
  omega
theorem HW.new {w X : World} {B F R N base C : Nat} {v v2 : Value} {m last2 : Int} {f : Fl} {L0 L1 : List Cs} (h : GW w B F R N base v v2 m last2 f L0 L1 X) {c : Cs} {u : Value} (ho : Owns X 0 u c.held) (hC : X.heap.size = C) :
    HW w B F R N C base v v2 m last2 f L0 L1 c u (X.alloc (.cells #[.bool c.el, .int .u8 c.st, .int .i64 c.opened, .int .i64 c.days, .int .i64 c.choice, .int .i64 c.level, .int .i64 c.due, .bool c.hold, .int .i64 c.since, u] 52)) := by
  subst hC
  obtain ⟨ps, h1, h2⟩ := h.row2
  obtain ⟨p0, h3, h4⟩ := h.fw.row
  exact ⟨h.later ((Below.refl _ _).alloc (Nat.le_refl _) _), World.alloc_heap_new X _, World.ownsRow.alloc ho _, ⟨ownBlock_lt h4, ownBlock_lt h2⟩, h.fw.bel.size, Ne.symm (Nat.ne_of_lt h.fw.box.lt), Ne.symm (Nat.ne_of_lt h.fw.fl.lt), Ne.symm (Nat.ne_of_lt h.fw.res.lt), Ne.symm (Nat.ne_of_lt h.nxt.lt)⟩
/-- The case's box is written whole. -/
theorem HW.store {w X : World} {B F R N C base : Nat} {v v2 : Value} {m last2 : Int} {f : Fl} {L0 L1 : List Cs} {c c2 : Cs} {u u2 : Value} (h : HW w B F R N C base v v2 m last2 f L0 L1 c u X) (ho : Owns X 0 u2 c2.held) : HW w B F R N C base v v2 m last2 f L0 L1 c2 u2 (setCase X C 0 c2 u2) := by
  obtain ⟨cur, hc1, hc2⟩ := setCase_row (i := 0) c2 u2 h.at_
  have b2 := setCase_but X C 0 c2 u2
  have hcur : cur = #[.bool c2.el, .int .u8 c2.st, .int .i64 c2.opened, .int .i64 c2.days, .int .i64 c2.choice, .int .i64 c2.level, .int .i64 c2.due, .bool c2.hold, .int .i64 c2.since, u2] := by
    apply Array.toList_inj.1
    rw [hc2]; rfl
  rw [hcur] at hc1
  exact h.but b2 hc1 (Owns.butCase h.at_ b2 ho)
/-- The case is written back into the new book's row. -/
theorem HW.fin {w X : World} {B F R N C base g n cap : Nat} {v : Value} {m last2 : Int} {f : Fl} {L0 L1 : List Cs} {c : Cs} {u : Value} (h : HW w B F R N C base v (.slice (some ⟨g, 0, none⟩) n cap) m last2 f L0 L1 c u X) {k : Nat} (hk : k < L1.length) :
    GW w B F R N base v (.slice (some ⟨g, 0, none⟩) n cap) m last2 f L0 (L1.set k c) (setCase X g (k * 10) c u) := by
  obtain ⟨ps, rfl, h2⟩ := h.gw.row2
  obtain ⟨p0, h3, h4⟩ := h.gw.fw.row
  have hk' : k < ps.length := by simpa using hk
  obtain ⟨g', cap', e1, hb, hlt, ⟨cur, hg⟩, _⟩ := h2.read k hk'
  injection e1 with e1
  injection e1 with e1
  injection e1 with e1
  subst e1
  have b := setCase_but X g (k * 10) c u
  have hg0 : v.ownBlock ≠ some g := fun e => by have := h.gw.ap g e; omega
  refine ⟨⟨h.gw.fw.box.but b (h.gw.fw.box.not_case hg), h.gw.fw.fl.of_block (b.block F h.gw.fw.fl.lt ?_), h.gw.fw.res.but b (h.gw.fw.res.not_case hg), ⟨p0, h3, ⟨World.ownsRow.kept h4.1 b.grown (.inr hg0), fun p hp => Owns.butCase hg b (h4.2 p hp)⟩⟩, b.belowOf h.gw.fw.bel h.gw.fw.bel.size (Nat.le_trans h.gw.lo2.1 hb), h.gw.fw.lo⟩, h.gw.nxt.but b (h.gw.nxt.not_case hg), ⟨ps.set k (c, u), by rw [List.map_set], h2.store rfl hk' c u h.own⟩, h.gw.lo2, h.gw.ap⟩
  rintro rfl
  have := h.gw.fw.fl
  unfold FlBox at this
  rw [hg] at this
  injection this with this
  injection this with _ e _
  exact absurd e (by decide)

theorem HW.set2 {w X : World} {B F R N C base : Nat} {v v2 : Value} {m last2 : Int} {f : Fl} {L0 L1 : List Cs} {c : Cs} {u : Value} (h : HW w B F R N C base v v2 m last2 f L0 L1 c u X) (st due : Int) : HW w B F R N C base v v2 m last2 f L0 L1 { c with st := st, due := due } u ((X.setCell ⟨C, 1, none⟩ (.int .u8 st)).setCell ⟨C, 6, none⟩ (.int .i64 due)) := by
  have A2 := h.at_.set_.1 st
  have O2 := h.own.setBox h.at_ 1 (.int .u8 st)
  exact h.but (((But.refl C X).set_ 1 _).set_ 6 _) (A2.set_.2.2.2.1 due) (O2.setBox A2 6 (.int .i64 due))
theorem HW.set4 {w X : World} {B F R N C base : Nat} {v v2 : Value} {m last2 : Int} {f : Fl} {L0 L1 : List Cs} {c : Cs} {u : Value} (h : HW w B F R N C base v v2 m last2 f L0 L1 c u X) (x : Int) : HW w B F R N C base v v2 m last2 f L0 L1 { c with choice := x } u (X.setCell ⟨C, 4, none⟩ (.int .i64 x)) :=
  h.but ((But.refl C X).set_ 4 _) (h.at_.set_.2.1 x) (h.own.setBox h.at_ 4 (.int .i64 x))
theorem HW.set3 {w X : World} {B F R N C base : Nat} {v v2 : Value} {m last2 : Int} {f : Fl} {L0 L1 : List Cs} {c : Cs} {u : Value} (h : HW w B F R N C base v v2 m last2 f L0 L1 c u X) (st lv due : Int) : HW w B F R N C base v v2 m last2 f L0 L1 { c with st := st, level := lv, due := due } u (((X.setCell ⟨C, 1, none⟩ (.int .u8 st)).setCell ⟨C, 5, none⟩ (.int .i64 lv)).setCell ⟨C, 6, none⟩ (.int .i64 due)) := by
  have A2 := h.at_.set_.1 st
  have O2 := h.own.setBox h.at_ 1 (.int .u8 st)
  have A3 := A2.set_.2.2.1 lv
  have O3 := O2.setBox A2 5 (.int .i64 lv)
  exact h.but ((((But.refl C X).set_ 1 _).set_ 5 _).set_ 6 _) (A3.set_.2.2.2.1 due) (O3.setBox A3 6 (.int .i64 due))
theorem HW.set7 {w X : World} {B F R N C base : Nat} {v v2 : Value} {m last2 : Int} {f : Fl} {L0 L1 : List Cs} {c : Cs} {u : Value} (h : HW w B F R N C base v v2 m last2 f L0 L1 c u X) (ho : Bool) (si : Int) : HW w B F R N C base v v2 m last2 f L0 L1 { c with hold := ho, since := si } u ((X.setCell ⟨C, 7, none⟩ (.bool ho)).setCell ⟨C, 8, none⟩ (.int .i64 si)) := by
  have A2 := h.at_.set_.2.2.2.2.1 ho
  have O2 := h.own.setBox h.at_ 7 (.bool ho)
  exact h.but (((But.refl C X).set_ 7 _).set_ 8 _) (A2.set_.2.2.2.2.2.1 si) (O2.setBox A2 8 (.int .i64 si))
/-- A case is appended to the new book's row. -/
theorem GW.app {w X w1 : World} {B F R N base : Nat} {v v2 v3 : Value} {m last2 : Int} {f : Fl} {L0 L1 : List Cs} (h : GW w B F R N base v v2 m last2 f L0 L1 X) {ps : List (Cs × Value)} (hp : ps.map Prod.fst = L1) (hr : CRow X base v2 ps) (o : Obj) {c : Cs} {u : Value} (hown : CRow w1 base v3 (ps ++ [(c, u)])) (hg : (X.alloc o).grownBy w1 v2.ownBlock) {n : Nat} (hn : L1.length = n) :
    ∃ p3 c3, v3 = .slice p3 (n + 1) c3 ∧ w1.frozen? ⟨N, 0, none⟩ = false ∧ w1.cell? ⟨N, 0, none⟩ = some v2 ∧ Hid (GW w B F R N base v (.slice p3 (n + 1) c3) m last2 f L0 (L1 ++ [c]) (w1.setCell ⟨N, 0, none⟩ (.slice p3 (n + 1) c3))) := by
  subst hn hp
  obtain ⟨p3, c3, rfl, _⟩ := hown.form
  obtain ⟨p0, h3, h4⟩ := h.fw.row
  have b0 : Below X.heap.size X (X.alloc o) := (Below.refl _ _).alloc (Nat.le_refl _) _
  have keep : ∀ k, k < X.heap.size → v2.ownBlock ≠ some k → w1.heap[k]? = X.heap[k]? := fun k hk hne => (hg.block k (by simp; omega) hne.symm).trans (b0.block k hk)
  have ne_bk : ∀ {j : Nat} {x : Value} {e l : Int}, BkAt X j x e l → v2.ownBlock ≠ some j := fun {j x e l} hj ej => by
    rcases hr.1.2 with ⟨rfl, _⟩ | ⟨g, cap, cur, rfl, _, hgb, _⟩
    · simp [Value.ownBlock] at ej
    · obtain rfl : g = j := by simpa [Value.ownBlock] using ej
      exact hj.not_case hgb rfl
  have ne_fl : v2.ownBlock ≠ some F := fun ej => by
    rcases hr.1.2 with ⟨rfl, _⟩ | ⟨g, cap, cur, rfl, _, hgb, _⟩
    · simp [Value.ownBlock] at ej
    · obtain rfl : g = F := by simpa [Value.ownBlock] using ej
      have := h.fw.fl
      unfold FlBox at this
      rw [hgb] at this
      injection this with this
      injection this with _ e _
      exact absurd e (by decide)
  have bB : BkAt w1 B v m m := (keep B h.fw.box.lt (ne_bk h.fw.box)).trans h.fw.box
  have bR : BkAt w1 R (.slice none 0 0) 0 0 := (keep R h.fw.res.lt (ne_bk h.fw.res)).trans h.fw.res
  have bN : BkAt w1 N v2 f.day last2 := (keep N h.nxt.lt (ne_bk h.nxt)).trans h.nxt
  have bF : FlBox w1 F f := h.fw.fl.of_block (keep F h.fw.fl.lt ne_fl)
  have r0 : CRow w1 0 v p0 := by
    refine ⟨World.ownsRow.kept (h4.later b0).1 hg ?_, fun p hp => Owns.grownCase (hr.later b0).1 hg ((h4.later b0).2 p hp)⟩
    cases hv : v.ownBlock with
    | none => exact .inl rfl
    | some g =>
      right
      intro e
      have l1 := h.ap g hv
      have l2 := (World.ownsRow.lt hr.1 g e.symm).1
      omega
  have bl : Below w.heap.size w w1 := (h.fw.bel.alloc h.fw.bel.size o).grown hg (by have := h.fw.bel.size; simp; omega) fun g e => Nat.le_trans h.lo2.1 (World.ownsRow.lt hr.1 g e).1
  have G1 : GW w B F R N base v v2 m last2 f L0 (ps.map Prod.fst) X := h
  have b := (But.refl N w1).set_ 0 (.slice p3 (ps ++ [(c, u)]).length c3)
  have hl : (ps ++ [(c, u)]).length = (ps.map Prod.fst).length + 1 := by simp
  rw [hl] at hown b ⊢
  exact ⟨p3, c3, rfl, bN.cell.2.2.2 0, bN.cell.1, Lib.hid ⟨⟨bB.but b h.lo2.2.2.1.symm, bF.of_block (b.block F bF.lt h.lo2.2.2.2.1.symm), bR.but b h.lo2.2.2.2.2.symm, ⟨p0, h3, r0.butBk bN b⟩, b.belowOf bl bl.size h.lo2.2.1, h.fw.lo⟩, bN.set_.1 _, ⟨ps ++ [(c, u)], by rw [List.map_append]; rfl, hown.butBk bN b⟩, h.lo2, h.ap⟩⟩

theorem errD_of {D : Dk} {f : Fl} (hnum : D.num < 1000) (hw : wf f = true) (hd : D.last ≤ f.day) : errD D f = errL D.cs f := by
  unfold errD; rw [if_neg (by omega), hw, if_pos rfl, if_neg (by omega)]
theorem errL_opens {L : List Cs} {f : Fl} (ho : opensP f = true) : errL L f = if 100 ≤ L.length then 4 else 0 := by unfold errL; rw [if_pos ho]
theorem errL_own0 {L : List Cs} {f : Fl} (ho : opensP f = false) : errL L f = if (L.length : Int) < f.case then 6 else if (ownP L f).st ≠ needP f.kind then 401 else if f.kind = 2 ∧ (ownP L f).days < f.n then 402 else 0 := by
  unfold errL; rw [if_neg (by rw [ho]; decide)]
theorem endHold_set (c : Cs) (st due d : Int) : endHoldP { c with st := st, due := due } d = { endHoldP c d with st := st, due := due } := by
  unfold endHoldP heldP
  split <;> rfl

end Go.Proofs.YtbpoedopdnjffaaGreat

namespace Go.Proofs.YtbpoedopdnjffaaGreat
open Go.RowKit Go.Shelf Sp

set_option maxHeartbeats 4000000 in
set_option maxRecDepth 100000 in
theorem file_400 (D : Dk) (hD : D.Ok) (f : Fl) (m : Int) (hm : m = max 0 D.last) (hnum : D.num < 1000) (v : Value) (ps : List (Cs × Value)) (w : World) (hrow : CRow w 0 v ps) (hps : ps.map Prod.fst = bkCs D) (hw : wf f = true) (hd : f.day < m) :
    Calls Tryz.prog 28 #[.agg #[v, .int .i64 m, .int .i64 m], flAgg f] w (FilePost D f w) := by
  have hn : ps.length = D.cs.length := by have := congrArg List.length hps; simpa [bkCs] using this
  obtain ⟨q0, cap0, rfl, _⟩ := hrow.src
  obtain ⟨n, hnn⟩ : ∃ n, n = D.cs.length := ⟨_, rfl⟩
  rw [← hnn] at hn
  rw [hn] at hrow ⊢
  obtain ⟨B, hB⟩ : ∃ B, w.heap.size = B := ⟨_, rfl⟩
  obtain ⟨F, hF⟩ : ∃ F, B + 1 = F := ⟨_, rfl⟩
  obtain ⟨R, hR⟩ : ∃ R, F + 1 = R := ⟨_, rfl⟩
  have W0 := Lib.hid (FW.start m f hrow hps hB hF hR)
  have hBF : B ≠ F := by omega
  have hBR : B ≠ R := by omega
  have hFR : F ≠ R := by omega
  have WF := Lib.hid ((wf_iff f).1 hw)
  have hday := WF.out.day
  have hlen := hD.len
  rw [← hnn] at hlen
  have DOK := Lib.hid hD.cs
  have HE := Lib.hid (show errD D f = 400 by unfold errD; rw [if_neg (by omega), hw, if_pos rfl, if_pos (by omega)])
  have HM := Lib.hid hm
  have HN := Lib.hid hnn
  have CF := Lib.hid (fun X => (formedR_any f X).mono fun e w' h => show e = .returned (.bool true) ∧ Below X.heap.size X w' from ⟨by rw [h.1, hw], h.2⟩)

  unfold flAgg at CF ⊢
  obtain ⟨kd, dy, cs, nn, tl, ho⟩ := f
  dsimp only at *

  clear hrow hps hn hw hm hnum hnn hD
  go_enter Tryz.func28, Tryz.ntmps28
  go_upto_region 1 with (fail)
  generalize hX : (World.alloc (World.alloc (World.alloc w _) _) _) = X
  have FX : FW w B F R (.slice q0 n cap0) m ⟨kd, dy, cs, nn, tl, ho⟩ (bkCs D) X := by rw [← hX]; exact W0.out
  have HX := Lib.hid FX
  obtain ⟨f0, f1, f2, f3, f4, f5⟩ := FX.fl.cell
  clear hX W0 FX hB hF hR
  go_wp2_with fail
  refine (CF.out X).mono ?_
  rintro e W1 ⟨rfl, hb1⟩
  have FX := HX.out.later hb1
  have HX1 := Lib.hid FX
  obtain ⟨b0, b1, b2, _⟩ := FX.box.cell
  obtain ⟨f0, f1, f2, f3, f4, f5⟩ := FX.fl.cell
  obtain ⟨y0, y1, y2, z0, z1, z2⟩ := FX.res_cell
  have E := Lib.hid (FX.bad HM.out HE.out (by decide))
  clear FX hb1 HX HX1 CF
  go_wp2
  refine bodyPost_ret (results_cell_row_tmp rfl _ _ R 37 _ (0, 0) _ rfl _ rfl E.out.1 Tryz.underlying37 rfl (by kernel_rfl)) rfl ?_
  exact E.out.2

set_option maxHeartbeats 4000000 in
set_option maxRecDepth 100000 in
theorem file_4_1 (D : Dk) (hD : D.Ok) (f : Fl) (m : Int) (hm : m = max 0 D.last) (hnum : D.num < 1000) (v : Value) (ps : List (Cs × Value)) (w : World) (hrow : CRow w 0 v ps) (hps : ps.map Prod.fst = bkCs D) (hw : wf f = true) (hd : m ≤ f.day) (hk : f.kind = 1) (hfull : D.cs.length = 100) :
    Calls Tryz.prog 28 #[.agg #[v, .int .i64 m, .int .i64 m], flAgg f] w (FilePost D f w) := by
  have hn : ps.length = D.cs.length := by have := congrArg List.length hps; simpa [bkCs] using this
  obtain ⟨q0, cap0, rfl, _⟩ := hrow.src
  obtain ⟨n, hnn⟩ : ∃ n, n = D.cs.length := ⟨_, rfl⟩
  rw [← hnn] at hn
  rw [hn] at hrow ⊢
  obtain ⟨B, hB⟩ : ∃ B, w.heap.size = B := ⟨_, rfl⟩
  obtain ⟨F, hF⟩ : ∃ F, B + 1 = F := ⟨_, rfl⟩
  obtain ⟨R, hR⟩ : ∃ R, F + 1 = R := ⟨_, rfl⟩
  have W0 := Lib.hid (FW.start m f hrow hps hB hF hR)
  have hBF : B ≠ F := by omega
  have hBR : B ≠ R := by omega
  have hFR : F ≠ R := by omega
  have WF := Lib.hid ((wf_iff f).1 hw)
  have hday := WF.out.day
  have hlen := hD.len
  rw [← hnn] at hlen
  have DOK := Lib.hid hD.cs
  have hlast : D.last ≤ f.day := by omega
  have HE := Lib.hid (show errD D f = 4 by rw [errD_of hnum hw hlast, errL_opens (by unfold opensP; rw [hk]; rfl), if_pos (by omega)])
  have hq : ((n : Int) == 100) = true := by simp; omega
  have HM := Lib.hid hm
  have HN := Lib.hid hnn
  have CF := Lib.hid (fun X => (formedR_any f X).mono fun e w' h => show e = .returned (.bool true) ∧ Below X.heap.size X w' from ⟨by rw [h.1, hw], h.2⟩)

  unfold flAgg at CF ⊢
  obtain ⟨kd, dy, cs, nn, tl, ho⟩ := f
  dsimp only at *
  subst hk

  clear hrow hps hn hw hm hnum hnn hD
  go_enter Tryz.func28, Tryz.ntmps28
  go_upto_region 1 with (fail)
  generalize hX : (World.alloc (World.alloc (World.alloc w _) _) _) = X
  have FX : FW w B F R (.slice q0 n cap0) m ⟨1, dy, cs, nn, tl, ho⟩ (bkCs D) X := by rw [← hX]; exact W0.out
  have HX := Lib.hid FX
  obtain ⟨f0, f1, f2, f3, f4, f5⟩ := FX.fl.cell
  clear hX W0 FX hB hF hR
  go_wp2_with fail
  refine (CF.out X).mono ?_
  rintro e W1 ⟨rfl, hb1⟩
  have FX := HX.out.later hb1
  have HX1 := Lib.hid FX
  obtain ⟨b0, b1, b2, _⟩ := FX.box.cell
  obtain ⟨f0, f1, f2, f3, f4, f5⟩ := FX.fl.cell
  obtain ⟨y0, y1, y2, z0, z1, z2⟩ := FX.res_cell
  have CP := Lib.hid (show Calls Tryz.prog 31 #[.agg #[.slice q0 n cap0, .int .i64 m, .int .i64 m], .int .i64 dy] W1 (BkPost W1.heap.size (D.cs.map fun c => passP c dy) dy m W1) from by
    obtain ⟨ps, h1, h2⟩ := HX1.out.row
    refine passR_any D.cs m m dy _ ps W1 h2 (by rw [h1, HM.out]; rfl) DOK.out (by rw [← HN.out]; exact hlen) (by rw [HM.out]; omega) (by omega) (by omega))
  clear FX hb1 HX CF
  go_wp2_with fail
  refine CP.out.mono ?_
  rintro e W2 ⟨v2, ps2, rfl, hps2, hrow2, hb2⟩
  have hn2 : ps2.length = n := by rw [HN.out]; simpa using congrArg List.length hps2
  obtain ⟨q2, cap2, rfl, _⟩ := hrow2.src
  rw [hn2] at hrow2
  rw [hn2]
  have hsz2 := hb2.size
  go_upto_region 6 with (fail)
  generalize hN : W2.heap.size = N
  generalize hX2 : World.alloc W2 _ = X2
  have GX0 : GW w B F R N W1.heap.size (.slice q0 n cap0) (.slice q2 n cap2) m m ⟨1, dy, cs, nn, tl, ho⟩ (bkCs D) (D.cs.map fun c => passP c dy) X2 := by
    obtain ⟨p0, _, h4⟩ := HX1.out.row
    rw [← hX2]; exact GW.new (HX1.out.later hb2) hps2 hrow2 HX1.out.bel.size (fun g e => (World.ownsRow.lt h4.1 g e).2) hN
  have GX := Lib.hid GX0
  obtain ⟨b0, b1, b2, _⟩ := GX0.fw.box.cell
  obtain ⟨f0, f1, f2, f3, f4, f5⟩ := GX0.fw.fl.cell
  obtain ⟨y0, y1, y2, z0, z1, z2⟩ := GX0.fw.res_cell
  obtain ⟨n0, n1, n2, nz0, nz2⟩ := GX0.cells
  dsimp only at f0 f1 f2 f3 f4 f5 n0 n1 n2
  have hszX : W1.heap.size ≤ N := by rw [← hN]; exact hsz2
  clear hX2 hN GX0 hps2 hrow2 hb2 HX1 CP hsz2
  have E := Lib.hid (GX.out.fw.bad HM.out HE.out (by decide))
  go_wp2
  refine bodyPost_ret (results_cell_row_tmp rfl _ _ R 37 _ (0, 0) _ rfl _ rfl E.out.1 Tryz.underlying37 rfl (by kernel_rfl)) rfl ?_
  exact E.out.2

set_option maxHeartbeats 4000000 in
set_option maxRecDepth 100000 in
theorem file_4_4 (D : Dk) (hD : D.Ok) (f : Fl) (m : Int) (hm : m = max 0 D.last) (hnum : D.num < 1000) (v : Value) (ps : List (Cs × Value)) (w : World) (hrow : CRow w 0 v ps) (hps : ps.map Prod.fst = bkCs D) (hw : wf f = true) (hd : m ≤ f.day) (hk : f.kind = 4) (hfull : D.cs.length = 100) :
    Calls Tryz.prog 28 #[.agg #[v, .int .i64 m, .int .i64 m], flAgg f] w (FilePost D f w) := by
  have hn : ps.length = D.cs.length := by have := congrArg List.length hps; simpa [bkCs] using this
  obtain ⟨q0, cap0, rfl, _⟩ := hrow.src
  obtain ⟨n, hnn⟩ : ∃ n, n = D.cs.length := ⟨_, rfl⟩
  rw [← hnn] at hn
  rw [hn] at hrow ⊢
  obtain ⟨B, hB⟩ : ∃ B, w.heap.size = B := ⟨_, rfl⟩
  obtain ⟨F, hF⟩ : ∃ F, B + 1 = F := ⟨_, rfl⟩
  obtain ⟨R, hR⟩ : ∃ R, F + 1 = R := ⟨_, rfl⟩
  have W0 := Lib.hid (FW.start m f hrow hps hB hF hR)
  have hBF : B ≠ F := by omega
  have hBR : B ≠ R := by omega
  have hFR : F ≠ R := by omega
  have WF := Lib.hid ((wf_iff f).1 hw)
  have hday := WF.out.day
  have hlen := hD.len
  rw [← hnn] at hlen
  have DOK := Lib.hid hD.cs
  have hlast : D.last ≤ f.day := by omega
  have HE := Lib.hid (show errD D f = 4 by rw [errD_of hnum hw hlast, errL_opens (by unfold opensP; rw [hk]; rfl), if_pos (by omega)])
  have hq : ((n : Int) == 100) = true := by simp; omega
  have HM := Lib.hid hm
  have HN := Lib.hid hnn
  have CF := Lib.hid (fun X => (formedR_any f X).mono fun e w' h => show e = .returned (.bool true) ∧ Below X.heap.size X w' from ⟨by rw [h.1, hw], h.2⟩)

  unfold flAgg at CF ⊢
  obtain ⟨kd, dy, cs, nn, tl, ho⟩ := f
  dsimp only at *
  subst hk

  clear hrow hps hn hw hm hnum hnn hD
  go_enter Tryz.func28, Tryz.ntmps28
  go_upto_region 1 with (fail)
  generalize hX : (World.alloc (World.alloc (World.alloc w _) _) _) = X
  have FX : FW w B F R (.slice q0 n cap0) m ⟨4, dy, cs, nn, tl, ho⟩ (bkCs D) X := by rw [← hX]; exact W0.out
  have HX := Lib.hid FX
  obtain ⟨f0, f1, f2, f3, f4, f5⟩ := FX.fl.cell
  clear hX W0 FX hB hF hR
  go_wp2_with fail
  refine (CF.out X).mono ?_
  rintro e W1 ⟨rfl, hb1⟩
  have FX := HX.out.later hb1
  have HX1 := Lib.hid FX
  obtain ⟨b0, b1, b2, _⟩ := FX.box.cell
  obtain ⟨f0, f1, f2, f3, f4, f5⟩ := FX.fl.cell
  obtain ⟨y0, y1, y2, z0, z1, z2⟩ := FX.res_cell
  have CP := Lib.hid (show Calls Tryz.prog 31 #[.agg #[.slice q0 n cap0, .int .i64 m, .int .i64 m], .int .i64 dy] W1 (BkPost W1.heap.size (D.cs.map fun c => passP c dy) dy m W1) from by
    obtain ⟨ps, h1, h2⟩ := HX1.out.row
    refine passR_any D.cs m m dy _ ps W1 h2 (by rw [h1, HM.out]; rfl) DOK.out (by rw [← HN.out]; exact hlen) (by rw [HM.out]; omega) (by omega) (by omega))
  clear FX hb1 HX CF
  go_wp2_with fail
  refine CP.out.mono ?_
  rintro e W2 ⟨v2, ps2, rfl, hps2, hrow2, hb2⟩
  have hn2 : ps2.length = n := by rw [HN.out]; simpa using congrArg List.length hps2
  obtain ⟨q2, cap2, rfl, _⟩ := hrow2.src
  rw [hn2] at hrow2
  rw [hn2]
  have hsz2 := hb2.size
  go_upto_region 6 with (fail)
  generalize hN : W2.heap.size = N
  generalize hX2 : World.alloc W2 _ = X2
  have GX0 : GW w B F R N W1.heap.size (.slice q0 n cap0) (.slice q2 n cap2) m m ⟨4, dy, cs, nn, tl, ho⟩ (bkCs D) (D.cs.map fun c => passP c dy) X2 := by
    obtain ⟨p0, _, h4⟩ := HX1.out.row
    rw [← hX2]; exact GW.new (HX1.out.later hb2) hps2 hrow2 HX1.out.bel.size (fun g e => (World.ownsRow.lt h4.1 g e).2) hN
  have GX := Lib.hid GX0
  obtain ⟨b0, b1, b2, _⟩ := GX0.fw.box.cell
  obtain ⟨f0, f1, f2, f3, f4, f5⟩ := GX0.fw.fl.cell
  obtain ⟨y0, y1, y2, z0, z1, z2⟩ := GX0.fw.res_cell
  obtain ⟨n0, n1, n2, nz0, nz2⟩ := GX0.cells
  dsimp only at f0 f1 f2 f3 f4 f5 n0 n1 n2
  have hszX : W1.heap.size ≤ N := by rw [← hN]; exact hsz2
  clear hX2 hN GX0 hps2 hrow2 hb2 HX1 CP hsz2
  have E := Lib.hid (GX.out.fw.bad HM.out HE.out (by decide))
  go_wp2
  refine bodyPost_ret (results_cell_row_tmp rfl _ _ R 37 _ (0, 0) _ rfl _ rfl E.out.1 Tryz.underlying37 rfl (by kernel_rfl)) rfl ?_
  exact E.out.2

set_option maxHeartbeats 4000000 in
set_option maxRecDepth 100000 in
theorem file_6 (D : Dk) (hD : D.Ok) (f : Fl) (m : Int) (hm : m = max 0 D.last) (hnum : D.num < 1000) (v : Value) (ps : List (Cs × Value)) (w : World) (hrow : CRow w 0 v ps) (hps : ps.map Prod.fst = bkCs D) (hw : wf f = true) (hd : m ≤ f.day) (hop : opensP f = false) (hca : (D.cs.length : Int) < f.case) :
    Calls Tryz.prog 28 #[.agg #[v, .int .i64 m, .int .i64 m], flAgg f] w (FilePost D f w) := by
  have hn : ps.length = D.cs.length := by have := congrArg List.length hps; simpa [bkCs] using this
  obtain ⟨q0, cap0, rfl, _⟩ := hrow.src
  obtain ⟨n, hnn⟩ : ∃ n, n = D.cs.length := ⟨_, rfl⟩
  rw [← hnn] at hn
  rw [hn] at hrow ⊢
  obtain ⟨B, hB⟩ : ∃ B, w.heap.size = B := ⟨_, rfl⟩
  obtain ⟨F, hF⟩ : ∃ F, B + 1 = F := ⟨_, rfl⟩
  obtain ⟨R, hR⟩ : ∃ R, F + 1 = R := ⟨_, rfl⟩
  have W0 := Lib.hid (FW.start m f hrow hps hB hF hR)
  have hBF : B ≠ F := by omega
  have hBR : B ≠ R := by omega
  have hFR : F ≠ R := by omega
  have WF := Lib.hid ((wf_iff f).1 hw)
  have hday := WF.out.day
  have hlen := hD.len
  rw [← hnn] at hlen
  have DOK := Lib.hid hD.cs
  have hlast : D.last ≤ f.day := by omega
  have HE := Lib.hid (show errD D f = 6 by rw [errD_of hnum hw hlast, errL_own0 hop, if_pos hca])
  have hkk := opensP_not hop
  have kb1 : (f.kind == 1) = false := by simpa using hkk.1
  have kb4 : (f.kind == 4) = false := by simpa using hkk.2
  rw [← hnn] at hca
  have HM := Lib.hid hm
  have HN := Lib.hid hnn
  have CF := Lib.hid (fun X => (formedR_any f X).mono fun e w' h => show e = .returned (.bool true) ∧ Below X.heap.size X w' from ⟨by rw [h.1, hw], h.2⟩)

  unfold flAgg at CF ⊢
  obtain ⟨kd, dy, cs, nn, tl, ho⟩ := f
  dsimp only at *
  clear hop hkk

  clear hrow hps hn hw hm hnum hnn hD
  go_enter Tryz.func28, Tryz.ntmps28
  go_upto_region 1 with (fail)
  generalize hX : (World.alloc (World.alloc (World.alloc w _) _) _) = X
  have FX : FW w B F R (.slice q0 n cap0) m ⟨kd, dy, cs, nn, tl, ho⟩ (bkCs D) X := by rw [← hX]; exact W0.out
  have HX := Lib.hid FX
  obtain ⟨f0, f1, f2, f3, f4, f5⟩ := FX.fl.cell
  clear hX W0 FX hB hF hR
  go_wp2_with fail
  refine (CF.out X).mono ?_
  rintro e W1 ⟨rfl, hb1⟩
  have FX := HX.out.later hb1
  have HX1 := Lib.hid FX
  obtain ⟨b0, b1, b2, _⟩ := FX.box.cell
  obtain ⟨f0, f1, f2, f3, f4, f5⟩ := FX.fl.cell
  obtain ⟨y0, y1, y2, z0, z1, z2⟩ := FX.res_cell
  have CP := Lib.hid (show Calls Tryz.prog 31 #[.agg #[.slice q0 n cap0, .int .i64 m, .int .i64 m], .int .i64 dy] W1 (BkPost W1.heap.size (D.cs.map fun c => passP c dy) dy m W1) from by
    obtain ⟨ps, h1, h2⟩ := HX1.out.row
    refine passR_any D.cs m m dy _ ps W1 h2 (by rw [h1, HM.out]; rfl) DOK.out (by rw [← HN.out]; exact hlen) (by rw [HM.out]; omega) (by omega) (by omega))
  clear FX hb1 HX CF
  go_wp2_with fail
  refine CP.out.mono ?_
  rintro e W2 ⟨v2, ps2, rfl, hps2, hrow2, hb2⟩
  have hn2 : ps2.length = n := by rw [HN.out]; simpa using congrArg List.length hps2
  obtain ⟨q2, cap2, rfl, _⟩ := hrow2.src
  rw [hn2] at hrow2
  rw [hn2]
  have hsz2 := hb2.size
  go_upto_region 6 with (fail)
  generalize hN : W2.heap.size = N
  generalize hX2 : World.alloc W2 _ = X2
  have GX0 : GW w B F R N W1.heap.size (.slice q0 n cap0) (.slice q2 n cap2) m m ⟨kd, dy, cs, nn, tl, ho⟩ (bkCs D) (D.cs.map fun c => passP c dy) X2 := by
    obtain ⟨p0, _, h4⟩ := HX1.out.row
    rw [← hX2]; exact GW.new (HX1.out.later hb2) hps2 hrow2 HX1.out.bel.size (fun g e => (World.ownsRow.lt h4.1 g e).2) hN
  have GX := Lib.hid GX0
  obtain ⟨b0, b1, b2, _⟩ := GX0.fw.box.cell
  obtain ⟨f0, f1, f2, f3, f4, f5⟩ := GX0.fw.fl.cell
  obtain ⟨y0, y1, y2, z0, z1, z2⟩ := GX0.fw.res_cell
  obtain ⟨n0, n1, n2, nz0, nz2⟩ := GX0.cells
  dsimp only at f0 f1 f2 f3 f4 f5 n0 n1 n2
  have hszX : W1.heap.size ≤ N := by rw [← hN]; exact hsz2
  clear hX2 hN GX0 hps2 hrow2 hb2 HX1 CP hsz2
  have E := Lib.hid (GX.out.fw.bad HM.out HE.out (by decide))
  go_wp2
  refine bodyPost_ret (results_cell_row_tmp rfl _ _ R 37 _ (0, 0) _ rfl _ rfl E.out.1 Tryz.underlying37 rfl (by kernel_rfl)) rfl ?_
  exact E.out.2

end Go.Proofs.YtbpoedopdnjffaaGreat

namespace Go.Proofs.YtbpoedopdnjffaaGreat
open Go.RowKit Go.Shelf Sp

set_option maxHeartbeats 4000000 in
set_option maxRecDepth 100000 in
theorem file_new_1 (D : Dk) (hD : D.Ok) (f : Fl) (m : Int) (hm : m = max 0 D.last) (hnum : D.num < 1000) (v : Value) (ps : List (Cs × Value)) (w : World) (hrow : CRow w 0 v ps) (hps : ps.map Prod.fst = bkCs D) (hw : wf f = true) (hd : m ≤ f.day) (hk : f.kind = 1) (hroom : D.cs.length < 100) :
    Calls Tryz.prog 28 #[.agg #[v, .int .i64 m, .int .i64 m], flAgg f] w (FilePost D f w) := by
  have hn : ps.length = D.cs.length := by have := congrArg List.length hps; simpa [bkCs] using this
  obtain ⟨q0, cap0, rfl, _⟩ := hrow.src
  obtain ⟨n, hnn⟩ : ∃ n, n = D.cs.length := ⟨_, rfl⟩
  rw [← hnn] at hn
  rw [hn] at hrow ⊢
  obtain ⟨B, hB⟩ : ∃ B, w.heap.size = B := ⟨_, rfl⟩
  obtain ⟨F, hF⟩ : ∃ F, B + 1 = F := ⟨_, rfl⟩
  obtain ⟨R, hR⟩ : ∃ R, F + 1 = R := ⟨_, rfl⟩
  have W0 := Lib.hid (FW.start m f hrow hps hB hF hR)
  have hBF : B ≠ F := by omega
  have hBR : B ≠ R := by omega
  have hFR : F ≠ R := by omega
  have WF := Lib.hid ((wf_iff f).1 hw)
  have hday := WF.out.day
  have hlen := hD.len
  rw [← hnn] at hlen
  have DOK := Lib.hid hD.cs
  have hlast : D.last ≤ f.day := by omega
  have hop : opensP f = true := by unfold opensP; rw [hk]; rfl
  have HE0 : errD D f = 0 := by rw [errD_of hnum hw hlast, errL_opens hop, if_neg (by omega)]
  have HE := Lib.hid HE0
  have HS := Lib.hid (show (D.cs.map fun c => passP c f.day) ++ [⟨true, 1, f.day, f.n, 1, 0, f.til, false, 0, []⟩] = bkCs (stepD D f) from by
    rw [bk_step hD f HE0, hop, if_pos rfl]
    have e : newCase f = ⟨true, 1, f.day, f.n, 1, 0, f.til, false, 0, []⟩ := by unfold newCase; rw [if_pos hk]
    rw [e])
  have hq : ((n : Int) == 100) = false := by simp; omega
  have HM := Lib.hid hm
  have HN := Lib.hid hnn
  have CF := Lib.hid (fun X => (formedR_any f X).mono fun e w' h => show e = .returned (.bool true) ∧ Below X.heap.size X w' from ⟨by rw [h.1, hw], h.2⟩)

  unfold flAgg at CF ⊢
  obtain ⟨kd, dy, cs, nn, tl, ho⟩ := f
  dsimp only at *
  subst hk
  clear hop HE0

  clear hrow hps hn hw hm hnum hnn hD
  go_enter Tryz.func28, Tryz.ntmps28
  go_upto_region 1 with (fail)
  generalize hX : (World.alloc (World.alloc (World.alloc w _) _) _) = X
  have FX : FW w B F R (.slice q0 n cap0) m ⟨1, dy, cs, nn, tl, ho⟩ (bkCs D) X := by rw [← hX]; exact W0.out
  have HX := Lib.hid FX
  obtain ⟨f0, f1, f2, f3, f4, f5⟩ := FX.fl.cell
  clear hX W0 FX hB hF hR
  go_wp2_with fail
  refine (CF.out X).mono ?_
  rintro e W1 ⟨rfl, hb1⟩
  have FX := HX.out.later hb1
  have HX1 := Lib.hid FX
  obtain ⟨b0, b1, b2, _⟩ := FX.box.cell
  obtain ⟨f0, f1, f2, f3, f4, f5⟩ := FX.fl.cell
  obtain ⟨y0, y1, y2, z0, z1, z2⟩ := FX.res_cell
  have CP := Lib.hid (show Calls Tryz.prog 31 #[.agg #[.slice q0 n cap0, .int .i64 m, .int .i64 m], .int .i64 dy] W1 (BkPost W1.heap.size (D.cs.map fun c => passP c dy) dy m W1) from by
    obtain ⟨ps, h1, h2⟩ := HX1.out.row
    refine passR_any D.cs m m dy _ ps W1 h2 (by rw [h1, HM.out]; rfl) DOK.out (by rw [← HN.out]; exact hlen) (by rw [HM.out]; omega) (by omega) (by omega))
  clear FX hb1 HX CF
  go_wp2_with fail
  refine CP.out.mono ?_
  rintro e W2 ⟨v2, ps2, rfl, hps2, hrow2, hb2⟩
  have hn2 : ps2.length = n := by rw [HN.out]; simpa using congrArg List.length hps2
  obtain ⟨q2, cap2, rfl, _⟩ := hrow2.src
  rw [hn2] at hrow2
  rw [hn2]
  have hsz2 := hb2.size
  go_upto_region 6 with (fail)
  generalize hN : W2.heap.size = N
  generalize hX2 : World.alloc W2 _ = X2
  have GX0 : GW w B F R N W1.heap.size (.slice q0 n cap0) (.slice q2 n cap2) m m ⟨1, dy, cs, nn, tl, ho⟩ (bkCs D) (D.cs.map fun c => passP c dy) X2 := by
    obtain ⟨p0, _, h4⟩ := HX1.out.row
    rw [← hX2]; exact GW.new (HX1.out.later hb2) hps2 hrow2 HX1.out.bel.size (fun g e => (World.ownsRow.lt h4.1 g e).2) hN
  have GX := Lib.hid GX0
  obtain ⟨b0, b1, b2, _⟩ := GX0.fw.box.cell
  obtain ⟨f0, f1, f2, f3, f4, f5⟩ := GX0.fw.fl.cell
  obtain ⟨y0, y1, y2, z0, z1, z2⟩ := GX0.fw.res_cell
  obtain ⟨n0, n1, n2, nz0, nz2⟩ := GX0.cells
  dsimp only at f0 f1 f2 f3 f4 f5 n0 n1 n2
  have hszX : W1.heap.size ≤ N := by rw [← hN]; exact hsz2
  clear hX2 hN GX0 hps2 hrow2 hb2 HX1 CP hsz2
  go_upto_region 12 with (fail)
  have GL := GX.out.last dy
  generalize hX3 : World.setCell X2 _ _ = X3
  rw [hX3] at GL
  have G3 := Lib.hid GL
  obtain ⟨b0, b1, b2, _⟩ := GL.fw.box.cell
  obtain ⟨f0, f1, f2, f3, f4, f5⟩ := GL.fw.fl.cell
  obtain ⟨y0, y1, y2, z0, z1, z2⟩ := GL.fw.res_cell
  obtain ⟨n0, n1, n2, nz0, nz2⟩ := GL.cells
  dsimp only at f0 f1 f2 f3 f4 f5 n0 n1 n2
  have hlo := GL.lo2
  have hNs : N ≠ X3.heap.size := Nat.ne_of_lt GL.nxt.lt
  have hFs : F ≠ X3.heap.size := Nat.ne_of_lt GL.fw.fl.lt
  clear hX3 GX
  go_upto_region 13 with (fail)
  obtain ⟨ps3, hp3, hr3⟩ := GL.row2
  have hl3 : ps3.length = n := by rw [HN.out]; simpa using congrArg List.length hp3
  obtain ⟨ob, hob⟩ : ∃ ob : Obj, ob = .cells #[.bool true, .int .u8 1, .int .i64 dy, .int .i64 nn, .int .i64 1, .int .i64 0, .int .i64 tl, .bool false, .int .i64 0, .slice none 0 0] 52 := ⟨_, rfl⟩
  have b3 : Below X3.heap.size X3 (X3.alloc ob) := (Below.refl _ _).alloc (Nat.le_refl _) _
  have hr4 := hr3.later b3
  have HR3 := Lib.hid hr4
  have SRC := Lib.hid (show CSrc (X3.alloc ob) (some ⟨X3.heap.size, 0, none⟩) [((⟨true, 1, dy, nn, 1, 0, tl, false, 0, []⟩ : Cs), .slice none 0 0)] from by
    rw [hob]
    refine .inr ⟨_, rfl, fun j u hj => cell_case X3 (⟨true, 1, dy, nn, 1, 0, tl, false, 0, []⟩ : Cs) (.slice none 0 0) _ rfl j u ?_⟩
    simpa [cflat] using hj)
  have AP := Lib.hid (fun (v3 : Value) (w1 : World) (ho : CRow w1 W1.heap.size v3 (ps3 ++ [((⟨true, 1, dy, nn, 1, 0, tl, false, 0, []⟩ : Cs), .slice none 0 0)])) hg => G3.out.app (n := n) hp3 hr3 ob ho hg (by rw [HN.out]; simp))
  have n0' : (X3.alloc ob).cell? ⟨N, 0, none⟩ = some (.slice q2 n cap2) := (b3.cell (p := ⟨N, 0, none⟩) GL.nxt.lt).trans n0
  have hbs : W1.heap.size ≤ (X3.alloc ob).heap.size := by
    have := GL.nxt.lt
    simp
    omega
  obtain ⟨v20, hv20⟩ : ∃ v20, v20 = Value.slice q2 n cap2 := ⟨_, rfl⟩
  rw [hob] at HR3 SRC AP n0' hbs
  clear GL hp3 hr3 hob b3 hr4 hv20
  go_wp2_with (first | (at_builtin; refine wpList_plain rfl fun KK hKK => ?_; refine wp_append_cases _ _ _ rfl rfl W1.heap.size _ ps3 rfl HR3.out (some ⟨X3.heap.size, 0, none⟩) 1 1 [((⟨true, 1, dy, nn, 1, 0, tl, false, 0, []⟩ : Cs), .slice none 0 0)] rfl rfl SRC.out (by intro p hp; rw [List.mem_singleton.1 hp]; exact Owns.nil _ _) (by simp; omega) hbs ?_; intro v' w1 hown' hgrow; obtain ⟨p3, c3, rfl, zz, tt, HG⟩ := AP.out v' w1 hown' hgrow; have E := Lib.hid (HG.out.done HE.out (by dsimp only; omega) HS.out); obtain ⟨g0, g1, g2, _, _⟩ := HG.out.cells; obtain ⟨u0, u1, u2, t0, t1, t2⟩ := HG.out.fw.res_cell; dsimp only at g0 g1 g2 E; clear hown' hgrow AP HG; refine hKK _ _ ?_; clear hKK) | fail)
  refine bodyPost_ret (results_cell_row_tmp rfl _ _ R 37 _ (0, 0) _ rfl _ rfl E.out.1 Tryz.underlying37 rfl (by kernel_rfl)) rfl ?_
  exact E.out.2

set_option maxHeartbeats 4000000 in
set_option maxRecDepth 100000 in
theorem file_new_4 (D : Dk) (hD : D.Ok) (f : Fl) (m : Int) (hm : m = max 0 D.last) (hnum : D.num < 1000) (v : Value) (ps : List (Cs × Value)) (w : World) (hrow : CRow w 0 v ps) (hps : ps.map Prod.fst = bkCs D) (hw : wf f = true) (hd : m ≤ f.day) (hk : f.kind = 4) (hroom : D.cs.length < 100) :
    Calls Tryz.prog 28 #[.agg #[v, .int .i64 m, .int .i64 m], flAgg f] w (FilePost D f w) := by
  have hn : ps.length = D.cs.length := by have := congrArg List.length hps; simpa [bkCs] using this
  obtain ⟨q0, cap0, rfl, _⟩ := hrow.src
  obtain ⟨n, hnn⟩ : ∃ n, n = D.cs.length := ⟨_, rfl⟩
  rw [← hnn] at hn
  rw [hn] at hrow ⊢
  obtain ⟨B, hB⟩ : ∃ B, w.heap.size = B := ⟨_, rfl⟩
  obtain ⟨F, hF⟩ : ∃ F, B + 1 = F := ⟨_, rfl⟩
  obtain ⟨R, hR⟩ : ∃ R, F + 1 = R := ⟨_, rfl⟩
  have W0 := Lib.hid (FW.start m f hrow hps hB hF hR)
  have hBF : B ≠ F := by omega
  have hBR : B ≠ R := by omega
  have hFR : F ≠ R := by omega
  have WF := Lib.hid ((wf_iff f).1 hw)
  have hday := WF.out.day
  have hlen := hD.len
  rw [← hnn] at hlen
  have DOK := Lib.hid hD.cs
  have hlast : D.last ≤ f.day := by omega
  have hop : opensP f = true := by unfold opensP; rw [hk]; rfl
  have HE0 : errD D f = 0 := by rw [errD_of hnum hw hlast, errL_opens hop, if_neg (by omega)]
  have HE := Lib.hid HE0
  have HS := Lib.hid (show (D.cs.map fun c => passP c f.day) ++ [⟨false, 2, f.day, f.n, 0, 0, f.day + f.n, false, 0, []⟩] = bkCs (stepD D f) from by
    rw [bk_step hD f HE0, hop, if_pos rfl]
    have e : newCase f = ⟨false, 2, f.day, f.n, 0, 0, f.day + f.n, false, 0, []⟩ := by unfold newCase; rw [if_neg (by omega)]
    rw [e])
  have hq : ((n : Int) == 100) = false := by simp; omega
  have hn4 := (WF.out.k4 hk).2.2.2
  have HM := Lib.hid hm
  have HN := Lib.hid hnn
  have CF := Lib.hid (fun X => (formedR_any f X).mono fun e w' h => show e = .returned (.bool true) ∧ Below X.heap.size X w' from ⟨by rw [h.1, hw], h.2⟩)

  unfold flAgg at CF ⊢
  obtain ⟨kd, dy, cs, nn, tl, ho⟩ := f
  dsimp only at *
  subst hk
  clear hop HE0

  clear hrow hps hn hw hm hnum hnn hD
  go_enter Tryz.func28, Tryz.ntmps28
  go_upto_region 1 with (fail)
  generalize hX : (World.alloc (World.alloc (World.alloc w _) _) _) = X
  have FX : FW w B F R (.slice q0 n cap0) m ⟨4, dy, cs, nn, tl, ho⟩ (bkCs D) X := by rw [← hX]; exact W0.out
  have HX := Lib.hid FX
  obtain ⟨f0, f1, f2, f3, f4, f5⟩ := FX.fl.cell
  clear hX W0 FX hB hF hR
  go_wp2_with fail
  refine (CF.out X).mono ?_
  rintro e W1 ⟨rfl, hb1⟩
  have FX := HX.out.later hb1
  have HX1 := Lib.hid FX
  obtain ⟨b0, b1, b2, _⟩ := FX.box.cell
  obtain ⟨f0, f1, f2, f3, f4, f5⟩ := FX.fl.cell
  obtain ⟨y0, y1, y2, z0, z1, z2⟩ := FX.res_cell
  have CP := Lib.hid (show Calls Tryz.prog 31 #[.agg #[.slice q0 n cap0, .int .i64 m, .int .i64 m], .int .i64 dy] W1 (BkPost W1.heap.size (D.cs.map fun c => passP c dy) dy m W1) from by
    obtain ⟨ps, h1, h2⟩ := HX1.out.row
    refine passR_any D.cs m m dy _ ps W1 h2 (by rw [h1, HM.out]; rfl) DOK.out (by rw [← HN.out]; exact hlen) (by rw [HM.out]; omega) (by omega) (by omega))
  clear FX hb1 HX CF
  go_wp2_with fail
  refine CP.out.mono ?_
  rintro e W2 ⟨v2, ps2, rfl, hps2, hrow2, hb2⟩
  have hn2 : ps2.length = n := by rw [HN.out]; simpa using congrArg List.length hps2
  obtain ⟨q2, cap2, rfl, _⟩ := hrow2.src
  rw [hn2] at hrow2
  rw [hn2]
  have hsz2 := hb2.size
  go_upto_region 6 with (fail)
  generalize hN : W2.heap.size = N
  generalize hX2 : World.alloc W2 _ = X2
  have GX0 : GW w B F R N W1.heap.size (.slice q0 n cap0) (.slice q2 n cap2) m m ⟨4, dy, cs, nn, tl, ho⟩ (bkCs D) (D.cs.map fun c => passP c dy) X2 := by
    obtain ⟨p0, _, h4⟩ := HX1.out.row
    rw [← hX2]; exact GW.new (HX1.out.later hb2) hps2 hrow2 HX1.out.bel.size (fun g e => (World.ownsRow.lt h4.1 g e).2) hN
  have GX := Lib.hid GX0
  obtain ⟨b0, b1, b2, _⟩ := GX0.fw.box.cell
  obtain ⟨f0, f1, f2, f3, f4, f5⟩ := GX0.fw.fl.cell
  obtain ⟨y0, y1, y2, z0, z1, z2⟩ := GX0.fw.res_cell
  obtain ⟨n0, n1, n2, nz0, nz2⟩ := GX0.cells
  dsimp only at f0 f1 f2 f3 f4 f5 n0 n1 n2
  have hszX : W1.heap.size ≤ N := by rw [← hN]; exact hsz2
  clear hX2 hN GX0 hps2 hrow2 hb2 HX1 CP hsz2
  go_upto_region 12 with (fail)
  have GL := GX.out.last dy
  generalize hX3 : World.setCell X2 _ _ = X3
  rw [hX3] at GL
  have G3 := Lib.hid GL
  obtain ⟨b0, b1, b2, _⟩ := GL.fw.box.cell
  obtain ⟨f0, f1, f2, f3, f4, f5⟩ := GL.fw.fl.cell
  obtain ⟨y0, y1, y2, z0, z1, z2⟩ := GL.fw.res_cell
  obtain ⟨n0, n1, n2, nz0, nz2⟩ := GL.cells
  dsimp only at f0 f1 f2 f3 f4 f5 n0 n1 n2
  have hlo := GL.lo2
  have hNs : N ≠ X3.heap.size := Nat.ne_of_lt GL.nxt.lt
  have hFs : F ≠ X3.heap.size := Nat.ne_of_lt GL.fw.fl.lt
  clear hX3 GX
  go_upto_region 16 with (fail)
  obtain ⟨ps3, hp3, hr3⟩ := GL.row2
  have hl3 : ps3.length = n := by rw [HN.out]; simpa using congrArg List.length hp3
  obtain ⟨ob, hob⟩ : ∃ ob : Obj, ob = .cells #[.bool false, .int .u8 2, .int .i64 dy, .int .i64 nn, .int .i64 0, .int .i64 0, .int .i64 (dy + nn), .bool false, .int .i64 0, .slice none 0 0] 52 := ⟨_, rfl⟩
  have b3 : Below X3.heap.size X3 (X3.alloc ob) := (Below.refl _ _).alloc (Nat.le_refl _) _
  have hr4 := hr3.later b3
  have HR3 := Lib.hid hr4
  have SRC := Lib.hid (show CSrc (X3.alloc ob) (some ⟨X3.heap.size, 0, none⟩) [((⟨false, 2, dy, nn, 0, 0, dy + nn, false, 0, []⟩ : Cs), .slice none 0 0)] from by
    rw [hob]
    refine .inr ⟨_, rfl, fun j u hj => cell_case X3 (⟨false, 2, dy, nn, 0, 0, dy + nn, false, 0, []⟩ : Cs) (.slice none 0 0) _ rfl j u ?_⟩
    simpa [cflat] using hj)
  have AP := Lib.hid (fun (v3 : Value) (w1 : World) (ho : CRow w1 W1.heap.size v3 (ps3 ++ [((⟨false, 2, dy, nn, 0, 0, dy + nn, false, 0, []⟩ : Cs), .slice none 0 0)])) hg => G3.out.app (n := n) hp3 hr3 ob ho hg (by rw [HN.out]; simp))
  have n0' : (X3.alloc ob).cell? ⟨N, 0, none⟩ = some (.slice q2 n cap2) := (b3.cell (p := ⟨N, 0, none⟩) GL.nxt.lt).trans n0
  have hbs : W1.heap.size ≤ (X3.alloc ob).heap.size := by
    have := GL.nxt.lt
    simp
    omega
  obtain ⟨v20, hv20⟩ : ∃ v20, v20 = Value.slice q2 n cap2 := ⟨_, rfl⟩
  rw [hob] at HR3 SRC AP n0' hbs
  clear GL hp3 hr3 hob b3 hr4 hv20
  go_wp2_with (first | (at_builtin; refine wpList_plain rfl fun KK hKK => ?_; refine wp_append_cases _ _ _ rfl rfl W1.heap.size _ ps3 rfl HR3.out (some ⟨X3.heap.size, 0, none⟩) 1 1 [((⟨false, 2, dy, nn, 0, 0, dy + nn, false, 0, []⟩ : Cs), .slice none 0 0)] rfl rfl SRC.out (by intro p hp; rw [List.mem_singleton.1 hp]; exact Owns.nil _ _) (by simp; omega) hbs ?_; intro v' w1 hown' hgrow; obtain ⟨p3, c3, rfl, zz, tt, HG⟩ := AP.out v' w1 hown' hgrow; have E := Lib.hid (HG.out.done HE.out (by dsimp only; omega) HS.out); obtain ⟨g0, g1, g2, _, _⟩ := HG.out.cells; obtain ⟨u0, u1, u2, t0, t1, t2⟩ := HG.out.fw.res_cell; dsimp only at g0 g1 g2 E; clear hown' hgrow AP HG; refine hKK _ _ ?_; clear hKK) | fail)
  refine bodyPost_ret (results_cell_row_tmp rfl _ _ R 37 _ (0, 0) _ rfl _ rfl E.out.1 Tryz.underlying37 rfl (by kernel_rfl)) rfl ?_
  exact E.out.2

end Go.Proofs.YtbpoedopdnjffaaGreat
