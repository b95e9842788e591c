/- AppealSmall: from region 53 on (the long lists). -/
import Derived.Test.YtbpoedopdnjffaaGreatZqSmL
namespace Go.Proofs.YtbpoedopdnjffaaGreat
open Go.RowKit Go.Shelf Sp

set_option maxHeartbeats 8000000 in
set_option maxRecDepth 1000000 in
theorem tail53 (w wr : World) (hB : Hid (Below w.heap.size w wr)) (s0 s1 s2 s3 s4 s5 s6 s7 s8 s9 s10 s11 s12 s13 s14 s15 s16 s17 s18 s19 s20 s21 s22 s23 s24 s25 s26 s27 s28 s29 s30 s31 s32 s33 s34 s35 s36 s37 s38 s39 s40 s41 s42 s43 s44 s45 s46 s47 s48 s49 s50 s51 s52 s53 s54 s55 s56 s57 s58 s59 s60 s61 s62 s63 s64 s65 s66 s67 s68 s69 s70 s71 s72 s73 s74 s75 s76 s77 s78 s79 s80 s81 s82 s83 s84 s85 s86 s87 s88 s89 s90 s91 s92 s93 s94 s95 s96 s97 s98 s99 s100 s101 s102 s103 s104 s105 s106 s107 s108 s109 s110 s111 s112 s113 s114 s115 s116 s117 s118 s119 s120 s121 s122 s123 s124 s125 s126 s127 s128 s129 s130 s131 s132 s133 s134 s135 s136 s137 s138 s139 s140 s141 s142 s143 s144 s145 s146 s147 s148 s149 s150 s151 s152 s153 s154 s155 s156 s157 s158 s159 s160 s161 s162 s163 s164 s165 s166 s167 s168 s169 s170 s171 s172 s173 s174 s175 s176 s177 s178 s179 s180 s181 s182 s183 s184 s185 s186 s187 s188 s189 s190 s191 s192 s193 s194 s195 s196 s197 s198 s199 s200 s201 s202 s203 s204 s205 s206 s207 s208 s209 s210 s211 s212 s213 s214 s215 s216 s217 s218 s219 s220 s221 s222 s223 s224 s225 s226 s227 s228 s229 s230 s231 s232 s233 s234 s235 s236 s237 s238 s239 s240 s241 s242 s243 s244 s245 s246 s247 s248 s249 s250 s251 s252 s253 s254 s255 s256 s257 s258 s259 s260 s261 s262 s263 s264 s265 s266 s267 s268 s269 s270 s271 s272 s273 s274 s275 s276 s277 s278 s279 s280 s281 s282 : Value) :
    ∀ K : Act → World → Prop, (∀ a w', Code.wp Tryz.prog (seqR (smallTail 53)) (bodyPost Tryz.prog Tryz.f4 fun e w' => e = .returned (.bool true) ∧ Below w.heap.size w w') a w' → K a w') →
    Code.wp Tryz.prog (seqL (smallTail 53)) (Exit.then K (bodyPost Tryz.prog Tryz.f4 fun e w' => e = .returned (.bool true) ∧ Below w.heap.size w w')) ⟨#[s0, s1, s2, s3, s4, s5, s6, s7, s8, s9, s10, s11, s12, s13, s14, s15, s16, s17, s18, s19, s20, s21, s22, s23, s24, s25, s26, s27, s28, s29, s30, s31, s32, s33, s34, s35, s36, s37, s38, s39, s40, s41, s42, s43, s44, s45, s46, s47, s48, s49, s50, s51, s52, s53, s54, s55, s56, s57, s58, s59, s60, s61, s62, s63, s64, s65, s66, s67, s68, s69, s70, s71, s72, s73, s74, s75, s76, s77, s78, s79, s80, s81, s82, s83, s84, s85, s86, s87, s88, s89, s90, s91, s92, s93, s94, s95, s96, s97, s98, s99, s100, s101, s102, s103, s104, s105, s106, s107, s108, s109, s110, s111, s112, s113, s114, s115, s116, s117, s118, s119, s120, s121, s122, s123, s124, s125, s126, s127, s128, s129, s130, s131, s132, s133, s134, s135, s136, s137, s138, s139, s140, s141, s142, s143, s144, s145, s146, s147, s148, s149, s150, s151, s152, s153, s154, s155, s156, s157, s158, s159, s160, s161, s162, s163, s164, s165, s166, s167, s168, s169, s170, s171, s172, s173, s174, s175, s176, s177, s178, s179, s180, s181, s182, s183, s184, s185, s186, s187, s188, s189, s190, s191, s192, s193, s194, s195, s196, s197, s198, s199, s200, s201, s202, s203, s204, s205, s206, s207, s208, s209, s210, s211, s212, s213, s214, s215, s216, s217, s218, s219, s220, s221, s222, s223, s224, s225, s226, s227, s228, s229, s230, s231, s232, s233, s234, s235, s236, s237, s238, s239, s240, s241, s242, s243, s244, s245, s246, s247, s248, s249, s250, s251, s252, s253, s254, s255, s256, s257, s258, s259, s260, s261, s262, s263, s264, s265, s266, s267, s268, s269, s270, s271, s272, s273, s274, s275, s276, s277, s278, s279, s280, s281, s282], []⟩ wr := by
  intro K hK
  conv at hK => ext a w'; arg 1; arg 2; whnf
  conv => arg 2; whnf
  have B0 := hB
  clear hB
  go_wp2_with fail
  refine (decide_f 65533 400 _).mono ?_
  rintro e W4 ⟨rfl, hb⟩
  have B1 := Lib.hid (B0.out.trans (hb.mono B0.out.size))
  clear hb B0
  go_wp2_with fail
  refine (on_f 5 65534 1 0 true _).mono ?_
  rintro e W5 ⟨rfl, hb⟩
  have B2 := Lib.hid (B1.out.trans (hb.mono B1.out.size))
  clear hb B1
  go_wp2_with fail
  refine (elect_f 65534 9 65535 _).mono ?_
  rintro e W6 ⟨rfl, hb⟩
  have B3 := Lib.hid (B2.out.trans (hb.mono B2.out.size))
  clear hb B2
  go_upto_region 54 with (fail)
  obtain ⟨E, hE⟩ : ∃ E, W6.heap.size = E := ⟨_, rfl⟩
  have F4 := Lib.hid (l4_new B3.out hE)
  rw [hE]
  generalize World.alloc W6 _ = X3 at F4 ⊢
  clear B3 hE
  go_wp2_with fail
  go_loopw [14, 13] (fun iv v wr => ∃ i : Nat, i ≤ 101 ∧ iv = .int .i64 i ∧ Hid (FL wr X3.heap.size v i ∧ Below X3.heap.size X3 wr)) (fun iv _ _ => 101 - (intOf iv).toNat)
  case atStart => exact ⟨0, by omega, rfl, Lib.hid ⟨FL.nil _ _, Below.refl _ _⟩⟩
  case round =>
    obtain ⟨j, hj, rfl, hJ⟩ := hrel
    by_cases hlt6 : j < 101
    · have j0 : (0 : Int) ≤ (j : Int) := by omega
      have j1 : (j : Int) ≤ 100 := by omega
      go_wp2_with fail
      refine (decide_f _ 400 _).mono ?_
      rintro e W7 ⟨rfl, hb⟩
      have F7 := Lib.hid (hJ.out.1.later hb)
      have B7 := Lib.hid (hJ.out.2.trans (hb.mono hJ.out.2.size))
      clear hb hJ
      go_wp2_with (first | (at_builtin; refine wpList_plain rfl fun KK hKK => ?_; refine wpFL_append W7 _ _ rfl rfl X3.heap.size u13 j rfl F7.out _ _ _ _ _ _ rfl (by constructor <;> dsimp only <;> omega) (by omega) B7.out.size ?_; intro v2 w2 hown2 hbel2; refine hKK _ _ ?_; clear hKK) | fail)
      go_roundw
      case rel => exact ⟨j + 1, by omega, by go_num, Lib.hid ⟨hown2, B7.out.trans hbel2⟩⟩
      case measure => simp [intOf]; omega
    · have e3 : (j : Int) = 101 := by omega
      rw [e3]
      clear e3
      obtain rfl : j = 101 := by omega
      obtain ⟨p6, c6, rfl⟩ := hJ.out.1.form
      go_wp2_with fail
      go_loopw [13] (fun v wr => ∃ (m : Nat) (p : Option Addr) (c : Nat), 101 ≤ m ∧ m ≤ 1002 ∧ v = .slice p m c ∧ Hid (FL wr X3.heap.size (.slice p m c) m ∧ Below X3.heap.size X3 wr)) (fun v _ => 1002 - slLen v)
      case atStart => exact ⟨101, p6, c6, by omega, by omega, rfl, hJ⟩
      case round =>
        clear hJ
        obtain ⟨m, p, c, m0, m1, rfl, hJ⟩ := hrel
        by_cases hlt7 : m < 1002
        · have j0 : (101 : Int) ≤ (m : Int) := by omega
          have j1 : (m : Int) ≤ 1001 := by omega
          go_wp2_with fail
          refine (on_f _ _ _ _ _ _).mono ?_
          rintro e W7 ⟨rfl, hb⟩
          have F7 := Lib.hid (hJ.out.1.later hb)
          have B7 := Lib.hid (hJ.out.2.trans (hb.mono hJ.out.2.size))
          clear hb hJ
          go_wp2_with (first | (at_builtin; refine wpList_plain rfl fun KK hKK => ?_; refine wpFL_append W7 _ _ rfl rfl X3.heap.size (.slice p m c) m rfl F7.out _ _ _ _ _ _ rfl (by constructor <;> dsimp only <;> omega) (by omega) B7.out.size ?_; intro v2 w2 hown2 hbel2; obtain ⟨p2, c2, rfl⟩ := hown2.form; refine hKK _ _ ?_; clear hKK) | fail)
          go_roundw
          case rel => exact ⟨m + 1, p2, c2, by omega, by omega, rfl, Lib.hid ⟨hown2, B7.out.trans hbel2⟩⟩
          case measure => simp [slLen]; omega
        · obtain rfl : m = 1002 := by omega
          have G0 := Lib.hid (F4.out.1.later hJ.out.2)
          have B0 := Lib.hid (F4.out.2.trans (hJ.out.2.mono F4.out.2.size))
          have M0 := Lib.hid hJ.out.1
          clear hJ F4
          go_wp2_with fail
          refine (runs_FL _ G0.out (by omega)).mono ?_
          rintro e Y1 ⟨rfl, hb⟩
          have G1 := Lib.hid (G0.out.later hb)
          have M1 := Lib.hid (M0.out.later hb)
          have B1 := Lib.hid (B0.out.trans (hb.mono B0.out.size))
          clear hb G0 M0 B0
          go_wp2_with fail
          refine (asks_FL _ _ G1.out (by omega)).mono ?_
          rintro e Y2 ⟨rfl, hb⟩
          have G2 := Lib.hid (G1.out.later hb)
          have M2 := Lib.hid (M1.out.later hb)
          have B2 := Lib.hid (B1.out.trans (hb.mono B1.out.size))
          clear hb G1 M1 B1
          go_wp2_with fail
          refine (asks_FL _ _ G2.out (by omega)).mono ?_
          rintro e Y3 ⟨rfl, hb⟩
          have M3 := Lib.hid (M2.out.later hb)
          have B3 := Lib.hid (B2.out.trans (hb.mono B2.out.size))
          clear hb G2 M2 B2
          go_wp2_with fail
          refine (runs_FL _ M3.out (by omega)).mono ?_
          rintro e Y4 ⟨rfl, hb⟩
          have M4 := Lib.hid (M3.out.later hb)
          have B4 := Lib.hid (B3.out.trans (hb.mono B3.out.size))
          clear hb M3 B3
          go_wp2_with fail
          refine (asks_FL _ _ M4.out (by omega)).mono ?_
          rintro e Y5 ⟨rfl, hb⟩
          have B5 := Lib.hid (B4.out.trans (hb.mono B4.out.size))
          clear hb M4 B4
          go_wp2_with fail
          refine (runs_FL _ (FL.nil Y5 0) (by omega)).mono ?_
          rintro e Y6 ⟨rfl, hb⟩
          have B6 := Lib.hid (B5.out.trans (hb.mono B5.out.size))
          clear hb B5
          go_wp2_with fail
          refine (asks_FL _ _ (FL.nil Y6 0) (by omega)).mono ?_
          rintro e Y7 ⟨rfl, hb⟩
          have B7 := Lib.hid (B6.out.trans (hb.mono B6.out.size))
          clear hb B6
          go_wp2_with fail
          refine (awake_any _).mono ?_
          rintro e Y8 ⟨rfl, hb⟩
          have B8 := Lib.hid (B7.out.trans (hb.mono B7.out.size))
          clear hb B7
          go_wp2
          go_ret
          exact ⟨rfl, B8.out⟩

end Go.Proofs.YtbpoedopdnjffaaGreat
