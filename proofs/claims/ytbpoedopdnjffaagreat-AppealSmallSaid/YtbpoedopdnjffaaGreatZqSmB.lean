/- AppealSmall: from region 22 on (the numbers, each kind, each field). -/
import Derived.Test.YtbpoedopdnjffaaGreatZqSmC
namespace Go.Proofs.YtbpoedopdnjffaaGreat
open Go.RowKit Go.Shelf Sp

set_option maxHeartbeats 8000000 in
set_option maxRecDepth 1000000 in
theorem tail22 (w wr : World) (hB : Hid (Below w.heap.size w wr)) (s0 s1 s2 s3 s4 s5 s6 s7 s8 s9 s10 s11 s12 s13 s14 s15 s16 s17 s18 s19 s20 s21 s22 s23 s24 s25 s26 s27 s28 s29 s30 s31 s32 s33 s34 s35 s36 s37 s38 s39 s40 s41 s42 s43 s44 s45 s46 s47 s48 s49 s50 s51 s52 s53 s54 s55 s56 s57 s58 s59 s60 s61 s62 s63 s64 s65 s66 s67 s68 s69 s70 s71 s72 s73 s74 s75 s76 s77 s78 s79 s80 s81 s82 s83 s84 s85 s86 s87 s88 s89 s90 s91 s92 s93 s94 s95 s96 s97 s98 s99 s100 s101 s102 s103 s104 s105 s106 s107 s108 s109 s110 s111 s112 s113 s114 s115 s116 s117 s118 s119 s120 s121 s122 s123 s124 s125 s126 s127 s128 s129 s130 s131 s132 s133 s134 s135 s136 s137 s138 s139 s140 s141 s142 s143 s144 s145 s146 s147 s148 s149 s150 s151 s152 s153 s154 s155 s156 s157 s158 s159 s160 s161 s162 s163 s164 s165 s166 s167 s168 s169 s170 s171 s172 s173 s174 s175 s176 s177 s178 s179 s180 s181 s182 s183 s184 s185 s186 s187 s188 s189 s190 s191 s192 s193 s194 s195 s196 s197 s198 s199 s200 s201 s202 s203 s204 s205 s206 s207 s208 s209 s210 s211 s212 s213 s214 s215 s216 s217 s218 s219 s220 s221 s222 s223 s224 s225 s226 s227 s228 s229 s230 s231 s232 s233 s234 s235 s236 s237 s238 s239 s240 s241 s242 s243 s244 s245 s246 s247 s248 s249 s250 s251 s252 s253 s254 s255 s256 s257 s258 s259 s260 s261 s262 s263 s264 s265 s266 s267 s268 s269 s270 s271 s272 s273 s274 s275 s276 s277 s278 s279 s280 s281 s282 : Value) :
    ∀ K : Act → World → Prop, (∀ a w', Code.wp Tryz.prog (seqR (smallTail 22)) (bodyPost Tryz.prog Tryz.f4 fun e w' => e = .returned (.bool true) ∧ Below w.heap.size w w') a w' → K a w') →
    Code.wp Tryz.prog (seqL (smallTail 22)) (Exit.then K (bodyPost Tryz.prog Tryz.f4 fun e w' => e = .returned (.bool true) ∧ Below w.heap.size w w')) ⟨#[s0, s1, s2, s3, s4, s5, s6, s7, s8, s9, s10, s11, s12, s13, s14, s15, s16, s17, s18, s19, s20, s21, s22, s23, s24, s25, s26, s27, s28, s29, s30, s31, s32, s33, s34, s35, s36, s37, s38, s39, s40, s41, s42, s43, s44, s45, s46, s47, s48, s49, s50, s51, s52, s53, s54, s55, s56, s57, s58, s59, s60, s61, s62, s63, s64, s65, s66, s67, s68, s69, s70, s71, s72, s73, s74, s75, s76, s77, s78, s79, s80, s81, s82, s83, s84, s85, s86, s87, s88, s89, s90, s91, s92, s93, s94, s95, s96, s97, s98, s99, s100, s101, s102, s103, s104, s105, s106, s107, s108, s109, s110, s111, s112, s113, s114, s115, s116, s117, s118, s119, s120, s121, s122, s123, s124, s125, s126, s127, s128, s129, s130, s131, s132, s133, s134, s135, s136, s137, s138, s139, s140, s141, s142, s143, s144, s145, s146, s147, s148, s149, s150, s151, s152, s153, s154, s155, s156, s157, s158, s159, s160, s161, s162, s163, s164, s165, s166, s167, s168, s169, s170, s171, s172, s173, s174, s175, s176, s177, s178, s179, s180, s181, s182, s183, s184, s185, s186, s187, s188, s189, s190, s191, s192, s193, s194, s195, s196, s197, s198, s199, s200, s201, s202, s203, s204, s205, s206, s207, s208, s209, s210, s211, s212, s213, s214, s215, s216, s217, s218, s219, s220, s221, s222, s223, s224, s225, s226, s227, s228, s229, s230, s231, s232, s233, s234, s235, s236, s237, s238, s239, s240, s241, s242, s243, s244, s245, s246, s247, s248, s249, s250, s251, s252, s253, s254, s255, s256, s257, s258, s259, s260, s261, s262, s263, s264, s265, s266, s267, s268, s269, s270, s271, s272, s273, s274, s275, s276, s277, s278, s279, s280, s281, s282], []⟩ wr := by
  intro K hK
  conv at hK => ext a w'; arg 1; arg 2; whnf
  conv => arg 2; whnf
  go_upto_region 23 with (fail)
  obtain ⟨A, hA⟩ : ∃ A, wr.heap.size = A := ⟨_, rfl⟩
  have N1 := Lib.hid (nb_new w wr hB.out hA)
  rw [hA]
  generalize World.alloc wr _ = X1 at N1 ⊢
  clear hB hA
  go_wp2_with fail
  refine (decide_f 3 400 _).mono ?_
  rintro e W1 ⟨rfl, hb⟩
  have N2 := Lib.hid (N1.out.later hb)
  clear hb N1
  go_wp2_with fail
  refine (elect_f 3 3 900 _).mono ?_
  rintro e W2 ⟨rfl, hb⟩
  have N3 := Lib.hid (N2.out.later hb)
  clear hb N2
  go_wp2_with fail
  refine (on_f 5 3 1 0 true _).mono ?_
  rintro e W3 ⟨rfl, hb⟩
  have N4 := Lib.hid (N3.out.later hb)
  clear hb N3
  go_upto_region 24 with (fail)
  obtain ⟨g, hg⟩ : ∃ g, W3.heap.size = g := ⟨_, rfl⟩
  have K0 := Lib.hid (N4.out.base hg)
  rw [hg]
  generalize World.alloc W3 _ = X2 at K0 ⊢
  clear N4 hg
  go_wp2_with fail
  go_loopw [8] (fun iv wr => ∃ i : Nat, i ≤ 13 ∧ iv = .int .i64 i ∧ Hid (KN w wr A g)) (fun iv _ => 13 - (intOf iv).toNat)
  case atStart => exact ⟨0, by omega, rfl, K0⟩
  case round =>
    clear K0
    obtain ⟨i, hi, rfl, hI⟩ := hrel
    by_cases hlt : i < 13
    · have i0 : (0 : Int) ≤ (i : Int) := by omega
      have i1 : (i : Int) < 13 := by omega
      go_wp2_with fail
      go_loopw [9] (fun kv wr => ∃ kd : Int, 0 ≤ kd ∧ kd ≤ 9 ∧ kv = .int .u8 kd ∧ Hid (KN w wr A g)) (fun kv _ => 9 - (intOf kv).toNat)
      case atStart => exact ⟨0, by omega, by omega, rfl, hI⟩
      case round =>
        clear hI
        obtain ⟨kd, k0, k1, rfl, hI⟩ := hrel
        by_cases hk9 : kd < 9
        · go_wp2_with fail
          go_loopw [10] (fun fv wr => ∃ fd : Int, 0 ≤ fd ∧ fd ≤ 5 ∧ fv = .int .i64 fd ∧ Hid (KN w wr A g)) (fun fv _ => 5 - (intOf fv).toNat)
          case atStart => exact ⟨0, by omega, by omega, rfl, hI⟩
          case round =>
            clear hI
            obtain ⟨fd, f0, f1, rfl, hI⟩ := hrel
            by_cases hf5 : fd < 5
            · go_upto_region 33 with (fail)
              go_cut [11] from 133 to 206 (fun v wx => ∃ (B : Nat) (f : Fl), v = .pointer (some ⟨B, 0, none⟩) ∧ Hid (KB w wx A g B f))
              case first =>
                rcases (show kd = 0 ∨ kd = 1 ∨ kd = 2 ∨ kd = 3 ∨ kd = 4 ∨ kd = 5 ∨ kd = 6 ∨ kd = 7 ∨ kd = 8 by omega) with rfl | rfl | rfl | rfl | rfl | rfl | rfl | rfl | rfl
                all_goals (go_wp2_with fail; go_meet; exact ⟨_, _, rfl, Lib.hid (KB.new (hI.out.alloc _) (by simp) _ _ _ _ _ _ (by constructor <;> dsimp only <;> omega))⟩)
              case rest =>
              clear hI
              obtain ⟨B, f, rfl, hB⟩ := hcut
              go_upto_region 34 with (fail)
              go_cut [160] from 133 to 206 (fun cv wx => ∃ b : Bool, cv = .bool b ∧ Hid (KB w wx A g B f))
              case first =>
                by_cases z1 : kd = 1
                · subst z1
                  go_wp2_with fail
                  go_meet
                  exact ⟨_, rfl, hB⟩
                · have z2 : (kd == 1) = false := by simpa using z1
                  go_wp2_with fail
                  go_meet
                  exact ⟨_, rfl, hB⟩
              case rest =>
              clear hB
              obtain ⟨b, rfl, hB⟩ := hcut
              go_upto_if 160 with (fail)
              go_cut [] from 133 to 206 (fun wx => ∃ f' : Fl, Hid (KB w wx A g B f'))
              case first =>
                obtain ⟨c0, c1, c2, c3, c4, c5⟩ := hB.out.box.cell
                have fz := hB.out.frozen 2
                cases b with
                | true =>
                  go_wp2_with fail
                  go_meet
                  exact ⟨{ f with case := 0 }, Lib.hid (hB.out.set_ rfl ⟨hB.out.bd.kind, hB.out.bd.day, (by dsimp only; omega), hB.out.bd.n, hB.out.bd.til⟩)⟩
                | false =>
                  go_wp2_with fail
                  go_meet
                  exact ⟨f, hB⟩
              case rest =>
              clear hB
              obtain ⟨f2, hB⟩ := hcut
              go_upto_if 163 with (fail)
              go_cut [] from 133 to 206 (fun wx => ∃ f' : Fl, Hid (KB w wx A g B f'))
              case first =>
                obtain ⟨c0, c1, c2, c3, c4, c5⟩ := hB.out.box.cell
                have fz := hB.out.frozen 4
                by_cases z1 : kd = 1
                · have z2 : (kd != 1) = false := by simp [z1]
                  go_wp2_with fail
                  go_meet
                  exact ⟨f2, hB⟩
                · have z2 : (kd != 1) = true := by simpa using z1
                  go_wp2_with fail
                  go_meet
                  exact ⟨{ f2 with til := 0 }, Lib.hid (hB.out.set_ rfl ⟨hB.out.bd.kind, hB.out.bd.day, hB.out.bd.case, hB.out.bd.n, (by dsimp only; omega)⟩)⟩
              case rest =>
              clear hB
              obtain ⟨f3, hB⟩ := hcut
              go_step
              go_step
              go_cut [] from 133 to 206 (fun wx => ∃ f' : Fl, Hid (KB w wx A g B f'))
              case first =>
                obtain ⟨c0, c1, c2, c3, c4, c5⟩ := hB.out.box.cell
                have fz := hB.out.frozen
                obtain ⟨z, hz, z0, z1⟩ := hB.out.n.nums i hlt
                rcases (show fd = 0 ∨ fd = 1 ∨ fd = 2 ∨ fd = 3 ∨ fd = 4 by omega) with rfl | rfl | rfl | rfl | rfl
                · go_wp2_with fail
                  go_meet
                  exact ⟨{ f3 with day := z }, Lib.hid (hB.out.set_ rfl ⟨hB.out.bd.kind, ⟨z0, z1⟩, hB.out.bd.case, hB.out.bd.n, hB.out.bd.til⟩)⟩
                · go_wp2_with fail
                  go_meet
                  exact ⟨{ f3 with case := z }, Lib.hid (hB.out.set_ rfl ⟨hB.out.bd.kind, hB.out.bd.day, ⟨z0, z1⟩, hB.out.bd.n, hB.out.bd.til⟩)⟩
                · go_wp2_with fail
                  go_meet
                  exact ⟨{ f3 with n := z }, Lib.hid (hB.out.set_ rfl ⟨hB.out.bd.kind, hB.out.bd.day, hB.out.bd.case, ⟨z0, z1⟩, hB.out.bd.til⟩)⟩
                · go_wp2_with fail
                  go_meet
                  exact ⟨{ f3 with til := z }, Lib.hid (hB.out.set_ rfl ⟨hB.out.bd.kind, hB.out.bd.day, hB.out.bd.case, hB.out.bd.n, ⟨z0, z1⟩⟩)⟩
                · go_wp2_with fail
                  go_meet
                  exact ⟨{ f3 with hold := ((i : Int) % 2 == 1) }, Lib.hid (hB.out.set_ rfl ⟨hB.out.bd.kind, hB.out.bd.day, hB.out.bd.case, hB.out.bd.n, hB.out.bd.til⟩)⟩
              case rest =>
              clear hB
              obtain ⟨f4, hB⟩ := hcut
              go_upto_region 49 with (fail)
              obtain ⟨c0, c1, c2, c3, c4, c5⟩ := hB.out.box.cell
              go_region_held3 (fun w9 => w9.cell? ⟨B, 0, none⟩ = some (.int .u8 f4.kind) ∧ w9.cell? ⟨B, 1, none⟩ = some (.int .i64 f4.day) ∧ w9.cell? ⟨B, 2, none⟩ = some (.int .i64 f4.case) ∧ w9.cell? ⟨B, 3, none⟩ = some (.int .i64 f4.n) ∧ w9.cell? ⟨B, 4, none⟩ = some (.int .i64 f4.til) ∧ w9.cell? ⟨B, 5, none⟩ = some (.bool f4.hold) ∧ Hid (KB w w9 A g B f4))
                (first | (exact (KB.drew hB.out).all) | (exact (KB.drew (hB.out.alloc _)).all) | (exact (((KB.drew (hB.out.alloc _)).app hg9 ho9).later hb10).all) | (exact ((KB.drew (hB.out.alloc _)).app hg9 ho9).all))
                (first
                  | (refine step_base (by rfl) _ _ (by rfl) w.heap.size g wc.heap.size f4 (by rfl) (by rfl) (KB.drew (hB.out.alloc _)).n.own (flbox_drew wc f4) hB.out.bd (KB.drew (hB.out.alloc _)).n.bel.size ?_; intro v9 w9 hF9 hg9 ho9)
                  | (go_at_call 5; refine (runs_FL 500 hF9 (by omega)).mono ?_; rintro e W10 ⟨rfl, hb10⟩)
                  | fail)
              all_goals
                have K9 : Hid (KN w W10 A g) := Lib.hid (((KB.drew (hB.out.alloc _)).app hg9 ho9).later hb10).n
                go_wp2
                go_roundw
                case rel => exact ⟨fd + 1, by omega, by omega, by go_num, K9⟩
                case measure => simp [intOf]; omega
            · obtain rfl : fd = 5 := by omega
              go_wp2
              go_roundw
              case rel => exact ⟨kd + 1, by omega, by omega, by go_num, hI⟩
              case measure => simp [intOf]; omega
        · obtain rfl : kd = 9 := by omega
          obtain ⟨z, hz, -, -⟩ := hI.out.nums i hlt
          go_wp2_with fail
          refine (runs_FL _ hI.out.fl (by omega)).mono ?_
          rintro e W4 ⟨rfl, hb⟩
          have hI4 := Lib.hid (hI.out.later hb)
          clear hb hI hz
          obtain ⟨z4, hz, -, -⟩ := hI4.out.nums i hlt
          go_wp2_with fail
          refine (asks_FL _ _ hI4.out.fl (by omega)).mono ?_
          rintro e W5 ⟨rfl, hb⟩
          have hI5 := Lib.hid (hI4.out.later hb)
          clear hb hI4 hz
          obtain ⟨z5, hz, -, -⟩ := hI5.out.nums i hlt
          go_wp2_with fail
          refine (asks_FL _ _ hI5.out.fl (by omega)).mono ?_
          rintro e W6 ⟨rfl, hb⟩
          have hI6 := Lib.hid (hI5.out.later hb)
          clear hb hI5 hz
          go_wp2
          go_roundw
          case rel => exact ⟨i + 1, by omega, by go_num, hI6⟩
          case measure => simp [intOf]; omega
    · obtain rfl : i = 13 := by omega
      go_upto_region 53 with (fail)
      exact tail53 w _ (Lib.hid hI.out.bel) _ _ _ _ _ _ _ _ _ _ _ _ _ _ _ _ _ _ _ _ _ _ _ _ _ _ _ _ _ _ _ _ _ _ _ _ _ _ _ _ _ _ _ _ _ _ _ _ _ _ _ _ _ _ _ _ _ _ _ _ _ _ _ _ _ _ _ _ _ _ _ _ _ _ _ _ _ _ _ _ _ _ _ _ _ _ _ _ _ _ _ _ _ _ _ _ _ _ _ _ _ _ _ _ _ _ _ _ _ _ _ _ _ _ _ _ _ _ _ _ _ _ _ _ _ _ _ _ _ _ _ _ _ _ _ _ _ _ _ _ _ _ _ _ _ _ _ _ _ _ _ _ _ _ _ _ _ _ _ _ _ _ _ _ _ _ _ _ _ _ _ _ _ _ _ _ _ _ _ _ _ _ _ _ _ _ _ _ _ _ _ _ _ _ _ _ _ _ _ _ _ _ _ _ _ _ _ _ _ _ _ _ _ _ _ _ _ _ _ _ _ _ _ _ _ _ _ _ _ _ _ _ _ _ _ _ _ _ _ _ _ _ _ _ _ _ _ _ _ _ _ _ _ _ _ _ _ _ _ _ _ _ _ _ _ _ _ _ _ _ _ _ _ _ _ _ _ _ _ _ _ _ _ _ (by assumption)

end Go.Proofs.YtbpoedopdnjffaaGreat
