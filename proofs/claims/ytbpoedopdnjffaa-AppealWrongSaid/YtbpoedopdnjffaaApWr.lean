/- AppealWrong: the law. -/
import Derived.Test.YtbpoedopdnjffaaApWrB
import Derived.Test.YtbpoedopdnjffaaApPlain7
namespace Go.Proofs.Ytbpoedopdnjffaa
open Go.RowKit Go.Shelf Sp

theorem bad_0 {lo hi : Int} (_h1 : -9223372036854775808 ≤ lo ∧ lo ≤ -1) (_h2 : 65536 ≤ hi ∧ hi ≤ 9223372036854775807) : wf ⟨0, 0, 0, 0, 0, false⟩ = false ∧ (⟨0, 0, 0, 0, 0, false⟩ : Fl).Bd := by
  refine ⟨?_, by dsimp only; omega, by dsimp only; omega, by dsimp only; omega, by dsimp only; omega, by dsimp only; omega⟩
  rw [← Bool.not_eq_true, wf_iff]
  intro h
  have a1 := h.day
  have a2 := h.kind
  have a3 := h.k1
  have a4 := h.k4
  have a5 := h.kc
  have a6 := h.k6
  have a7 := h.k37
  dsimp only at a1 a2 a3 a4 a5 a6 a7
  first | omega | (have := a3 rfl; omega) | (have := a4 rfl; omega) | (have := a5 (by decide) (by decide); omega) | (have := a6 rfl; omega) | (have := a7 (.inl rfl); simp at this)
theorem bad_1 {lo hi : Int} (_h1 : -9223372036854775808 ≤ lo ∧ lo ≤ -1) (_h2 : 65536 ≤ hi ∧ hi ≤ 9223372036854775807) : wf ⟨8, 0, 1, 0, 0, false⟩ = false ∧ (⟨8, 0, 1, 0, 0, false⟩ : Fl).Bd := by
  refine ⟨?_, by dsimp only; omega, by dsimp only; omega, by dsimp only; omega, by dsimp only; omega, by dsimp only; omega⟩
  rw [← Bool.not_eq_true, wf_iff]
  intro h
  have a1 := h.day
  have a2 := h.kind
  have a3 := h.k1
  have a4 := h.k4
  have a5 := h.kc
  have a6 := h.k6
  have a7 := h.k37
  dsimp only at a1 a2 a3 a4 a5 a6 a7
  first | omega | (have := a3 rfl; omega) | (have := a4 rfl; omega) | (have := a5 (by decide) (by decide); omega) | (have := a6 rfl; omega) | (have := a7 (.inl rfl); simp at this)
theorem bad_2 {lo hi : Int} (_h1 : -9223372036854775808 ≤ lo ∧ lo ≤ -1) (_h2 : 65536 ≤ hi ∧ hi ≤ 9223372036854775807) : wf ⟨4, lo, 0, 3, 0, false⟩ = false ∧ (⟨4, lo, 0, 3, 0, false⟩ : Fl).Bd := by
  refine ⟨?_, by dsimp only; omega, by dsimp only; omega, by dsimp only; omega, by dsimp only; omega, by dsimp only; omega⟩
  rw [← Bool.not_eq_true, wf_iff]
  intro h
  have a1 := h.day
  have a2 := h.kind
  have a3 := h.k1
  have a4 := h.k4
  have a5 := h.kc
  have a6 := h.k6
  have a7 := h.k37
  dsimp only at a1 a2 a3 a4 a5 a6 a7
  first | omega | (have := a3 rfl; omega) | (have := a4 rfl; omega) | (have := a5 (by decide) (by decide); omega) | (have := a6 rfl; omega) | (have := a7 (.inl rfl); simp at this)
theorem bad_3 {lo hi : Int} (_h1 : -9223372036854775808 ≤ lo ∧ lo ≤ -1) (_h2 : 65536 ≤ hi ∧ hi ≤ 9223372036854775807) : wf ⟨4, hi, 0, 3, 0, false⟩ = false ∧ (⟨4, hi, 0, 3, 0, false⟩ : Fl).Bd := by
  refine ⟨?_, by dsimp only; omega, by dsimp only; omega, by dsimp only; omega, by dsimp only; omega, by dsimp only; omega⟩
  rw [← Bool.not_eq_true, wf_iff]
  intro h
  have a1 := h.day
  have a2 := h.kind
  have a3 := h.k1
  have a4 := h.k4
  have a5 := h.kc
  have a6 := h.k6
  have a7 := h.k37
  dsimp only at a1 a2 a3 a4 a5 a6 a7
  first | omega | (have := a3 rfl; omega) | (have := a4 rfl; omega) | (have := a5 (by decide) (by decide); omega) | (have := a6 rfl; omega) | (have := a7 (.inl rfl); simp at this)
theorem bad_4 {lo hi : Int} (_h1 : -9223372036854775808 ≤ lo ∧ lo ≤ -1) (_h2 : 65536 ≤ hi ∧ hi ≤ 9223372036854775807) : wf ⟨4, 3, 0, hi, 0, false⟩ = false ∧ (⟨4, 3, 0, hi, 0, false⟩ : Fl).Bd := by
  refine ⟨?_, by dsimp only; omega, by dsimp only; omega, by dsimp only; omega, by dsimp only; omega, by dsimp only; omega⟩
  rw [← Bool.not_eq_true, wf_iff]
  intro h
  have a1 := h.day
  have a2 := h.kind
  have a3 := h.k1
  have a4 := h.k4
  have a5 := h.kc
  have a6 := h.k6
  have a7 := h.k37
  dsimp only at a1 a2 a3 a4 a5 a6 a7
  first | omega | (have := a3 rfl; omega) | (have := a4 rfl; omega) | (have := a5 (by decide) (by decide); omega) | (have := a6 rfl; omega) | (have := a7 (.inl rfl); simp at this)
theorem bad_5 {lo hi : Int} (_h1 : -9223372036854775808 ≤ lo ∧ lo ≤ -1) (_h2 : 65536 ≤ hi ∧ hi ≤ 9223372036854775807) : wf ⟨1, 3, 0, 1, 9, false⟩ = false ∧ (⟨1, 3, 0, 1, 9, false⟩ : Fl).Bd := by
  refine ⟨?_, by dsimp only; omega, by dsimp only; omega, by dsimp only; omega, by dsimp only; omega, by dsimp only; omega⟩
  rw [← Bool.not_eq_true, wf_iff]
  intro h
  have a1 := h.day
  have a2 := h.kind
  have a3 := h.k1
  have a4 := h.k4
  have a5 := h.kc
  have a6 := h.k6
  have a7 := h.k37
  dsimp only at a1 a2 a3 a4 a5 a6 a7
  first | omega | (have := a3 rfl; omega) | (have := a4 rfl; omega) | (have := a5 (by decide) (by decide); omega) | (have := a6 rfl; omega) | (have := a7 (.inl rfl); simp at this)
theorem bad_6 {lo hi : Int} (_h1 : -9223372036854775808 ≤ lo ∧ lo ≤ -1) (_h2 : 65536 ≤ hi ∧ hi ≤ 9223372036854775807) : wf ⟨1, 3, 0, 2, 2, false⟩ = false ∧ (⟨1, 3, 0, 2, 2, false⟩ : Fl).Bd := by
  refine ⟨?_, by dsimp only; omega, by dsimp only; omega, by dsimp only; omega, by dsimp only; omega, by dsimp only; omega⟩
  rw [← Bool.not_eq_true, wf_iff]
  intro h
  have a1 := h.day
  have a2 := h.kind
  have a3 := h.k1
  have a4 := h.k4
  have a5 := h.kc
  have a6 := h.k6
  have a7 := h.k37
  dsimp only at a1 a2 a3 a4 a5 a6 a7
  first | omega | (have := a3 rfl; omega) | (have := a4 rfl; omega) | (have := a5 (by decide) (by decide); omega) | (have := a6 rfl; omega) | (have := a7 (.inl rfl); simp at this)
theorem bad_7 {lo hi : Int} (_h1 : -9223372036854775808 ≤ lo ∧ lo ≤ -1) (_h2 : 65536 ≤ hi ∧ hi ≤ 9223372036854775807) : wf ⟨1, 3, 0, 2, hi, false⟩ = false ∧ (⟨1, 3, 0, 2, hi, false⟩ : Fl).Bd := by
  refine ⟨?_, by dsimp only; omega, by dsimp only; omega, by dsimp only; omega, by dsimp only; omega, by dsimp only; omega⟩
  rw [← Bool.not_eq_true, wf_iff]
  intro h
  have a1 := h.day
  have a2 := h.kind
  have a3 := h.k1
  have a4 := h.k4
  have a5 := h.kc
  have a6 := h.k6
  have a7 := h.k37
  dsimp only at a1 a2 a3 a4 a5 a6 a7
  first | omega | (have := a3 rfl; omega) | (have := a4 rfl; omega) | (have := a5 (by decide) (by decide); omega) | (have := a6 rfl; omega) | (have := a7 (.inl rfl); simp at this)
theorem bad_8 {lo hi : Int} (_h1 : -9223372036854775808 ≤ lo ∧ lo ≤ -1) (_h2 : 65536 ≤ hi ∧ hi ≤ 9223372036854775807) : wf ⟨5, 3, lo, 0, 0, false⟩ = false ∧ (⟨5, 3, lo, 0, 0, false⟩ : Fl).Bd := by
  refine ⟨?_, by dsimp only; omega, by dsimp only; omega, by dsimp only; omega, by dsimp only; omega, by dsimp only; omega⟩
  rw [← Bool.not_eq_true, wf_iff]
  intro h
  have a1 := h.day
  have a2 := h.kind
  have a3 := h.k1
  have a4 := h.k4
  have a5 := h.kc
  have a6 := h.k6
  have a7 := h.k37
  dsimp only at a1 a2 a3 a4 a5 a6 a7
  first | omega | (have := a3 rfl; omega) | (have := a4 rfl; omega) | (have := a5 (by decide) (by decide); omega) | (have := a6 rfl; omega) | (have := a7 (.inl rfl); simp at this)
theorem bad_9 {lo hi : Int} (_h1 : -9223372036854775808 ≤ lo ∧ lo ≤ -1) (_h2 : 65536 ≤ hi ∧ hi ≤ 9223372036854775807) : wf ⟨6, 3, 1, 3, 0, false⟩ = false ∧ (⟨6, 3, 1, 3, 0, false⟩ : Fl).Bd := by
  refine ⟨?_, by dsimp only; omega, by dsimp only; omega, by dsimp only; omega, by dsimp only; omega, by dsimp only; omega⟩
  rw [← Bool.not_eq_true, wf_iff]
  intro h
  have a1 := h.day
  have a2 := h.kind
  have a3 := h.k1
  have a4 := h.k4
  have a5 := h.kc
  have a6 := h.k6
  have a7 := h.k37
  dsimp only at a1 a2 a3 a4 a5 a6 a7
  first | omega | (have := a3 rfl; omega) | (have := a4 rfl; omega) | (have := a5 (by decide) (by decide); omega) | (have := a6 rfl; omega) | (have := a7 (.inl rfl); simp at this)
theorem bad_10 {lo hi : Int} (_h1 : -9223372036854775808 ≤ lo ∧ lo ≤ -1) (_h2 : 65536 ≤ hi ∧ hi ≤ 9223372036854775807) : wf ⟨3, 3, 1, 0, 0, true⟩ = false ∧ (⟨3, 3, 1, 0, 0, true⟩ : Fl).Bd := by
  refine ⟨?_, by dsimp only; omega, by dsimp only; omega, by dsimp only; omega, by dsimp only; omega, by dsimp only; omega⟩
  rw [← Bool.not_eq_true, wf_iff]
  intro h
  have a1 := h.day
  have a2 := h.kind
  have a3 := h.k1
  have a4 := h.k4
  have a5 := h.kc
  have a6 := h.k6
  have a7 := h.k37
  dsimp only at a1 a2 a3 a4 a5 a6 a7
  first | omega | (have := a3 rfl; omega) | (have := a4 rfl; omega) | (have := a5 (by decide) (by decide); omega) | (have := a6 rfl; omega) | (have := a7 (.inl rfl); simp at this)
theorem bad_11 {lo hi : Int} (_h1 : -9223372036854775808 ≤ lo ∧ lo ≤ -1) (_h2 : 65536 ≤ hi ∧ hi ≤ 9223372036854775807) : wf ⟨7, 3, 1, 0, 5, false⟩ = false ∧ (⟨7, 3, 1, 0, 5, false⟩ : Fl).Bd := by
  refine ⟨?_, by dsimp only; omega, by dsimp only; omega, by dsimp only; omega, by dsimp only; omega, by dsimp only; omega⟩
  rw [← Bool.not_eq_true, wf_iff]
  intro h
  have a1 := h.day
  have a2 := h.kind
  have a3 := h.k1
  have a4 := h.k4
  have a5 := h.kc
  have a6 := h.k6
  have a7 := h.k37
  dsimp only at a1 a2 a3 a4 a5 a6 a7
  first | omega | (have := a3 rfl; omega) | (have := a4 rfl; omega) | (have := a5 (by decide) (by decide); omega) | (have := a6 rfl; omega) | (have := a7 (.inl rfl); simp at this)
set_option maxRecDepth 100000 in
theorem idx_0 (v0 v1 v2 v3 v4 v5 v6 v7 v8 v9 v10 v11 v12 v13 v14 v15 v16 v17 v18 v19 v20 v21 v22 v23 v24 v25 v26 v27 v28 v29 v30 v31 v32 v33 v34 v35 v36 v37 v38 v39 v40 v41 v42 v43 v44 v45 v46 v47 v48 v49 v50 v51 v52 v53 v54 v55 v56 v57 v58 v59 v60 v61 v62 v63 v64 v65 v66 v67 v68 v69 v70 v71 : Value) (W : World) : (Instr.index 56 (.agg #[v0, v1, v2, v3, v4, v5, v6, v7, v8, v9, v10, v11, v12, v13, v14, v15, v16, v17, v18, v19, v20, v21, v22, v23, v24, v25, v26, v27, v28, v29, v30, v31, v32, v33, v34, v35, v36, v37, v38, v39, v40, v41, v42, v43, v44, v45, v46, v47, v48, v49, v50, v51, v52, v53, v54, v55, v56, v57, v58, v59, v60, v61, v62, v63, v64, v65, v66, v67, v68, v69, v70, v71]) (.int .u8 0)).run Try.prog W = .ok (.agg #[v0, v1, v2, v3, v4, v5]) W := by kernel_rfl
set_option maxRecDepth 100000 in
theorem idx_1 (v0 v1 v2 v3 v4 v5 v6 v7 v8 v9 v10 v11 v12 v13 v14 v15 v16 v17 v18 v19 v20 v21 v22 v23 v24 v25 v26 v27 v28 v29 v30 v31 v32 v33 v34 v35 v36 v37 v38 v39 v40 v41 v42 v43 v44 v45 v46 v47 v48 v49 v50 v51 v52 v53 v54 v55 v56 v57 v58 v59 v60 v61 v62 v63 v64 v65 v66 v67 v68 v69 v70 v71 : Value) (W : World) : (Instr.index 56 (.agg #[v0, v1, v2, v3, v4, v5, v6, v7, v8, v9, v10, v11, v12, v13, v14, v15, v16, v17, v18, v19, v20, v21, v22, v23, v24, v25, v26, v27, v28, v29, v30, v31, v32, v33, v34, v35, v36, v37, v38, v39, v40, v41, v42, v43, v44, v45, v46, v47, v48, v49, v50, v51, v52, v53, v54, v55, v56, v57, v58, v59, v60, v61, v62, v63, v64, v65, v66, v67, v68, v69, v70, v71]) (.int .u8 1)).run Try.prog W = .ok (.agg #[v6, v7, v8, v9, v10, v11]) W := by kernel_rfl
set_option maxRecDepth 100000 in
theorem idx_2 (v0 v1 v2 v3 v4 v5 v6 v7 v8 v9 v10 v11 v12 v13 v14 v15 v16 v17 v18 v19 v20 v21 v22 v23 v24 v25 v26 v27 v28 v29 v30 v31 v32 v33 v34 v35 v36 v37 v38 v39 v40 v41 v42 v43 v44 v45 v46 v47 v48 v49 v50 v51 v52 v53 v54 v55 v56 v57 v58 v59 v60 v61 v62 v63 v64 v65 v66 v67 v68 v69 v70 v71 : Value) (W : World) : (Instr.index 56 (.agg #[v0, v1, v2, v3, v4, v5, v6, v7, v8, v9, v10, v11, v12, v13, v14, v15, v16, v17, v18, v19, v20, v21, v22, v23, v24, v25, v26, v27, v28, v29, v30, v31, v32, v33, v34, v35, v36, v37, v38, v39, v40, v41, v42, v43, v44, v45, v46, v47, v48, v49, v50, v51, v52, v53, v54, v55, v56, v57, v58, v59, v60, v61, v62, v63, v64, v65, v66, v67, v68, v69, v70, v71]) (.int .u8 2)).run Try.prog W = .ok (.agg #[v12, v13, v14, v15, v16, v17]) W := by kernel_rfl
set_option maxRecDepth 100000 in
theorem idx_3 (v0 v1 v2 v3 v4 v5 v6 v7 v8 v9 v10 v11 v12 v13 v14 v15 v16 v17 v18 v19 v20 v21 v22 v23 v24 v25 v26 v27 v28 v29 v30 v31 v32 v33 v34 v35 v36 v37 v38 v39 v40 v41 v42 v43 v44 v45 v46 v47 v48 v49 v50 v51 v52 v53 v54 v55 v56 v57 v58 v59 v60 v61 v62 v63 v64 v65 v66 v67 v68 v69 v70 v71 : Value) (W : World) : (Instr.index 56 (.agg #[v0, v1, v2, v3, v4, v5, v6, v7, v8, v9, v10, v11, v12, v13, v14, v15, v16, v17, v18, v19, v20, v21, v22, v23, v24, v25, v26, v27, v28, v29, v30, v31, v32, v33, v34, v35, v36, v37, v38, v39, v40, v41, v42, v43, v44, v45, v46, v47, v48, v49, v50, v51, v52, v53, v54, v55, v56, v57, v58, v59, v60, v61, v62, v63, v64, v65, v66, v67, v68, v69, v70, v71]) (.int .u8 3)).run Try.prog W = .ok (.agg #[v18, v19, v20, v21, v22, v23]) W := by kernel_rfl
set_option maxRecDepth 100000 in
theorem idx_4 (v0 v1 v2 v3 v4 v5 v6 v7 v8 v9 v10 v11 v12 v13 v14 v15 v16 v17 v18 v19 v20 v21 v22 v23 v24 v25 v26 v27 v28 v29 v30 v31 v32 v33 v34 v35 v36 v37 v38 v39 v40 v41 v42 v43 v44 v45 v46 v47 v48 v49 v50 v51 v52 v53 v54 v55 v56 v57 v58 v59 v60 v61 v62 v63 v64 v65 v66 v67 v68 v69 v70 v71 : Value) (W : World) : (Instr.index 56 (.agg #[v0, v1, v2, v3, v4, v5, v6, v7, v8, v9, v10, v11, v12, v13, v14, v15, v16, v17, v18, v19, v20, v21, v22, v23, v24, v25, v26, v27, v28, v29, v30, v31, v32, v33, v34, v35, v36, v37, v38, v39, v40, v41, v42, v43, v44, v45, v46, v47, v48, v49, v50, v51, v52, v53, v54, v55, v56, v57, v58, v59, v60, v61, v62, v63, v64, v65, v66, v67, v68, v69, v70, v71]) (.int .u8 4)).run Try.prog W = .ok (.agg #[v24, v25, v26, v27, v28, v29]) W := by kernel_rfl
set_option maxRecDepth 100000 in
theorem idx_5 (v0 v1 v2 v3 v4 v5 v6 v7 v8 v9 v10 v11 v12 v13 v14 v15 v16 v17 v18 v19 v20 v21 v22 v23 v24 v25 v26 v27 v28 v29 v30 v31 v32 v33 v34 v35 v36 v37 v38 v39 v40 v41 v42 v43 v44 v45 v46 v47 v48 v49 v50 v51 v52 v53 v54 v55 v56 v57 v58 v59 v60 v61 v62 v63 v64 v65 v66 v67 v68 v69 v70 v71 : Value) (W : World) : (Instr.index 56 (.agg #[v0, v1, v2, v3, v4, v5, v6, v7, v8, v9, v10, v11, v12, v13, v14, v15, v16, v17, v18, v19, v20, v21, v22, v23, v24, v25, v26, v27, v28, v29, v30, v31, v32, v33, v34, v35, v36, v37, v38, v39, v40, v41, v42, v43, v44, v45, v46, v47, v48, v49, v50, v51, v52, v53, v54, v55, v56, v57, v58, v59, v60, v61, v62, v63, v64, v65, v66, v67, v68, v69, v70, v71]) (.int .u8 5)).run Try.prog W = .ok (.agg #[v30, v31, v32, v33, v34, v35]) W := by kernel_rfl
set_option maxRecDepth 100000 in
theorem idx_6 (v0 v1 v2 v3 v4 v5 v6 v7 v8 v9 v10 v11 v12 v13 v14 v15 v16 v17 v18 v19 v20 v21 v22 v23 v24 v25 v26 v27 v28 v29 v30 v31 v32 v33 v34 v35 v36 v37 v38 v39 v40 v41 v42 v43 v44 v45 v46 v47 v48 v49 v50 v51 v52 v53 v54 v55 v56 v57 v58 v59 v60 v61 v62 v63 v64 v65 v66 v67 v68 v69 v70 v71 : Value) (W : World) : (Instr.index 56 (.agg #[v0, v1, v2, v3, v4, v5, v6, v7, v8, v9, v10, v11, v12, v13, v14, v15, v16, v17, v18, v19, v20, v21, v22, v23, v24, v25, v26, v27, v28, v29, v30, v31, v32, v33, v34, v35, v36, v37, v38, v39, v40, v41, v42, v43, v44, v45, v46, v47, v48, v49, v50, v51, v52, v53, v54, v55, v56, v57, v58, v59, v60, v61, v62, v63, v64, v65, v66, v67, v68, v69, v70, v71]) (.int .u8 6)).run Try.prog W = .ok (.agg #[v36, v37, v38, v39, v40, v41]) W := by kernel_rfl
set_option maxRecDepth 100000 in
theorem idx_7 (v0 v1 v2 v3 v4 v5 v6 v7 v8 v9 v10 v11 v12 v13 v14 v15 v16 v17 v18 v19 v20 v21 v22 v23 v24 v25 v26 v27 v28 v29 v30 v31 v32 v33 v34 v35 v36 v37 v38 v39 v40 v41 v42 v43 v44 v45 v46 v47 v48 v49 v50 v51 v52 v53 v54 v55 v56 v57 v58 v59 v60 v61 v62 v63 v64 v65 v66 v67 v68 v69 v70 v71 : Value) (W : World) : (Instr.index 56 (.agg #[v0, v1, v2, v3, v4, v5, v6, v7, v8, v9, v10, v11, v12, v13, v14, v15, v16, v17, v18, v19, v20, v21, v22, v23, v24, v25, v26, v27, v28, v29, v30, v31, v32, v33, v34, v35, v36, v37, v38, v39, v40, v41, v42, v43, v44, v45, v46, v47, v48, v49, v50, v51, v52, v53, v54, v55, v56, v57, v58, v59, v60, v61, v62, v63, v64, v65, v66, v67, v68, v69, v70, v71]) (.int .u8 7)).run Try.prog W = .ok (.agg #[v42, v43, v44, v45, v46, v47]) W := by kernel_rfl
set_option maxRecDepth 100000 in
theorem idx_8 (v0 v1 v2 v3 v4 v5 v6 v7 v8 v9 v10 v11 v12 v13 v14 v15 v16 v17 v18 v19 v20 v21 v22 v23 v24 v25 v26 v27 v28 v29 v30 v31 v32 v33 v34 v35 v36 v37 v38 v39 v40 v41 v42 v43 v44 v45 v46 v47 v48 v49 v50 v51 v52 v53 v54 v55 v56 v57 v58 v59 v60 v61 v62 v63 v64 v65 v66 v67 v68 v69 v70 v71 : Value) (W : World) : (Instr.index 56 (.agg #[v0, v1, v2, v3, v4, v5, v6, v7, v8, v9, v10, v11, v12, v13, v14, v15, v16, v17, v18, v19, v20, v21, v22, v23, v24, v25, v26, v27, v28, v29, v30, v31, v32, v33, v34, v35, v36, v37, v38, v39, v40, v41, v42, v43, v44, v45, v46, v47, v48, v49, v50, v51, v52, v53, v54, v55, v56, v57, v58, v59, v60, v61, v62, v63, v64, v65, v66, v67, v68, v69, v70, v71]) (.int .u8 8)).run Try.prog W = .ok (.agg #[v48, v49, v50, v51, v52, v53]) W := by kernel_rfl
set_option maxRecDepth 100000 in
theorem idx_9 (v0 v1 v2 v3 v4 v5 v6 v7 v8 v9 v10 v11 v12 v13 v14 v15 v16 v17 v18 v19 v20 v21 v22 v23 v24 v25 v26 v27 v28 v29 v30 v31 v32 v33 v34 v35 v36 v37 v38 v39 v40 v41 v42 v43 v44 v45 v46 v47 v48 v49 v50 v51 v52 v53 v54 v55 v56 v57 v58 v59 v60 v61 v62 v63 v64 v65 v66 v67 v68 v69 v70 v71 : Value) (W : World) : (Instr.index 56 (.agg #[v0, v1, v2, v3, v4, v5, v6, v7, v8, v9, v10, v11, v12, v13, v14, v15, v16, v17, v18, v19, v20, v21, v22, v23, v24, v25, v26, v27, v28, v29, v30, v31, v32, v33, v34, v35, v36, v37, v38, v39, v40, v41, v42, v43, v44, v45, v46, v47, v48, v49, v50, v51, v52, v53, v54, v55, v56, v57, v58, v59, v60, v61, v62, v63, v64, v65, v66, v67, v68, v69, v70, v71]) (.int .u8 9)).run Try.prog W = .ok (.agg #[v54, v55, v56, v57, v58, v59]) W := by kernel_rfl
set_option maxRecDepth 100000 in
theorem idx_10 (v0 v1 v2 v3 v4 v5 v6 v7 v8 v9 v10 v11 v12 v13 v14 v15 v16 v17 v18 v19 v20 v21 v22 v23 v24 v25 v26 v27 v28 v29 v30 v31 v32 v33 v34 v35 v36 v37 v38 v39 v40 v41 v42 v43 v44 v45 v46 v47 v48 v49 v50 v51 v52 v53 v54 v55 v56 v57 v58 v59 v60 v61 v62 v63 v64 v65 v66 v67 v68 v69 v70 v71 : Value) (W : World) : (Instr.index 56 (.agg #[v0, v1, v2, v3, v4, v5, v6, v7, v8, v9, v10, v11, v12, v13, v14, v15, v16, v17, v18, v19, v20, v21, v22, v23, v24, v25, v26, v27, v28, v29, v30, v31, v32, v33, v34, v35, v36, v37, v38, v39, v40, v41, v42, v43, v44, v45, v46, v47, v48, v49, v50, v51, v52, v53, v54, v55, v56, v57, v58, v59, v60, v61, v62, v63, v64, v65, v66, v67, v68, v69, v70, v71]) (.int .u8 10)).run Try.prog W = .ok (.agg #[v60, v61, v62, v63, v64, v65]) W := by kernel_rfl
set_option maxRecDepth 100000 in
theorem idx_11 (v0 v1 v2 v3 v4 v5 v6 v7 v8 v9 v10 v11 v12 v13 v14 v15 v16 v17 v18 v19 v20 v21 v22 v23 v24 v25 v26 v27 v28 v29 v30 v31 v32 v33 v34 v35 v36 v37 v38 v39 v40 v41 v42 v43 v44 v45 v46 v47 v48 v49 v50 v51 v52 v53 v54 v55 v56 v57 v58 v59 v60 v61 v62 v63 v64 v65 v66 v67 v68 v69 v70 v71 : Value) (W : World) : (Instr.index 56 (.agg #[v0, v1, v2, v3, v4, v5, v6, v7, v8, v9, v10, v11, v12, v13, v14, v15, v16, v17, v18, v19, v20, v21, v22, v23, v24, v25, v26, v27, v28, v29, v30, v31, v32, v33, v34, v35, v36, v37, v38, v39, v40, v41, v42, v43, v44, v45, v46, v47, v48, v49, v50, v51, v52, v53, v54, v55, v56, v57, v58, v59, v60, v61, v62, v63, v64, v65, v66, v67, v68, v69, v70, v71]) (.int .u8 11)).run Try.prog W = .ok (.agg #[v66, v67, v68, v69, v70, v71]) W := by kernel_rfl
set_option maxRecDepth 100000 in
theorem bld_all (v0 v1 v2 v3 v4 v5 v6 v7 v8 v9 v10 v11 v12 v13 v14 v15 v16 v17 v18 v19 v20 v21 v22 v23 v24 v25 v26 v27 v28 v29 v30 v31 v32 v33 v34 v35 v36 v37 v38 v39 v40 v41 v42 v43 v44 v45 v46 v47 v48 v49 v50 v51 v52 v53 v54 v55 v56 v57 v58 v59 v60 v61 v62 v63 v64 v65 v66 v67 v68 v69 v70 v71 : Value) (W : World) : (Instr.build 56 #[(0, .agg #[v0, v1, v2, v3, v4, v5]), (1, .agg #[v6, v7, v8, v9, v10, v11]), (2, .agg #[v12, v13, v14, v15, v16, v17]), (3, .agg #[v18, v19, v20, v21, v22, v23]), (4, .agg #[v24, v25, v26, v27, v28, v29]), (5, .agg #[v30, v31, v32, v33, v34, v35]), (6, .agg #[v36, v37, v38, v39, v40, v41]), (7, .agg #[v42, v43, v44, v45, v46, v47]), (8, .agg #[v48, v49, v50, v51, v52, v53]), (9, .agg #[v54, v55, v56, v57, v58, v59]), (10, .agg #[v60, v61, v62, v63, v64, v65]), (11, .agg #[v66, v67, v68, v69, v70, v71])]).run Try.prog W = .ok (.agg #[v0, v1, v2, v3, v4, v5, v6, v7, v8, v9, v10, v11, v12, v13, v14, v15, v16, v17, v18, v19, v20, v21, v22, v23, v24, v25, v26, v27, v28, v29, v30, v31, v32, v33, v34, v35, v36, v37, v38, v39, v40, v41, v42, v43, v44, v45, v46, v47, v48, v49, v50, v51, v52, v53, v54, v55, v56, v57, v58, v59, v60, v61, v62, v63, v64, v65, v66, v67, v68, v69, v70, v71]) W := by kernel_rfl

set_option maxRecDepth 100000 in
theorem pick_bad {lo hi : Int} (h1 : -9223372036854775808 ≤ lo ∧ lo ≤ -1) (h2 : 65536 ≤ hi ∧ hi ≤ 9223372036854775807) (wy : Int) (W : World) :
    ∃ f : Fl, wf f = false ∧ f.Bd ∧ (Instr.index 56 (.agg #[.int .u8 0, .int .i64 0, .int .i64 0, .int .i64 0, .int .i64 0, .bool false, .int .u8 8, .int .i64 0, .int .i64 1, .int .i64 0, .int .i64 0, .bool false, .int .u8 4, .int .i64 lo, .int .i64 0, .int .i64 3, .int .i64 0, .bool false, .int .u8 4, .int .i64 hi, .int .i64 0, .int .i64 3, .int .i64 0, .bool false, .int .u8 4, .int .i64 3, .int .i64 0, .int .i64 hi, .int .i64 0, .bool false, .int .u8 1, .int .i64 3, .int .i64 0, .int .i64 1, .int .i64 9, .bool false, .int .u8 1, .int .i64 3, .int .i64 0, .int .i64 2, .int .i64 2, .bool false, .int .u8 1, .int .i64 3, .int .i64 0, .int .i64 2, .int .i64 hi, .bool false, .int .u8 5, .int .i64 3, .int .i64 lo, .int .i64 0, .int .i64 0, .bool false, .int .u8 6, .int .i64 3, .int .i64 1, .int .i64 3, .int .i64 0, .bool false, .int .u8 3, .int .i64 3, .int .i64 1, .int .i64 0, .int .i64 0, .bool true, .int .u8 7, .int .i64 3, .int .i64 1, .int .i64 0, .int .i64 5, .bool false]) (.int .u8 (wy % 12))).run Try.prog W = .ok (.agg #[.int .u8 f.kind, .int .i64 f.day, .int .i64 f.case, .int .i64 f.n, .int .i64 f.til, .bool f.hold]) W := by
  rcases (show wy % 12 = 0 ∨ wy % 12 = 1 ∨ wy % 12 = 2 ∨ wy % 12 = 3 ∨ wy % 12 = 4 ∨ wy % 12 = 5 ∨ wy % 12 = 6 ∨ wy % 12 = 7 ∨ wy % 12 = 8 ∨ wy % 12 = 9 ∨ wy % 12 = 10 ∨ wy % 12 = 11 by omega) with e | e | e | e | e | e | e | e | e | e | e | e <;> rw [e]
  · exact ⟨_, (bad_0 h1 h2).1, (bad_0 h1 h2).2, idx_0 _ _ _ _ _ _ _ _ _ _ _ _ _ _ _ _ _ _ _ _ _ _ _ _ _ _ _ _ _ _ _ _ _ _ _ _ _ _ _ _ _ _ _ _ _ _ _ _ _ _ _ _ _ _ _ _ _ _ _ _ _ _ _ _ _ _ _ _ _ _ _ _ W⟩
  · exact ⟨_, (bad_1 h1 h2).1, (bad_1 h1 h2).2, idx_1 _ _ _ _ _ _ _ _ _ _ _ _ _ _ _ _ _ _ _ _ _ _ _ _ _ _ _ _ _ _ _ _ _ _ _ _ _ _ _ _ _ _ _ _ _ _ _ _ _ _ _ _ _ _ _ _ _ _ _ _ _ _ _ _ _ _ _ _ _ _ _ _ W⟩
  · exact ⟨_, (bad_2 h1 h2).1, (bad_2 h1 h2).2, idx_2 _ _ _ _ _ _ _ _ _ _ _ _ _ _ _ _ _ _ _ _ _ _ _ _ _ _ _ _ _ _ _ _ _ _ _ _ _ _ _ _ _ _ _ _ _ _ _ _ _ _ _ _ _ _ _ _ _ _ _ _ _ _ _ _ _ _ _ _ _ _ _ _ W⟩
  · exact ⟨_, (bad_3 h1 h2).1, (bad_3 h1 h2).2, idx_3 _ _ _ _ _ _ _ _ _ _ _ _ _ _ _ _ _ _ _ _ _ _ _ _ _ _ _ _ _ _ _ _ _ _ _ _ _ _ _ _ _ _ _ _ _ _ _ _ _ _ _ _ _ _ _ _ _ _ _ _ _ _ _ _ _ _ _ _ _ _ _ _ W⟩
  · exact ⟨_, (bad_4 h1 h2).1, (bad_4 h1 h2).2, idx_4 _ _ _ _ _ _ _ _ _ _ _ _ _ _ _ _ _ _ _ _ _ _ _ _ _ _ _ _ _ _ _ _ _ _ _ _ _ _ _ _ _ _ _ _ _ _ _ _ _ _ _ _ _ _ _ _ _ _ _ _ _ _ _ _ _ _ _ _ _ _ _ _ W⟩
  · exact ⟨_, (bad_5 h1 h2).1, (bad_5 h1 h2).2, idx_5 _ _ _ _ _ _ _ _ _ _ _ _ _ _ _ _ _ _ _ _ _ _ _ _ _ _ _ _ _ _ _ _ _ _ _ _ _ _ _ _ _ _ _ _ _ _ _ _ _ _ _ _ _ _ _ _ _ _ _ _ _ _ _ _ _ _ _ _ _ _ _ _ W⟩
  · exact ⟨_, (bad_6 h1 h2).1, (bad_6 h1 h2).2, idx_6 _ _ _ _ _ _ _ _ _ _ _ _ _ _ _ _ _ _ _ _ _ _ _ _ _ _ _ _ _ _ _ _ _ _ _ _ _ _ _ _ _ _ _ _ _ _ _ _ _ _ _ _ _ _ _ _ _ _ _ _ _ _ _ _ _ _ _ _ _ _ _ _ W⟩
  · exact ⟨_, (bad_7 h1 h2).1, (bad_7 h1 h2).2, idx_7 _ _ _ _ _ _ _ _ _ _ _ _ _ _ _ _ _ _ _ _ _ _ _ _ _ _ _ _ _ _ _ _ _ _ _ _ _ _ _ _ _ _ _ _ _ _ _ _ _ _ _ _ _ _ _ _ _ _ _ _ _ _ _ _ _ _ _ _ _ _ _ _ W⟩
  · exact ⟨_, (bad_8 h1 h2).1, (bad_8 h1 h2).2, idx_8 _ _ _ _ _ _ _ _ _ _ _ _ _ _ _ _ _ _ _ _ _ _ _ _ _ _ _ _ _ _ _ _ _ _ _ _ _ _ _ _ _ _ _ _ _ _ _ _ _ _ _ _ _ _ _ _ _ _ _ _ _ _ _ _ _ _ _ _ _ _ _ _ W⟩
  · exact ⟨_, (bad_9 h1 h2).1, (bad_9 h1 h2).2, idx_9 _ _ _ _ _ _ _ _ _ _ _ _ _ _ _ _ _ _ _ _ _ _ _ _ _ _ _ _ _ _ _ _ _ _ _ _ _ _ _ _ _ _ _ _ _ _ _ _ _ _ _ _ _ _ _ _ _ _ _ _ _ _ _ _ _ _ _ _ _ _ _ _ W⟩
  · exact ⟨_, (bad_10 h1 h2).1, (bad_10 h1 h2).2, idx_10 _ _ _ _ _ _ _ _ _ _ _ _ _ _ _ _ _ _ _ _ _ _ _ _ _ _ _ _ _ _ _ _ _ _ _ _ _ _ _ _ _ _ _ _ _ _ _ _ _ _ _ _ _ _ _ _ _ _ _ _ _ _ _ _ _ _ _ _ _ _ _ _ W⟩
  · exact ⟨_, (bad_11 h1 h2).1, (bad_11 h1 h2).2, idx_11 _ _ _ _ _ _ _ _ _ _ _ _ _ _ _ _ _ _ _ _ _ _ _ _ _ _ _ _ _ _ _ _ _ _ _ _ _ _ _ _ _ _ _ _ _ _ _ _ _ _ _ _ _ _ _ _ _ _ _ _ _ _ _ _ _ _ _ _ _ _ _ _ W⟩

set_option maxHeartbeats 8000000 in
set_option maxRecDepth 100000 in
theorem wrong_law (l : List Nt) (wy at_ lo0 hi0 : Int) (hw : 0 ≤ wy ∧ wy ≤ 255) (ha : 0 ≤ at_ ∧ at_ ≤ 255) (hlo : -9223372036854775808 ≤ lo0 ∧ lo0 ≤ 9223372036854775807) (hhi : -9223372036854775808 ≤ hi0 ∧ hi0 ≤ 9223372036854775807) (p : Option Addr) (cap : Nat) (w : World) (hc : NCells w p l) (bd : ∀ y ∈ l, y.Bd) :
    Calls Try.prog 10 #[.slice p l.length cap, .int .u8 wy, .int .u8 at_, .int .i64 lo0, .int .i64 hi0] w fun e w' => e = .returned (.bool true) ∧ Below w.heap.size w w' := by
  have NC := Lib.hid hc
  have BT := Lib.hid (builtP_bt bd)
  have CB := Lib.hid (fun W h => built_is4 l p cap W h bd)
  generalize builtP l = F at *
  have hla := lastP_bt BT.out
  have h30 := BT.out.len
  clear hc bd
  go_enter Try.func10, Try.ntmps10
  go_wp2_with fail
  refine (awake_any _).mono ?_
  rintro e W1 ⟨rfl, hb⟩
  have B1 := Lib.hid hb
  have N1 := Lib.hid (NC.out.below hb)
  clear hb NC
  go_wp2_with fail
  refine (CB.out _ N1.out).mono ?_
  rintro e W2 ⟨q, cq, rfl, hq, hcq, hqs, hb⟩
  have B2 := Lib.hid (below_next B1.out hb)
  have F2 := Lib.hid hq
  clear hb hq B1 N1 CB
  obtain ⟨lo, hlod⟩ : ∃ lo : Int, lo = if -1 < lo0 then -1 else lo0 := ⟨_, rfl⟩
  obtain ⟨hi, hhid⟩ : ∃ hi : Int, hi = if hi0 < 65536 then 65536 else hi0 := ⟨_, rfl⟩
  have h1 : -9223372036854775808 ≤ lo ∧ lo ≤ -1 := by rw [hlod]; split <;> omega
  have h2 : 65536 ≤ hi ∧ hi ≤ 9223372036854775807 := by rw [hhid]; split <;> omega
  go_upto_region 4 with (fail)
  go_cut [3, 4] from 33 to 188 (fun v3 v4 wx => v3 = .int .i64 lo ∧ v4 = .int .i64 hi ∧ wx = W2)
  case first =>
    by_cases c1 : -1 < lo0
    · have e1 := Lib.hid (show (-1 : Int) = lo by rw [hlod, if_pos c1])
      by_cases c2 : hi0 < 65536
      · have e2 := Lib.hid (show (65536 : Int) = hi by rw [hhid, if_pos c2])
        clear hlod hhid
        go_wp2
        go_meet
        exact ⟨congrArg (Value.int .i64) e1.out, congrArg (Value.int .i64) e2.out, rfl⟩
      · have e2 := Lib.hid (show hi0 = hi by rw [hhid, if_neg c2])
        clear hlod hhid
        go_wp2
        go_meet
        exact ⟨congrArg (Value.int .i64) e1.out, congrArg (Value.int .i64) e2.out, rfl⟩
    · have e1 := Lib.hid (show lo0 = lo by rw [hlod, if_neg c1])
      by_cases c2 : hi0 < 65536
      · have e2 := Lib.hid (show (65536 : Int) = hi by rw [hhid, if_pos c2])
        clear hlod hhid
        go_wp2
        go_meet
        exact ⟨congrArg (Value.int .i64) e1.out, congrArg (Value.int .i64) e2.out, rfl⟩
      · have e2 := Lib.hid (show hi0 = hi by rw [hhid, if_neg c2])
        clear hlod hhid
        go_wp2
        go_meet
        exact ⟨congrArg (Value.int .i64) e1.out, congrArg (Value.int .i64) e2.out, rfl⟩
  case rest =>
  obtain ⟨rfl, rfl, hwx⟩ := hcut
  have hwx := hwx.symm
  subst hwx
  clear hlod hhid
  have hmh : ¬ hi < 401 := by omega
  go_upto_region 5 with (fail)
  go_cut [12] from 33 to 188 (fun v12 wx => v12 = .pointer (some ⟨W2.heap.size, 0, none⟩) ∧ ∃ f : Fl, wf f = false ∧ f.Bd ∧ wx = W2.alloc (.cells #[.int .u8 f.kind, .int .i64 f.day, .int .i64 f.case, .int .i64 f.n, .int .i64 f.til, .bool f.hold] 30))
  case first =>
    obtain ⟨f, hwf, hfb, hix⟩ := pick_bad h1 h2 wy W2
    have HIX := Lib.hid hix
    clear hix
    go_wp2_with (first | (with_reducible show wpList _ _ _ ({ dst := some 57, op := _, type := _, pos := _, after := _, guard := _ } :: _) _ _; refine wpList_build #[(0, .agg #[.int .u8 0, .int .i64 0, .int .i64 0, .int .i64 0, .int .i64 0, .bool false]), (1, .agg #[.int .u8 8, .int .i64 0, .int .i64 1, .int .i64 0, .int .i64 0, .bool false]), (2, .agg #[.int .u8 4, .int .i64 lo, .int .i64 0, .int .i64 3, .int .i64 0, .bool false]), (3, .agg #[.int .u8 4, .int .i64 hi, .int .i64 0, .int .i64 3, .int .i64 0, .bool false]), (4, .agg #[.int .u8 4, .int .i64 3, .int .i64 0, .int .i64 hi, .int .i64 0, .bool false]), (5, .agg #[.int .u8 1, .int .i64 3, .int .i64 0, .int .i64 1, .int .i64 9, .bool false]), (6, .agg #[.int .u8 1, .int .i64 3, .int .i64 0, .int .i64 2, .int .i64 2, .bool false]), (7, .agg #[.int .u8 1, .int .i64 3, .int .i64 0, .int .i64 2, .int .i64 hi, .bool false]), (8, .agg #[.int .u8 5, .int .i64 3, .int .i64 lo, .int .i64 0, .int .i64 0, .bool false]), (9, .agg #[.int .u8 6, .int .i64 3, .int .i64 1, .int .i64 3, .int .i64 0, .bool false]), (10, .agg #[.int .u8 3, .int .i64 3, .int .i64 1, .int .i64 0, .int .i64 0, .bool true]), (11, .agg #[.int .u8 7, .int .i64 3, .int .i64 1, .int .i64 0, .int .i64 5, .bool false])] (.agg #[.int .u8 0, .int .i64 0, .int .i64 0, .int .i64 0, .int .i64 0, .bool false, .int .u8 8, .int .i64 0, .int .i64 1, .int .i64 0, .int .i64 0, .bool false, .int .u8 4, .int .i64 lo, .int .i64 0, .int .i64 3, .int .i64 0, .bool false, .int .u8 4, .int .i64 hi, .int .i64 0, .int .i64 3, .int .i64 0, .bool false, .int .u8 4, .int .i64 3, .int .i64 0, .int .i64 hi, .int .i64 0, .bool false, .int .u8 1, .int .i64 3, .int .i64 0, .int .i64 1, .int .i64 9, .bool false, .int .u8 1, .int .i64 3, .int .i64 0, .int .i64 2, .int .i64 2, .bool false, .int .u8 1, .int .i64 3, .int .i64 0, .int .i64 2, .int .i64 hi, .bool false, .int .u8 5, .int .i64 3, .int .i64 lo, .int .i64 0, .int .i64 0, .bool false, .int .u8 6, .int .i64 3, .int .i64 1, .int .i64 3, .int .i64 0, .bool false, .int .u8 3, .int .i64 3, .int .i64 1, .int .i64 0, .int .i64 0, .bool true, .int .u8 7, .int .i64 3, .int .i64 1, .int .i64 0, .int .i64 5, .bool false]) rfl rfl (by kernel_rfl) (bld_all _ _ _ _ _ _ _ _ _ _ _ _ _ _ _ _ _ _ _ _ _ _ _ _ _ _ _ _ _ _ _ _ _ _ _ _ _ _ _ _ _ _ _ _ _ _ _ _ _ _ _ _ _ _ _ _ _ _ _ _ _ _ _ _ _ _ _ _ _ _ _ _ W2) ?_) | (with_reducible show wpList _ _ _ ({ dst := some 60, op := _, type := _, pos := _, after := _, guard := _ } :: _) _ _; refine wpList_index (.agg #[.int .u8 0, .int .i64 0, .int .i64 0, .int .i64 0, .int .i64 0, .bool false, .int .u8 8, .int .i64 0, .int .i64 1, .int .i64 0, .int .i64 0, .bool false, .int .u8 4, .int .i64 lo, .int .i64 0, .int .i64 3, .int .i64 0, .bool false, .int .u8 4, .int .i64 hi, .int .i64 0, .int .i64 3, .int .i64 0, .bool false, .int .u8 4, .int .i64 3, .int .i64 0, .int .i64 hi, .int .i64 0, .bool false, .int .u8 1, .int .i64 3, .int .i64 0, .int .i64 1, .int .i64 9, .bool false, .int .u8 1, .int .i64 3, .int .i64 0, .int .i64 2, .int .i64 2, .bool false, .int .u8 1, .int .i64 3, .int .i64 0, .int .i64 2, .int .i64 hi, .bool false, .int .u8 5, .int .i64 3, .int .i64 lo, .int .i64 0, .int .i64 0, .bool false, .int .u8 6, .int .i64 3, .int .i64 1, .int .i64 3, .int .i64 0, .bool false, .int .u8 3, .int .i64 3, .int .i64 1, .int .i64 0, .int .i64 0, .bool true, .int .u8 7, .int .i64 3, .int .i64 1, .int .i64 0, .int .i64 5, .bool false]) (.int .u8 (wy % 12)) _ rfl rfl rfl rfl HIX.out ?_) | fail)
    go_meet
    exact ⟨rfl, f, hwf, hfb, rfl⟩
  case rest =>
  obtain ⟨rfl, f, hwf, hfb, rfl⟩ := hcut
  have HWF := Lib.hid hwf
  have HFB := Lib.hid hfb
  have hkm : 0 ≤ at_ % ((F.length : Int) + 1) ∧ at_ % ((F.length : Int) + 1) ≤ F.length := by
    have a1 := Int.emod_nonneg at_ (show (F.length : Int) + 1 ≠ 0 by omega)
    have a2 := Int.emod_lt_of_pos at_ (show (0 : Int) < (F.length : Int) + 1 by omega)
    omega
  have hz : ¬ (F.length : Int) + 1 = 0 := by omega
  obtain ⟨k, hk⟩ : ∃ k : Nat, at_ % ((F.length : Int) + 1) = k := ⟨(at_ % ((F.length : Int) + 1)).toNat, by omega⟩
  rw [hk] at hkm
  have hkl : k ≤ F.length := by omega
  have hkc : (k : Int) ≤ (cq : Int) := by omega
  have hkn : (0 : Int) ≤ (k : Int) := by omega
  have hkf : (k : Int) ≤ (F.length : Int) := by omega
  have hfc : (F.length : Int) ≤ (cq : Int) := by omega
  have htm : at_.tmod ((F.length : Int) + 1) = k := by rw [Int.tmod_eq_emod_of_nonneg ha.1]; exact hk
  have hlk : (F.take k).length = k := by rw [List.length_take]; omega
  have hlk1 : (F.take k ++ [f]).length = k + 1 := by rw [List.length_append, hlk]; rfl
  have hld : (F.drop k).length = F.length - k := List.length_drop
  have LQ : ∀ g o, q = some ⟨g, o, none⟩ → g < W2.heap.size := by
    rcases hqs with ⟨e, _⟩ | ⟨g, e, hg⟩
    · intro g o e2; rw [e] at e2; cases e2
    · intro g2 o e2; rw [e] at e2; cases e2; exact hg
  have HX := Lib.hid (show GW W2.heap.size f q F W2 (W2.alloc (.cells #[.int .u8 f.kind, .int .i64 f.day, .int .i64 f.case, .int .i64 f.n, .int .i64 f.til, .bool f.hold] 30)) from ⟨World.alloc_heap_new W2 _, F2.out.alloc _, (Below.refl _ _).alloc (Nat.le_refl _) _, Nat.le_refl _, LQ⟩)
  go_upto_region 7 with (fail)
  go_cut [11, 14] from 33 to 188 (fun v11 v14 wx => v11 = .slice q F.length cq ∧ ∃ (p : Option Addr) (cp : Nat), v14 = .slice p (F.length + 1) cp ∧ FCells wx p (F.take k ++ [f] ++ F.drop k) ∧ GW W2.heap.size f q F W2 wx)
  case first =>
    rcases hqs with ⟨rfl, hF0, rfl⟩ | ⟨bq, rfl, hbq⟩
    · subst hF0
      obtain rfl : k = 0 := by simpa using hkl
      go_region_held3 (fun w9 => w9.cell? ⟨W2.heap.size, 0, none⟩ = some (.int .u8 f.kind) ∧ w9.cell? ⟨W2.heap.size, 1, none⟩ = some (.int .i64 f.day) ∧ w9.cell? ⟨W2.heap.size, 2, none⟩ = some (.int .i64 f.case) ∧ w9.cell? ⟨W2.heap.size, 3, none⟩ = some (.int .i64 f.n) ∧ w9.cell? ⟨W2.heap.size, 4, none⟩ = some (.int .i64 f.til) ∧ w9.cell? ⟨W2.heap.size, 5, none⟩ = some (.bool f.hold) ∧ Hid (GW W2.heap.size f (none) ([] : List Fl) W2 w9))
        (first | (exact (HX.out.drew).all) | (exact ((gwH (by assumption)).grown hg3 (own_lt ho2)).all) | (exact ((gwH (by assumption)).grown hg2 (own_lt ho1)).all) | (exact ((gwH (by assumption)).grown hg1 (by omega)).all) | (exact (HX.out.alloc _).drew.all) | (exact ((HX.out.alloc _).alloc _).drew.all) | (exact ((gwH (by assumption)).alloc _).all))
        (first
          | (refine step_app2 (by rfl) _ _ (by rfl) (W2.heap.size + 1) _ _ 0 [] rfl (by rfl) ?_ _ 0 _ (([] : List Fl).take 0) (by rfl) hlk ?_ ⟨by omega, by omega⟩ ?_ 0 (([] : List Fl).take 0) (Nat.zero_add 0) rfl ?_; exact own_empty (by first | exact a2_1 _ _ _ | exact a3_1 _ _ _ _ | exact a3_2 _ _ _ _) (by omega); exact (gwH (by assumption)).fl.take 0; exact (gwH (by assumption)).lt; intro g1 cap1 w1 ho1 hg1)
          | (refine step_app2 (by rfl) _ _ (by rfl) (W2.heap.size + 1) _ _ 0 (([] : List Fl).take 0) hlk (by rfl) ?_ _ 1 _ [f] (by rfl) rfl ?_ ⟨by omega, by omega⟩ ?_ (0 + 1) (([] : List Fl).take 0 ++ [f]) rfl rfl ?_; (first | exact ho1 | exact World.ownsRow.alloc ho1 _); (first | exact one_cells (a1_0 _ _) | exact one_cells ((hg1.block _ (by simp) (by simp)).trans (by first | exact a3_1 _ _ _ _ | exact a3_2 _ _ _ _))); exact (gwH (by assumption)).lt; intro g2 cap2 w2 ho2 hg2)
          | (refine step_app2 (by rfl) _ _ (by rfl) (W2.heap.size + 1) _ _ (0 + 1) (([] : List Fl).take 0 ++ [f]) hlk1 (by rfl) ?_ _ 0 _ (([] : List Fl).drop 0) (by rfl) hld ?_ ⟨by omega, by omega⟩ ?_ (([] : List Fl).length + 1) (([] : List Fl).take 0 ++ [f] ++ ([] : List Fl).drop 0) (by omega) rfl ?_; exact ho2; exact .inl rfl; exact (gwH (by assumption)).lt; intro g3 cap3 w3 ho3 hg3)
          | fail)
      all_goals
        have R3 := Lib.hid (And.intro (fown_cells ho3) (gwH (by assumption)))
        go_wp2
        all_goals (go_meet; exact ⟨by first | rfl | (congr 1; omega), _, _, rfl, R3.out.1, R3.out.2⟩)
    · have hk2 := hk
      go_region_held3 (fun w9 => w9.cell? ⟨W2.heap.size, 0, none⟩ = some (.int .u8 f.kind) ∧ w9.cell? ⟨W2.heap.size, 1, none⟩ = some (.int .i64 f.day) ∧ w9.cell? ⟨W2.heap.size, 2, none⟩ = some (.int .i64 f.case) ∧ w9.cell? ⟨W2.heap.size, 3, none⟩ = some (.int .i64 f.n) ∧ w9.cell? ⟨W2.heap.size, 4, none⟩ = some (.int .i64 f.til) ∧ w9.cell? ⟨W2.heap.size, 5, none⟩ = some (.bool f.hold) ∧ Hid (GW W2.heap.size f (some ⟨bq, 0, none⟩) F W2 w9))
        (first | (exact (HX.out.drew).all) | (exact ((gwH (by assumption)).grown hg3 (own_lt ho2)).all) | (exact ((gwH (by assumption)).grown hg2 (own_lt ho1)).all) | (exact ((gwH (by assumption)).grown hg1 (by omega)).all) | (exact (HX.out.alloc _).drew.all) | (exact ((HX.out.alloc _).alloc _).drew.all) | (exact ((gwH (by assumption)).alloc _).all))
        (first
          | (refine step_app2 (by rfl) _ _ (by rfl) (W2.heap.size + 1) _ _ 0 [] rfl (by rfl) ?_ _ k _ (F.take k) (by rfl) hlk ?_ ⟨by omega, by omega⟩ ?_ k (F.take k) (Nat.zero_add k) rfl ?_; exact own_empty (by first | exact a2_1 _ _ _ | exact a3_1 _ _ _ _ | exact a3_2 _ _ _ _) (by omega); exact (gwH (by assumption)).fl.take k; exact (gwH (by assumption)).lt; intro g1 cap1 w1 ho1 hg1)
          | (refine step_app2 (by rfl) _ _ (by rfl) (W2.heap.size + 1) _ _ k (F.take k) hlk (by rfl) ?_ _ 1 _ [f] (by rfl) rfl ?_ ⟨by omega, by omega⟩ ?_ (k + 1) (F.take k ++ [f]) rfl rfl ?_; (first | exact ho1 | exact World.ownsRow.alloc ho1 _); (first | exact one_cells (a1_0 _ _) | exact one_cells ((hg1.block _ (by simp) (by simp)).trans (by first | exact a3_1 _ _ _ _ | exact a3_2 _ _ _ _))); exact (gwH (by assumption)).lt; intro g2 cap2 w2 ho2 hg2)
          | (refine step_app2 (by rfl) _ _ (by rfl) (W2.heap.size + 1) _ _ (k + 1) (F.take k ++ [f]) hlk1 (by rfl) ?_ _ (F.length - k) _ (F.drop k) (by rfl) hld ?_ ⟨by omega, by omega⟩ ?_ (F.length + 1) (F.take k ++ [f] ++ F.drop k) (by omega) rfl ?_; exact ho2; exact drop_if (gwH (by assumption)).fl hcq; exact (gwH (by assumption)).lt; intro g3 cap3 w3 ho3 hg3)
          | fail)
      all_goals
        have R3 := Lib.hid (And.intro (fown_cells ho3) (gwH (by assumption)))
        go_wp2
        all_goals (go_meet; exact ⟨by first | rfl | (congr 1; omega), _, _, rfl, R3.out.1, R3.out.2⟩)
  case rest =>
  obtain ⟨rfl, pm, cp, rfl, hM, hGW⟩ := hcut
  have HGW := Lib.hid hGW
  have HMc := Lib.hid hM
  have MB := Lib.hid (show (∀ g ∈ (F.take k ++ [f] ++ F.drop k), g.Bd) ∧ (F.take k ++ [f] ++ F.drop k).length = F.length + 1 from ⟨fun g hg => by
    simp only [List.mem_append, List.mem_singleton] at hg
    rcases hg with (hg | rfl) | hg
    · exact BT.out.bd g (List.mem_of_mem_take hg)
    · exact HFB.out
    · exact BT.out.bd g (List.mem_of_mem_drop hg), by rw [List.length_append, hlk1, hld]; omega⟩)
  have RB := Lib.hid (wrong_plain (F := F) (k := k) HWF.out hkl h30)
  generalize F.take k ++ [f] ++ F.drop k = M at *
  have CR1 := Lib.hid (fun W h => run_is M pm cp W h MB.out.1 (by rw [MB.out.2]; omega))
  rw [MB.out.2] at CR1
  have CA1 := Lib.hid (fun d W h => at_is M d pm cp W h MB.out.1 (by rw [MB.out.2]; omega))
  rw [MB.out.2] at CA1
  have CA2 := Lib.hid (fun d W h => at_is F d (q) cq W h BT.out.bd (by omega))
  have CL2 := Lib.hid (fun W h => last_any F (q) cq W h BT.out.bd (by omega))
  have CR2 := Lib.hid (fun W h => run_is F (q) cq W h BT.out.bd (by omega))
  clear hM hGW
  go_wp2_with fail
  refine (CR1.out _ HMc.out).mono ?_
  rintro e W4 ⟨r1, c1, rfl, hr1, hb⟩
  have B4 := Lib.hid (below_next HGW.out.bel hb)
  have F4 := Lib.hid (HGW.out.fl.below hb)
  have M4 := Lib.hid (HMc.out.below hb)
  have R4 := Lib.hid hr1
  clear hb hr1 HGW HMc CR1
  go_wp2_with fail
  refine (CR2.out _ F4.out).mono ?_
  rintro e W5 ⟨r2, c2, rfl, hr2, hb⟩
  have B5 := Lib.hid (below_next B4.out hb)
  have F5 := Lib.hid (F4.out.below hb)
  have M5 := Lib.hid (M4.out.below hb)
  have R5 := Lib.hid (R4.out.below hb)
  have S5 := Lib.hid hr2
  clear hb hr2 B4 F4 M4 R4 CR2
  obtain ⟨g1, rfl, hce1⟩ := R5.out k (by rw [errsD_length, MB.out.2]; omega)
  rw [RB.out.bad] at hce1
  have hkm2 : (k : Int) < (F.length : Int) + 1 := by omega
  go_wp2
  go_loopw [105] (fun i wr => ∃ j m : Nat, j ≤ F.length ∧ i = .int .i64 j ∧ wr = W5.drewN m) (fun i _ => F.length - (intOf i).toNat)
  case atStart => exact ⟨0, 0, by omega, rfl, rfl⟩
  case round =>
    obtain ⟨j, m, hj, rfl, rfl⟩ := hrel
    by_cases hlt : j < F.length
    · obtain ⟨g2, rfl, hce2⟩ := S5.out j (by rw [errsD_length]; exact hlt)
      have hjn : (0 : Int) ≤ (j : Int) := by omega
      have hjl : (j : Int) < (F.length : Int) := by omega
      by_cases hjk : j < k
      · obtain ⟨g3, e3, hce3⟩ := R5.out j (by rw [errsD_length, MB.out.2]; omega)
        cases e3
        rw [RB.out.low j hlt hjk] at hce3
        have hjk2 : ¬ (k : Int) ≤ (j : Int) := by omega
        have hjl2 : (j : Int) < (F.length : Int) + 1 := by omega
        generalize (errsD F)[j]'(by rw [errsD_length]; exact hlt) = ev at *
        clear hce1
        go_wp2
        go_roundw
        case rel => exact ⟨j + 1, m, by omega, by go_num, rfl⟩
        case measure => simp [intOf]; omega
      · obtain ⟨g3, e3, hce3⟩ := R5.out (j + 1) (by rw [errsD_length, MB.out.2]; omega)
        cases e3
        rw [RB.out.high j hlt (by omega)] at hce3
        have hjk2 : (k : Int) ≤ (j : Int) := by omega
        have hjl2 : (j : Int) + 1 < (F.length : Int) + 1 := by omega
        have hjt : ((j : Int) + 1).toNat = j + 1 := by omega
        generalize (errsD F)[j]'(by rw [errsD_length]; exact hlt) = ev at *
        clear hce1
        go_wp2
        go_roundw
        case rel => exact ⟨j + 1, m, by omega, by go_num, rfl⟩
        case measure => simp [intOf]; omega
    · obtain rfl : j = F.length := by omega
      have B6 := Lib.hid (show Below W2.heap.size W2 (W5.drewN m) from below_drewN B5.out m)
      have F6 := Lib.hid (show FCells (W5.drewN m) (q) F from F5.out)
      have M6 := Lib.hid (show FCells (W5.drewN m) pm M from M5.out)
      generalize W5.drewN m = W6 at *
      clear R5 S5 M5 F5 B5 hce1
      have E1 := Lib.hid (RB.out.at_)
      have E2 := Lib.hid (RB.out.atd)
      have A1 := Lib.hid (atD_last (l := F) (Int.le_refl (lastP F)) (by omega))
      have G1 := Lib.hid (show atErr F lo = 2 from atErr_bad (by omega))
      have G2 := Lib.hid (show atErr F hi = 2 from atErr_bad (by omega))
      have G3 := Lib.hid (show atErr F (lastP F - 1) = if lastP F = 0 then 2 else 400 from by
        by_cases z : lastP F = 0
        · rw [if_pos z]; exact atErr_bad (by omega)
        · rw [if_neg z]
          refine atErr_day (by omega) ?_
          unfold lastP at z ⊢
          omega)
      have L1 := Lib.hid (atD_len F (lastP F))
      have L2 := Lib.hid (atD_held F (lastP F))
      generalize lastP F = la at *
      go_wp2_with fail
      refine (CL2.out _ F6.out).mono ?_
      rintro e W7 ⟨rfl, hb⟩
      have B7 := Lib.hid (below_next B6.out hb)
      have F7 := Lib.hid (F6.out.below hb)
      have M7 := Lib.hid (M6.out.below hb)
      clear hb B6 F6 M6 CL2
      go_wp2_with fail
      refine (CA2.out la _ F7.out).mono ?_
      rintro e W8 ⟨qa, ca, rfl, ha, hb⟩
      rw [A1.out.1]
      have B8 := Lib.hid (below_next B7.out hb)
      have F8 := Lib.hid (F7.out.below hb)
      have M8 := Lib.hid (M7.out.below hb)
      have P8 := Lib.hid ha
      clear hb ha B7 F7 M7
      go_wp2_with fail
      refine (CA1.out la _ M8.out).mono ?_
      rintro e W9 ⟨qb, cb, rfl, ha, hb⟩
      rw [E1.out la, E2.out la, A1.out.1]
      rw [E2.out la] at ha
      have B9 := Lib.hid (below_next B8.out hb)
      have F9 := Lib.hid (F8.out.below hb)
      have P9 := Lib.hid (P8.out.below hb)
      have Q9 := Lib.hid ha
      clear hb ha B8 F8 M8 P8 CA1
      go_wp2_with fail
      refine (CA2.out lo _ F9.out).mono ?_
      rintro e W10 ⟨qc, cc, rfl, _, hb⟩
      rw [G1.out]
      have B10 := Lib.hid (below_next B9.out hb)
      have F10 := Lib.hid (F9.out.below hb)
      have P10 := Lib.hid (P9.out.below hb)
      have Q10 := Lib.hid (Q9.out.below hb)
      clear hb B9 F9 P9 Q9
      go_wp2_with fail
      refine (CA2.out hi _ F10.out).mono ?_
      rintro e W11 ⟨qd, cd, rfl, _, hb⟩
      rw [G2.out]
      have B11 := Lib.hid (below_next B10.out hb)
      have F11 := Lib.hid (F10.out.below hb)
      have P11 := Lib.hid (P10.out.below hb)
      have Q11 := Lib.hid (Q10.out.below hb)
      clear hb B10 F10 P10 Q10
      go_wp2_with fail
      refine (CA2.out (la - 1) _ F11.out).mono ?_
      rintro e W12 ⟨qe, ce, rfl, _, hb⟩
      have B12 := Lib.hid (below_next B11.out hb)
      have P12 := Lib.hid (P11.out.below hb)
      have Q12 := Lib.hid (Q11.out.below hb)
      clear hb B11 F11 P11 Q11 CA2
      generalize (atD F lo).length = n1 at *
      generalize (atD F hi).length = n2 at *
      generalize (atD F (la - 1)).length = n3 at *
      by_cases z : la = 0
      · have zz : (la == 0) = true := by simpa using z
        rw [G3.out, if_pos z]
        clear z
        go_wp2_with fail
        refine (sameCases_yes (atD F la) qa qb ca cb _ (by have := L1.out; omega) L2.out P12.out Q12.out).mono ?_
        rintro e W13 ⟨rfl, hb⟩
        have B13 := Lib.hid (B2.out.trans ((below_next B12.out hb).mono B2.out.size))
        go_wp2
        go_ret
        exact ⟨rfl, B13.out⟩
      · have zz : (la == 0) = false := by simpa using z
        have z0 : decide (0 < la) = true := by simp; omega
        rw [G3.out, if_neg z]
        clear z
        go_wp2_with fail
        refine (sameCases_yes (atD F la) qa qb ca cb _ (by have := L1.out; omega) L2.out P12.out Q12.out).mono ?_
        rintro e W13 ⟨rfl, hb⟩
        have B13 := Lib.hid (B2.out.trans ((below_next B12.out hb).mono B2.out.size))
        go_wp2
        go_ret
        exact ⟨rfl, B13.out⟩

end Go.Proofs.Ytbpoedopdnjffaa
