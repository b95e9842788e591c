/- The plain dockets that Built makes of notes. No program in sight. -/
import Derived.Test.YtbpoedopdnjffaaApPlain3
namespace Sp

/-- A filing in small numbers. -/
structure Nt where
  kind : Int
  gap : Int
  case : Int
  n : Int
  hold : Bool
structure Nt.Bd (x : Nt) : Prop where
  kind : 0 ≤ x.kind ∧ x.kind ≤ 255
  gap : 0 ≤ x.gap ∧ x.gap ≤ 255
  case : 0 ≤ x.case ∧ x.case ≤ 255
  n : 0 ≤ x.n ∧ x.n ≤ 255

/-- The day of a note. -/
def bday (d : Int) (x : Nt) : Int := if 240 ≤ x.gap then d + x.gap % 48 + 300 else if x.gap = 239 then d + x.gap % 48 - 1 else d + x.gap % 48
/-- The filing of a note on a day. -/
def noteF (d : Int) (x : Nt) : Fl :=
  if x.kind % 7 = 0 then ⟨1, d, 0, 2 + x.n % 8, d + x.n, false⟩
  else if x.kind % 7 = 3 then ⟨4, d, 0, 1 + x.n, 0, false⟩
  else if x.kind % 7 = 1 then ⟨2, d, 1 + x.case % 4, 1 + x.n % 9, 0, false⟩
  else if x.kind % 7 = 5 then ⟨6, d, 1 + x.case % 4, 1 + x.n % 2, 0, false⟩
  else if x.kind % 7 = 4 then ⟨5, d, 1 + x.case % 4, 0, 0, x.hold⟩
  else ⟨1 + x.kind % 7, d, 1 + x.case % 4, 0, 0, false⟩
def builtFrom (d : Int) : List Nt → List Fl
  | [] => []
  | x :: l => noteF (bday d x) x :: builtFrom (bday d x) l
def bdays (d : Int) (l : List Nt) : Int := l.foldl bday d
def builtP (l : List Nt) : List Fl := builtFrom 0 (l.take 30)
theorem builtFrom_snoc (d : Int) (l : List Nt) (x : Nt) : builtFrom d (l ++ [x]) = builtFrom d l ++ [noteF (bday (bdays d l) x) x] := by
  induction l generalizing d with
  | nil => rfl
  | cons y l ih => rw [List.cons_append, builtFrom, ih]; rfl
theorem bdays_snoc (d : Int) (l : List Nt) (x : Nt) : bdays d (l ++ [x]) = bday (bdays d l) x := by unfold bdays; rw [List.foldl_append]; rfl
theorem builtFrom_length (d : Int) (l : List Nt) : (builtFrom d l).length = l.length := by
  induction l generalizing d with
  | nil => rfl
  | cons y l ih => rw [builtFrom, List.length_cons, ih]; rfl
theorem builtP_len (l : List Nt) : (builtP l).length ≤ 30 := by unfold builtP; rw [builtFrom_length, List.length_take]; omega
theorem bday_bd {d : Int} {x : Nt} (h : x.Bd) (_hd : 0 ≤ d) : d ≤ bday d x ∧ bday d x ≤ d + 347 := by
  have := h.gap
  unfold bday
  split
  · omega
  · split
    · rename_i e; rw [e]; omega
    · omega
theorem bdays_bd {l : List Nt} (h : ∀ x ∈ l, x.Bd) {d : Int} (hd : 0 ≤ d) : d ≤ bdays d l ∧ bdays d l ≤ d + 347 * l.length := by
  induction l generalizing d with
  | nil => simp [bdays]
  | cons y l ih =>
    have h1 := bday_bd (h y (List.mem_cons_self ..)) hd
    have h2 := ih (fun x hx => h x (List.mem_cons_of_mem _ hx)) (d := bday d y) (by omega)
    unfold bdays at h2 ⊢
    rw [List.foldl_cons, List.length_cons]
    omega
theorem noteF_wf {d : Int} {x : Nt} (h : x.Bd) (hd : 0 ≤ d ∧ d ≤ 20000) : (noteF d x).Wf := by
  have h1 := h.kind
  have h2 := h.case
  have h3 := h.n
  have hk : 0 ≤ x.kind % 7 ∧ x.kind % 7 < 7 := by omega
  unfold noteF
  split
  · exact ⟨by dsimp only; omega, by dsimp only; omega, by intro _; dsimp only; exact ⟨rfl, rfl, by omega, by omega, by omega, by omega⟩, by dsimp only; omega, by dsimp only; omega, by dsimp only; omega, by dsimp only; omega, by dsimp only; omega, by dsimp only; omega⟩
  · split
    · exact ⟨by dsimp only; omega, by dsimp only; omega, by dsimp only; omega, by intro _; dsimp only; exact ⟨rfl, rfl, rfl, by omega, by omega⟩, by dsimp only; omega, by dsimp only; omega, by dsimp only; omega, by dsimp only; omega, by dsimp only; omega⟩
    · split
      · exact ⟨by dsimp only; omega, by dsimp only; omega, by dsimp only; omega, by dsimp only; omega, by dsimp only; omega, by intro _; dsimp only; exact ⟨rfl, by omega, by omega⟩, by dsimp only; omega, by dsimp only; omega, by dsimp only; omega⟩
      · split
        · exact ⟨by dsimp only; omega, by dsimp only; omega, by dsimp only; omega, by dsimp only; omega, by dsimp only; omega, by dsimp only; omega, by dsimp only; omega, by dsimp only; omega, by intro _; dsimp only; exact ⟨rfl, by omega⟩⟩
        · split
          · exact ⟨by dsimp only; omega, by dsimp only; omega, by dsimp only; omega, by dsimp only; omega, by dsimp only; omega, by dsimp only; omega, by dsimp only; omega, by dsimp only; omega, by dsimp only; omega⟩
          · exact ⟨by dsimp only; omega, by dsimp only; omega, by dsimp only; omega, by dsimp only; omega, by dsimp only; omega, by dsimp only; omega, by intro _; exact ⟨rfl, rfl⟩, by dsimp only; omega, by dsimp only; omega⟩
theorem noteF_day (d : Int) (x : Nt) : (noteF d x).day = d := by unfold noteF; (repeat' split) <;> rfl
theorem builtFrom_wf {l : List Nt} (h : ∀ x ∈ l, x.Bd) : ∀ {d : Int}, 0 ≤ d → d + 347 * l.length ≤ 20000 → ∀ f ∈ builtFrom d l, f.Wf ∧ f.day ≤ 20000 := by
  induction l with
  | nil => intro d _ _ f hf; cases hf
  | cons y l ih =>
    intro d hd hb f hf
    have h1 := bday_bd (h y (List.mem_cons_self ..)) hd
    rw [List.length_cons] at hb
    rw [builtFrom] at hf
    rcases List.mem_cons.1 hf with rfl | hf
    · exact ⟨noteF_wf (h y (List.mem_cons_self ..)) (by omega), by rw [noteF_day]; omega⟩
    · exact ih (fun x hx => h x (List.mem_cons_of_mem _ hx)) (by omega) (by omega) f hf
theorem builtP_wf {l : List Nt} (h : ∀ x ∈ l, x.Bd) : ∀ f ∈ builtP l, f.Wf ∧ f.day ≤ 20000 :=
  builtFrom_wf (fun x hx => h x (List.mem_of_mem_take hx)) (Int.le_refl _) (by rw [List.length_take]; omega)
theorem Fl.Wf.bd {f : Fl} (h : f.Wf) (hc : f.case ≤ 9223372036854775807) : f.Bd := by
  have h1 := h.kind
  have h2 := h.day
  by_cases k1 : f.kind = 1
  · have := h.k1 k1; exact ⟨by omega, by omega, by omega, by omega, by omega⟩
  · by_cases k4 : f.kind = 4
    · have := h.k4 k4; exact ⟨by omega, by omega, by omega, by omega, by omega⟩
    · have h3 := h.kc k1 k4
      have h4 := h.k2
      have h5 := h.k37
      have h6 := h.k5
      have h7 := h.k6
      refine ⟨by omega, by omega, by omega, ?_, by omega⟩
      rcases (show f.kind = 2 ∨ (f.kind = 3 ∨ f.kind = 7) ∨ f.kind = 5 ∨ f.kind = 6 by omega) with e | e | e | e
      · have := h4 e; omega
      · have := h5 e; omega
      · have := h6 e; omega
      · have := h7 e; omega
theorem noteF_case {d : Int} {x : Nt} (h : x.Bd) : (noteF d x).case ≤ 4 := by
  have := h.case
  unfold noteF
  (repeat' split) <;> dsimp only <;> omega
theorem builtFrom_case {l : List Nt} (h : ∀ x ∈ l, x.Bd) : ∀ {d : Int}, ∀ f ∈ builtFrom d l, f.case ≤ 4 := by
  induction l with
  | nil => intro d f hf; cases hf
  | cons y l ih =>
    intro d f hf
    rw [builtFrom] at hf
    rcases List.mem_cons.1 hf with rfl | hf
    · exact noteF_case (h y (List.mem_cons_self ..))
    · exact ih (fun x hx => h x (List.mem_cons_of_mem _ hx)) f hf
theorem builtP_bd {l : List Nt} (h : ∀ x ∈ l, x.Bd) : ∀ f ∈ builtP l, f.Bd := fun f hf =>
  (builtP_wf h f hf).1.bd (by have := builtFrom_case (fun x hx => h x (List.mem_of_mem_take hx)) f hf; omega)
end Sp
