/-
  No cell of these rows narrows 'for every input' (looked for: loops, veiled, ifaces, maps, wideKeys, modest, calm, conditions, laid).
  DERIVED. THE GIVEN ROWS OF THIS SEAT. 2 by the template 'for every input the law returns true; each argument reads behind the call as it read before'; 0 by the template 'total and deterministic' (their statements: YtbpoedopdnjffaaGreatTotals.lean).
  GIVEN WITH THE SEED: the statements are not yours to turn. If you find one false, say at which input.
  Laid BY PROGRAM, IN A SANDBOX (cutbox-rows.mjs): the forced cells as the released guide's own fill.sh prints them over the translation 198f739deb376ca9… (all of the seat's roots in one cut). By AI agents, Wed Nov 11 2026. No macro, syntax, notation, axiom, sorry.
-/
import Derived.Test.YtbpoedopdnjffaaGreatChecked
import GoSem.Claim
import GoSem.ClaimJoined
import GoSem.ClaimMapViews
import Derived.JoinedTies
import Derived.KernelRfl
namespace Go.Proofs.YtbpoedopdnjffaaGreat
/- THE CELL 'sum', in the pinned program and in every row, IS THE sha256 OF THE DUMP (.gsa) THAT YtbpoedopdnjffaaGreatProg.lean LOADS. Nothing in Lean hashes anything: it is a label: what it is worth is what the hold of that sum in a sandbox is worth. -/
noncomputable def Tryz.pinned : Pinned := { name := "ytbpoedopdnjffaagreat", sum := "198f739deb376ca91a811333a090248d67833f530d1f32534c18e846ec4edcd6", checked := Tryz.checked }
namespace Rows
def none {H : Type} : Left H := { results := [], args := [] }

/-- 'annuitantlaw40.AppealRuns': WHATEVER THE INPUT: true; the input reads as it did. -/
def appealRunsSpec : ChangeSpec := { name := "appealRuns", fn := fun _ => fun
  | [d1, d2] => { results := [.lit (.bool true)], args := [d1, d2] }
  | _ => none }
def appealRunsRow : OpenClaim := { program := "ytbpoedopdnjffaagreat", sum := "198f739deb376ca91a811333a090248d67833f530d1f32534c18e846ec4edcd6", func := "annuitant/annuitantlaw40.AppealRuns", spec := "appealRuns", unfollowed := true, recurses := true, apart := false }
def AppealRunsSaid : Prop := appealRunsRow.holds Tryz.pinned (OpenSpec.ofChange appealRunsSpec)

/-- ITS FALSE NEIGHBOUR: 'it returns false'. Refute it at one input. -/
def appealRunsWrong : ChangeSpec := { name := "appealRuns", fn := fun _ => fun
  | [d1, d2] => { results := [.lit (.bool false)], args := [d1, d2] }
  | _ => none }
def AppealRunsWrongFalsely : Prop := appealRunsRow.holds Tryz.pinned (OpenSpec.ofChange appealRunsWrong)

/-- 'annuitantlaw40.AppealSmall': WHATEVER THE INPUT: true; the input reads as it did. -/
def appealSmallSpec : ChangeSpec := { name := "appealSmall", fn := fun _ => fun
  | [] => { results := [.lit (.bool true)], args := [] }
  | _ => none }
def appealSmallRow : OpenClaim := { program := "ytbpoedopdnjffaagreat", sum := "198f739deb376ca91a811333a090248d67833f530d1f32534c18e846ec4edcd6", func := "annuitant/annuitantlaw40.AppealSmall", spec := "appealSmall", unfollowed := true, recurses := true, apart := false }
def AppealSmallSaid : Prop := appealSmallRow.holds Tryz.pinned (OpenSpec.ofChange appealSmallSpec)

/-- ITS FALSE NEIGHBOUR: 'it returns false'. Refute it at one input. -/
def appealSmallWrong : ChangeSpec := { name := "appealSmall", fn := fun _ => fun
  | [] => { results := [.lit (.bool false)], args := [] }
  | _ => none }
def AppealSmallWrongFalsely : Prop := appealSmallRow.holds Tryz.pinned (OpenSpec.ofChange appealSmallWrong)

/- THE SECOND FORM. 'bulk': how many values and letters a reading holds, each counted each time it is reached (what is shared counts as often as it is met; a slice's spare places count too). A statement '..UptoSaid' is the law's where the arguments, and the package variables that the reading takes, are together of bulk at most 1048576: NARROWER than '..Said'. Prove '..Said' where nothing that the law and all that it calls make is longer than what came in: it says more and counts as full. Else prove '..UptoSaid'. A law counts once. -/
mutual
def uptoBulk {H : Type} : DataW H → Nat
  | .lit (.string bytes) => bytes.length + 1
  | .lit _ => 1
  | .nil => 1
  | .ptr d => uptoBulk d + 1
  | .slice elems spare => uptoBulkAll elems + uptoBulkAll spare + 1
  | .agg parts => uptoBulkAll parts + 1
  | .iface _ d => uptoBulk d + 1
  | .map entries => uptoBulkEntries entries + 1
  | .held _ => 1
def uptoBulkAll {H : Type} : List (DataW H) → Nat
  | [] => 0
  | d :: r => uptoBulk d + uptoBulkAll r
def uptoBulkEntries {H : Type} : List (Lit × DataW H) → Nat
  | [] => 0
  | x :: r => uptoBulkEntry x + uptoBulkEntries r
def uptoBulkEntry {H : Type} : Lit × DataW H → Nat
  | (.string bytes, d) => bytes.length + uptoBulk d + 1
  | (_, d) => uptoBulk d + 1
 end
def uptoSmall : (H : Type) → List (DataW H) → Bool := fun _ ds => decide (uptoBulkAll ds ≤ 1048576)
def OpenSpec.upto (s : _root_.Go.ChangeSpec) : _root_.Go.OpenSpec := { _root_.Go.OpenSpec.ofChange s with cond := some uptoSmall }

/-- 'annuitantlaw40.AppealRuns', WHERE WHAT IT READS IS OF BULK AT MOST 1048576: true; the input reads as it did. -/
def appealRunsUptoRow : OpenClaim := { program := "ytbpoedopdnjffaagreat", sum := "198f739deb376ca91a811333a090248d67833f530d1f32534c18e846ec4edcd6", func := "annuitant/annuitantlaw40.AppealRuns", spec := "appealRuns", unfollowed := true, recurses := true, apart := false, narrowed := true }
def AppealRunsUptoSaid : Prop := appealRunsUptoRow.holds Tryz.pinned (OpenSpec.upto appealRunsSpec)

/-- 'annuitantlaw40.AppealSmall', WHERE WHAT IT READS IS OF BULK AT MOST 1048576: true; the input reads as it did. -/
def appealSmallUptoRow : OpenClaim := { program := "ytbpoedopdnjffaagreat", sum := "198f739deb376ca91a811333a090248d67833f530d1f32534c18e846ec4edcd6", func := "annuitant/annuitantlaw40.AppealSmall", spec := "appealSmall", unfollowed := true, recurses := true, apart := false, narrowed := true }
def AppealSmallUptoSaid : Prop := appealSmallUptoRow.holds Tryz.pinned (OpenSpec.upto appealSmallSpec)

end Rows
end Go.Proofs.YtbpoedopdnjffaaGreat
