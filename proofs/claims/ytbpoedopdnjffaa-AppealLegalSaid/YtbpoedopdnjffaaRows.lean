/-
  No cell of these rows narrows 'for every input' (looked for: loops, veiled, ifaces, maps, wideKeys, modest, calm, conditions, laid).
  DERIVED. THE GIVEN ROWS OF THIS SEAT. 8 by the template 'for every input the law returns true; each argument reads behind the call as it read before'; 0 by the template 'total and deterministic' (their statements: YtbpoedopdnjffaaTotals.lean).
  GIVEN WITH THE SEED: the statements are not yours to turn. If you find one false, say at which input.
  Laid BY PROGRAM, IN A SANDBOX (cutbox-rows.mjs): the forced cells as the released guide's own fill.sh prints them over the translation 858e6cc6bc86d312… (all of the seat's roots in one cut). By AI agents, Wed Nov 11 2026. No macro, syntax, notation, axiom, sorry.
-/
import Derived.Test.YtbpoedopdnjffaaChecked
import GoSem.Claim
import GoSem.ClaimJoined
import GoSem.ClaimMapViews
import Derived.JoinedTies
import Derived.KernelRfl
namespace Go.Proofs.Ytbpoedopdnjffaa
/- THE CELL 'sum', in the pinned program and in every row, IS THE sha256 OF THE DUMP (.gsa) THAT YtbpoedopdnjffaaProg.lean LOADS. Nothing in Lean hashes anything: it is a label: what it is worth is what the hold of that sum in a sandbox is worth. -/
noncomputable def Try.pinned : Pinned := { name := "ytbpoedopdnjffaa", sum := "858e6cc6bc86d312dc62f606c44d791c1ed8e2d8db298d1396ae9c210e42ef9c", checked := Try.checked }
namespace Rows
def none {H : Type} : Left H := { results := [], args := [] }

/-- 'annuitantlaw40.AppealAsks': WHATEVER THE INPUT: true; the input reads as it did. -/
def appealAsksSpec : ChangeSpec := { name := "appealAsks", fn := fun _ => fun
  | [d1, d2, d3] => { results := [.lit (.bool true)], args := [d1, d2, d3] }
  | _ => none }
def appealAsksRow : OpenClaim := { program := "ytbpoedopdnjffaa", sum := "858e6cc6bc86d312dc62f606c44d791c1ed8e2d8db298d1396ae9c210e42ef9c", func := "annuitant/annuitantlaw40.AppealAsks", spec := "appealAsks", unfollowed := true, recurses := true, apart := false }
def AppealAsksSaid : Prop := appealAsksRow.holds Try.pinned (OpenSpec.ofChange appealAsksSpec)

/-- ITS FALSE NEIGHBOUR: 'it returns false'. Refute it at one input. -/
def appealAsksWrong : ChangeSpec := { name := "appealAsks", fn := fun _ => fun
  | [d1, d2, d3] => { results := [.lit (.bool false)], args := [d1, d2, d3] }
  | _ => none }
def AppealAsksWrongFalsely : Prop := appealAsksRow.holds Try.pinned (OpenSpec.ofChange appealAsksWrong)

/-- 'annuitantlaw40.AppealLegal': WHATEVER THE INPUT: true; the input reads as it did. -/
def appealLegalSpec : ChangeSpec := { name := "appealLegal", fn := fun _ => fun
  | [d] => { results := [.lit (.bool true)], args := [d] }
  | _ => none }
def appealLegalRow : OpenClaim := { program := "ytbpoedopdnjffaa", sum := "858e6cc6bc86d312dc62f606c44d791c1ed8e2d8db298d1396ae9c210e42ef9c", func := "annuitant/annuitantlaw40.AppealLegal", spec := "appealLegal", unfollowed := true, recurses := true, apart := false }
def AppealLegalSaid : Prop := appealLegalRow.holds Try.pinned (OpenSpec.ofChange appealLegalSpec)

/-- ITS FALSE NEIGHBOUR: 'it returns false'. Refute it at one input. -/
def appealLegalWrong : ChangeSpec := { name := "appealLegal", fn := fun _ => fun
  | [d] => { results := [.lit (.bool false)], args := [d] }
  | _ => none }
def AppealLegalWrongFalsely : Prop := appealLegalRow.holds Try.pinned (OpenSpec.ofChange appealLegalWrong)

/-- 'annuitantlaw40.AppealTime': WHATEVER THE INPUT: true; the input reads as it did. -/
def appealTimeSpec : ChangeSpec := { name := "appealTime", fn := fun _ => fun
  | [d1, d2] => { results := [.lit (.bool true)], args := [d1, d2] }
  | _ => none }
def appealTimeRow : OpenClaim := { program := "ytbpoedopdnjffaa", sum := "858e6cc6bc86d312dc62f606c44d791c1ed8e2d8db298d1396ae9c210e42ef9c", func := "annuitant/annuitantlaw40.AppealTime", spec := "appealTime", unfollowed := true, recurses := true, apart := false }
def AppealTimeSaid : Prop := appealTimeRow.holds Try.pinned (OpenSpec.ofChange appealTimeSpec)

/-- ITS FALSE NEIGHBOUR: 'it returns false'. Refute it at one input. -/
def appealTimeWrong : ChangeSpec := { name := "appealTime", fn := fun _ => fun
  | [d1, d2] => { results := [.lit (.bool false)], args := [d1, d2] }
  | _ => none }
def AppealTimeWrongFalsely : Prop := appealTimeRow.holds Try.pinned (OpenSpec.ofChange appealTimeWrong)

/-- 'annuitantlaw40.AppealHeld': WHATEVER THE INPUT: true; the input reads as it did. -/
def appealHeldSpec : ChangeSpec := { name := "appealHeld", fn := fun _ => fun
  | [d1, d2, d3] => { results := [.lit (.bool true)], args := [d1, d2, d3] }
  | _ => none }
def appealHeldRow : OpenClaim := { program := "ytbpoedopdnjffaa", sum := "858e6cc6bc86d312dc62f606c44d791c1ed8e2d8db298d1396ae9c210e42ef9c", func := "annuitant/annuitantlaw40.AppealHeld", spec := "appealHeld", unfollowed := true, recurses := true, apart := false }
def AppealHeldSaid : Prop := appealHeldRow.holds Try.pinned (OpenSpec.ofChange appealHeldSpec)

/-- ITS FALSE NEIGHBOUR: 'it returns false'. Refute it at one input. -/
def appealHeldWrong : ChangeSpec := { name := "appealHeld", fn := fun _ => fun
  | [d1, d2, d3] => { results := [.lit (.bool false)], args := [d1, d2, d3] }
  | _ => none }
def AppealHeldWrongFalsely : Prop := appealHeldRow.holds Try.pinned (OpenSpec.ofChange appealHeldWrong)

/-- 'annuitantlaw40.AppealRejected': WHATEVER THE INPUT: true; the input reads as it did. -/
def appealRejectedSpec : ChangeSpec := { name := "appealRejected", fn := fun _ => fun
  | [d1, d2] => { results := [.lit (.bool true)], args := [d1, d2] }
  | _ => none }
def appealRejectedRow : OpenClaim := { program := "ytbpoedopdnjffaa", sum := "858e6cc6bc86d312dc62f606c44d791c1ed8e2d8db298d1396ae9c210e42ef9c", func := "annuitant/annuitantlaw40.AppealRejected", spec := "appealRejected", unfollowed := true, recurses := true, apart := false }
def AppealRejectedSaid : Prop := appealRejectedRow.holds Try.pinned (OpenSpec.ofChange appealRejectedSpec)

/-- ITS FALSE NEIGHBOUR: 'it returns false'. Refute it at one input. -/
def appealRejectedWrong : ChangeSpec := { name := "appealRejected", fn := fun _ => fun
  | [d1, d2] => { results := [.lit (.bool false)], args := [d1, d2] }
  | _ => none }
def AppealRejectedWrongFalsely : Prop := appealRejectedRow.holds Try.pinned (OpenSpec.ofChange appealRejectedWrong)

/-- 'annuitantlaw40.AppealSettles': WHATEVER THE INPUT: true; the input reads as it did. -/
def appealSettlesSpec : ChangeSpec := { name := "appealSettles", fn := fun _ => fun
  | [d1, d2] => { results := [.lit (.bool true)], args := [d1, d2] }
  | _ => none }
def appealSettlesRow : OpenClaim := { program := "ytbpoedopdnjffaa", sum := "858e6cc6bc86d312dc62f606c44d791c1ed8e2d8db298d1396ae9c210e42ef9c", func := "annuitant/annuitantlaw40.AppealSettles", spec := "appealSettles", unfollowed := true, recurses := true, apart := false }
def AppealSettlesSaid : Prop := appealSettlesRow.holds Try.pinned (OpenSpec.ofChange appealSettlesSpec)

/-- ITS FALSE NEIGHBOUR: 'it returns false'. Refute it at one input. -/
def appealSettlesWrong : ChangeSpec := { name := "appealSettles", fn := fun _ => fun
  | [d1, d2] => { results := [.lit (.bool false)], args := [d1, d2] }
  | _ => none }
def AppealSettlesWrongFalsely : Prop := appealSettlesRow.holds Try.pinned (OpenSpec.ofChange appealSettlesWrong)

/-- 'annuitantlaw40.AppealChoice': WHATEVER THE INPUT: true; the input reads as it did. -/
def appealChoiceSpec : ChangeSpec := { name := "appealChoice", fn := fun _ => fun
  | [d] => { results := [.lit (.bool true)], args := [d] }
  | _ => none }
def appealChoiceRow : OpenClaim := { program := "ytbpoedopdnjffaa", sum := "858e6cc6bc86d312dc62f606c44d791c1ed8e2d8db298d1396ae9c210e42ef9c", func := "annuitant/annuitantlaw40.AppealChoice", spec := "appealChoice", unfollowed := true, recurses := true, apart := false }
def AppealChoiceSaid : Prop := appealChoiceRow.holds Try.pinned (OpenSpec.ofChange appealChoiceSpec)

/-- ITS FALSE NEIGHBOUR: 'it returns false'. Refute it at one input. -/
def appealChoiceWrong : ChangeSpec := { name := "appealChoice", fn := fun _ => fun
  | [d] => { results := [.lit (.bool false)], args := [d] }
  | _ => none }
def AppealChoiceWrongFalsely : Prop := appealChoiceRow.holds Try.pinned (OpenSpec.ofChange appealChoiceWrong)

/-- 'annuitantlaw40.AppealWrong': WHATEVER THE INPUT: true; the input reads as it did. -/
def appealWrongSpec : ChangeSpec := { name := "appealWrong", fn := fun _ => fun
  | [d1, d2, d3, d4, d5] => { results := [.lit (.bool true)], args := [d1, d2, d3, d4, d5] }
  | _ => none }
def appealWrongRow : OpenClaim := { program := "ytbpoedopdnjffaa", sum := "858e6cc6bc86d312dc62f606c44d791c1ed8e2d8db298d1396ae9c210e42ef9c", func := "annuitant/annuitantlaw40.AppealWrong", spec := "appealWrong", unfollowed := true, recurses := true, apart := false }
def AppealWrongSaid : Prop := appealWrongRow.holds Try.pinned (OpenSpec.ofChange appealWrongSpec)

/-- ITS FALSE NEIGHBOUR: 'it returns false'. Refute it at one input. -/
def appealWrongWrong : ChangeSpec := { name := "appealWrong", fn := fun _ => fun
  | [d1, d2, d3, d4, d5] => { results := [.lit (.bool false)], args := [d1, d2, d3, d4, d5] }
  | _ => none }
def AppealWrongWrongFalsely : Prop := appealWrongRow.holds Try.pinned (OpenSpec.ofChange appealWrongWrong)

/- THE SECOND FORM. 'bulk': how many values and letters a reading holds, each counted each time it is reached (what is shared counts as often as it is met; a slice's spare places count too). A statement '..UptoSaid' is the law's where the arguments, and the package variables that the reading takes, are together of bulk at most 1048576: NARROWER than '..Said'. Prove '..Said' where nothing that the law and all that it calls make is longer than what came in: it says more and counts as full. Else prove '..UptoSaid'. A law counts once. -/
mutual
def uptoBulk {H : Type} : DataW H → Nat
  | .lit (.string bytes) => bytes.length + 1
  | .lit _ => 1
  | .nil => 1
  | .ptr d => uptoBulk d + 1
  | .slice elems spare => uptoBulkAll elems + uptoBulkAll spare + 1
  | .agg parts => uptoBulkAll parts + 1
  | .iface _ d => uptoBulk d + 1
  | .map entries => uptoBulkEntries entries + 1
  | .held _ => 1
def uptoBulkAll {H : Type} : List (DataW H) → Nat
  | [] => 0
  | d :: r => uptoBulk d + uptoBulkAll r
def uptoBulkEntries {H : Type} : List (Lit × DataW H) → Nat
  | [] => 0
  | x :: r => uptoBulkEntry x + uptoBulkEntries r
def uptoBulkEntry {H : Type} : Lit × DataW H → Nat
  | (.string bytes, d) => bytes.length + uptoBulk d + 1
  | (_, d) => uptoBulk d + 1
 end
def uptoSmall : (H : Type) → List (DataW H) → Bool := fun _ ds => decide (uptoBulkAll ds ≤ 1048576)
def OpenSpec.upto (s : _root_.Go.ChangeSpec) : _root_.Go.OpenSpec := { _root_.Go.OpenSpec.ofChange s with cond := some uptoSmall }

/-- 'annuitantlaw40.AppealAsks', WHERE WHAT IT READS IS OF BULK AT MOST 1048576: true; the input reads as it did. -/
def appealAsksUptoRow : OpenClaim := { program := "ytbpoedopdnjffaa", sum := "858e6cc6bc86d312dc62f606c44d791c1ed8e2d8db298d1396ae9c210e42ef9c", func := "annuitant/annuitantlaw40.AppealAsks", spec := "appealAsks", unfollowed := true, recurses := true, apart := false, narrowed := true }
def AppealAsksUptoSaid : Prop := appealAsksUptoRow.holds Try.pinned (OpenSpec.upto appealAsksSpec)

/-- 'annuitantlaw40.AppealLegal', WHERE WHAT IT READS IS OF BULK AT MOST 1048576: true; the input reads as it did. -/
def appealLegalUptoRow : OpenClaim := { program := "ytbpoedopdnjffaa", sum := "858e6cc6bc86d312dc62f606c44d791c1ed8e2d8db298d1396ae9c210e42ef9c", func := "annuitant/annuitantlaw40.AppealLegal", spec := "appealLegal", unfollowed := true, recurses := true, apart := false, narrowed := true }
def AppealLegalUptoSaid : Prop := appealLegalUptoRow.holds Try.pinned (OpenSpec.upto appealLegalSpec)

/-- 'annuitantlaw40.AppealTime', WHERE WHAT IT READS IS OF BULK AT MOST 1048576: true; the input reads as it did. -/
def appealTimeUptoRow : OpenClaim := { program := "ytbpoedopdnjffaa", sum := "858e6cc6bc86d312dc62f606c44d791c1ed8e2d8db298d1396ae9c210e42ef9c", func := "annuitant/annuitantlaw40.AppealTime", spec := "appealTime", unfollowed := true, recurses := true, apart := false, narrowed := true }
def AppealTimeUptoSaid : Prop := appealTimeUptoRow.holds Try.pinned (OpenSpec.upto appealTimeSpec)

/-- 'annuitantlaw40.AppealHeld', WHERE WHAT IT READS IS OF BULK AT MOST 1048576: true; the input reads as it did. -/
def appealHeldUptoRow : OpenClaim := { program := "ytbpoedopdnjffaa", sum := "858e6cc6bc86d312dc62f606c44d791c1ed8e2d8db298d1396ae9c210e42ef9c", func := "annuitant/annuitantlaw40.AppealHeld", spec := "appealHeld", unfollowed := true, recurses := true, apart := false, narrowed := true }
def AppealHeldUptoSaid : Prop := appealHeldUptoRow.holds Try.pinned (OpenSpec.upto appealHeldSpec)

/-- 'annuitantlaw40.AppealRejected', WHERE WHAT IT READS IS OF BULK AT MOST 1048576: true; the input reads as it did. -/
def appealRejectedUptoRow : OpenClaim := { program := "ytbpoedopdnjffaa", sum := "858e6cc6bc86d312dc62f606c44d791c1ed8e2d8db298d1396ae9c210e42ef9c", func := "annuitant/annuitantlaw40.AppealRejected", spec := "appealRejected", unfollowed := true, recurses := true, apart := false, narrowed := true }
def AppealRejectedUptoSaid : Prop := appealRejectedUptoRow.holds Try.pinned (OpenSpec.upto appealRejectedSpec)

/-- 'annuitantlaw40.AppealSettles', WHERE WHAT IT READS IS OF BULK AT MOST 1048576: true; the input reads as it did. -/
def appealSettlesUptoRow : OpenClaim := { program := "ytbpoedopdnjffaa", sum := "858e6cc6bc86d312dc62f606c44d791c1ed8e2d8db298d1396ae9c210e42ef9c", func := "annuitant/annuitantlaw40.AppealSettles", spec := "appealSettles", unfollowed := true, recurses := true, apart := false, narrowed := true }
def AppealSettlesUptoSaid : Prop := appealSettlesUptoRow.holds Try.pinned (OpenSpec.upto appealSettlesSpec)

/-- 'annuitantlaw40.AppealChoice', WHERE WHAT IT READS IS OF BULK AT MOST 1048576: true; the input reads as it did. -/
def appealChoiceUptoRow : OpenClaim := { program := "ytbpoedopdnjffaa", sum := "858e6cc6bc86d312dc62f606c44d791c1ed8e2d8db298d1396ae9c210e42ef9c", func := "annuitant/annuitantlaw40.AppealChoice", spec := "appealChoice", unfollowed := true, recurses := true, apart := false, narrowed := true }
def AppealChoiceUptoSaid : Prop := appealChoiceUptoRow.holds Try.pinned (OpenSpec.upto appealChoiceSpec)

/-- 'annuitantlaw40.AppealWrong', WHERE WHAT IT READS IS OF BULK AT MOST 1048576: true; the input reads as it did. -/
def appealWrongUptoRow : OpenClaim := { program := "ytbpoedopdnjffaa", sum := "858e6cc6bc86d312dc62f606c44d791c1ed8e2d8db298d1396ae9c210e42ef9c", func := "annuitant/annuitantlaw40.AppealWrong", spec := "appealWrong", unfollowed := true, recurses := true, apart := false, narrowed := true }
def AppealWrongUptoSaid : Prop := appealWrongUptoRow.holds Try.pinned (OpenSpec.upto appealWrongSpec)

end Rows
end Go.Proofs.Ytbpoedopdnjffaa
