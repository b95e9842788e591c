/-
  NARROWER THAN 'FOR EVERY INPUT', by the rows' own cells (each row's printed sentence says how): LexJoins: laid · LexJoined: laid · LexCovers: laid · LexGlued: laid · LexRemarks: laid · LexNumbers: laid · LexNames: laid · LexWords: laid · LexPlaces: laid · LexErrors: laid.
  DERIVED. THE GIVEN ROWS OF THIS SEAT. 10 by the template 'for every input the law returns true; each argument reads behind the call as it read before'; 0 by the template 'total and deterministic' (their statements: YthleaigkndfdaaaDoorTotals.lean).
  GIVEN WITH THE SEED: the statements are not yours to turn. If you find one false, say at which input.
  Laid BY PROGRAM, IN A SANDBOX (cutbox-rows.mjs): the forced cells as the released guide's own fill.sh prints them over the translation d882684329cdc817… (all of the seat's roots in one cut). By AI agents, Wed Nov 11 2026. No macro, syntax, notation, axiom, sorry.
-/
import Derived.Test.YthleaigkndfdaaaDoorChecked
import GoSem.Claim
import GoSem.ClaimJoined
import GoSem.ClaimMapViews
import Derived.JoinedTies
import Derived.KernelRfl
namespace Go.Proofs.YthleaigkndfdaaaDoor
/- THE CELL 'sum', in the pinned program and in every row, IS THE sha256 OF THE DUMP (.gsa) THAT YthleaigkndfdaaaDoorProg.lean LOADS. Nothing in Lean hashes anything: it is a label: what it is worth is what the hold of that sum in a sandbox is worth. -/
noncomputable def Tryd.pinned : Pinned := { name := "ythleaigkndfdaaadoor", sum := "d882684329cdc8177548c167233211d9b330b7fc4a25b1259477cb2bc87c0a02", checked := Tryd.checked }
namespace Rows
def none {H : Type} : Left H := { results := [], args := [] }

/- WHAT THE LISTED PACKAGE-LEVEL VARIABLES READ AS WHEN THE CALL BEGINS. Each datum BY PROGRAM (the guide's laid-datum.mjs) off the statement by which the dump's own 'gosem.cut.vars' lays the variable. In a bare row this is a premise. The card (YthleaigkndfdaaaDoorCards.lean) ties it to the program's text. -/
def laid_annuitant_calendar_lengths {H : Type} : DataW H := .agg [.lit (.int .i64 31), .lit (.int .i64 28), .lit (.int .i64 31), .lit (.int .i64 30), .lit (.int .i64 31), .lit (.int .i64 30), .lit (.int .i64 31), .lit (.int .i64 31), .lit (.int .i64 30), .lit (.int .i64 31), .lit (.int .i64 30), .lit (.int .i64 31)]

/-- 'annuitantlaw11.LexJoins': WHATEVER THE INPUT: true; the input reads as it did. -/
def lexJoinsSpec : ChangeSpec := { name := "lexJoins", fn := fun _ => fun
  | [d] => { results := [.lit (.bool true)], args := [d] }
  | _ => none }
def lexJoinsRow : OpenClaim := { program := "ythleaigkndfdaaadoor", sum := "d882684329cdc8177548c167233211d9b330b7fc4a25b1259477cb2bc87c0a02", func := "annuitant/annuitantlaw11.LexJoins", spec := "lexJoins", inPlace := ["internal/bytealg.IndexByteString", "internal/abi.NoEscape"], unfollowed := true, recurses := true, named := ["annuitant/calendar.lengths"], apart := false, laid := [("annuitant/calendar.lengths", laid_annuitant_calendar_lengths)] }
def LexJoinsSaid : Prop := lexJoinsRow.holds Tryd.pinned (OpenSpec.ofChange lexJoinsSpec)

/-- ITS FALSE NEIGHBOUR: 'it returns false'. Refute it at one input. -/
def lexJoinsWrong : ChangeSpec := { name := "lexJoins", fn := fun _ => fun
  | [d] => { results := [.lit (.bool false)], args := [d] }
  | _ => none }
def LexJoinsWrongFalsely : Prop := lexJoinsRow.holds Tryd.pinned (OpenSpec.ofChange lexJoinsWrong)

/-- 'annuitantlaw11.LexJoined': WHATEVER THE INPUT: true; the input reads as it did. -/
def lexJoinedSpec : ChangeSpec := { name := "lexJoined", fn := fun _ => fun
  | [d] => { results := [.lit (.bool true)], args := [d] }
  | _ => none }
def lexJoinedRow : OpenClaim := { program := "ythleaigkndfdaaadoor", sum := "d882684329cdc8177548c167233211d9b330b7fc4a25b1259477cb2bc87c0a02", func := "annuitant/annuitantlaw11.LexJoined", spec := "lexJoined", inPlace := ["internal/bytealg.IndexByteString", "internal/abi.NoEscape"], unfollowed := true, recurses := true, named := ["annuitant/calendar.lengths"], apart := false, laid := [("annuitant/calendar.lengths", laid_annuitant_calendar_lengths)] }
def LexJoinedSaid : Prop := lexJoinedRow.holds Tryd.pinned (OpenSpec.ofChange lexJoinedSpec)

/-- ITS FALSE NEIGHBOUR: 'it returns false'. Refute it at one input. -/
def lexJoinedWrong : ChangeSpec := { name := "lexJoined", fn := fun _ => fun
  | [d] => { results := [.lit (.bool false)], args := [d] }
  | _ => none }
def LexJoinedWrongFalsely : Prop := lexJoinedRow.holds Tryd.pinned (OpenSpec.ofChange lexJoinedWrong)

/-- 'annuitantlaw11.LexCovers': WHATEVER THE INPUT: true; the input reads as it did. -/
def lexCoversSpec : ChangeSpec := { name := "lexCovers", fn := fun _ => fun
  | [d] => { results := [.lit (.bool true)], args := [d] }
  | _ => none }
def lexCoversRow : OpenClaim := { program := "ythleaigkndfdaaadoor", sum := "d882684329cdc8177548c167233211d9b330b7fc4a25b1259477cb2bc87c0a02", func := "annuitant/annuitantlaw11.LexCovers", spec := "lexCovers", inPlace := ["internal/bytealg.IndexByteString", "internal/abi.NoEscape"], unfollowed := true, recurses := true, named := ["annuitant/calendar.lengths"], apart := false, laid := [("annuitant/calendar.lengths", laid_annuitant_calendar_lengths)] }
def LexCoversSaid : Prop := lexCoversRow.holds Tryd.pinned (OpenSpec.ofChange lexCoversSpec)

/-- ITS FALSE NEIGHBOUR: 'it returns false'. Refute it at one input. -/
def lexCoversWrong : ChangeSpec := { name := "lexCovers", fn := fun _ => fun
  | [d] => { results := [.lit (.bool false)], args := [d] }
  | _ => none }
def LexCoversWrongFalsely : Prop := lexCoversRow.holds Tryd.pinned (OpenSpec.ofChange lexCoversWrong)

/-- 'annuitantlaw11.LexGlued': WHATEVER THE INPUT: true; the input reads as it did. -/
def lexGluedSpec : ChangeSpec := { name := "lexGlued", fn := fun _ => fun
  | [d1, d2] => { results := [.lit (.bool true)], args := [d1, d2] }
  | _ => none }
def lexGluedRow : OpenClaim := { program := "ythleaigkndfdaaadoor", sum := "d882684329cdc8177548c167233211d9b330b7fc4a25b1259477cb2bc87c0a02", func := "annuitant/annuitantlaw11.LexGlued", spec := "lexGlued", inPlace := ["internal/bytealg.IndexByteString", "internal/abi.NoEscape"], unfollowed := true, recurses := true, named := ["annuitant/calendar.lengths"], apart := false, laid := [("annuitant/calendar.lengths", laid_annuitant_calendar_lengths)] }
def LexGluedSaid : Prop := lexGluedRow.holds Tryd.pinned (OpenSpec.ofChange lexGluedSpec)

/-- ITS FALSE NEIGHBOUR: 'it returns false'. Refute it at one input. -/
def lexGluedWrong : ChangeSpec := { name := "lexGlued", fn := fun _ => fun
  | [d1, d2] => { results := [.lit (.bool false)], args := [d1, d2] }
  | _ => none }
def LexGluedWrongFalsely : Prop := lexGluedRow.holds Tryd.pinned (OpenSpec.ofChange lexGluedWrong)

/-- 'annuitantlaw11.LexRemarks': WHATEVER THE INPUT: true; the input reads as it did. -/
def lexRemarksSpec : ChangeSpec := { name := "lexRemarks", fn := fun _ => fun
  | [d1, d2] => { results := [.lit (.bool true)], args := [d1, d2] }
  | _ => none }
def lexRemarksRow : OpenClaim := { program := "ythleaigkndfdaaadoor", sum := "d882684329cdc8177548c167233211d9b330b7fc4a25b1259477cb2bc87c0a02", func := "annuitant/annuitantlaw11.LexRemarks", spec := "lexRemarks", inPlace := ["internal/bytealg.IndexByteString", "internal/abi.NoEscape"], unfollowed := true, recurses := true, named := ["annuitant/calendar.lengths"], apart := false, laid := [("annuitant/calendar.lengths", laid_annuitant_calendar_lengths)] }
def LexRemarksSaid : Prop := lexRemarksRow.holds Tryd.pinned (OpenSpec.ofChange lexRemarksSpec)

/-- ITS FALSE NEIGHBOUR: 'it returns false'. Refute it at one input. -/
def lexRemarksWrong : ChangeSpec := { name := "lexRemarks", fn := fun _ => fun
  | [d1, d2] => { results := [.lit (.bool false)], args := [d1, d2] }
  | _ => none }
def LexRemarksWrongFalsely : Prop := lexRemarksRow.holds Tryd.pinned (OpenSpec.ofChange lexRemarksWrong)

/-- 'annuitantlaw11.LexNumbers': WHATEVER THE INPUT: true; the input reads as it did. -/
def lexNumbersSpec : ChangeSpec := { name := "lexNumbers", fn := fun _ => fun
  | [d1, d2, d3] => { results := [.lit (.bool true)], args := [d1, d2, d3] }
  | _ => none }
def lexNumbersRow : OpenClaim := { program := "ythleaigkndfdaaadoor", sum := "d882684329cdc8177548c167233211d9b330b7fc4a25b1259477cb2bc87c0a02", func := "annuitant/annuitantlaw11.LexNumbers", spec := "lexNumbers", inPlace := ["internal/bytealg.IndexByteString", "internal/abi.NoEscape"], unfollowed := true, recurses := true, named := ["annuitant/calendar.lengths"], apart := false, laid := [("annuitant/calendar.lengths", laid_annuitant_calendar_lengths)] }
def LexNumbersSaid : Prop := lexNumbersRow.holds Tryd.pinned (OpenSpec.ofChange lexNumbersSpec)

/-- ITS FALSE NEIGHBOUR: 'it returns false'. Refute it at one input. -/
def lexNumbersWrong : ChangeSpec := { name := "lexNumbers", fn := fun _ => fun
  | [d1, d2, d3] => { results := [.lit (.bool false)], args := [d1, d2, d3] }
  | _ => none }
def LexNumbersWrongFalsely : Prop := lexNumbersRow.holds Tryd.pinned (OpenSpec.ofChange lexNumbersWrong)

/-- 'annuitantlaw11.LexNames': WHATEVER THE INPUT: true; the input reads as it did. -/
def lexNamesSpec : ChangeSpec := { name := "lexNames", fn := fun _ => fun
  | [d] => { results := [.lit (.bool true)], args := [d] }
  | _ => none }
def lexNamesRow : OpenClaim := { program := "ythleaigkndfdaaadoor", sum := "d882684329cdc8177548c167233211d9b330b7fc4a25b1259477cb2bc87c0a02", func := "annuitant/annuitantlaw11.LexNames", spec := "lexNames", inPlace := ["internal/bytealg.IndexByteString", "internal/bytealg.IndexString", "internal/abi.NoEscape"], unfollowed := true, recurses := true, named := ["internal/bytealg.MaxLen", "annuitant/calendar.lengths"], apart := false, laid := [("annuitant/calendar.lengths", laid_annuitant_calendar_lengths)] }
def LexNamesSaid : Prop := lexNamesRow.holds Tryd.pinned (OpenSpec.ofChange lexNamesSpec)

/-- ITS FALSE NEIGHBOUR: 'it returns false'. Refute it at one input. -/
def lexNamesWrong : ChangeSpec := { name := "lexNames", fn := fun _ => fun
  | [d] => { results := [.lit (.bool false)], args := [d] }
  | _ => none }
def LexNamesWrongFalsely : Prop := lexNamesRow.holds Tryd.pinned (OpenSpec.ofChange lexNamesWrong)

/-- 'annuitantlaw11.LexWords': WHATEVER THE INPUT: true; the input reads as it did. -/
def lexWordsSpec : ChangeSpec := { name := "lexWords", fn := fun _ => fun
  | [d] => { results := [.lit (.bool true)], args := [d] }
  | _ => none }
def lexWordsRow : OpenClaim := { program := "ythleaigkndfdaaadoor", sum := "d882684329cdc8177548c167233211d9b330b7fc4a25b1259477cb2bc87c0a02", func := "annuitant/annuitantlaw11.LexWords", spec := "lexWords", inPlace := ["internal/bytealg.IndexByteString", "internal/abi.NoEscape", "internal/bytealg.IndexString"], unfollowed := true, recurses := true, named := ["annuitant/calendar.lengths", "internal/bytealg.MaxLen"], apart := false, laid := [("annuitant/calendar.lengths", laid_annuitant_calendar_lengths)] }
def LexWordsSaid : Prop := lexWordsRow.holds Tryd.pinned (OpenSpec.ofChange lexWordsSpec)

/-- ITS FALSE NEIGHBOUR: 'it returns false'. Refute it at one input. -/
def lexWordsWrong : ChangeSpec := { name := "lexWords", fn := fun _ => fun
  | [d] => { results := [.lit (.bool false)], args := [d] }
  | _ => none }
def LexWordsWrongFalsely : Prop := lexWordsRow.holds Tryd.pinned (OpenSpec.ofChange lexWordsWrong)

/-- 'annuitantlaw11.LexPlaces': WHATEVER THE INPUT: true; the input reads as it did. -/
def lexPlacesSpec : ChangeSpec := { name := "lexPlaces", fn := fun _ => fun
  | [d1, d2] => { results := [.lit (.bool true)], args := [d1, d2] }
  | _ => none }
def lexPlacesRow : OpenClaim := { program := "ythleaigkndfdaaadoor", sum := "d882684329cdc8177548c167233211d9b330b7fc4a25b1259477cb2bc87c0a02", func := "annuitant/annuitantlaw11.LexPlaces", spec := "lexPlaces", inPlace := ["internal/bytealg.IndexByteString", "internal/abi.NoEscape", "internal/bytealg.CountString", "internal/bytealg.IndexString"], unfollowed := true, recurses := true, named := ["annuitant/calendar.lengths", "internal/bytealg.MaxLen"], apart := false, laid := [("annuitant/calendar.lengths", laid_annuitant_calendar_lengths)] }
def LexPlacesSaid : Prop := lexPlacesRow.holds Tryd.pinned (OpenSpec.ofChange lexPlacesSpec)

/-- ITS FALSE NEIGHBOUR: 'it returns false'. Refute it at one input. -/
def lexPlacesWrong : ChangeSpec := { name := "lexPlaces", fn := fun _ => fun
  | [d1, d2] => { results := [.lit (.bool false)], args := [d1, d2] }
  | _ => none }
def LexPlacesWrongFalsely : Prop := lexPlacesRow.holds Tryd.pinned (OpenSpec.ofChange lexPlacesWrong)

/-- 'annuitantlaw11.LexErrors': WHATEVER THE INPUT: true; the input reads as it did. -/
def lexErrorsSpec : ChangeSpec := { name := "lexErrors", fn := fun _ => fun
  | [d] => { results := [.lit (.bool true)], args := [d] }
  | _ => none }
def lexErrorsRow : OpenClaim := { program := "ythleaigkndfdaaadoor", sum := "d882684329cdc8177548c167233211d9b330b7fc4a25b1259477cb2bc87c0a02", func := "annuitant/annuitantlaw11.LexErrors", spec := "lexErrors", inPlace := ["internal/bytealg.IndexByteString", "internal/abi.NoEscape", "internal/bytealg.CountString", "internal/bytealg.IndexString"], unfollowed := true, recurses := true, named := ["annuitant/calendar.lengths", "internal/bytealg.MaxLen"], apart := false, laid := [("annuitant/calendar.lengths", laid_annuitant_calendar_lengths)] }
def LexErrorsSaid : Prop := lexErrorsRow.holds Tryd.pinned (OpenSpec.ofChange lexErrorsSpec)

/-- ITS FALSE NEIGHBOUR: 'it returns false'. Refute it at one input. -/
def lexErrorsWrong : ChangeSpec := { name := "lexErrors", fn := fun _ => fun
  | [d] => { results := [.lit (.bool false)], args := [d] }
  | _ => none }
def LexErrorsWrongFalsely : Prop := lexErrorsRow.holds Tryd.pinned (OpenSpec.ofChange lexErrorsWrong)

/- THE SECOND FORM. 'bulk': how many values and letters a reading holds, each counted each time it is reached (what is shared counts as often as it is met; a slice's spare places count too). A statement '..UptoSaid' is the law's where the arguments, and the package variables that the reading takes, are together of bulk at most 1048576: NARROWER than '..Said'. Prove '..Said' where nothing that the law and all that it calls make is longer than what came in: it says more and counts as full. Else prove '..UptoSaid'. A law counts once. -/
mutual
def uptoBulk {H : Type} : DataW H → Nat
  | .lit (.string bytes) => bytes.length + 1
  | .lit _ => 1
  | .nil => 1
  | .ptr d => uptoBulk d + 1
  | .slice elems spare => uptoBulkAll elems + uptoBulkAll spare + 1
  | .agg parts => uptoBulkAll parts + 1
  | .iface _ d => uptoBulk d + 1
  | .map entries => uptoBulkEntries entries + 1
  | .held _ => 1
def uptoBulkAll {H : Type} : List (DataW H) → Nat
  | [] => 0
  | d :: r => uptoBulk d + uptoBulkAll r
def uptoBulkEntries {H : Type} : List (Lit × DataW H) → Nat
  | [] => 0
  | x :: r => uptoBulkEntry x + uptoBulkEntries r
def uptoBulkEntry {H : Type} : Lit × DataW H → Nat
  | (.string bytes, d) => bytes.length + uptoBulk d + 1
  | (_, d) => uptoBulk d + 1
 end
def uptoSmall : (H : Type) → List (DataW H) → Bool := fun _ ds => decide (uptoBulkAll ds ≤ 1048576)
def OpenSpec.upto (s : _root_.Go.ChangeSpec) : _root_.Go.OpenSpec := { _root_.Go.OpenSpec.ofChange s with cond := some uptoSmall }

/-- 'annuitantlaw11.LexJoins', WHERE WHAT IT READS IS OF BULK AT MOST 1048576: true; the input reads as it did. -/
def lexJoinsUptoRow : OpenClaim := { program := "ythleaigkndfdaaadoor", sum := "d882684329cdc8177548c167233211d9b330b7fc4a25b1259477cb2bc87c0a02", func := "annuitant/annuitantlaw11.LexJoins", spec := "lexJoins", inPlace := ["internal/bytealg.IndexByteString", "internal/abi.NoEscape"], unfollowed := true, recurses := true, named := ["annuitant/calendar.lengths"], apart := false, laid := [("annuitant/calendar.lengths", laid_annuitant_calendar_lengths)], narrowed := true }
def LexJoinsUptoSaid : Prop := lexJoinsUptoRow.holds Tryd.pinned (OpenSpec.upto lexJoinsSpec)

/-- 'annuitantlaw11.LexJoined', WHERE WHAT IT READS IS OF BULK AT MOST 1048576: true; the input reads as it did. -/
def lexJoinedUptoRow : OpenClaim := { program := "ythleaigkndfdaaadoor", sum := "d882684329cdc8177548c167233211d9b330b7fc4a25b1259477cb2bc87c0a02", func := "annuitant/annuitantlaw11.LexJoined", spec := "lexJoined", inPlace := ["internal/bytealg.IndexByteString", "internal/abi.NoEscape"], unfollowed := true, recurses := true, named := ["annuitant/calendar.lengths"], apart := false, laid := [("annuitant/calendar.lengths", laid_annuitant_calendar_lengths)], narrowed := true }
def LexJoinedUptoSaid : Prop := lexJoinedUptoRow.holds Tryd.pinned (OpenSpec.upto lexJoinedSpec)

/-- 'annuitantlaw11.LexCovers', WHERE WHAT IT READS IS OF BULK AT MOST 1048576: true; the input reads as it did. -/
def lexCoversUptoRow : OpenClaim := { program := "ythleaigkndfdaaadoor", sum := "d882684329cdc8177548c167233211d9b330b7fc4a25b1259477cb2bc87c0a02", func := "annuitant/annuitantlaw11.LexCovers", spec := "lexCovers", inPlace := ["internal/bytealg.IndexByteString", "internal/abi.NoEscape"], unfollowed := true, recurses := true, named := ["annuitant/calendar.lengths"], apart := false, laid := [("annuitant/calendar.lengths", laid_annuitant_calendar_lengths)], narrowed := true }
def LexCoversUptoSaid : Prop := lexCoversUptoRow.holds Tryd.pinned (OpenSpec.upto lexCoversSpec)

/-- 'annuitantlaw11.LexGlued', WHERE WHAT IT READS IS OF BULK AT MOST 1048576: true; the input reads as it did. -/
def lexGluedUptoRow : OpenClaim := { program := "ythleaigkndfdaaadoor", sum := "d882684329cdc8177548c167233211d9b330b7fc4a25b1259477cb2bc87c0a02", func := "annuitant/annuitantlaw11.LexGlued", spec := "lexGlued", inPlace := ["internal/bytealg.IndexByteString", "internal/abi.NoEscape"], unfollowed := true, recurses := true, named := ["annuitant/calendar.lengths"], apart := false, laid := [("annuitant/calendar.lengths", laid_annuitant_calendar_lengths)], narrowed := true }
def LexGluedUptoSaid : Prop := lexGluedUptoRow.holds Tryd.pinned (OpenSpec.upto lexGluedSpec)

/-- 'annuitantlaw11.LexRemarks', WHERE WHAT IT READS IS OF BULK AT MOST 1048576: true; the input reads as it did. -/
def lexRemarksUptoRow : OpenClaim := { program := "ythleaigkndfdaaadoor", sum := "d882684329cdc8177548c167233211d9b330b7fc4a25b1259477cb2bc87c0a02", func := "annuitant/annuitantlaw11.LexRemarks", spec := "lexRemarks", inPlace := ["internal/bytealg.IndexByteString", "internal/abi.NoEscape"], unfollowed := true, recurses := true, named := ["annuitant/calendar.lengths"], apart := false, laid := [("annuitant/calendar.lengths", laid_annuitant_calendar_lengths)], narrowed := true }
def LexRemarksUptoSaid : Prop := lexRemarksUptoRow.holds Tryd.pinned (OpenSpec.upto lexRemarksSpec)

/-- 'annuitantlaw11.LexNumbers', WHERE WHAT IT READS IS OF BULK AT MOST 1048576: true; the input reads as it did. -/
def lexNumbersUptoRow : OpenClaim := { program := "ythleaigkndfdaaadoor", sum := "d882684329cdc8177548c167233211d9b330b7fc4a25b1259477cb2bc87c0a02", func := "annuitant/annuitantlaw11.LexNumbers", spec := "lexNumbers", inPlace := ["internal/bytealg.IndexByteString", "internal/abi.NoEscape"], unfollowed := true, recurses := true, named := ["annuitant/calendar.lengths"], apart := false, laid := [("annuitant/calendar.lengths", laid_annuitant_calendar_lengths)], narrowed := true }
def LexNumbersUptoSaid : Prop := lexNumbersUptoRow.holds Tryd.pinned (OpenSpec.upto lexNumbersSpec)

/-- 'annuitantlaw11.LexNames', WHERE WHAT IT READS IS OF BULK AT MOST 1048576: true; the input reads as it did. -/
def lexNamesUptoRow : OpenClaim := { program := "ythleaigkndfdaaadoor", sum := "d882684329cdc8177548c167233211d9b330b7fc4a25b1259477cb2bc87c0a02", func := "annuitant/annuitantlaw11.LexNames", spec := "lexNames", inPlace := ["internal/bytealg.IndexByteString", "internal/bytealg.IndexString", "internal/abi.NoEscape"], unfollowed := true, recurses := true, named := ["internal/bytealg.MaxLen", "annuitant/calendar.lengths"], apart := false, laid := [("annuitant/calendar.lengths", laid_annuitant_calendar_lengths)], narrowed := true }
def LexNamesUptoSaid : Prop := lexNamesUptoRow.holds Tryd.pinned (OpenSpec.upto lexNamesSpec)

/-- 'annuitantlaw11.LexWords', WHERE WHAT IT READS IS OF BULK AT MOST 1048576: true; the input reads as it did. -/
def lexWordsUptoRow : OpenClaim := { program := "ythleaigkndfdaaadoor", sum := "d882684329cdc8177548c167233211d9b330b7fc4a25b1259477cb2bc87c0a02", func := "annuitant/annuitantlaw11.LexWords", spec := "lexWords", inPlace := ["internal/bytealg.IndexByteString", "internal/abi.NoEscape", "internal/bytealg.IndexString"], unfollowed := true, recurses := true, named := ["annuitant/calendar.lengths", "internal/bytealg.MaxLen"], apart := false, laid := [("annuitant/calendar.lengths", laid_annuitant_calendar_lengths)], narrowed := true }
def LexWordsUptoSaid : Prop := lexWordsUptoRow.holds Tryd.pinned (OpenSpec.upto lexWordsSpec)

/-- 'annuitantlaw11.LexPlaces', WHERE WHAT IT READS IS OF BULK AT MOST 1048576: true; the input reads as it did. -/
def lexPlacesUptoRow : OpenClaim := { program := "ythleaigkndfdaaadoor", sum := "d882684329cdc8177548c167233211d9b330b7fc4a25b1259477cb2bc87c0a02", func := "annuitant/annuitantlaw11.LexPlaces", spec := "lexPlaces", inPlace := ["internal/bytealg.IndexByteString", "internal/abi.NoEscape", "internal/bytealg.CountString", "internal/bytealg.IndexString"], unfollowed := true, recurses := true, named := ["annuitant/calendar.lengths", "internal/bytealg.MaxLen"], apart := false, laid := [("annuitant/calendar.lengths", laid_annuitant_calendar_lengths)], narrowed := true }
def LexPlacesUptoSaid : Prop := lexPlacesUptoRow.holds Tryd.pinned (OpenSpec.upto lexPlacesSpec)

/-- 'annuitantlaw11.LexErrors', WHERE WHAT IT READS IS OF BULK AT MOST 1048576: true; the input reads as it did. -/
def lexErrorsUptoRow : OpenClaim := { program := "ythleaigkndfdaaadoor", sum := "d882684329cdc8177548c167233211d9b330b7fc4a25b1259477cb2bc87c0a02", func := "annuitant/annuitantlaw11.LexErrors", spec := "lexErrors", inPlace := ["internal/bytealg.IndexByteString", "internal/abi.NoEscape", "internal/bytealg.CountString", "internal/bytealg.IndexString"], unfollowed := true, recurses := true, named := ["annuitant/calendar.lengths", "internal/bytealg.MaxLen"], apart := false, laid := [("annuitant/calendar.lengths", laid_annuitant_calendar_lengths)], narrowed := true }
def LexErrorsUptoSaid : Prop := lexErrorsUptoRow.holds Tryd.pinned (OpenSpec.upto lexErrorsSpec)

end Rows
end Go.Proofs.YthleaigkndfdaaaDoor
