/- SpanWrong: the law, all six defects. -/
import Derived.Test.YtgpbdocgnfjckaaSpLawW
namespace Go.Proofs.Ytgpbdocgnfjckaa
open Go.RowKit Go.Shelf Sp

theorem wrong_law (pm : Option Addr) (nm cm : Nat) (way : Int) (w : World) (hm : Words w pm nm) (hw0 : 0 ≤ way) (hw1 : way ≤ 255) :
    Calls Try.prog 3 #[.slice pm nm cm, .int .u8 way] w fun e w' => e = .returned (.bool true) ∧ Below w.heap.size w w' := by
  rcases (show way % 6 = 0 ∨ way % 6 = 1 ∨ way % 6 = 2 ∨ way % 6 = 3 ∨ way % 6 = 4 ∨ way % 6 = 5 by omega) with h | h | h | h | h | h
  · exact wrong_law0 pm nm cm way w hm hw0 hw1 h
  · exact wrong_law1 pm nm cm way w hm hw0 hw1 h
  · exact wrong_law2 pm nm cm way w hm hw0 hw1 h
  · exact wrong_law3 pm nm cm way w hm hw0 hw1 h
  · exact wrong_law4 pm nm cm way w hm hw0 hw1 h
  · exact wrong_law5 pm nm cm way w hm hw0 hw1 h

end Go.Proofs.Ytgpbdocgnfjckaa
