/- Two spans that are alike are equal: a step of a quiet walk. -/
import Derived.Test.YtgpbdocgnfjckaaGreatSzAp1
namespace Go.Proofs.YtgpbdocgnfjckaaGreat
open Go.RowKit Go.Shelf Sp

theorem quiet_eql_span {C : World → Prop} {K : Act → Prop} {a : Act} {o : Oper} (x y : Operand) (z u : Int) (h : o.op = .binOp .eql 30 x y 30) (hx : a.eval x = .agg #[.int .i64 z, .int .i64 u]) (hy : a.eval y = .agg #[.int .i64 z, .int .i64 u])
    (hk : K (a.put o.dst (.bool true))) : o.quiet Tryz.prog a C K := by
  refine ⟨_, fun w _ => ?_, hk⟩
  unfold Oper.quietAt execOp
  simp only [h, hx, hy]
  simp [go_sem, Oper.quietUpon]

end Go.Proofs.YtgpbdocgnfjckaaGreat
