/- What functions of the program return (each as a Lean function and its contract); written by a program of this session's over the kit's printer. -/
import Derived.Test.YtnbhbnndfpfikaaDoorY0
namespace Go.Proofs.YtnbhbnndfpfikaaDoor.X
open Go.RowKit Go.Proofs.YtnbhbnndfpfikaaDoorW.PrintWords Go.Proofs.YtnbhbnndfpfikaaDoorW.PrintLast Go.Proofs.YtnbhbnndfpfikaaDoorW.PrintMore
attribute [local go_sem] max2_int min2_int max_two min_two max_three min_three max_four min_four   -- for this text's walks alone
set_option linter.unusedVariables false
set_option linter.unusedSimpArgs false
theorem eqA36 (d : Nat) (w : World) (x0 y0 : ByteArray) (x1 y1 : ByteArray) :
    (Op.equalIn (d + 2) 36 (.agg #[.string x0, .string x1]) (.agg #[.string y0, .string y1])).run Tryd.prog w = .ok (x0.toList == y0.toList && (x1.toList == y1.toList)) w := by
  refine eqA_of Tryd.underlying36 (by kernel_rfl) ?_
  refine eqf_cons (by rfl) (by go_simp; rfl) (by go_simp; rfl) (by go_simp) ?_
  exact eqf_last (by rfl) (by go_simp; rfl) (by go_simp; rfl) (by go_simp)
end Go.Proofs.YtnbhbnndfpfikaaDoor.X
