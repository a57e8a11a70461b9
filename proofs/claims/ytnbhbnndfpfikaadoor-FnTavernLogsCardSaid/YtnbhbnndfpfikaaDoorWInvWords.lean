import Derived.Test.YtnbhbnndfpfikaaDoorWInv
import Derived.Test.YtnbhbnndfpfikaaDoorWFootNe
namespace Go.Proofs.YtnbhbnndfpfikaaDoorW.PrintWords
open Go.RowKit
end Go.Proofs.YtnbhbnndfpfikaaDoorW.PrintWords
namespace Go.Proofs.YtnbhbnndfpfikaaDoorW.PrintLast
section
variable {ops : Array Oper} {a : Act} {o og : Oper} {g : Nat} {t : Tmp} {u : Bool}
end
end Go.Proofs.YtnbhbnndfpfikaaDoorW.PrintLast
