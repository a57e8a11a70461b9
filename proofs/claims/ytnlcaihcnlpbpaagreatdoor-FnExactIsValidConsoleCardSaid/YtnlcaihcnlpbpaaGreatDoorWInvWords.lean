import Derived.Test.YtnlcaihcnlpbpaaGreatDoorWInv
import Derived.Test.YtnlcaihcnlpbpaaGreatDoorWFootNe
namespace Go.Proofs.YtnlcaihcnlpbpaaGreatDoorW.PrintWords
open Go.RowKit
end Go.Proofs.YtnlcaihcnlpbpaaGreatDoorW.PrintWords
namespace Go.Proofs.YtnlcaihcnlpbpaaGreatDoorW.PrintLast
section
variable {ops : Array Oper} {a : Act} {o og : Oper} {g : Nat} {t : Tmp} {u : Bool}
end
end Go.Proofs.YtnlcaihcnlpbpaaGreatDoorW.PrintLast
