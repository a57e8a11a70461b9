/- What FnTavernLogs' row uses: what the listed variables give; a world for the witness; the arguments opened and shut. -/
import Derived.Test.YtnbhbnndfpfikaaDoorCards
import Derived.Test.YtnbhbnndfpfikaaDoorTie
import Derived.Test.YtnbhbnndfpfikaaDoorXa
import Derived.WalkKit
import Derived.ProofKit
import Derived.OpenShut
import Derived.ShutString
import Derived.ChangeOld
import Derived.Below
import Derived.Deep.Strs
import Derived.Deep.DeepHandedRow
import Derived.Lib.LaidTab
import Derived.Lib.LaidU8
namespace Go.Proofs.YtnbhbnndfpfikaaDoor.RowsKit
open Go.ChangeShapes Go.WideShapes Go.ChangeAt Go.RowKit
open Go.ChangeMaps (open_string shut_string)
set_option linter.unusedVariables false
theorem own : ownKnob Tryd.prog.godebug = none := by kernel_rfl
theorem gTab : Tryd.prog.globalNamed "internal/strconv.uint64pow10" = some 3 := by kernel_rfl
theorem gTabType : (Tryd.prog.globals[3]?).map (·.type) = some 136 := by kernel_rfl
theorem cellsTab : Tryd.prog.cellsOf 136 = 20 := by kernel_rfl
theorem cellsU64 : Tryd.prog.cellsOf 73 = 1 := by kernel_rfl
theorem powData : (Rows.laid_internal_strconv_uint64pow10 : DataW Unit) = Lib.tabData .u64 Lib.pow10Tab := by kernel_rfl
theorem glob {W : World} {l : List (String × DataW Unit)} (h : laidMet Tryd.prog l W) (hm : ("internal/strconv.uint64pow10", (Rows.laid_internal_strconv_uint64pow10 : DataW Unit)) ∈ l) : X.Glob W := by
  obtain ⟨g, t, cs, fuel, p, hg, ht, hvar, hd⟩ := Lib.laidMet.reads h hm
  obtain rfl := Option.some.inj (gTab.symm.trans hg)
  obtain rfl := Option.some.inj (gTabType.symm.trans ht)
  rw [powData] at hd
  have htab : Lib.TabIs Tryd.prog W "internal/strconv.uint64pow10" .u64 Lib.pow10Tab := by
    unfold Lib.TabIs
    rw [hvar, ← Lib.cells_of_tab Tryd.underlying136 Tryd.underlying73 cellsU64 cellsTab hd]
  refine ⟨htab, ?_⟩
  have hc := htab.cell gTab 0 (by decide)
  apply Decidable.byContradiction
  intro hlt
  have : W.heap[3]? = none := Array.getElem?_eq_none (by omega)
  simp [World.cell?, this] at hc
end Go.Proofs.YtnbhbnndfpfikaaDoor.RowsKit
