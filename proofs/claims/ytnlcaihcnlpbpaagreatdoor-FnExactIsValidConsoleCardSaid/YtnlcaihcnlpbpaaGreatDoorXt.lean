/- What the rows of the log's laws share: what the listed variables give; a world for the witness; the arguments opened and shut. -/
import Derived.Test.YtnlcaihcnlpbpaaGreatDoorCards
import Derived.Test.YtnlcaihcnlpbpaaGreatDoorTie
import Derived.Test.YtnlcaihcnlpbpaaGreatDoorXa
import Derived.WalkKit
import Derived.ProofKit
import Derived.OpenShut
import Derived.ShutString
import Derived.ChangeOld
import Derived.Below
import Derived.Deep.Strs
import Derived.Deep.DeepHandedRow
import Derived.Lib.LaidTab
import Derived.Lib.LaidU8
namespace Go.Proofs.YtnlcaihcnlpbpaaGreatDoor.RowsKit
open Go.ChangeShapes Go.WideShapes Go.ChangeAt Go.RowKit
open Go.ChangeMaps (open_string shut_string)
set_option linter.unusedVariables false

theorem own : ownKnob Tryz.prog.godebug = none := by kernel_rfl
theorem gTab : Tryz.prog.globalNamed "internal/strconv.uint64pow10" = some 1 := by kernel_rfl
theorem gTabType : (Tryz.prog.globals[1]?).map (·.type) = some 120 := by kernel_rfl
theorem cellsTab : Tryz.prog.cellsOf 120 = 20 := by kernel_rfl
theorem cellsU64 : Tryz.prog.cellsOf 113 = 1 := by kernel_rfl
theorem cells23 : Tryz.prog.cellsOf 27 = 3 := by kernel_rfl
theorem cells9 : Tryz.prog.cellsOf 9 = 1 := by kernel_rfl
theorem cells3 : Tryz.prog.cellsOf 3 = 1 := by kernel_rfl
theorem powData : (Rows.laid_internal_strconv_uint64pow10 : DataW Unit) = Lib.tabData .u64 Lib.pow10Tab := by kernel_rfl

/-- What the row's list gives. -/
theorem glob {W : World} {l : List (String × DataW Unit)} (h : laidMet Tryz.prog l W) (hm : ("internal/strconv.uint64pow10", (Rows.laid_internal_strconv_uint64pow10 : DataW Unit)) ∈ l) : X.Glob W := by
  obtain ⟨g, t, cs, fuel, p, hg, ht, hvar, hd⟩ := Lib.laidMet.reads h hm
  obtain rfl := Option.some.inj (gTab.symm.trans hg)
  obtain rfl := Option.some.inj (gTabType.symm.trans ht)
  rw [powData] at hd
  have htab : Lib.TabIs Tryz.prog W "internal/strconv.uint64pow10" .u64 Lib.pow10Tab := by
    unfold Lib.TabIs
    rw [hvar, ← Lib.cells_of_tab Tryz.underlying120 Tryz.underlying113 cellsU64 cellsTab hd]
  refine ⟨htab, ?_⟩
  have hc := htab.cell gTab 0 (by decide)
  apply Decidable.byContradiction
  intro hlt
  have : W.heap[1]? = none := Array.getElem?_eq_none (by omega)
  simp [World.cell?, this] at hc

/-- A world for the witness. -/
def dataCells : DataW Unit → Array Value
  | .agg l => (l.map fun d => match d with | .lit (.int k z) => Value.int k z | _ => .bool false).toArray
  | _ => #[]
def fillAt (h : Array Obj) (g : Nat) (d : DataW Unit) : Array Obj := h.modify g fun
  | .cells _ t frozen => .cells (dataCells d) t frozen
  | o => o
noncomputable def laidWorld (os : Os) : World :=
  { World.holding Tryz.prog os ⟨#[], #[], []⟩ with heap := fillAt (fillAt (fillAt (World.holding Tryz.prog os ⟨#[], #[], []⟩).heap 2 Rows.laid_math_bits_deBruijn32tab) 3 Rows.laid_math_bits_deBruijn64tab) 1 Rows.laid_internal_strconv_uint64pow10 }
def logArg : Value := .agg #[.string ⟨#[]⟩, .string ⟨#[]⟩, .int .i64 0]

section
variable {H : Type} {enc : TypeId × Value → H}
set_option maxRecDepth 100000 in
/-- A log that is an argument: its three fields. -/
theorem open_log {W : World} {base : Nat} {sp : Nat → Bool} {v : Value} {d : DataW H} {ps : List MemPlace} (hval : Value.okWide Tryz.prog W .any base 27 v) (h : DataW.Trod enc Tryz.prog W 0 sp true 27 v d ps) :
    ∃ (D P : ByteArray) (c : Int), v = .agg #[.string D, .string P, .int .i64 c] ∧ d = .agg [.lit (.string D.data.toList), .lit (.string P.data.toList), .lit (.int .i64 c)] ∧ ps = [] ∧ D.size ≤ maxLen ∧ P.size ≤ maxLen ∧ (Lit.int .i64 c).wf = true := by
  obtain ⟨cs, rfl, hcs⟩ := okWide_struct Tryz.underlying27 hval
  obtain ⟨fuel, hf⟩ := h
  obtain ⟨y0, y1, y2, n, hx, hl, t0, t1, t2⟩ := Deep.trod_struct3 Tryz.underlying27 hf
  simp only [Value.cells] at t0 t1 t2 hl
  rw [cells23] at hl hcs
  simp only [cells9, cells3] at t0 t1 t2
  obtain ⟨l⟩ := cs
  match l, hl with
  | [c0, c1, c2], _ =>
    simp only [List.drop, List.take] at t0 t1 t2
    obtain ⟨D, hD, hy0, hD1⟩ := DataW.trod_string Tryz.underlying9 t0
    obtain ⟨P, hP, hy1, hP1⟩ := DataW.trod_string Tryz.underlying9 t1
    obtain ⟨c, hc, hy2, hc1⟩ := DataW.trod_int Tryz.underlying3 t2
    simp at hD hP hc
    subst hD hP hc
    subst hy0 hy1 hy2
    simp only [Prod.mk.injEq] at hx
    exact ⟨D, P, c, rfl, by simpa using hx.1, by simpa using hx.2, hD1, hP1, hc1⟩
set_option maxRecDepth 100000 in
theorem shut_log {W : World} {base : Nat} {sp : Nat → Bool} {held : Bool} {D P : ByteArray} {c : Int} (hD : D.size ≤ maxLen) (hP : P.size ≤ maxLen) (hc : (Lit.int .i64 c).wf = true) :
    DataW.Trod enc Tryz.prog W base sp held 27 (.agg #[.string D, .string P, .int .i64 c]) (.agg [.lit (.string D.data.toList), .lit (.string P.data.toList), .lit (.int .i64 c)]) [] := by
  obtain ⟨n0, h0⟩ := shut_string (enc := enc) (P := Tryz.prog) (w := W) (base := base) (sp := sp) (held := held) Tryz.underlying9 hD
  obtain ⟨n1, h1⟩ := shut_string (enc := enc) (P := Tryz.prog) (w := W) (base := base) (sp := sp) (held := held) Tryz.underlying9 hP
  have h2 := trod_int_mk (enc := enc) (w := W) (base := base) (spare := sp) (held := held) (n0 + n1) Tryz.underlying3 hc
  have := Deep.trod_struct3_mk (enc := enc) (w := W) (base := base) (spare := sp) (held := held) (n := n0 + n1 + 1) (cs := [.string D, .string P, .int .i64 c]) (y0 := (.lit (.string D.data.toList), [])) (y1 := (.lit (.string P.data.toList), [])) (y2 := (.lit (.int .i64 c), [])) Tryz.underlying27 (by rw [cells23]; rfl)
    (by simpa [cells9, Value.cells] using DataW.trod_le (by omega) h0) (by simpa [cells9, Value.cells] using DataW.trod_le (by omega) h1) (by simpa [cells3] using h2)
  exact ⟨_, by simpa [Value.cells] using this⟩
end
end Go.Proofs.YtnlcaihcnlpbpaaGreatDoor.RowsKit
