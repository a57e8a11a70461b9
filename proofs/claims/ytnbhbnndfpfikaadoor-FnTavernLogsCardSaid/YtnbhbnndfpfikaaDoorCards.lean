/-
  DERIVED. GIVEN WITH THE SEED: THE CARDS: each row of YtnbhbnndfpfikaaDoorRows.lean that lists a variable, with what it lists TIED to the program's text (the seventh form; the later family's looks); each row that meets fmt, with fmt's text TOLD by the authors' own Lean function (tested against real Go, not proved from fmt's source: count such statements apart). THE CARD IS WHAT COUNTS. Prove the row's statement (the work); the ties are given (YtnbhbnndfpfikaaDoorTie.lean); close each card by the builder's one call (the guide's Derived/Test/ToyasCard.lean, 'card_holds'). Laid BY PROGRAM, IN A SANDBOX (cutbox-door.mjs). By AI agents, Wed Nov 11 2026. No macro, syntax, notation, axiom, sorry.
-/
import Derived.Test.YtnbhbnndfpfikaaDoorRows
import GoSem.ClaimSeven
namespace Go.Proofs.YtnbhbnndfpfikaaDoor
namespace Rows

/-- THE TIED CARD OF 'laws.FnExactSyncLog'. -/
def fnExactSyncLogCard : Claim7 := { stood := { row := fnExactSyncLogRow, standIns := [], harness := (true, "9f7b378ecc3e39f9bf2c0110d467d8b48c528fbf21eefdee5558f0a97c01df0b"), looks := true }, kinds := [], alts := [], laidByText := true, laidKinds := [.data, .data, .data], laidTests := true, laidLooks := .later }
def FnExactSyncLogCardSaid : Prop := Claim7.holds Tryd.pinned (.plain (OpenSpec.ofChange fnExactSyncLogSpec)) fnExactSyncLogCard

/-- THE TIED CARD OF 'laws.FnExactAppendRecord'. -/
def fnExactAppendRecordCard : Claim7 := { stood := { row := fnExactAppendRecordRow, standIns := [], harness := (true, "9f7b378ecc3e39f9bf2c0110d467d8b48c528fbf21eefdee5558f0a97c01df0b"), looks := true }, kinds := [], alts := [], laidByText := true, laidKinds := [.data, .data, .data], laidTests := true, laidLooks := .later }
def FnExactAppendRecordCardSaid : Prop := Claim7.holds Tryd.pinned (.plain (OpenSpec.ofChange fnExactAppendRecordSpec)) fnExactAppendRecordCard

/-- THE TIED CARD OF 'laws.FnExactLogRecords'. -/
def fnExactLogRecordsCard : Claim7 := { stood := { row := fnExactLogRecordsRow, standIns := [], harness := (true, "9f7b378ecc3e39f9bf2c0110d467d8b48c528fbf21eefdee5558f0a97c01df0b"), looks := true }, kinds := [], alts := [], laidByText := true, laidKinds := [.data, .data, .data], laidTests := true, laidLooks := .later }
def FnExactLogRecordsCardSaid : Prop := Claim7.holds Tryd.pinned (.plain (OpenSpec.ofChange fnExactLogRecordsSpec)) fnExactLogRecordsCard

/-- THE TIED CARD OF 'laws.FnStrings'. -/
def fnStringsCard : Claim7 := { stood := { row := fnStringsRow, standIns := [], harness := (true, "9f7b378ecc3e39f9bf2c0110d467d8b48c528fbf21eefdee5558f0a97c01df0b"), looks := true }, kinds := [], alts := [], laidByText := true, laidKinds := [.data, .data, .data, .sentinel, .sentinel], laidTests := true, laidLooks := .later }
def FnStringsCardSaid : Prop := Claim7.holds Tryd.pinned (.plain (OpenSpec.ofChange fnStringsSpec)) fnStringsCard

/-- THE TIED CARD OF 'laws.FnTavernLogs'. -/
def fnTavernLogsCard : Claim7 := { stood := { row := fnTavernLogsRow, standIns := [], harness := (true, "9f7b378ecc3e39f9bf2c0110d467d8b48c528fbf21eefdee5558f0a97c01df0b"), looks := true }, kinds := [], alts := [], laidByText := true, laidKinds := [.data, .data, .data], laidTests := true, laidLooks := .later }
def FnTavernLogsCardSaid : Prop := Claim7.holds Tryd.pinned (.plain (OpenSpec.ofChange fnTavernLogsSpec)) fnTavernLogsCard

/-- THE SECOND FORM's CARD OF 'laws.FnExactSyncLog'. -/
def fnExactSyncLogUptoCard : Claim7 := { stood := { row := fnExactSyncLogUptoRow, standIns := [], harness := (true, "9f7b378ecc3e39f9bf2c0110d467d8b48c528fbf21eefdee5558f0a97c01df0b"), looks := true }, kinds := [], alts := [], laidByText := true, laidKinds := [.data, .data, .data], laidTests := true, laidLooks := .later }
def FnExactSyncLogUptoCardSaid : Prop := Claim7.holds Tryd.pinned (.plain (OpenSpec.upto fnExactSyncLogSpec)) fnExactSyncLogUptoCard

/-- THE SECOND FORM's CARD OF 'laws.FnExactAppendRecord'. -/
def fnExactAppendRecordUptoCard : Claim7 := { stood := { row := fnExactAppendRecordUptoRow, standIns := [], harness := (true, "9f7b378ecc3e39f9bf2c0110d467d8b48c528fbf21eefdee5558f0a97c01df0b"), looks := true }, kinds := [], alts := [], laidByText := true, laidKinds := [.data, .data, .data], laidTests := true, laidLooks := .later }
def FnExactAppendRecordUptoCardSaid : Prop := Claim7.holds Tryd.pinned (.plain (OpenSpec.upto fnExactAppendRecordSpec)) fnExactAppendRecordUptoCard

/-- THE SECOND FORM's CARD OF 'laws.FnExactLogRecords'. -/
def fnExactLogRecordsUptoCard : Claim7 := { stood := { row := fnExactLogRecordsUptoRow, standIns := [], harness := (true, "9f7b378ecc3e39f9bf2c0110d467d8b48c528fbf21eefdee5558f0a97c01df0b"), looks := true }, kinds := [], alts := [], laidByText := true, laidKinds := [.data, .data, .data], laidTests := true, laidLooks := .later }
def FnExactLogRecordsUptoCardSaid : Prop := Claim7.holds Tryd.pinned (.plain (OpenSpec.upto fnExactLogRecordsSpec)) fnExactLogRecordsUptoCard

/-- THE SECOND FORM's CARD OF 'laws.FnStrings'. -/
def fnStringsUptoCard : Claim7 := { stood := { row := fnStringsUptoRow, standIns := [], harness := (true, "9f7b378ecc3e39f9bf2c0110d467d8b48c528fbf21eefdee5558f0a97c01df0b"), looks := true }, kinds := [], alts := [], laidByText := true, laidKinds := [.data, .data, .data, .sentinel, .sentinel], laidTests := true, laidLooks := .later }
def FnStringsUptoCardSaid : Prop := Claim7.holds Tryd.pinned (.plain (OpenSpec.upto fnStringsSpec)) fnStringsUptoCard

/-- THE SECOND FORM's CARD OF 'laws.FnTavernLogs'. -/
def fnTavernLogsUptoCard : Claim7 := { stood := { row := fnTavernLogsUptoRow, standIns := [], harness := (true, "9f7b378ecc3e39f9bf2c0110d467d8b48c528fbf21eefdee5558f0a97c01df0b"), looks := true }, kinds := [], alts := [], laidByText := true, laidKinds := [.data, .data, .data], laidTests := true, laidLooks := .later }
def FnTavernLogsUptoCardSaid : Prop := Claim7.holds Tryd.pinned (.plain (OpenSpec.upto fnTavernLogsSpec)) fnTavernLogsUptoCard
end Rows
end Go.Proofs.YtnbhbnndfpfikaaDoor
