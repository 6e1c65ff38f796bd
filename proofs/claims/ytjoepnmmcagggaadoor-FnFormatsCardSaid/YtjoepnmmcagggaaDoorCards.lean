/-
  DERIVED. GIVEN WITH THE SEED: THE CARDS: each row of YtjoepnmmcagggaaDoorRows.lean that lists a variable, with what it lists TIED to the program's text (the seventh form; the later family's looks); each row that meets fmt, with fmt's text TOLD by the authors' own Lean function (tested against real Go, not proved from fmt's source: count such statements apart). THE CARD IS WHAT COUNTS. Prove the row's statement (the work); the ties are given (YtjoepnmmcagggaaDoorTie.lean); close each card by the builder's one call (the guide's Derived/Test/ToyasCard.lean, 'card_holds'). Laid BY PROGRAM, IN A SANDBOX (cutbox-door.mjs). By AI agents, Wed Nov 11 2026. No macro, syntax, notation, axiom, sorry.
-/
import Derived.Test.YtjoepnmmcagggaaDoorRows
import GoSem.ClaimSeven
namespace Go.Proofs.YtjoepnmmcagggaaDoor
namespace Rows

/-- THE TIED CARD OF 'laws.FnExactDecimal'. -/
def fnExactDecimalCard : Claim7 := { stood := { row := fnExactDecimalRow, standIns := [], harness := (true, "dce6115e068fc6e0689c742130bc5bd6e4eb6340be79980dbd3e37646dd4ea73"), looks := true }, kinds := [], alts := [], laidByText := true, laidKinds := [.data, .data, .data], laidTests := true, laidLooks := .later }
def FnExactDecimalCardSaid : Prop := Claim7.holds Tryd.pinned (.plain (OpenSpec.ofChange fnExactDecimalSpec)) fnExactDecimalCard

/-- THE TIED CARD OF 'laws.FnExactClayText'. -/
def fnExactClayTextCard : Claim7 := { stood := { row := fnExactClayTextRow, standIns := [], harness := (true, "dce6115e068fc6e0689c742130bc5bd6e4eb6340be79980dbd3e37646dd4ea73"), looks := true }, kinds := [], alts := [], laidByText := true, laidKinds := [.data, .data, .data], laidTests := true, laidLooks := .later }
def FnExactClayTextCardSaid : Prop := Claim7.holds Tryd.pinned (.plain (OpenSpec.ofChange fnExactClayTextSpec)) fnExactClayTextCard

/-- THE TIED CARD OF 'laws.FnExactFormatText'. -/
def fnExactFormatTextCard : Claim7 := { stood := { row := fnExactFormatTextRow, standIns := [], harness := (true, "dce6115e068fc6e0689c742130bc5bd6e4eb6340be79980dbd3e37646dd4ea73"), looks := true }, kinds := [], alts := [], laidByText := true, laidKinds := [.data, .data, .data], laidTests := true, laidLooks := .later }
def FnExactFormatTextCardSaid : Prop := Claim7.holds Tryd.pinned (.plain (OpenSpec.ofChange fnExactFormatTextSpec)) fnExactFormatTextCard

/-- THE TIED CARD OF 'laws.FnExactMouldText'. -/
def fnExactMouldTextCard : Claim7 := { stood := { row := fnExactMouldTextRow, standIns := [], harness := (true, "dce6115e068fc6e0689c742130bc5bd6e4eb6340be79980dbd3e37646dd4ea73"), looks := true }, kinds := [], alts := [], laidByText := true, laidKinds := [.data, .data, .data], laidTests := true, laidLooks := .later }
def FnExactMouldTextCardSaid : Prop := Claim7.holds Tryd.pinned (.plain (OpenSpec.ofChange fnExactMouldTextSpec)) fnExactMouldTextCard

/-- THE TIED CARD OF 'laws.FnExactSplitWords'. -/
def fnExactSplitWordsCard : Claim7 := { stood := { row := fnExactSplitWordsRow, standIns := [], harness := (true, "dce6115e068fc6e0689c742130bc5bd6e4eb6340be79980dbd3e37646dd4ea73"), looks := true }, kinds := [], alts := [], laidByText := true, laidKinds := [.data, .pinned], laidTests := true, laidLooks := .later }
def FnExactSplitWordsCardSaid : Prop := Claim7.holds Tryd.pinned (.plain (OpenSpec.ofChange fnExactSplitWordsSpec)) fnExactSplitWordsCard

/-- THE TIED CARD OF 'laws.FnExactReadDecimal'. -/
def fnExactReadDecimalCard : Claim7 := { stood := { row := fnExactReadDecimalRow, standIns := [], harness := (true, "dce6115e068fc6e0689c742130bc5bd6e4eb6340be79980dbd3e37646dd4ea73"), looks := true }, kinds := [], alts := [], laidByText := true, laidKinds := [.data, .data, .data, .sentinel, .sentinel], laidTests := true, laidLooks := .later }
def FnExactReadDecimalCardSaid : Prop := Claim7.holds Tryd.pinned (.plain (OpenSpec.ofChange fnExactReadDecimalSpec)) fnExactReadDecimalCard

/-- THE TIED CARD OF 'laws.FnExactReadClay'. -/
def fnExactReadClayCard : Claim7 := { stood := { row := fnExactReadClayRow, standIns := [], harness := (true, "dce6115e068fc6e0689c742130bc5bd6e4eb6340be79980dbd3e37646dd4ea73"), looks := true }, kinds := [], alts := [], laidByText := true, laidKinds := [.data, .data, .data, .data, .sentinel, .sentinel, .pinned], laidTests := true, laidLooks := .later }
def FnExactReadClayCardSaid : Prop := Claim7.holds Tryd.pinned (.plain (OpenSpec.ofChange fnExactReadClaySpec)) fnExactReadClayCard

/-- THE TIED CARD OF 'laws.FnExactReadFormat'. -/
def fnExactReadFormatCard : Claim7 := { stood := { row := fnExactReadFormatRow, standIns := [], harness := (true, "dce6115e068fc6e0689c742130bc5bd6e4eb6340be79980dbd3e37646dd4ea73"), looks := true }, kinds := [], alts := [], laidByText := true, laidKinds := [.data, .data, .data, .data, .sentinel, .sentinel, .pinned], laidTests := true, laidLooks := .later }
def FnExactReadFormatCardSaid : Prop := Claim7.holds Tryd.pinned (.plain (OpenSpec.ofChange fnExactReadFormatSpec)) fnExactReadFormatCard

/-- THE TIED CARD OF 'laws.FnExactReadMould'. -/
def fnExactReadMouldCard : Claim7 := { stood := { row := fnExactReadMouldRow, standIns := [], harness := (true, "dce6115e068fc6e0689c742130bc5bd6e4eb6340be79980dbd3e37646dd4ea73"), looks := true }, kinds := [], alts := [], laidByText := true, laidKinds := [.data, .data, .data, .data, .sentinel, .sentinel, .pinned], laidTests := true, laidLooks := .later }
def FnExactReadMouldCardSaid : Prop := Claim7.holds Tryd.pinned (.plain (OpenSpec.ofChange fnExactReadMouldSpec)) fnExactReadMouldCard

/-- THE TIED CARD OF 'laws.FnFormats'. -/
def fnFormatsCard : Claim7 := { stood := { row := fnFormatsRow, standIns := [], harness := (true, "dce6115e068fc6e0689c742130bc5bd6e4eb6340be79980dbd3e37646dd4ea73"), looks := true }, kinds := [], alts := [], laidByText := true, laidKinds := [.data, .data, .data, .data, .sentinel, .sentinel, .pinned], laidTests := true, laidLooks := .later }
def FnFormatsCardSaid : Prop := Claim7.holds Tryd.pinned (.plain (OpenSpec.ofChange fnFormatsSpec)) fnFormatsCard

/-- THE SECOND FORM's CARD OF 'laws.FnExactDecimal'. -/
def fnExactDecimalUptoCard : Claim7 := { stood := { row := fnExactDecimalUptoRow, standIns := [], harness := (true, "dce6115e068fc6e0689c742130bc5bd6e4eb6340be79980dbd3e37646dd4ea73"), looks := true }, kinds := [], alts := [], laidByText := true, laidKinds := [.data, .data, .data], laidTests := true, laidLooks := .later }
def FnExactDecimalUptoCardSaid : Prop := Claim7.holds Tryd.pinned (.plain (OpenSpec.upto fnExactDecimalSpec)) fnExactDecimalUptoCard

/-- THE SECOND FORM's CARD OF 'laws.FnExactClayText'. -/
def fnExactClayTextUptoCard : Claim7 := { stood := { row := fnExactClayTextUptoRow, standIns := [], harness := (true, "dce6115e068fc6e0689c742130bc5bd6e4eb6340be79980dbd3e37646dd4ea73"), looks := true }, kinds := [], alts := [], laidByText := true, laidKinds := [.data, .data, .data], laidTests := true, laidLooks := .later }
def FnExactClayTextUptoCardSaid : Prop := Claim7.holds Tryd.pinned (.plain (OpenSpec.upto fnExactClayTextSpec)) fnExactClayTextUptoCard

/-- THE SECOND FORM's CARD OF 'laws.FnExactFormatText'. -/
def fnExactFormatTextUptoCard : Claim7 := { stood := { row := fnExactFormatTextUptoRow, standIns := [], harness := (true, "dce6115e068fc6e0689c742130bc5bd6e4eb6340be79980dbd3e37646dd4ea73"), looks := true }, kinds := [], alts := [], laidByText := true, laidKinds := [.data, .data, .data], laidTests := true, laidLooks := .later }
def FnExactFormatTextUptoCardSaid : Prop := Claim7.holds Tryd.pinned (.plain (OpenSpec.upto fnExactFormatTextSpec)) fnExactFormatTextUptoCard

/-- THE SECOND FORM's CARD OF 'laws.FnExactMouldText'. -/
def fnExactMouldTextUptoCard : Claim7 := { stood := { row := fnExactMouldTextUptoRow, standIns := [], harness := (true, "dce6115e068fc6e0689c742130bc5bd6e4eb6340be79980dbd3e37646dd4ea73"), looks := true }, kinds := [], alts := [], laidByText := true, laidKinds := [.data, .data, .data], laidTests := true, laidLooks := .later }
def FnExactMouldTextUptoCardSaid : Prop := Claim7.holds Tryd.pinned (.plain (OpenSpec.upto fnExactMouldTextSpec)) fnExactMouldTextUptoCard

/-- THE SECOND FORM's CARD OF 'laws.FnExactSplitWords'. -/
def fnExactSplitWordsUptoCard : Claim7 := { stood := { row := fnExactSplitWordsUptoRow, standIns := [], harness := (true, "dce6115e068fc6e0689c742130bc5bd6e4eb6340be79980dbd3e37646dd4ea73"), looks := true }, kinds := [], alts := [], laidByText := true, laidKinds := [.data, .pinned], laidTests := true, laidLooks := .later }
def FnExactSplitWordsUptoCardSaid : Prop := Claim7.holds Tryd.pinned (.plain (OpenSpec.upto fnExactSplitWordsSpec)) fnExactSplitWordsUptoCard

/-- THE SECOND FORM's CARD OF 'laws.FnExactReadDecimal'. -/
def fnExactReadDecimalUptoCard : Claim7 := { stood := { row := fnExactReadDecimalUptoRow, standIns := [], harness := (true, "dce6115e068fc6e0689c742130bc5bd6e4eb6340be79980dbd3e37646dd4ea73"), looks := true }, kinds := [], alts := [], laidByText := true, laidKinds := [.data, .data, .data, .sentinel, .sentinel], laidTests := true, laidLooks := .later }
def FnExactReadDecimalUptoCardSaid : Prop := Claim7.holds Tryd.pinned (.plain (OpenSpec.upto fnExactReadDecimalSpec)) fnExactReadDecimalUptoCard

/-- THE SECOND FORM's CARD OF 'laws.FnExactReadClay'. -/
def fnExactReadClayUptoCard : Claim7 := { stood := { row := fnExactReadClayUptoRow, standIns := [], harness := (true, "dce6115e068fc6e0689c742130bc5bd6e4eb6340be79980dbd3e37646dd4ea73"), looks := true }, kinds := [], alts := [], laidByText := true, laidKinds := [.data, .data, .data, .data, .sentinel, .sentinel, .pinned], laidTests := true, laidLooks := .later }
def FnExactReadClayUptoCardSaid : Prop := Claim7.holds Tryd.pinned (.plain (OpenSpec.upto fnExactReadClaySpec)) fnExactReadClayUptoCard

/-- THE SECOND FORM's CARD OF 'laws.FnExactReadFormat'. -/
def fnExactReadFormatUptoCard : Claim7 := { stood := { row := fnExactReadFormatUptoRow, standIns := [], harness := (true, "dce6115e068fc6e0689c742130bc5bd6e4eb6340be79980dbd3e37646dd4ea73"), looks := true }, kinds := [], alts := [], laidByText := true, laidKinds := [.data, .data, .data, .data, .sentinel, .sentinel, .pinned], laidTests := true, laidLooks := .later }
def FnExactReadFormatUptoCardSaid : Prop := Claim7.holds Tryd.pinned (.plain (OpenSpec.upto fnExactReadFormatSpec)) fnExactReadFormatUptoCard

/-- THE SECOND FORM's CARD OF 'laws.FnExactReadMould'. -/
def fnExactReadMouldUptoCard : Claim7 := { stood := { row := fnExactReadMouldUptoRow, standIns := [], harness := (true, "dce6115e068fc6e0689c742130bc5bd6e4eb6340be79980dbd3e37646dd4ea73"), looks := true }, kinds := [], alts := [], laidByText := true, laidKinds := [.data, .data, .data, .data, .sentinel, .sentinel, .pinned], laidTests := true, laidLooks := .later }
def FnExactReadMouldUptoCardSaid : Prop := Claim7.holds Tryd.pinned (.plain (OpenSpec.upto fnExactReadMouldSpec)) fnExactReadMouldUptoCard

/-- THE SECOND FORM's CARD OF 'laws.FnFormats'. -/
def fnFormatsUptoCard : Claim7 := { stood := { row := fnFormatsUptoRow, standIns := [], harness := (true, "dce6115e068fc6e0689c742130bc5bd6e4eb6340be79980dbd3e37646dd4ea73"), looks := true }, kinds := [], alts := [], laidByText := true, laidKinds := [.data, .data, .data, .data, .sentinel, .sentinel, .pinned], laidTests := true, laidLooks := .later }
def FnFormatsUptoCardSaid : Prop := Claim7.holds Tryd.pinned (.plain (OpenSpec.upto fnFormatsSpec)) fnFormatsUptoCard
end Rows
end Go.Proofs.YtjoepnmmcagggaaDoor
