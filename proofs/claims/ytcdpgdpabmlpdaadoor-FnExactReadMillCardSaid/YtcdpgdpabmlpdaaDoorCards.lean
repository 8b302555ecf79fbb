/-
  DERIVED. GIVEN WITH THE SEED: THE CARDS: each row of YtcdpgdpabmlpdaaDoorRows.lean that lists a variable, with what it lists TIED to the program's text (the seventh form; the later family's looks); each row that meets fmt, with fmt's text TOLD by the authors' own Lean function (tested against real Go, not proved from fmt's source: count such statements apart). THE CARD IS WHAT COUNTS. Prove the row's statement (the work); the ties are given (YtcdpgdpabmlpdaaDoorTie.lean); close each card by the builder's one call (the guide's Derived/Test/ToyasCard.lean, 'card_holds'). Laid BY PROGRAM, IN A SANDBOX (cutbox-door.mjs). By AI agents, Wed Nov 11 2026. No macro, syntax, notation, axiom, sorry.
-/
import Derived.Test.YtcdpgdpabmlpdaaDoorRows
import GoSem.ClaimSeven
namespace Go.Proofs.YtcdpgdpabmlpdaaDoor
namespace Rows

/-- THE TIED CARD OF 'laws.FnExactRainText'. -/
def fnExactRainTextCard : Claim7 := { stood := { row := fnExactRainTextRow, standIns := [], harness := (true, "6514dac724dba8d19e3940fc71aede47116b6c297acd34377e0ed85c05e126ac"), looks := true }, kinds := [], alts := [], laidByText := true, laidKinds := [.data, .data, .data], laidTests := true, laidLooks := .later }
def FnExactRainTextCardSaid : Prop := Claim7.holds Tryd.pinned (.plain (OpenSpec.ofChange fnExactRainTextSpec)) fnExactRainTextCard

/-- THE TIED CARD OF 'laws.FnExactMillText'. -/
def fnExactMillTextCard : Claim7 := { stood := { row := fnExactMillTextRow, standIns := [], harness := (true, "6514dac724dba8d19e3940fc71aede47116b6c297acd34377e0ed85c05e126ac"), looks := true }, kinds := [], alts := [], laidByText := true, laidKinds := [.data, .data, .data], laidTests := true, laidLooks := .later }
def FnExactMillTextCardSaid : Prop := Claim7.holds Tryd.pinned (.plain (OpenSpec.ofChange fnExactMillTextSpec)) fnExactMillTextCard

/-- THE TIED CARD OF 'laws.FnExactGateText'. -/
def fnExactGateTextCard : Claim7 := { stood := { row := fnExactGateTextRow, standIns := [], harness := (true, "6514dac724dba8d19e3940fc71aede47116b6c297acd34377e0ed85c05e126ac"), looks := true }, kinds := [], alts := [], laidByText := true, laidKinds := [.data, .data, .data], laidTests := true, laidLooks := .later }
def FnExactGateTextCardSaid : Prop := Claim7.holds Tryd.pinned (.plain (OpenSpec.ofChange fnExactGateTextSpec)) fnExactGateTextCard

/-- THE TIED CARD OF 'laws.FnExactDikeText'. -/
def fnExactDikeTextCard : Claim7 := { stood := { row := fnExactDikeTextRow, standIns := [], harness := (true, "6514dac724dba8d19e3940fc71aede47116b6c297acd34377e0ed85c05e126ac"), looks := true }, kinds := [], alts := [], laidByText := true, laidKinds := [.data, .data, .data], laidTests := true, laidLooks := .later }
def FnExactDikeTextCardSaid : Prop := Claim7.holds Tryd.pinned (.plain (OpenSpec.ofChange fnExactDikeTextSpec)) fnExactDikeTextCard

/-- THE TIED CARD OF 'laws.FnExactTidesText'. -/
def fnExactTidesTextCard : Claim7 := { stood := { row := fnExactTidesTextRow, standIns := [], harness := (true, "6514dac724dba8d19e3940fc71aede47116b6c297acd34377e0ed85c05e126ac"), looks := true }, kinds := [], alts := [], laidByText := true, laidKinds := [.data, .data, .data], laidTests := true, laidLooks := .later }
def FnExactTidesTextCardSaid : Prop := Claim7.holds Tryd.pinned (.plain (OpenSpec.ofChange fnExactTidesTextSpec)) fnExactTidesTextCard

/-- THE TIED CARD OF 'laws.FnExactReadRain'. -/
def fnExactReadRainCard : Claim7 := { stood := { row := fnExactReadRainRow, standIns := [], harness := (true, "6514dac724dba8d19e3940fc71aede47116b6c297acd34377e0ed85c05e126ac"), looks := true }, kinds := [], alts := [], laidByText := true, laidKinds := [.data, .data, .data, .sentinel, .sentinel], laidTests := true, laidLooks := .later }
def FnExactReadRainCardSaid : Prop := Claim7.holds Tryd.pinned (.plain (OpenSpec.ofChange fnExactReadRainSpec)) fnExactReadRainCard

/-- THE TIED CARD OF 'laws.FnExactReadDike'. -/
def fnExactReadDikeCard : Claim7 := { stood := { row := fnExactReadDikeRow, standIns := [], harness := (true, "6514dac724dba8d19e3940fc71aede47116b6c297acd34377e0ed85c05e126ac"), looks := true }, kinds := [], alts := [], laidByText := true, laidKinds := [.data, .data, .data, .sentinel, .sentinel], laidTests := true, laidLooks := .later }
def FnExactReadDikeCardSaid : Prop := Claim7.holds Tryd.pinned (.plain (OpenSpec.ofChange fnExactReadDikeSpec)) fnExactReadDikeCard

/-- THE TIED CARD OF 'laws.FnExactReadTides'. -/
def fnExactReadTidesCard : Claim7 := { stood := { row := fnExactReadTidesRow, standIns := [], harness := (true, "6514dac724dba8d19e3940fc71aede47116b6c297acd34377e0ed85c05e126ac"), looks := true }, kinds := [], alts := [], laidByText := true, laidKinds := [.data, .data, .data, .sentinel, .sentinel], laidTests := true, laidLooks := .later }
def FnExactReadTidesCardSaid : Prop := Claim7.holds Tryd.pinned (.plain (OpenSpec.ofChange fnExactReadTidesSpec)) fnExactReadTidesCard

/-- THE TIED CARD OF 'laws.FnExactReadMill'. -/
def fnExactReadMillCard : Claim7 := { stood := { row := fnExactReadMillRow, standIns := [], harness := (true, "6514dac724dba8d19e3940fc71aede47116b6c297acd34377e0ed85c05e126ac"), looks := true }, kinds := [], alts := [], laidByText := true, laidKinds := [.data, .data, .data, .data, .sentinel, .sentinel, .pinned], laidTests := true, laidLooks := .later }
def FnExactReadMillCardSaid : Prop := Claim7.holds Tryd.pinned (.plain (OpenSpec.ofChange fnExactReadMillSpec)) fnExactReadMillCard

/-- THE SECOND FORM's CARD OF 'laws.FnExactRainText'. -/
def fnExactRainTextUptoCard : Claim7 := { stood := { row := fnExactRainTextUptoRow, standIns := [], harness := (true, "6514dac724dba8d19e3940fc71aede47116b6c297acd34377e0ed85c05e126ac"), looks := true }, kinds := [], alts := [], laidByText := true, laidKinds := [.data, .data, .data], laidTests := true, laidLooks := .later }
def FnExactRainTextUptoCardSaid : Prop := Claim7.holds Tryd.pinned (.plain (OpenSpec.upto fnExactRainTextSpec)) fnExactRainTextUptoCard

/-- THE SECOND FORM's CARD OF 'laws.FnExactMillText'. -/
def fnExactMillTextUptoCard : Claim7 := { stood := { row := fnExactMillTextUptoRow, standIns := [], harness := (true, "6514dac724dba8d19e3940fc71aede47116b6c297acd34377e0ed85c05e126ac"), looks := true }, kinds := [], alts := [], laidByText := true, laidKinds := [.data, .data, .data], laidTests := true, laidLooks := .later }
def FnExactMillTextUptoCardSaid : Prop := Claim7.holds Tryd.pinned (.plain (OpenSpec.upto fnExactMillTextSpec)) fnExactMillTextUptoCard

/-- THE SECOND FORM's CARD OF 'laws.FnExactGateText'. -/
def fnExactGateTextUptoCard : Claim7 := { stood := { row := fnExactGateTextUptoRow, standIns := [], harness := (true, "6514dac724dba8d19e3940fc71aede47116b6c297acd34377e0ed85c05e126ac"), looks := true }, kinds := [], alts := [], laidByText := true, laidKinds := [.data, .data, .data], laidTests := true, laidLooks := .later }
def FnExactGateTextUptoCardSaid : Prop := Claim7.holds Tryd.pinned (.plain (OpenSpec.upto fnExactGateTextSpec)) fnExactGateTextUptoCard

/-- THE SECOND FORM's CARD OF 'laws.FnExactDikeText'. -/
def fnExactDikeTextUptoCard : Claim7 := { stood := { row := fnExactDikeTextUptoRow, standIns := [], harness := (true, "6514dac724dba8d19e3940fc71aede47116b6c297acd34377e0ed85c05e126ac"), looks := true }, kinds := [], alts := [], laidByText := true, laidKinds := [.data, .data, .data], laidTests := true, laidLooks := .later }
def FnExactDikeTextUptoCardSaid : Prop := Claim7.holds Tryd.pinned (.plain (OpenSpec.upto fnExactDikeTextSpec)) fnExactDikeTextUptoCard

/-- THE SECOND FORM's CARD OF 'laws.FnExactTidesText'. -/
def fnExactTidesTextUptoCard : Claim7 := { stood := { row := fnExactTidesTextUptoRow, standIns := [], harness := (true, "6514dac724dba8d19e3940fc71aede47116b6c297acd34377e0ed85c05e126ac"), looks := true }, kinds := [], alts := [], laidByText := true, laidKinds := [.data, .data, .data], laidTests := true, laidLooks := .later }
def FnExactTidesTextUptoCardSaid : Prop := Claim7.holds Tryd.pinned (.plain (OpenSpec.upto fnExactTidesTextSpec)) fnExactTidesTextUptoCard

/-- THE SECOND FORM's CARD OF 'laws.FnExactReadRain'. -/
def fnExactReadRainUptoCard : Claim7 := { stood := { row := fnExactReadRainUptoRow, standIns := [], harness := (true, "6514dac724dba8d19e3940fc71aede47116b6c297acd34377e0ed85c05e126ac"), looks := true }, kinds := [], alts := [], laidByText := true, laidKinds := [.data, .data, .data, .sentinel, .sentinel], laidTests := true, laidLooks := .later }
def FnExactReadRainUptoCardSaid : Prop := Claim7.holds Tryd.pinned (.plain (OpenSpec.upto fnExactReadRainSpec)) fnExactReadRainUptoCard

/-- THE SECOND FORM's CARD OF 'laws.FnExactReadDike'. -/
def fnExactReadDikeUptoCard : Claim7 := { stood := { row := fnExactReadDikeUptoRow, standIns := [], harness := (true, "6514dac724dba8d19e3940fc71aede47116b6c297acd34377e0ed85c05e126ac"), looks := true }, kinds := [], alts := [], laidByText := true, laidKinds := [.data, .data, .data, .sentinel, .sentinel], laidTests := true, laidLooks := .later }
def FnExactReadDikeUptoCardSaid : Prop := Claim7.holds Tryd.pinned (.plain (OpenSpec.upto fnExactReadDikeSpec)) fnExactReadDikeUptoCard

/-- THE SECOND FORM's CARD OF 'laws.FnExactReadTides'. -/
def fnExactReadTidesUptoCard : Claim7 := { stood := { row := fnExactReadTidesUptoRow, standIns := [], harness := (true, "6514dac724dba8d19e3940fc71aede47116b6c297acd34377e0ed85c05e126ac"), looks := true }, kinds := [], alts := [], laidByText := true, laidKinds := [.data, .data, .data, .sentinel, .sentinel], laidTests := true, laidLooks := .later }
def FnExactReadTidesUptoCardSaid : Prop := Claim7.holds Tryd.pinned (.plain (OpenSpec.upto fnExactReadTidesSpec)) fnExactReadTidesUptoCard

/-- THE SECOND FORM's CARD OF 'laws.FnExactReadMill'. -/
def fnExactReadMillUptoCard : Claim7 := { stood := { row := fnExactReadMillUptoRow, standIns := [], harness := (true, "6514dac724dba8d19e3940fc71aede47116b6c297acd34377e0ed85c05e126ac"), looks := true }, kinds := [], alts := [], laidByText := true, laidKinds := [.data, .data, .data, .data, .sentinel, .sentinel, .pinned], laidTests := true, laidLooks := .later }
def FnExactReadMillUptoCardSaid : Prop := Claim7.holds Tryd.pinned (.plain (OpenSpec.upto fnExactReadMillSpec)) fnExactReadMillUptoCard
end Rows
end Go.Proofs.YtcdpgdpabmlpdaaDoor
