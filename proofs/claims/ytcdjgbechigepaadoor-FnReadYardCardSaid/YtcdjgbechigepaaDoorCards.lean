/-
  DERIVED. GIVEN WITH THE SEED: THE CARDS: each row of YtcdjgbechigepaaDoorRows.lean that lists a variable, with what it lists TIED to the program's text (the seventh form; the later family's looks); each row that meets fmt, with fmt's text TOLD by the authors' own Lean function (tested against real Go, not proved from fmt's source: count such statements apart). THE CARD IS WHAT COUNTS. Prove the row's statement (the work); the ties are given (YtcdjgbechigepaaDoorTie.lean); close each card by the builder's one call (the guide's Derived/Test/ToyasCard.lean, 'card_holds'). Laid BY PROGRAM, IN A SANDBOX (cutbox-door.mjs). By AI agents, Wed Nov 11 2026. No macro, syntax, notation, axiom, sorry.
-/
import Derived.Test.YtcdjgbechigepaaDoorRows
import GoSem.ClaimSeven
namespace Go.Proofs.YtcdjgbechigepaaDoor
namespace Rows

/-- THE TIED CARD OF 'laws.FnExactReadYard'. -/
def fnExactReadYardCard : Claim7 := { stood := { row := fnExactReadYardRow, standIns := [], harness := (true, "6a4102ab689a9036220af093c8d86591a9f5515a78c9f16e9e8658365c721f3e"), looks := true }, kinds := [], alts := [], laidByText := true, laidKinds := [.data, .data, .data, .data, .sentinel, .sentinel, .pinned], laidTests := true, laidLooks := .later }
def FnExactReadYardCardSaid : Prop := Claim7.holds Tryd.pinned (.plain (OpenSpec.ofChange fnExactReadYardSpec)) fnExactReadYardCard

/-- THE TIED CARD OF 'laws.FnReadYard'. -/
def fnReadYardCard : Claim7 := { stood := { row := fnReadYardRow, standIns := [], harness := (true, "6a4102ab689a9036220af093c8d86591a9f5515a78c9f16e9e8658365c721f3e"), looks := true }, kinds := [], alts := [], laidByText := true, laidKinds := [.data, .data, .data, .data, .sentinel, .sentinel, .pinned], laidTests := true, laidLooks := .later }
def FnReadYardCardSaid : Prop := Claim7.holds Tryd.pinned (.plain (OpenSpec.ofChange fnReadYardSpec)) fnReadYardCard

/-- THE TIED CARD OF 'laws.FnYardText'. -/
def fnYardTextCard : Claim7 := { stood := { row := fnYardTextRow, standIns := [], harness := (true, "6a4102ab689a9036220af093c8d86591a9f5515a78c9f16e9e8658365c721f3e"), looks := true }, kinds := [], alts := [], laidByText := true, laidKinds := [.data, .data, .data, .data, .sentinel, .sentinel, .pinned], laidTests := true, laidLooks := .later }
def FnYardTextCardSaid : Prop := Claim7.holds Tryd.pinned (.plain (OpenSpec.ofChange fnYardTextSpec)) fnYardTextCard

/-- THE SECOND FORM's CARD OF 'laws.FnExactReadYard'. -/
def fnExactReadYardUptoCard : Claim7 := { stood := { row := fnExactReadYardUptoRow, standIns := [], harness := (true, "6a4102ab689a9036220af093c8d86591a9f5515a78c9f16e9e8658365c721f3e"), looks := true }, kinds := [], alts := [], laidByText := true, laidKinds := [.data, .data, .data, .data, .sentinel, .sentinel, .pinned], laidTests := true, laidLooks := .later }
def FnExactReadYardUptoCardSaid : Prop := Claim7.holds Tryd.pinned (.plain (OpenSpec.upto fnExactReadYardSpec)) fnExactReadYardUptoCard

/-- THE SECOND FORM's CARD OF 'laws.FnReadYard'. -/
def fnReadYardUptoCard : Claim7 := { stood := { row := fnReadYardUptoRow, standIns := [], harness := (true, "6a4102ab689a9036220af093c8d86591a9f5515a78c9f16e9e8658365c721f3e"), looks := true }, kinds := [], alts := [], laidByText := true, laidKinds := [.data, .data, .data, .data, .sentinel, .sentinel, .pinned], laidTests := true, laidLooks := .later }
def FnReadYardUptoCardSaid : Prop := Claim7.holds Tryd.pinned (.plain (OpenSpec.upto fnReadYardSpec)) fnReadYardUptoCard

/-- THE SECOND FORM's CARD OF 'laws.FnYardText'. -/
def fnYardTextUptoCard : Claim7 := { stood := { row := fnYardTextUptoRow, standIns := [], harness := (true, "6a4102ab689a9036220af093c8d86591a9f5515a78c9f16e9e8658365c721f3e"), looks := true }, kinds := [], alts := [], laidByText := true, laidKinds := [.data, .data, .data, .data, .sentinel, .sentinel, .pinned], laidTests := true, laidLooks := .later }
def FnYardTextUptoCardSaid : Prop := Claim7.holds Tryd.pinned (.plain (OpenSpec.upto fnYardTextSpec)) fnYardTextUptoCard
end Rows
end Go.Proofs.YtcdjgbechigepaaDoor
