/-
  DERIVED. GIVEN WITH THE SEED: THE CARDS: each row of YtenhmndknfhigaaDoorRows.lean that lists a variable, with what it lists TIED to the program's text (the seventh form; the later family's looks); each row that meets fmt, with fmt's text TOLD by the authors' own Lean function (tested against real Go, not proved from fmt's source: count such statements apart). THE CARD IS WHAT COUNTS. Prove the row's statement (the work); the ties are given (YtenhmndknfhigaaDoorTie.lean); close each card by the builder's one call (the guide's Derived/Test/ToyasCard.lean, 'card_holds'). Laid BY PROGRAM, IN A SANDBOX (cutbox-door.mjs). By AI agents, Wed Nov 11 2026. No macro, syntax, notation, axiom, sorry.
-/
import Derived.Test.YtenhmndknfhigaaDoorRows
import GoSem.ClaimSeven
namespace Go.Proofs.YtenhmndknfhigaaDoor
namespace Rows

/-- THE TIED CARD OF 'laws.FnExactYardText'. -/
def fnExactYardTextCard : Claim7 := { stood := { row := fnExactYardTextRow, standIns := [], harness := (true, "8089ce65142151040f9e715d70e608fa1d54b3d377f4ca833c0db344f5d28971"), looks := false }, kinds := [], alts := [], laidByText := true, laidKinds := [.data, .data, .data], laidTests := true, laidLooks := .later }
def FnExactYardTextCardSaid : Prop := Claim7.holds Tryd.pinned (.plain (OpenSpec.ofChange fnExactYardTextSpec)) fnExactYardTextCard

/-- THE SECOND FORM's CARD OF 'laws.FnExactYardText'. -/
def fnExactYardTextUptoCard : Claim7 := { stood := { row := fnExactYardTextUptoRow, standIns := [], harness := (true, "8089ce65142151040f9e715d70e608fa1d54b3d377f4ca833c0db344f5d28971"), looks := false }, kinds := [], alts := [], laidByText := true, laidKinds := [.data, .data, .data], laidTests := true, laidLooks := .later }
def FnExactYardTextUptoCardSaid : Prop := Claim7.holds Tryd.pinned (.plain (OpenSpec.upto fnExactYardTextSpec)) fnExactYardTextUptoCard
end Rows
end Go.Proofs.YtenhmndknfhigaaDoor
