/-
  DERIVED. GIVEN WITH THE SEED: THE CARDS: each row of YtkbohgabifpceaaDoorRows.lean that lists a variable, with what it lists TIED to the program's text (the seventh form; the later family's looks); each row that meets fmt, with fmt's text TOLD by the authors' own Lean function (tested against real Go, not proved from fmt's source: count such statements apart). THE CARD IS WHAT COUNTS. Prove the row's statement (the work); the ties are given (YtkbohgabifpceaaDoorTie.lean); close each card by the builder's one call (the guide's Derived/Test/ToyasCard.lean, 'card_holds'). Laid BY PROGRAM, IN A SANDBOX (cutbox-door.mjs). By AI agents, Wed Nov 11 2026. No macro, syntax, notation, axiom, sorry.
-/
import Derived.Test.YtkbohgabifpceaaDoorRows
import GoSem.ClaimSeven
namespace Go.Proofs.YtkbohgabifpceaaDoor
namespace Rows

/-- THE TIED CARD OF 'laws.FnRatText'. -/
def fnRatTextCard : Claim7 := { stood := { row := fnRatTextRow, standIns := [], harness := (true, "e987acf1997751e3d8269bdf770fc5217a47b6c8cb266287e1f504de95cde68d"), looks := true }, kinds := [], alts := [], laidByText := true, laidKinds := [.data, .data, .data, .sentinel, .sentinel], laidTests := true, laidLooks := .later }
def FnRatTextCardSaid : Prop := Claim7.holds Tryd.pinned (.plain (OpenSpec.ofChange fnRatTextSpec)) fnRatTextCard

/-- THE TIED CARD OF 'laws.FnExactLinRead'. -/
def fnExactLinReadCard : Claim7 := { stood := { row := fnExactLinReadRow, standIns := [], harness := (true, "e987acf1997751e3d8269bdf770fc5217a47b6c8cb266287e1f504de95cde68d"), looks := true }, kinds := [], alts := [], laidByText := true, laidKinds := [.data, .data, .data, .data, .sentinel, .sentinel, .pinned], laidTests := true, laidLooks := .later }
def FnExactLinReadCardSaid : Prop := Claim7.holds Tryd.pinned (.plain (OpenSpec.ofChange fnExactLinReadSpec)) fnExactLinReadCard

/-- THE TIED CARD OF 'laws.FnLinText'. -/
def fnLinTextCard : Claim7 := { stood := { row := fnLinTextRow, standIns := [], harness := (true, "e987acf1997751e3d8269bdf770fc5217a47b6c8cb266287e1f504de95cde68d"), looks := true }, kinds := [], alts := [], laidByText := true, laidKinds := [.data, .data, .data, .data, .sentinel, .sentinel, .pinned], laidTests := true, laidLooks := .later }
def FnLinTextCardSaid : Prop := Claim7.holds Tryd.pinned (.plain (OpenSpec.ofChange fnLinTextSpec)) fnLinTextCard

/-- THE TIED CARD OF 'laws.FnExactRatText'. -/
def fnExactRatTextCard : Claim7 := { stood := { row := fnExactRatTextRow, standIns := [], harness := (true, "e987acf1997751e3d8269bdf770fc5217a47b6c8cb266287e1f504de95cde68d"), looks := true }, kinds := [], alts := [], laidByText := true, laidKinds := [.data, .data, .data], laidTests := true, laidLooks := .later }
def FnExactRatTextCardSaid : Prop := Claim7.holds Tryd.pinned (.plain (OpenSpec.ofChange fnExactRatTextSpec)) fnExactRatTextCard

/-- THE TIED CARD OF 'laws.FnExactLinText'. -/
def fnExactLinTextCard : Claim7 := { stood := { row := fnExactLinTextRow, standIns := [], harness := (true, "e987acf1997751e3d8269bdf770fc5217a47b6c8cb266287e1f504de95cde68d"), looks := true }, kinds := [], alts := [], laidByText := true, laidKinds := [.data, .data, .data], laidTests := true, laidLooks := .later }
def FnExactLinTextCardSaid : Prop := Claim7.holds Tryd.pinned (.plain (OpenSpec.ofChange fnExactLinTextSpec)) fnExactLinTextCard

/-- THE TIED CARD OF 'laws.FnRatBent'. -/
def fnRatBentCard : Claim7 := { stood := { row := fnRatBentRow, standIns := [], harness := (true, "e987acf1997751e3d8269bdf770fc5217a47b6c8cb266287e1f504de95cde68d"), looks := true }, kinds := [], alts := [], laidByText := true, laidKinds := [.data, .data, .data], laidTests := true, laidLooks := .later }
def FnRatBentCardSaid : Prop := Claim7.holds Tryd.pinned (.plain (OpenSpec.ofChange fnRatBentSpec)) fnRatBentCard

/-- THE TIED CARD OF 'laws.FnLinBent'. -/
def fnLinBentCard : Claim7 := { stood := { row := fnLinBentRow, standIns := [], harness := (true, "e987acf1997751e3d8269bdf770fc5217a47b6c8cb266287e1f504de95cde68d"), looks := true }, kinds := [], alts := [], laidByText := true, laidKinds := [.data, .data, .data], laidTests := true, laidLooks := .later }
def FnLinBentCardSaid : Prop := Claim7.holds Tryd.pinned (.plain (OpenSpec.ofChange fnLinBentSpec)) fnLinBentCard

/-- THE TIED CARD OF 'laws.FnExactRatRead'. -/
def fnExactRatReadCard : Claim7 := { stood := { row := fnExactRatReadRow, standIns := [], harness := (true, "e987acf1997751e3d8269bdf770fc5217a47b6c8cb266287e1f504de95cde68d"), looks := true }, kinds := [], alts := [], laidByText := true, laidKinds := [.data, .data, .data, .sentinel, .sentinel], laidTests := true, laidLooks := .later }
def FnExactRatReadCardSaid : Prop := Claim7.holds Tryd.pinned (.plain (OpenSpec.ofChange fnExactRatReadSpec)) fnExactRatReadCard

/-- THE SECOND FORM's CARD OF 'laws.FnRatText'. -/
def fnRatTextUptoCard : Claim7 := { stood := { row := fnRatTextUptoRow, standIns := [], harness := (true, "e987acf1997751e3d8269bdf770fc5217a47b6c8cb266287e1f504de95cde68d"), looks := true }, kinds := [], alts := [], laidByText := true, laidKinds := [.data, .data, .data, .sentinel, .sentinel], laidTests := true, laidLooks := .later }
def FnRatTextUptoCardSaid : Prop := Claim7.holds Tryd.pinned (.plain (OpenSpec.upto fnRatTextSpec)) fnRatTextUptoCard

/-- THE SECOND FORM's CARD OF 'laws.FnExactLinRead'. -/
def fnExactLinReadUptoCard : Claim7 := { stood := { row := fnExactLinReadUptoRow, standIns := [], harness := (true, "e987acf1997751e3d8269bdf770fc5217a47b6c8cb266287e1f504de95cde68d"), looks := true }, kinds := [], alts := [], laidByText := true, laidKinds := [.data, .data, .data, .data, .sentinel, .sentinel, .pinned], laidTests := true, laidLooks := .later }
def FnExactLinReadUptoCardSaid : Prop := Claim7.holds Tryd.pinned (.plain (OpenSpec.upto fnExactLinReadSpec)) fnExactLinReadUptoCard

/-- THE SECOND FORM's CARD OF 'laws.FnLinText'. -/
def fnLinTextUptoCard : Claim7 := { stood := { row := fnLinTextUptoRow, standIns := [], harness := (true, "e987acf1997751e3d8269bdf770fc5217a47b6c8cb266287e1f504de95cde68d"), looks := true }, kinds := [], alts := [], laidByText := true, laidKinds := [.data, .data, .data, .data, .sentinel, .sentinel, .pinned], laidTests := true, laidLooks := .later }
def FnLinTextUptoCardSaid : Prop := Claim7.holds Tryd.pinned (.plain (OpenSpec.upto fnLinTextSpec)) fnLinTextUptoCard

/-- THE SECOND FORM's CARD OF 'laws.FnExactRatText'. -/
def fnExactRatTextUptoCard : Claim7 := { stood := { row := fnExactRatTextUptoRow, standIns := [], harness := (true, "e987acf1997751e3d8269bdf770fc5217a47b6c8cb266287e1f504de95cde68d"), looks := true }, kinds := [], alts := [], laidByText := true, laidKinds := [.data, .data, .data], laidTests := true, laidLooks := .later }
def FnExactRatTextUptoCardSaid : Prop := Claim7.holds Tryd.pinned (.plain (OpenSpec.upto fnExactRatTextSpec)) fnExactRatTextUptoCard

/-- THE SECOND FORM's CARD OF 'laws.FnExactLinText'. -/
def fnExactLinTextUptoCard : Claim7 := { stood := { row := fnExactLinTextUptoRow, standIns := [], harness := (true, "e987acf1997751e3d8269bdf770fc5217a47b6c8cb266287e1f504de95cde68d"), looks := true }, kinds := [], alts := [], laidByText := true, laidKinds := [.data, .data, .data], laidTests := true, laidLooks := .later }
def FnExactLinTextUptoCardSaid : Prop := Claim7.holds Tryd.pinned (.plain (OpenSpec.upto fnExactLinTextSpec)) fnExactLinTextUptoCard

/-- THE SECOND FORM's CARD OF 'laws.FnRatBent'. -/
def fnRatBentUptoCard : Claim7 := { stood := { row := fnRatBentUptoRow, standIns := [], harness := (true, "e987acf1997751e3d8269bdf770fc5217a47b6c8cb266287e1f504de95cde68d"), looks := true }, kinds := [], alts := [], laidByText := true, laidKinds := [.data, .data, .data], laidTests := true, laidLooks := .later }
def FnRatBentUptoCardSaid : Prop := Claim7.holds Tryd.pinned (.plain (OpenSpec.upto fnRatBentSpec)) fnRatBentUptoCard

/-- THE SECOND FORM's CARD OF 'laws.FnLinBent'. -/
def fnLinBentUptoCard : Claim7 := { stood := { row := fnLinBentUptoRow, standIns := [], harness := (true, "e987acf1997751e3d8269bdf770fc5217a47b6c8cb266287e1f504de95cde68d"), looks := true }, kinds := [], alts := [], laidByText := true, laidKinds := [.data, .data, .data], laidTests := true, laidLooks := .later }
def FnLinBentUptoCardSaid : Prop := Claim7.holds Tryd.pinned (.plain (OpenSpec.upto fnLinBentSpec)) fnLinBentUptoCard

/-- THE SECOND FORM's CARD OF 'laws.FnExactRatRead'. -/
def fnExactRatReadUptoCard : Claim7 := { stood := { row := fnExactRatReadUptoRow, standIns := [], harness := (true, "e987acf1997751e3d8269bdf770fc5217a47b6c8cb266287e1f504de95cde68d"), looks := true }, kinds := [], alts := [], laidByText := true, laidKinds := [.data, .data, .data, .sentinel, .sentinel], laidTests := true, laidLooks := .later }
def FnExactRatReadUptoCardSaid : Prop := Claim7.holds Tryd.pinned (.plain (OpenSpec.upto fnExactRatReadSpec)) fnExactRatReadUptoCard
end Rows
end Go.Proofs.YtkbohgabifpceaaDoor
