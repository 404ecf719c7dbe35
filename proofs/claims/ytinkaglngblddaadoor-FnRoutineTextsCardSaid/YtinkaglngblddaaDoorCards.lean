/-
  DERIVED. GIVEN WITH THE SEED: THE CARDS: each row of YtinkaglngblddaaDoorRows.lean that lists a variable, with what it lists TIED to the program's text (the seventh form; the later family's looks); each row that meets fmt, with fmt's text TOLD by the authors' own Lean function (tested against real Go, not proved from fmt's source: count such statements apart). THE CARD IS WHAT COUNTS. Prove the row's statement (the work); the ties are given (YtinkaglngblddaaDoorTie.lean); close each card by the builder's one call (the guide's Derived/Test/ToyasCard.lean, 'card_holds'). Laid BY PROGRAM, IN A SANDBOX (cutbox-door.mjs). By AI agents, Wed Nov 11 2026. No macro, syntax, notation, axiom, sorry.
-/
import Derived.Test.YtinkaglngblddaaDoorRows
import GoSem.ClaimSeven
namespace Go.Proofs.YtinkaglngblddaaDoor
namespace Rows

/-- THE TIED CARD OF 'laws.FnExactRoutineText'. -/
def fnExactRoutineTextCard : Claim7 := { stood := { row := fnExactRoutineTextRow, standIns := [], harness := (true, "c21cc9443d674db95a92d72031669226a7f837f152d90b817b374c3e615eeeb1"), looks := false }, kinds := [], alts := [], laidByText := true, laidKinds := [.data, .data, .data], laidTests := true, laidLooks := .later }
def FnExactRoutineTextCardSaid : Prop := Claim7.holds Tryd.pinned (.plain (OpenSpec.ofChange fnExactRoutineTextSpec)) fnExactRoutineTextCard

/-- THE TIED CARD OF 'laws.FnExactReadRoutine'. -/
def fnExactReadRoutineCard : Claim7 := { stood := { row := fnExactReadRoutineRow, standIns := [], harness := (true, "c21cc9443d674db95a92d72031669226a7f837f152d90b817b374c3e615eeeb1"), looks := false }, kinds := [], alts := [], laidByText := true, laidKinds := [.data, .data, .data], laidTests := true, laidLooks := .later }
def FnExactReadRoutineCardSaid : Prop := Claim7.holds Tryd.pinned (.plain (OpenSpec.ofChange fnExactReadRoutineSpec)) fnExactReadRoutineCard

/-- THE TIED CARD OF 'laws.FnRoutineTexts'. -/
def fnRoutineTextsCard : Claim7 := { stood := { row := fnRoutineTextsRow, standIns := [], harness := (true, "c21cc9443d674db95a92d72031669226a7f837f152d90b817b374c3e615eeeb1"), looks := false }, kinds := [], alts := [], laidByText := true, laidKinds := [.data, .data, .data], laidTests := true, laidLooks := .later }
def FnRoutineTextsCardSaid : Prop := Claim7.holds Tryd.pinned (.plain (OpenSpec.ofChange fnRoutineTextsSpec)) fnRoutineTextsCard

/-- THE SECOND FORM's CARD OF 'laws.FnExactRoutineText'. -/
def fnExactRoutineTextUptoCard : Claim7 := { stood := { row := fnExactRoutineTextUptoRow, standIns := [], harness := (true, "c21cc9443d674db95a92d72031669226a7f837f152d90b817b374c3e615eeeb1"), looks := false }, kinds := [], alts := [], laidByText := true, laidKinds := [.data, .data, .data], laidTests := true, laidLooks := .later }
def FnExactRoutineTextUptoCardSaid : Prop := Claim7.holds Tryd.pinned (.plain (OpenSpec.upto fnExactRoutineTextSpec)) fnExactRoutineTextUptoCard

/-- THE SECOND FORM's CARD OF 'laws.FnExactReadRoutine'. -/
def fnExactReadRoutineUptoCard : Claim7 := { stood := { row := fnExactReadRoutineUptoRow, standIns := [], harness := (true, "c21cc9443d674db95a92d72031669226a7f837f152d90b817b374c3e615eeeb1"), looks := false }, kinds := [], alts := [], laidByText := true, laidKinds := [.data, .data, .data], laidTests := true, laidLooks := .later }
def FnExactReadRoutineUptoCardSaid : Prop := Claim7.holds Tryd.pinned (.plain (OpenSpec.upto fnExactReadRoutineSpec)) fnExactReadRoutineUptoCard

/-- THE SECOND FORM's CARD OF 'laws.FnRoutineTexts'. -/
def fnRoutineTextsUptoCard : Claim7 := { stood := { row := fnRoutineTextsUptoRow, standIns := [], harness := (true, "c21cc9443d674db95a92d72031669226a7f837f152d90b817b374c3e615eeeb1"), looks := false }, kinds := [], alts := [], laidByText := true, laidKinds := [.data, .data, .data], laidTests := true, laidLooks := .later }
def FnRoutineTextsUptoCardSaid : Prop := Claim7.holds Tryd.pinned (.plain (OpenSpec.upto fnRoutineTextsSpec)) fnRoutineTextsUptoCard
end Rows
end Go.Proofs.YtinkaglngblddaaDoor
