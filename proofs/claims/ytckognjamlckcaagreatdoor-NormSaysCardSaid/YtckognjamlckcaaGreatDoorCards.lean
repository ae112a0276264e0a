/-
  DERIVED. GIVEN WITH THE SEED: THE CARDS: each row of YtckognjamlckcaaGreatDoorRows.lean that lists a variable, with what it lists TIED to the program's text (the seventh form; the later family's looks); each row that meets fmt, with fmt's text TOLD by the authors' own Lean function (tested against real Go, not proved from fmt's source: count such statements apart). THE CARD IS WHAT COUNTS. Prove the row's statement (the work); the ties are given (YtckognjamlckcaaGreatDoorTie.lean); close each card by the builder's one call (the guide's Derived/Test/ToyasCard.lean, 'card_holds'). Laid BY PROGRAM, IN A SANDBOX (cutbox-door.mjs). By AI agents, Wed Nov 11 2026. No macro, syntax, notation, axiom, sorry.
-/
import Derived.Test.YtckognjamlckcaaGreatDoorRows
import GoSem.ClaimSeven
namespace Go.Proofs.YtckognjamlckcaaGreatDoor
namespace Rows

/-- THE TIED CARD OF 'tompionlaw24.NormRight'. -/
def normRightCard : Claim7 := { stood := { row := normRightRow, standIns := [], harness := (true, "d84e096927d97614a173e47d0ddbfb498c92827d0027220b0537179ce0274532"), looks := false }, kinds := [], alts := [], laidByText := true, laidKinds := [.data, .data, .data], laidTests := true, laidLooks := .later }
def NormRightCardSaid : Prop := Claim7.holds Tryz.pinned (.plain (OpenSpec.ofChange normRightSpec)) normRightCard

/-- THE TIED CARD OF 'tompionlaw24.NormOf'. -/
def normOfCard : Claim7 := { stood := { row := normOfRow, standIns := [], harness := (true, "d84e096927d97614a173e47d0ddbfb498c92827d0027220b0537179ce0274532"), looks := false }, kinds := [], alts := [], laidByText := true, laidKinds := [.data, .data, .data], laidTests := true, laidLooks := .later }
def NormOfCardSaid : Prop := Claim7.holds Tryz.pinned (.plain (OpenSpec.ofChange normOfSpec)) normOfCard

/-- THE TIED CARD OF 'tompionlaw24.NormSays'. -/
def normSaysCard : Claim7 := { stood := { row := normSaysRow, standIns := [], harness := (true, "d84e096927d97614a173e47d0ddbfb498c92827d0027220b0537179ce0274532"), looks := false }, kinds := [], alts := [], laidByText := true, laidKinds := [.data, .data, .data], laidTests := true, laidLooks := .later }
def NormSaysCardSaid : Prop := Claim7.holds Tryz.pinned (.plain (OpenSpec.ofChange normSaysSpec)) normSaysCard

/-- THE SECOND FORM's CARD OF 'tompionlaw24.NormRight'. -/
def normRightUptoCard : Claim7 := { stood := { row := normRightUptoRow, standIns := [], harness := (true, "d84e096927d97614a173e47d0ddbfb498c92827d0027220b0537179ce0274532"), looks := false }, kinds := [], alts := [], laidByText := true, laidKinds := [.data, .data, .data], laidTests := true, laidLooks := .later }
def NormRightUptoCardSaid : Prop := Claim7.holds Tryz.pinned (.plain (OpenSpec.upto normRightSpec)) normRightUptoCard

/-- THE SECOND FORM's CARD OF 'tompionlaw24.NormOf'. -/
def normOfUptoCard : Claim7 := { stood := { row := normOfUptoRow, standIns := [], harness := (true, "d84e096927d97614a173e47d0ddbfb498c92827d0027220b0537179ce0274532"), looks := false }, kinds := [], alts := [], laidByText := true, laidKinds := [.data, .data, .data], laidTests := true, laidLooks := .later }
def NormOfUptoCardSaid : Prop := Claim7.holds Tryz.pinned (.plain (OpenSpec.upto normOfSpec)) normOfUptoCard

/-- THE SECOND FORM's CARD OF 'tompionlaw24.NormSays'. -/
def normSaysUptoCard : Claim7 := { stood := { row := normSaysUptoRow, standIns := [], harness := (true, "d84e096927d97614a173e47d0ddbfb498c92827d0027220b0537179ce0274532"), looks := false }, kinds := [], alts := [], laidByText := true, laidKinds := [.data, .data, .data], laidTests := true, laidLooks := .later }
def NormSaysUptoCardSaid : Prop := Claim7.holds Tryz.pinned (.plain (OpenSpec.upto normSaysSpec)) normSaysUptoCard
end Rows
end Go.Proofs.YtckognjamlckcaaGreatDoor
