/-
  DERIVED. GIVEN WITH THE SEED: THE CARDS: each row of YtdfebccmjbocjaaGreatDoorRows.lean that lists a variable, with what it lists TIED to the program's text (the seventh form; the later family's looks); each row that meets fmt, with fmt's text TOLD by the authors' own Lean function (tested against real Go, not proved from fmt's source: count such statements apart). THE CARD IS WHAT COUNTS. Prove the row's statement (the work); the ties are given (YtdfebccmjbocjaaGreatDoorTie.lean); close each card by the builder's one call (the guide's Derived/Test/ToyasCard.lean, 'card_holds'). Laid BY PROGRAM, IN A SANDBOX (cutbox-door.mjs). By AI agents, Wed Nov 11 2026. No macro, syntax, notation, axiom, sorry.
-/
import Derived.Test.YtdfebccmjbocjaaGreatDoorRows
import GoSem.ClaimSeven
namespace Go.Proofs.YtdfebccmjbocjaaGreatDoor
namespace Rows

/-- THE TIED CARD OF 'tithingtop.TopSounds'. -/
def topSoundsCard : Claim7 := { stood := { row := topSoundsRow, standIns := [], harness := (true, "7029c1cb43e39c2a0fd73574e7a974b11c5639a8c34e9feb0fbefdf034971013"), looks := false }, kinds := [], alts := [], laidByText := true, laidKinds := [.data, .data], laidTests := true, laidLooks := .later }
def TopSoundsCardSaid : Prop := Claim7.holds Tryz.pinned (.plain (OpenSpec.ofChange topSoundsSpec)) topSoundsCard

/-- THE TIED CARD OF 'tithingtop.TopMissed'. -/
def topMissedCard : Claim7 := { stood := { row := topMissedRow, standIns := [], harness := (true, "7029c1cb43e39c2a0fd73574e7a974b11c5639a8c34e9feb0fbefdf034971013"), looks := false }, kinds := [], alts := [], laidByText := true, laidKinds := [.data, .data], laidTests := true, laidLooks := .later }
def TopMissedCardSaid : Prop := Claim7.holds Tryz.pinned (.plain (OpenSpec.ofChange topMissedSpec)) topMissedCard

/-- THE SECOND FORM's CARD OF 'tithingtop.TopSounds'. -/
def topSoundsUptoCard : Claim7 := { stood := { row := topSoundsUptoRow, standIns := [], harness := (true, "7029c1cb43e39c2a0fd73574e7a974b11c5639a8c34e9feb0fbefdf034971013"), looks := false }, kinds := [], alts := [], laidByText := true, laidKinds := [.data, .data], laidTests := true, laidLooks := .later }
def TopSoundsUptoCardSaid : Prop := Claim7.holds Tryz.pinned (.plain (OpenSpec.upto topSoundsSpec)) topSoundsUptoCard

/-- THE SECOND FORM's CARD OF 'tithingtop.TopMissed'. -/
def topMissedUptoCard : Claim7 := { stood := { row := topMissedUptoRow, standIns := [], harness := (true, "7029c1cb43e39c2a0fd73574e7a974b11c5639a8c34e9feb0fbefdf034971013"), looks := false }, kinds := [], alts := [], laidByText := true, laidKinds := [.data, .data], laidTests := true, laidLooks := .later }
def TopMissedUptoCardSaid : Prop := Claim7.holds Tryz.pinned (.plain (OpenSpec.upto topMissedSpec)) topMissedUptoCard
end Rows
end Go.Proofs.YtdfebccmjbocjaaGreatDoor
