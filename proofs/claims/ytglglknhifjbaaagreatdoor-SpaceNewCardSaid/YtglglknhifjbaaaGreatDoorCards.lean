/-
  DERIVED. GIVEN WITH THE SEED: THE CARDS: each row of YtglglknhifjbaaaGreatDoorRows.lean that lists a variable, with what it lists TIED to the program's text (the seventh form; the later family's looks); each row that meets fmt, with fmt's text TOLD by the authors' own Lean function (tested against real Go, not proved from fmt's source: count such statements apart). THE CARD IS WHAT COUNTS. Prove the row's statement (the work); the ties are given (YtglglknhifjbaaaGreatDoorTie.lean); close each card by the builder's one call (the guide's Derived/Test/ToyasCard.lean, 'card_holds'). Laid BY PROGRAM, IN A SANDBOX (cutbox-door.mjs). By AI agents, Wed Nov 11 2026. No macro, syntax, notation, axiom, sorry.
-/
import Derived.Test.YtglglknhifjbaaaGreatDoorRows
import GoSem.ClaimSeven
namespace Go.Proofs.YtglglknhifjbaaaGreatDoor
namespace Rows

/-- THE TIED CARD OF 'larderlaw10.SpaceNew'. -/
def spaceNewCard : Claim7 := { stood := { row := spaceNewRow, standIns := [], harness := (true, "4183c4d7b9fb390f47f8ef75fceaaebb5a80d1fc72adef25ee511be4b7052b55"), looks := true }, kinds := [], alts := [], laidByText := true, laidKinds := [.data, .data], laidTests := true, laidLooks := .later }
def SpaceNewCardSaid : Prop := Claim7.holds Tryz.pinned (.plain (OpenSpec.ofChange spaceNewSpec)) spaceNewCard

/-- THE TIED CARD OF 'larderlaw10.SpaceBound'. -/
def spaceBoundCard : Claim7 := { stood := { row := spaceBoundRow, standIns := [], harness := (true, "4183c4d7b9fb390f47f8ef75fceaaebb5a80d1fc72adef25ee511be4b7052b55"), looks := true }, kinds := [], alts := [], laidByText := true, laidKinds := [.data, .data], laidTests := true, laidLooks := .later }
def SpaceBoundCardSaid : Prop := Claim7.holds Tryz.pinned (.plain (OpenSpec.ofChange spaceBoundSpec)) spaceBoundCard

/-- THE TIED CARD OF 'larderlaw10.SpaceDiffers'. -/
def spaceDiffersCard : Claim7 := { stood := { row := spaceDiffersRow, standIns := [], harness := (true, "4183c4d7b9fb390f47f8ef75fceaaebb5a80d1fc72adef25ee511be4b7052b55"), looks := true }, kinds := [], alts := [], laidByText := true, laidKinds := [.data, .data], laidTests := true, laidLooks := .later }
def SpaceDiffersCardSaid : Prop := Claim7.holds Tryz.pinned (.plain (OpenSpec.ofChange spaceDiffersSpec)) spaceDiffersCard

/-- THE TIED CARD OF 'larderlaw10.SpaceWhole'. -/
def spaceWholeCard : Claim7 := { stood := { row := spaceWholeRow, standIns := [], harness := (true, "4183c4d7b9fb390f47f8ef75fceaaebb5a80d1fc72adef25ee511be4b7052b55"), looks := true }, kinds := [], alts := [], laidByText := true, laidKinds := [.data, .data], laidTests := true, laidLooks := .later }
def SpaceWholeCardSaid : Prop := Claim7.holds Tryz.pinned (.plain (OpenSpec.ofChange spaceWholeSpec)) spaceWholeCard

/-- THE SECOND FORM's CARD OF 'larderlaw10.SpaceNew'. -/
def spaceNewUptoCard : Claim7 := { stood := { row := spaceNewUptoRow, standIns := [], harness := (true, "4183c4d7b9fb390f47f8ef75fceaaebb5a80d1fc72adef25ee511be4b7052b55"), looks := true }, kinds := [], alts := [], laidByText := true, laidKinds := [.data, .data], laidTests := true, laidLooks := .later }
def SpaceNewUptoCardSaid : Prop := Claim7.holds Tryz.pinned (.plain (OpenSpec.upto spaceNewSpec)) spaceNewUptoCard

/-- THE SECOND FORM's CARD OF 'larderlaw10.SpaceBound'. -/
def spaceBoundUptoCard : Claim7 := { stood := { row := spaceBoundUptoRow, standIns := [], harness := (true, "4183c4d7b9fb390f47f8ef75fceaaebb5a80d1fc72adef25ee511be4b7052b55"), looks := true }, kinds := [], alts := [], laidByText := true, laidKinds := [.data, .data], laidTests := true, laidLooks := .later }
def SpaceBoundUptoCardSaid : Prop := Claim7.holds Tryz.pinned (.plain (OpenSpec.upto spaceBoundSpec)) spaceBoundUptoCard

/-- THE SECOND FORM's CARD OF 'larderlaw10.SpaceDiffers'. -/
def spaceDiffersUptoCard : Claim7 := { stood := { row := spaceDiffersUptoRow, standIns := [], harness := (true, "4183c4d7b9fb390f47f8ef75fceaaebb5a80d1fc72adef25ee511be4b7052b55"), looks := true }, kinds := [], alts := [], laidByText := true, laidKinds := [.data, .data], laidTests := true, laidLooks := .later }
def SpaceDiffersUptoCardSaid : Prop := Claim7.holds Tryz.pinned (.plain (OpenSpec.upto spaceDiffersSpec)) spaceDiffersUptoCard

/-- THE SECOND FORM's CARD OF 'larderlaw10.SpaceWhole'. -/
def spaceWholeUptoCard : Claim7 := { stood := { row := spaceWholeUptoRow, standIns := [], harness := (true, "4183c4d7b9fb390f47f8ef75fceaaebb5a80d1fc72adef25ee511be4b7052b55"), looks := true }, kinds := [], alts := [], laidByText := true, laidKinds := [.data, .data], laidTests := true, laidLooks := .later }
def SpaceWholeUptoCardSaid : Prop := Claim7.holds Tryz.pinned (.plain (OpenSpec.upto spaceWholeSpec)) spaceWholeUptoCard
end Rows
end Go.Proofs.YtglglknhifjbaaaGreatDoor
