/-
  DERIVED. GIVEN WITH THE SEED: THE CARDS: each row of YtkoipiolcnielaaGreatDoorRows.lean that lists a variable, with what it lists TIED to the program's text (the seventh form; the later family's looks); each row that meets fmt, with fmt's text TOLD by the authors' own Lean function (tested against real Go, not proved from fmt's source: count such statements apart). THE CARD IS WHAT COUNTS. Prove the row's statement (the work); the ties are given (YtkoipiolcnielaaGreatDoorTie.lean); close each card by the builder's one call (the guide's Derived/Test/ToyasCard.lean, 'card_holds'). Laid BY PROGRAM, IN A SANDBOX (cutbox-door.mjs). By AI agents, Wed Nov 11 2026. No macro, syntax, notation, axiom, sorry.
-/
import Derived.Test.YtkoipiolcnielaaGreatDoorRows
import GoSem.ClaimSeven
namespace Go.Proofs.YtkoipiolcnielaaGreatDoor
namespace Rows

/-- THE TIED CARD OF 'strongroomlaw32.ShellFull'. -/
def shellFullCard : Claim7 := { stood := { row := shellFullRow, standIns := [], harness := (true, "a29c836b25a5be57718d333032336b9ed1b427d54b036514267cb8d65119ae69"), looks := true }, kinds := [], alts := [], goes := true, laidByText := true, laidKinds := [.pinned, .data, .data, .data, .data, .sentinel, .sentinel, .handle], laidTests := true, laidLooks := .later }
def ShellFullCardSaid : Prop := Claim7.holds Tryz.pinned (.plain (OpenSpec.ofChange shellFullSpec)) shellFullCard

/-- THE TIED CARD OF 'strongroomlaw32.ShellNone'. -/
def shellNoneCard : Claim7 := { stood := { row := shellNoneRow, standIns := [], harness := (true, "a29c836b25a5be57718d333032336b9ed1b427d54b036514267cb8d65119ae69"), looks := true }, kinds := [], alts := [], goes := true, laidByText := true, laidKinds := [.pinned, .data, .data, .data, .data, .sentinel, .sentinel, .handle], laidTests := true, laidLooks := .later }
def ShellNoneCardSaid : Prop := Claim7.holds Tryz.pinned (.plain (OpenSpec.ofChange shellNoneSpec)) shellNoneCard

/-- THE TIED CARD OF 'strongroomlaw32.ShellNames'. -/
def shellNamesCard : Claim7 := { stood := { row := shellNamesRow, standIns := [], harness := (true, "a29c836b25a5be57718d333032336b9ed1b427d54b036514267cb8d65119ae69"), looks := true }, kinds := [], alts := [], goes := true, laidByText := true, laidKinds := [.pinned, .data, .data, .data, .data, .sentinel, .sentinel, .handle], laidTests := true, laidLooks := .later }
def ShellNamesCardSaid : Prop := Claim7.holds Tryz.pinned (.plain (OpenSpec.ofChange shellNamesSpec)) shellNamesCard

/-- THE SECOND FORM's CARD OF 'strongroomlaw32.ShellFull'. -/
def shellFullUptoCard : Claim7 := { stood := { row := shellFullUptoRow, standIns := [], harness := (true, "a29c836b25a5be57718d333032336b9ed1b427d54b036514267cb8d65119ae69"), looks := true }, kinds := [], alts := [], goes := true, laidByText := true, laidKinds := [.pinned, .data, .data, .data, .data, .sentinel, .sentinel, .handle], laidTests := true, laidLooks := .later }
def ShellFullUptoCardSaid : Prop := Claim7.holds Tryz.pinned (.plain (OpenSpec.upto shellFullSpec)) shellFullUptoCard

/-- THE SECOND FORM's CARD OF 'strongroomlaw32.ShellNone'. -/
def shellNoneUptoCard : Claim7 := { stood := { row := shellNoneUptoRow, standIns := [], harness := (true, "a29c836b25a5be57718d333032336b9ed1b427d54b036514267cb8d65119ae69"), looks := true }, kinds := [], alts := [], goes := true, laidByText := true, laidKinds := [.pinned, .data, .data, .data, .data, .sentinel, .sentinel, .handle], laidTests := true, laidLooks := .later }
def ShellNoneUptoCardSaid : Prop := Claim7.holds Tryz.pinned (.plain (OpenSpec.upto shellNoneSpec)) shellNoneUptoCard

/-- THE SECOND FORM's CARD OF 'strongroomlaw32.ShellNames'. -/
def shellNamesUptoCard : Claim7 := { stood := { row := shellNamesUptoRow, standIns := [], harness := (true, "a29c836b25a5be57718d333032336b9ed1b427d54b036514267cb8d65119ae69"), looks := true }, kinds := [], alts := [], goes := true, laidByText := true, laidKinds := [.pinned, .data, .data, .data, .data, .sentinel, .sentinel, .handle], laidTests := true, laidLooks := .later }
def ShellNamesUptoCardSaid : Prop := Claim7.holds Tryz.pinned (.plain (OpenSpec.upto shellNamesSpec)) shellNamesUptoCard
end Rows
end Go.Proofs.YtkoipiolcnielaaGreatDoor
