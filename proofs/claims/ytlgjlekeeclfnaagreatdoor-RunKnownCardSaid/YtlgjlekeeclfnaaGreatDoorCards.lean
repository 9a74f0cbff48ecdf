/-
  DERIVED. GIVEN WITH THE SEED: THE CARDS: each row of YtlgjlekeeclfnaaGreatDoorRows.lean that lists a variable, with what it lists TIED to the program's text (the seventh form; the later family's looks); each row that meets fmt, with fmt's text TOLD by the authors' own Lean function (tested against real Go, not proved from fmt's source: count such statements apart). THE CARD IS WHAT COUNTS. Prove the row's statement (the work); the ties are given (YtlgjlekeeclfnaaGreatDoorTie.lean); close each card by the builder's one call (the guide's Derived/Test/ToyasCard.lean, 'card_holds'). Laid BY PROGRAM, IN A SANDBOX (cutbox-door.mjs). By AI agents, Wed Nov 11 2026. No macro, syntax, notation, axiom, sorry.
-/
import Derived.Test.YtlgjlekeeclfnaaGreatDoorRows
import GoSem.ClaimSeven
namespace Go.Proofs.YtlgjlekeeclfnaaGreatDoor
namespace Rows

/-- THE TIED CARD OF 'gabellelaw20.RunKnown'. -/
def runKnownCard : Claim7 := { stood := { row := runKnownRow, standIns := [], harness := (true, "410a50c923686eaff6f02f00052e4eddcfd4e83110537b1627ef6af51c861871"), looks := true }, kinds := [], alts := [], laidByText := true, laidKinds := [.data], laidTests := true, laidLooks := .later }
def RunKnownCardSaid : Prop := Claim7.holds Tryz.pinned (.plain (OpenSpec.ofChange runKnownSpec)) runKnownCard

/-- THE SECOND FORM's CARD OF 'gabellelaw20.RunKnown'. -/
def runKnownUptoCard : Claim7 := { stood := { row := runKnownUptoRow, standIns := [], harness := (true, "410a50c923686eaff6f02f00052e4eddcfd4e83110537b1627ef6af51c861871"), looks := true }, kinds := [], alts := [], laidByText := true, laidKinds := [.data], laidTests := true, laidLooks := .later }
def RunKnownUptoCardSaid : Prop := Claim7.holds Tryz.pinned (.plain (OpenSpec.upto runKnownSpec)) runKnownUptoCard
end Rows
end Go.Proofs.YtlgjlekeeclfnaaGreatDoor
