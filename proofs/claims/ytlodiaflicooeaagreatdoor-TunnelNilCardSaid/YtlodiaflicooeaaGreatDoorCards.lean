/-
  DERIVED. GIVEN WITH THE SEED: THE CARDS: each row of YtlodiaflicooeaaGreatDoorRows.lean that lists a variable, with what it lists TIED to the program's text (the seventh form; the later family's looks); each row that meets fmt, with fmt's text TOLD by the authors' own Lean function (tested against real Go, not proved from fmt's source: count such statements apart). THE CARD IS WHAT COUNTS. Prove the row's statement (the work); the ties are given (YtlodiaflicooeaaGreatDoorTie.lean); close each card by the builder's one call (the guide's Derived/Test/ToyasCard.lean, 'card_holds'). Laid BY PROGRAM, IN A SANDBOX (cutbox-door.mjs). By AI agents, Wed Nov 11 2026. No macro, syntax, notation, axiom, sorry.
-/
import Derived.Test.YtlodiaflicooeaaGreatDoorRows
import GoSem.ClaimSeven
namespace Go.Proofs.YtlodiaflicooeaaGreatDoor
namespace Rows

/-- THE TIED CARD OF 'cressetlaw18.ShakeNil'. -/
def shakeNilCard : Claim7 := { stood := { row := shakeNilRow, standIns := [], harness := (true, "f78295f1eac20460533dc87692f40f155d63bc8ca0103beb6b7bb0662a30589c"), looks := true }, kinds := [], alts := [], laidByText := true, laidKinds := [.data, .data, .data, .data, .sentinel, .sentinel, .pinned], laidTests := true, laidLooks := .later }
def ShakeNilCardSaid : Prop := Claim7.holds Tryz.pinned (.plain (OpenSpec.ofChange shakeNilSpec)) shakeNilCard

/-- THE TIED CARD OF 'cressetlaw19.TunnelNil'. -/
def tunnelNilCard : Claim7 := { stood := { row := tunnelNilRow, standIns := [], harness := (true, "f78295f1eac20460533dc87692f40f155d63bc8ca0103beb6b7bb0662a30589c"), looks := true }, kinds := [], alts := [], laidByText := true, laidKinds := [.data, .data, .data, .data, .sentinel, .sentinel, .pinned], laidTests := true, laidLooks := .later }
def TunnelNilCardSaid : Prop := Claim7.holds Tryz.pinned (.plain (OpenSpec.ofChange tunnelNilSpec)) tunnelNilCard

/-- THE SECOND FORM's CARD OF 'cressetlaw18.ShakeNil'. -/
def shakeNilUptoCard : Claim7 := { stood := { row := shakeNilUptoRow, standIns := [], harness := (true, "f78295f1eac20460533dc87692f40f155d63bc8ca0103beb6b7bb0662a30589c"), looks := true }, kinds := [], alts := [], laidByText := true, laidKinds := [.data, .data, .data, .data, .sentinel, .sentinel, .pinned], laidTests := true, laidLooks := .later }
def ShakeNilUptoCardSaid : Prop := Claim7.holds Tryz.pinned (.plain (OpenSpec.upto shakeNilSpec)) shakeNilUptoCard

/-- THE SECOND FORM's CARD OF 'cressetlaw19.TunnelNil'. -/
def tunnelNilUptoCard : Claim7 := { stood := { row := tunnelNilUptoRow, standIns := [], harness := (true, "f78295f1eac20460533dc87692f40f155d63bc8ca0103beb6b7bb0662a30589c"), looks := true }, kinds := [], alts := [], laidByText := true, laidKinds := [.data, .data, .data, .data, .sentinel, .sentinel, .pinned], laidTests := true, laidLooks := .later }
def TunnelNilUptoCardSaid : Prop := Claim7.holds Tryz.pinned (.plain (OpenSpec.upto tunnelNilSpec)) tunnelNilUptoCard
end Rows
end Go.Proofs.YtlodiaflicooeaaGreatDoor
