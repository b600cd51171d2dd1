/-
  DERIVED. GIVEN WITH THE SEED: THE CARDS: each row of YtfloeiagdegpjaaDoorRows.lean that lists a variable, with what it lists TIED to the program's text (the seventh form; the later family's looks); each row that meets fmt, with fmt's text TOLD by the authors' own Lean function (tested against real Go, not proved from fmt's source: count such statements apart). THE CARD IS WHAT COUNTS. Prove the row's statement (the work); the ties are given (YtfloeiagdegpjaaDoorTie.lean); close each card by the builder's one call (the guide's Derived/Test/ToyasCard.lean, 'card_holds'). Laid BY PROGRAM, IN A SANDBOX (cutbox-door.mjs). By AI agents, Wed Nov 11 2026. No macro, syntax, notation, axiom, sorry.
-/
import Derived.Test.YtfloeiagdegpjaaDoorRows
import GoSem.ClaimSeven
namespace Go.Proofs.YtfloeiagdegpjaaDoor
namespace Rows

/-- THE TIED CARD OF 'fathomlaw3.FloatScale'. -/
def floatScaleCard : Claim7 := { stood := { row := floatScaleRow, standIns := [], harness := (true, "092a21a3b8d27d9f20c0d2879969965d12261747057d06bd4ed7782981f232dd"), looks := false }, kinds := [], alts := [], laidByText := true, laidKinds := [.data], laidTests := true, laidLooks := .later }
def FloatScaleCardSaid : Prop := Claim7.holds Tryd.pinned (.plain (OpenSpec.ofChange floatScaleSpec)) floatScaleCard

/-- THE SECOND FORM's CARD OF 'fathomlaw3.FloatScale'. -/
def floatScaleUptoCard : Claim7 := { stood := { row := floatScaleUptoRow, standIns := [], harness := (true, "092a21a3b8d27d9f20c0d2879969965d12261747057d06bd4ed7782981f232dd"), looks := false }, kinds := [], alts := [], laidByText := true, laidKinds := [.data], laidTests := true, laidLooks := .later }
def FloatScaleUptoCardSaid : Prop := Claim7.holds Tryd.pinned (.plain (OpenSpec.upto floatScaleSpec)) floatScaleUptoCard
end Rows
end Go.Proofs.YtfloeiagdegpjaaDoor
