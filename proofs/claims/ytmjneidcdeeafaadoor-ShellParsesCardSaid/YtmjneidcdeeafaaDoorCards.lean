/-
  DERIVED. GIVEN WITH THE SEED: THE CARDS: each row of YtmjneidcdeeafaaDoorRows.lean that lists a variable, with what it lists TIED to the program's text (the seventh form; the later family's looks); each row that meets fmt, with fmt's text TOLD by the authors' own Lean function (tested against real Go, not proved from fmt's source: count such statements apart). THE CARD IS WHAT COUNTS. Prove the row's statement (the work); the ties are given (YtmjneidcdeeafaaDoorTie.lean); close each card by the builder's one call (the guide's Derived/Test/ToyasCard.lean, 'card_holds'). Laid BY PROGRAM, IN A SANDBOX (cutbox-door.mjs). By AI agents, Wed Nov 11 2026. No macro, syntax, notation, axiom, sorry.
-/
import Derived.Test.YtmjneidcdeeafaaDoorRows
import GoSem.ClaimSeven
namespace Go.Proofs.YtmjneidcdeeafaaDoor
namespace Rows

/-- THE TIED CARD OF 'sedimentlaw30.ShellParses'. -/
def shellParsesCard : Claim7 := { stood := { row := shellParsesRow, standIns := [], harness := (true, "e9de177a9f4a067a7f572211be27dc23ddd3d5bd26ce9f6dcd6089cf5128f6a5"), looks := true }, kinds := [], alts := [], laidByText := true, laidKinds := [.data, .data, .data, .data, .sentinel, .sentinel, .pinned], laidTests := true, laidLooks := .later }
def ShellParsesCardSaid : Prop := Claim7.holds Tryd.pinned (.plain (OpenSpec.ofChange shellParsesSpec)) shellParsesCard

/-- THE SECOND FORM's CARD OF 'sedimentlaw30.ShellParses'. -/
def shellParsesUptoCard : Claim7 := { stood := { row := shellParsesUptoRow, standIns := [], harness := (true, "e9de177a9f4a067a7f572211be27dc23ddd3d5bd26ce9f6dcd6089cf5128f6a5"), looks := true }, kinds := [], alts := [], laidByText := true, laidKinds := [.data, .data, .data, .data, .sentinel, .sentinel, .pinned], laidTests := true, laidLooks := .later }
def ShellParsesUptoCardSaid : Prop := Claim7.holds Tryd.pinned (.plain (OpenSpec.upto shellParsesSpec)) shellParsesUptoCard
end Rows
end Go.Proofs.YtmjneidcdeeafaaDoor
