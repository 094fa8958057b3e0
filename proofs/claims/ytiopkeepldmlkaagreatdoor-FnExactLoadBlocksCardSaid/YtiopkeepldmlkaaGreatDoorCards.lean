/-
  DERIVED. GIVEN WITH THE SEED: THE CARDS: each row of YtiopkeepldmlkaaGreatDoorRows.lean that lists a variable, with what it lists TIED to the program's text (the seventh form; the later family's looks); each row that meets fmt, with fmt's text TOLD by the authors' own Lean function (tested against real Go, not proved from fmt's source: count such statements apart). THE CARD IS WHAT COUNTS. Prove the row's statement (the work); the ties are given (YtiopkeepldmlkaaGreatDoorTie.lean); close each card by the builder's one call (the guide's Derived/Test/ToyasCard.lean, 'card_holds'). Laid BY PROGRAM, IN A SANDBOX (cutbox-door.mjs). By AI agents, Wed Nov 11 2026. No macro, syntax, notation, axiom, sorry.
-/
import Derived.Test.YtiopkeepldmlkaaGreatDoorRows
import GoSem.ClaimSeven
namespace Go.Proofs.YtiopkeepldmlkaaGreatDoor
namespace Rows

/-- THE TIED CARD OF 'laws.FnExactLoadBlocks'. -/
def fnExactLoadBlocksCard : Claim7 := { stood := { row := fnExactLoadBlocksRow, standIns := [], harness := (true, "02a3b707fd70c6fde784488d894e902c69b96caec6f0d5d2ac25203a1db09eae"), looks := true }, kinds := [], alts := [], laidByText := true, laidKinds := [.data, .data, .data, .data, .sentinel, .sentinel, .pinned], laidTests := true, laidLooks := .later }
def FnExactLoadBlocksCardSaid : Prop := Claim7.holds Tryz.pinned (.plain (OpenSpec.ofChange fnExactLoadBlocksSpec)) fnExactLoadBlocksCard

/-- THE TIED CARD OF 'laws.FnSalvage'. -/
def fnSalvageCard : Claim7 := { stood := { row := fnSalvageRow, standIns := [], harness := (true, "02a3b707fd70c6fde784488d894e902c69b96caec6f0d5d2ac25203a1db09eae"), looks := true }, kinds := [], alts := [], laidByText := true, laidKinds := [.data, .data, .data, .data, .pinned], laidTests := true, laidLooks := .later }
def FnSalvageCardSaid : Prop := Claim7.holds Tryz.pinned (.plain (OpenSpec.ofChange fnSalvageSpec)) fnSalvageCard

/-- THE SECOND FORM's CARD OF 'laws.FnExactLoadBlocks'. -/
def fnExactLoadBlocksUptoCard : Claim7 := { stood := { row := fnExactLoadBlocksUptoRow, standIns := [], harness := (true, "02a3b707fd70c6fde784488d894e902c69b96caec6f0d5d2ac25203a1db09eae"), looks := true }, kinds := [], alts := [], laidByText := true, laidKinds := [.data, .data, .data, .data, .sentinel, .sentinel, .pinned], laidTests := true, laidLooks := .later }
def FnExactLoadBlocksUptoCardSaid : Prop := Claim7.holds Tryz.pinned (.plain (OpenSpec.upto fnExactLoadBlocksSpec)) fnExactLoadBlocksUptoCard

/-- THE SECOND FORM's CARD OF 'laws.FnSalvage'. -/
def fnSalvageUptoCard : Claim7 := { stood := { row := fnSalvageUptoRow, standIns := [], harness := (true, "02a3b707fd70c6fde784488d894e902c69b96caec6f0d5d2ac25203a1db09eae"), looks := true }, kinds := [], alts := [], laidByText := true, laidKinds := [.data, .data, .data, .data, .pinned], laidTests := true, laidLooks := .later }
def FnSalvageUptoCardSaid : Prop := Claim7.holds Tryz.pinned (.plain (OpenSpec.upto fnSalvageSpec)) fnSalvageUptoCard
end Rows
end Go.Proofs.YtiopkeepldmlkaaGreatDoor
