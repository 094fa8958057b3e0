/-
  DERIVED. GIVEN WITH THE SEED: THE CARDS: each row of YtiopkeepldmlkaaDoorRows.lean that lists a variable, with what it lists TIED to the program's text (the seventh form; the later family's looks); each row that meets fmt, with fmt's text TOLD by the authors' own Lean function (tested against real Go, not proved from fmt's source: count such statements apart). THE CARD IS WHAT COUNTS. Prove the row's statement (the work); the ties are given (YtiopkeepldmlkaaDoorTie.lean); close each card by the builder's one call (the guide's Derived/Test/ToyasCard.lean, 'card_holds'). Laid BY PROGRAM, IN A SANDBOX (cutbox-door.mjs). By AI agents, Wed Nov 11 2026. No macro, syntax, notation, axiom, sorry.
-/
import Derived.Test.YtiopkeepldmlkaaDoorRows
import GoSem.ClaimSeven
namespace Go.Proofs.YtiopkeepldmlkaaDoor
namespace Rows

/-- THE TIED CARD OF 'laws.FnExactSalvageBlocks'. -/
def fnExactSalvageBlocksCard : Claim7 := { stood := { row := fnExactSalvageBlocksRow, standIns := [], harness := (true, "a0c53c9c4a6152773f24ac0e6f2940c20c25366d89639c500218f4ca470dd0a0"), looks := true }, kinds := [], alts := [], laidByText := true, laidKinds := [.data, .data, .data, .data, .pinned], laidTests := true, laidLooks := .later }
def FnExactSalvageBlocksCardSaid : Prop := Claim7.holds Tryd.pinned (.plain (OpenSpec.ofChange fnExactSalvageBlocksSpec)) fnExactSalvageBlocksCard

/-- THE TIED CARD OF 'laws.FnExactReadItems'. -/
def fnExactReadItemsCard : Claim7 := { stood := { row := fnExactReadItemsRow, standIns := [], harness := (true, "a0c53c9c4a6152773f24ac0e6f2940c20c25366d89639c500218f4ca470dd0a0"), looks := true }, kinds := [], alts := [], laidByText := true, laidKinds := [.data, .data, .data, .data, .sentinel, .sentinel, .pinned], laidTests := true, laidLooks := .later }
def FnExactReadItemsCardSaid : Prop := Claim7.holds Tryd.pinned (.plain (OpenSpec.ofChange fnExactReadItemsSpec)) fnExactReadItemsCard

/-- THE SECOND FORM's CARD OF 'laws.FnExactSalvageBlocks'. -/
def fnExactSalvageBlocksUptoCard : Claim7 := { stood := { row := fnExactSalvageBlocksUptoRow, standIns := [], harness := (true, "a0c53c9c4a6152773f24ac0e6f2940c20c25366d89639c500218f4ca470dd0a0"), looks := true }, kinds := [], alts := [], laidByText := true, laidKinds := [.data, .data, .data, .data, .pinned], laidTests := true, laidLooks := .later }
def FnExactSalvageBlocksUptoCardSaid : Prop := Claim7.holds Tryd.pinned (.plain (OpenSpec.upto fnExactSalvageBlocksSpec)) fnExactSalvageBlocksUptoCard

/-- THE SECOND FORM's CARD OF 'laws.FnExactReadItems'. -/
def fnExactReadItemsUptoCard : Claim7 := { stood := { row := fnExactReadItemsUptoRow, standIns := [], harness := (true, "a0c53c9c4a6152773f24ac0e6f2940c20c25366d89639c500218f4ca470dd0a0"), looks := true }, kinds := [], alts := [], laidByText := true, laidKinds := [.data, .data, .data, .data, .sentinel, .sentinel, .pinned], laidTests := true, laidLooks := .later }
def FnExactReadItemsUptoCardSaid : Prop := Claim7.holds Tryd.pinned (.plain (OpenSpec.upto fnExactReadItemsSpec)) fnExactReadItemsUptoCard
end Rows
end Go.Proofs.YtiopkeepldmlkaaDoor
