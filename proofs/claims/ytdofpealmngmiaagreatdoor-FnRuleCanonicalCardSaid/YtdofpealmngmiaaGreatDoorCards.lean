/-
  DERIVED. GIVEN WITH THE SEED: THE CARDS: each row of YtdofpealmngmiaaGreatDoorRows.lean that lists a variable, with what it lists TIED to the program's text (the seventh form; the later family's looks); each row that meets fmt, with fmt's text TOLD by the authors' own Lean function (tested against real Go, not proved from fmt's source: count such statements apart). THE CARD IS WHAT COUNTS. Prove the row's statement (the work); the ties are given (YtdofpealmngmiaaGreatDoorTie.lean); close each card by the builder's one call (the guide's Derived/Test/ToyasCard.lean, 'card_holds'). Laid BY PROGRAM, IN A SANDBOX (cutbox-door.mjs). By AI agents, Wed Nov 11 2026. No macro, syntax, notation, axiom, sorry.
-/
import Derived.Test.YtdofpealmngmiaaGreatDoorRows
import GoSem.ClaimSeven
namespace Go.Proofs.YtdofpealmngmiaaGreatDoor
namespace Rows

/-- THE TIED CARD OF 'laws.FnRuleCanonical'. -/
def fnRuleCanonicalCard : Claim7 := { stood := { row := fnRuleCanonicalRow, standIns := [], harness := (true, "46702c4353a59e5a8c5ada0bd40041d5fc40581deb072cc6feb90e1b64c0acae"), looks := true }, kinds := [], alts := [], laidByText := true, laidKinds := [.data, .data, .data, .data, .sentinel, .sentinel, .data, .mapped, .pinned], laidTests := true, laidLooks := .later }
def FnRuleCanonicalCardSaid : Prop := Claim7.holds Tryz.pinned (.plain (OpenSpec.ofChange fnRuleCanonicalSpec)) fnRuleCanonicalCard

/-- THE SECOND FORM's CARD OF 'laws.FnRuleCanonical'. -/
def fnRuleCanonicalUptoCard : Claim7 := { stood := { row := fnRuleCanonicalUptoRow, standIns := [], harness := (true, "46702c4353a59e5a8c5ada0bd40041d5fc40581deb072cc6feb90e1b64c0acae"), looks := true }, kinds := [], alts := [], laidByText := true, laidKinds := [.data, .data, .data, .data, .sentinel, .sentinel, .data, .mapped, .pinned], laidTests := true, laidLooks := .later }
def FnRuleCanonicalUptoCardSaid : Prop := Claim7.holds Tryz.pinned (.plain (OpenSpec.upto fnRuleCanonicalSpec)) fnRuleCanonicalUptoCard
end Rows
end Go.Proofs.YtdofpealmngmiaaGreatDoor
