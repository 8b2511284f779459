/-
  DERIVED. GIVEN WITH THE SEED: THE CARDS: each row of YtdofpealmngmiaaDoorRows.lean that lists a variable, with what it lists TIED to the program's text (the seventh form; the later family's looks); each row that meets fmt, with fmt's text TOLD by the authors' own Lean function (tested against real Go, not proved from fmt's source: count such statements apart). THE CARD IS WHAT COUNTS. Prove the row's statement (the work); the ties are given (YtdofpealmngmiaaDoorTie.lean); close each card by the builder's one call (the guide's Derived/Test/ToyasCard.lean, 'card_holds'). Laid BY PROGRAM, IN A SANDBOX (cutbox-door.mjs). By AI agents, Wed Nov 11 2026. No macro, syntax, notation, axiom, sorry.
-/
import Derived.Test.YtdofpealmngmiaaDoorRows
import GoSem.ClaimSeven
namespace Go.Proofs.YtdofpealmngmiaaDoor
namespace Rows

/-- THE TIED CARD OF 'laws.FnRuleTextWords'. -/
def fnRuleTextWordsCard : Claim7 := { stood := { row := fnRuleTextWordsRow, standIns := [], harness := (true, "7290c61413e99733f27ef70f815d257b431d4f0b45dff252c7b506e3f35f5757"), looks := true }, kinds := [], alts := [], laidByText := true, laidKinds := [.data, .data, .data, .data, .mapped], laidTests := true, laidLooks := .later }
def FnRuleTextWordsCardSaid : Prop := Claim7.holds Tryd.pinned (.plain (OpenSpec.ofChange fnRuleTextWordsSpec)) fnRuleTextWordsCard

/-- THE TIED CARD OF 'laws.FnRuleTextShort'. -/
def fnRuleTextShortCard : Claim7 := { stood := { row := fnRuleTextShortRow, standIns := [], harness := (true, "7290c61413e99733f27ef70f815d257b431d4f0b45dff252c7b506e3f35f5757"), looks := true }, kinds := [], alts := [], laidByText := true, laidKinds := [.data, .data, .data, .data, .mapped], laidTests := true, laidLooks := .later }
def FnRuleTextShortCardSaid : Prop := Claim7.holds Tryd.pinned (.plain (OpenSpec.ofChange fnRuleTextShortSpec)) fnRuleTextShortCard

/-- THE TIED CARD OF 'laws.FnExactFormatRule'. -/
def fnExactFormatRuleCard : Claim7 := { stood := { row := fnExactFormatRuleRow, standIns := [], harness := (true, "7290c61413e99733f27ef70f815d257b431d4f0b45dff252c7b506e3f35f5757"), looks := true }, kinds := [], alts := [], laidByText := true, laidKinds := [.data, .data, .data, .data, .mapped], laidTests := true, laidLooks := .later }
def FnExactFormatRuleCardSaid : Prop := Claim7.holds Tryd.pinned (.plain (OpenSpec.ofChange fnExactFormatRuleSpec)) fnExactFormatRuleCard

/-- THE TIED CARD OF 'laws.FnValidRule'. -/
def fnValidRuleCard : Claim7 := { stood := { row := fnValidRuleRow, standIns := [], harness := (true, "7290c61413e99733f27ef70f815d257b431d4f0b45dff252c7b506e3f35f5757"), looks := true }, kinds := [], alts := [], laidByText := true, laidKinds := [.data, .data, .data, .data, .mapped], laidTests := true, laidLooks := .later }
def FnValidRuleCardSaid : Prop := Claim7.holds Tryd.pinned (.plain (OpenSpec.ofChange fnValidRuleSpec)) fnValidRuleCard

/-- THE TIED CARD OF 'laws.FnRuleRoundTrip'. -/
def fnRuleRoundTripCard : Claim7 := { stood := { row := fnRuleRoundTripRow, standIns := [], harness := (true, "7290c61413e99733f27ef70f815d257b431d4f0b45dff252c7b506e3f35f5757"), looks := true }, kinds := [], alts := [], laidByText := true, laidKinds := [.data, .data, .data, .data, .sentinel, .sentinel, .data, .mapped, .pinned], laidTests := true, laidLooks := .later }
def FnRuleRoundTripCardSaid : Prop := Claim7.holds Tryd.pinned (.plain (OpenSpec.ofChange fnRuleRoundTripSpec)) fnRuleRoundTripCard

/-- THE TIED CARD OF 'laws.FnExactParseRule'. -/
def fnExactParseRuleCard : Claim7 := { stood := { row := fnExactParseRuleRow, standIns := [], harness := (true, "7290c61413e99733f27ef70f815d257b431d4f0b45dff252c7b506e3f35f5757"), looks := true }, kinds := [], alts := [], laidByText := true, laidKinds := [.data, .data, .data, .data, .sentinel, .sentinel, .data, .mapped, .pinned], laidTests := true, laidLooks := .later }
def FnExactParseRuleCardSaid : Prop := Claim7.holds Tryd.pinned (.plain (OpenSpec.ofChange fnExactParseRuleSpec)) fnExactParseRuleCard

/-- THE SECOND FORM's CARD OF 'laws.FnRuleTextWords'. -/
def fnRuleTextWordsUptoCard : Claim7 := { stood := { row := fnRuleTextWordsUptoRow, standIns := [], harness := (true, "7290c61413e99733f27ef70f815d257b431d4f0b45dff252c7b506e3f35f5757"), looks := true }, kinds := [], alts := [], laidByText := true, laidKinds := [.data, .data, .data, .data, .mapped], laidTests := true, laidLooks := .later }
def FnRuleTextWordsUptoCardSaid : Prop := Claim7.holds Tryd.pinned (.plain (OpenSpec.upto fnRuleTextWordsSpec)) fnRuleTextWordsUptoCard

/-- THE SECOND FORM's CARD OF 'laws.FnRuleTextShort'. -/
def fnRuleTextShortUptoCard : Claim7 := { stood := { row := fnRuleTextShortUptoRow, standIns := [], harness := (true, "7290c61413e99733f27ef70f815d257b431d4f0b45dff252c7b506e3f35f5757"), looks := true }, kinds := [], alts := [], laidByText := true, laidKinds := [.data, .data, .data, .data, .mapped], laidTests := true, laidLooks := .later }
def FnRuleTextShortUptoCardSaid : Prop := Claim7.holds Tryd.pinned (.plain (OpenSpec.upto fnRuleTextShortSpec)) fnRuleTextShortUptoCard

/-- THE SECOND FORM's CARD OF 'laws.FnExactFormatRule'. -/
def fnExactFormatRuleUptoCard : Claim7 := { stood := { row := fnExactFormatRuleUptoRow, standIns := [], harness := (true, "7290c61413e99733f27ef70f815d257b431d4f0b45dff252c7b506e3f35f5757"), looks := true }, kinds := [], alts := [], laidByText := true, laidKinds := [.data, .data, .data, .data, .mapped], laidTests := true, laidLooks := .later }
def FnExactFormatRuleUptoCardSaid : Prop := Claim7.holds Tryd.pinned (.plain (OpenSpec.upto fnExactFormatRuleSpec)) fnExactFormatRuleUptoCard

/-- THE SECOND FORM's CARD OF 'laws.FnValidRule'. -/
def fnValidRuleUptoCard : Claim7 := { stood := { row := fnValidRuleUptoRow, standIns := [], harness := (true, "7290c61413e99733f27ef70f815d257b431d4f0b45dff252c7b506e3f35f5757"), looks := true }, kinds := [], alts := [], laidByText := true, laidKinds := [.data, .data, .data, .data, .mapped], laidTests := true, laidLooks := .later }
def FnValidRuleUptoCardSaid : Prop := Claim7.holds Tryd.pinned (.plain (OpenSpec.upto fnValidRuleSpec)) fnValidRuleUptoCard

/-- THE SECOND FORM's CARD OF 'laws.FnRuleRoundTrip'. -/
def fnRuleRoundTripUptoCard : Claim7 := { stood := { row := fnRuleRoundTripUptoRow, standIns := [], harness := (true, "7290c61413e99733f27ef70f815d257b431d4f0b45dff252c7b506e3f35f5757"), looks := true }, kinds := [], alts := [], laidByText := true, laidKinds := [.data, .data, .data, .data, .sentinel, .sentinel, .data, .mapped, .pinned], laidTests := true, laidLooks := .later }
def FnRuleRoundTripUptoCardSaid : Prop := Claim7.holds Tryd.pinned (.plain (OpenSpec.upto fnRuleRoundTripSpec)) fnRuleRoundTripUptoCard

/-- THE SECOND FORM's CARD OF 'laws.FnExactParseRule'. -/
def fnExactParseRuleUptoCard : Claim7 := { stood := { row := fnExactParseRuleUptoRow, standIns := [], harness := (true, "7290c61413e99733f27ef70f815d257b431d4f0b45dff252c7b506e3f35f5757"), looks := true }, kinds := [], alts := [], laidByText := true, laidKinds := [.data, .data, .data, .data, .sentinel, .sentinel, .data, .mapped, .pinned], laidTests := true, laidLooks := .later }
def FnExactParseRuleUptoCardSaid : Prop := Claim7.holds Tryd.pinned (.plain (OpenSpec.upto fnExactParseRuleSpec)) fnExactParseRuleUptoCard
end Rows
end Go.Proofs.YtdofpealmngmiaaDoor
