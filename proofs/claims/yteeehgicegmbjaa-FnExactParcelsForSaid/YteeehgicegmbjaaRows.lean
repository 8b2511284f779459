/-
  No cell of these rows narrows 'for every input' (looked for: loops, veiled, ifaces, maps, wideKeys, modest, calm, conditions, laid).
  DERIVED. THE GIVEN ROWS OF THIS SEAT. 12 by the template 'for every input the law returns true; each argument reads behind the call as it read before'; 0 by the template 'total and deterministic' (their statements: YteeehgicegmbjaaTotals.lean).
  GIVEN WITH THE SEED: the statements are not yours to turn. If you find one false, say at which input.
  Laid BY PROGRAM, IN A SANDBOX (cutbox-rows.mjs): the forced cells as the released guide's own fill.sh prints them over the translation 74f1b5f8e4b89603… (all of the seat's roots in one cut). By AI agents, Wed Nov 11 2026. No macro, syntax, notation, axiom, sorry.
-/
import Derived.Test.YteeehgicegmbjaaChecked
import GoSem.Claim
import GoSem.ClaimJoined
import GoSem.ClaimMapViews
import Derived.JoinedTies
import Derived.KernelRfl
namespace Go.Proofs.Yteeehgicegmbjaa
/- THE CELL 'sum', in the pinned program and in every row, IS THE sha256 OF THE DUMP (.gsa) THAT YteeehgicegmbjaaProg.lean LOADS. Nothing in Lean hashes anything: it is a label: what it is worth is what the hold of that sum in a sandbox is worth. -/
noncomputable def Try.pinned : Pinned := { name := "yteeehgicegmbjaa", sum := "74f1b5f8e4b896036ba277542ca1085e249abd4c16dd41240943c06fd7d716d9", checked := Try.checked }
namespace Rows
def none {H : Type} : Left H := { results := [], args := [] }

/-- 'laws.FnValidBands': WHATEVER THE INPUT: true; the input reads as it did. -/
def fnValidBandsSpec : ChangeSpec := { name := "fnValidBands", fn := fun _ => fun
  | [d] => { results := [.lit (.bool true)], args := [d] }
  | _ => none }
def fnValidBandsRow : OpenClaim := { program := "yteeehgicegmbjaa", sum := "74f1b5f8e4b896036ba277542ca1085e249abd4c16dd41240943c06fd7d716d9", func := "loop.example/promotionengine/laws.FnValidBands", spec := "fnValidBands", apart := false }
def FnValidBandsSaid : Prop := fnValidBandsRow.holds Try.pinned (OpenSpec.ofChange fnValidBandsSpec)

/-- ITS FALSE NEIGHBOUR: 'it returns false'. Refute it at one input. -/
def fnValidBandsWrong : ChangeSpec := { name := "fnValidBands", fn := fun _ => fun
  | [d] => { results := [.lit (.bool false)], args := [d] }
  | _ => none }
def FnValidBandsWrongFalsely : Prop := fnValidBandsRow.holds Try.pinned (OpenSpec.ofChange fnValidBandsWrong)

/-- 'laws.FnExactValidBands': WHATEVER THE INPUT: true; the input reads as it did. -/
def fnExactValidBandsSpec : ChangeSpec := { name := "fnExactValidBands", fn := fun _ => fun
  | [d] => { results := [.lit (.bool true)], args := [d] }
  | _ => none }
def fnExactValidBandsRow : OpenClaim := { program := "yteeehgicegmbjaa", sum := "74f1b5f8e4b896036ba277542ca1085e249abd4c16dd41240943c06fd7d716d9", func := "loop.example/promotionengine/laws.FnExactValidBands", spec := "fnExactValidBands", apart := false }
def FnExactValidBandsSaid : Prop := fnExactValidBandsRow.holds Try.pinned (OpenSpec.ofChange fnExactValidBandsSpec)

/-- ITS FALSE NEIGHBOUR: 'it returns false'. Refute it at one input. -/
def fnExactValidBandsWrong : ChangeSpec := { name := "fnExactValidBands", fn := fun _ => fun
  | [d] => { results := [.lit (.bool false)], args := [d] }
  | _ => none }
def FnExactValidBandsWrongFalsely : Prop := fnExactValidBandsRow.holds Try.pinned (OpenSpec.ofChange fnExactValidBandsWrong)

/-- 'laws.FnExactParcelPrice': WHATEVER THE INPUT: true; the input reads as it did. -/
def fnExactParcelPriceSpec : ChangeSpec := { name := "fnExactParcelPrice", fn := fun _ => fun
  | [d1, d2] => { results := [.lit (.bool true)], args := [d1, d2] }
  | _ => none }
def fnExactParcelPriceRow : OpenClaim := { program := "yteeehgicegmbjaa", sum := "74f1b5f8e4b896036ba277542ca1085e249abd4c16dd41240943c06fd7d716d9", func := "loop.example/promotionengine/laws.FnExactParcelPrice", spec := "fnExactParcelPrice", apart := false }
def FnExactParcelPriceSaid : Prop := fnExactParcelPriceRow.holds Try.pinned (OpenSpec.ofChange fnExactParcelPriceSpec)

/-- ITS FALSE NEIGHBOUR: 'it returns false'. Refute it at one input. -/
def fnExactParcelPriceWrong : ChangeSpec := { name := "fnExactParcelPrice", fn := fun _ => fun
  | [d1, d2] => { results := [.lit (.bool false)], args := [d1, d2] }
  | _ => none }
def FnExactParcelPriceWrongFalsely : Prop := fnExactParcelPriceRow.holds Try.pinned (OpenSpec.ofChange fnExactParcelPriceWrong)

/-- 'laws.FnParcelPrice': WHATEVER THE INPUT: true; the input reads as it did. -/
def fnParcelPriceSpec : ChangeSpec := { name := "fnParcelPrice", fn := fun _ => fun
  | [d] => { results := [.lit (.bool true)], args := [d] }
  | _ => none }
def fnParcelPriceRow : OpenClaim := { program := "yteeehgicegmbjaa", sum := "74f1b5f8e4b896036ba277542ca1085e249abd4c16dd41240943c06fd7d716d9", func := "loop.example/promotionengine/laws.FnParcelPrice", spec := "fnParcelPrice", apart := false }
def FnParcelPriceSaid : Prop := fnParcelPriceRow.holds Try.pinned (OpenSpec.ofChange fnParcelPriceSpec)

/-- ITS FALSE NEIGHBOUR: 'it returns false'. Refute it at one input. -/
def fnParcelPriceWrong : ChangeSpec := { name := "fnParcelPrice", fn := fun _ => fun
  | [d] => { results := [.lit (.bool false)], args := [d] }
  | _ => none }
def FnParcelPriceWrongFalsely : Prop := fnParcelPriceRow.holds Try.pinned (OpenSpec.ofChange fnParcelPriceWrong)

/-- 'laws.FnParcelPriceBand': WHATEVER THE INPUT: true; the input reads as it did. -/
def fnParcelPriceBandSpec : ChangeSpec := { name := "fnParcelPriceBand", fn := fun _ => fun
  | [d] => { results := [.lit (.bool true)], args := [d] }
  | _ => none }
def fnParcelPriceBandRow : OpenClaim := { program := "yteeehgicegmbjaa", sum := "74f1b5f8e4b896036ba277542ca1085e249abd4c16dd41240943c06fd7d716d9", func := "loop.example/promotionengine/laws.FnParcelPriceBand", spec := "fnParcelPriceBand", apart := false }
def FnParcelPriceBandSaid : Prop := fnParcelPriceBandRow.holds Try.pinned (OpenSpec.ofChange fnParcelPriceBandSpec)

/-- ITS FALSE NEIGHBOUR: 'it returns false'. Refute it at one input. -/
def fnParcelPriceBandWrong : ChangeSpec := { name := "fnParcelPriceBand", fn := fun _ => fun
  | [d] => { results := [.lit (.bool false)], args := [d] }
  | _ => none }
def FnParcelPriceBandWrongFalsely : Prop := fnParcelPriceBandRow.holds Try.pinned (OpenSpec.ofChange fnParcelPriceBandWrong)

/-- 'laws.FnExactShippingOf': WHATEVER THE INPUT: true; the input reads as it did. -/
def fnExactShippingOfSpec : ChangeSpec := { name := "fnExactShippingOf", fn := fun _ => fun
  | [d1, d2, d3, d4] => { results := [.lit (.bool true)], args := [d1, d2, d3, d4] }
  | _ => none }
def fnExactShippingOfRow : OpenClaim := { program := "yteeehgicegmbjaa", sum := "74f1b5f8e4b896036ba277542ca1085e249abd4c16dd41240943c06fd7d716d9", func := "loop.example/promotionengine/laws.FnExactShippingOf", spec := "fnExactShippingOf", apart := false }
def FnExactShippingOfSaid : Prop := fnExactShippingOfRow.holds Try.pinned (OpenSpec.ofChange fnExactShippingOfSpec)

/-- ITS FALSE NEIGHBOUR: 'it returns false'. Refute it at one input. -/
def fnExactShippingOfWrong : ChangeSpec := { name := "fnExactShippingOf", fn := fun _ => fun
  | [d1, d2, d3, d4] => { results := [.lit (.bool false)], args := [d1, d2, d3, d4] }
  | _ => none }
def FnExactShippingOfWrongFalsely : Prop := fnExactShippingOfRow.holds Try.pinned (OpenSpec.ofChange fnExactShippingOfWrong)

/-- 'laws.FnShippingOf': WHATEVER THE INPUT: true; the input reads as it did. -/
def fnShippingOfSpec : ChangeSpec := { name := "fnShippingOf", fn := fun _ => fun
  | [d] => { results := [.lit (.bool true)], args := [d] }
  | _ => none }
def fnShippingOfRow : OpenClaim := { program := "yteeehgicegmbjaa", sum := "74f1b5f8e4b896036ba277542ca1085e249abd4c16dd41240943c06fd7d716d9", func := "loop.example/promotionengine/laws.FnShippingOf", spec := "fnShippingOf", apart := false }
def FnShippingOfSaid : Prop := fnShippingOfRow.holds Try.pinned (OpenSpec.ofChange fnShippingOfSpec)

/-- ITS FALSE NEIGHBOUR: 'it returns false'. Refute it at one input. -/
def fnShippingOfWrong : ChangeSpec := { name := "fnShippingOf", fn := fun _ => fun
  | [d] => { results := [.lit (.bool false)], args := [d] }
  | _ => none }
def FnShippingOfWrongFalsely : Prop := fnShippingOfRow.holds Try.pinned (OpenSpec.ofChange fnShippingOfWrong)

/-- 'laws.FnShippingOfMore': WHATEVER THE INPUT: true; the input reads as it did. -/
def fnShippingOfMoreSpec : ChangeSpec := { name := "fnShippingOfMore", fn := fun _ => fun
  | [d] => { results := [.lit (.bool true)], args := [d] }
  | _ => none }
def fnShippingOfMoreRow : OpenClaim := { program := "yteeehgicegmbjaa", sum := "74f1b5f8e4b896036ba277542ca1085e249abd4c16dd41240943c06fd7d716d9", func := "loop.example/promotionengine/laws.FnShippingOfMore", spec := "fnShippingOfMore", apart := false }
def FnShippingOfMoreSaid : Prop := fnShippingOfMoreRow.holds Try.pinned (OpenSpec.ofChange fnShippingOfMoreSpec)

/-- ITS FALSE NEIGHBOUR: 'it returns false'. Refute it at one input. -/
def fnShippingOfMoreWrong : ChangeSpec := { name := "fnShippingOfMore", fn := fun _ => fun
  | [d] => { results := [.lit (.bool false)], args := [d] }
  | _ => none }
def FnShippingOfMoreWrongFalsely : Prop := fnShippingOfMoreRow.holds Try.pinned (OpenSpec.ofChange fnShippingOfMoreWrong)

/-- 'laws.FnParcelsFor': WHATEVER THE INPUT: true; the input reads as it did. -/
def fnParcelsForSpec : ChangeSpec := { name := "fnParcelsFor", fn := fun _ => fun
  | [d] => { results := [.lit (.bool true)], args := [d] }
  | _ => none }
def fnParcelsForRow : OpenClaim := { program := "yteeehgicegmbjaa", sum := "74f1b5f8e4b896036ba277542ca1085e249abd4c16dd41240943c06fd7d716d9", func := "loop.example/promotionengine/laws.FnParcelsFor", spec := "fnParcelsFor", apart := false }
def FnParcelsForSaid : Prop := fnParcelsForRow.holds Try.pinned (OpenSpec.ofChange fnParcelsForSpec)

/-- ITS FALSE NEIGHBOUR: 'it returns false'. Refute it at one input. -/
def fnParcelsForWrong : ChangeSpec := { name := "fnParcelsFor", fn := fun _ => fun
  | [d] => { results := [.lit (.bool false)], args := [d] }
  | _ => none }
def FnParcelsForWrongFalsely : Prop := fnParcelsForRow.holds Try.pinned (OpenSpec.ofChange fnParcelsForWrong)

/-- 'laws.FnParcelsForFull': WHATEVER THE INPUT: true; the input reads as it did. -/
def fnParcelsForFullSpec : ChangeSpec := { name := "fnParcelsForFull", fn := fun _ => fun
  | [d] => { results := [.lit (.bool true)], args := [d] }
  | _ => none }
def fnParcelsForFullRow : OpenClaim := { program := "yteeehgicegmbjaa", sum := "74f1b5f8e4b896036ba277542ca1085e249abd4c16dd41240943c06fd7d716d9", func := "loop.example/promotionengine/laws.FnParcelsForFull", spec := "fnParcelsForFull", apart := false }
def FnParcelsForFullSaid : Prop := fnParcelsForFullRow.holds Try.pinned (OpenSpec.ofChange fnParcelsForFullSpec)

/-- ITS FALSE NEIGHBOUR: 'it returns false'. Refute it at one input. -/
def fnParcelsForFullWrong : ChangeSpec := { name := "fnParcelsForFull", fn := fun _ => fun
  | [d] => { results := [.lit (.bool false)], args := [d] }
  | _ => none }
def FnParcelsForFullWrongFalsely : Prop := fnParcelsForFullRow.holds Try.pinned (OpenSpec.ofChange fnParcelsForFullWrong)

/-- 'laws.FnParcelsForOne': WHATEVER THE INPUT: true; the input reads as it did. -/
def fnParcelsForOneSpec : ChangeSpec := { name := "fnParcelsForOne", fn := fun _ => fun
  | [d] => { results := [.lit (.bool true)], args := [d] }
  | _ => none }
def fnParcelsForOneRow : OpenClaim := { program := "yteeehgicegmbjaa", sum := "74f1b5f8e4b896036ba277542ca1085e249abd4c16dd41240943c06fd7d716d9", func := "loop.example/promotionengine/laws.FnParcelsForOne", spec := "fnParcelsForOne", apart := false }
def FnParcelsForOneSaid : Prop := fnParcelsForOneRow.holds Try.pinned (OpenSpec.ofChange fnParcelsForOneSpec)

/-- ITS FALSE NEIGHBOUR: 'it returns false'. Refute it at one input. -/
def fnParcelsForOneWrong : ChangeSpec := { name := "fnParcelsForOne", fn := fun _ => fun
  | [d] => { results := [.lit (.bool false)], args := [d] }
  | _ => none }
def FnParcelsForOneWrongFalsely : Prop := fnParcelsForOneRow.holds Try.pinned (OpenSpec.ofChange fnParcelsForOneWrong)

/-- 'laws.FnExactParcelsFor': WHATEVER THE INPUT: true; the input reads as it did. -/
def fnExactParcelsForSpec : ChangeSpec := { name := "fnExactParcelsFor", fn := fun _ => fun
  | [d1, d2] => { results := [.lit (.bool true)], args := [d1, d2] }
  | _ => none }
def fnExactParcelsForRow : OpenClaim := { program := "yteeehgicegmbjaa", sum := "74f1b5f8e4b896036ba277542ca1085e249abd4c16dd41240943c06fd7d716d9", func := "loop.example/promotionengine/laws.FnExactParcelsFor", spec := "fnExactParcelsFor", apart := false }
def FnExactParcelsForSaid : Prop := fnExactParcelsForRow.holds Try.pinned (OpenSpec.ofChange fnExactParcelsForSpec)

/-- ITS FALSE NEIGHBOUR: 'it returns false'. Refute it at one input. -/
def fnExactParcelsForWrong : ChangeSpec := { name := "fnExactParcelsFor", fn := fun _ => fun
  | [d1, d2] => { results := [.lit (.bool false)], args := [d1, d2] }
  | _ => none }
def FnExactParcelsForWrongFalsely : Prop := fnExactParcelsForRow.holds Try.pinned (OpenSpec.ofChange fnExactParcelsForWrong)

/- THE SECOND FORM. 'bulk': how many values and letters a reading holds, each counted each time it is reached (what is shared counts as often as it is met; a slice's spare places count too). A statement '..UptoSaid' is the law's where the arguments, and the package variables that the reading takes, are together of bulk at most 1048576: NARROWER than '..Said'. Prove '..Said' where nothing that the law and all that it calls make is longer than what came in: it says more and counts as full. Else prove '..UptoSaid'. A law counts once. -/
mutual
def uptoBulk {H : Type} : DataW H → Nat
  | .lit (.string bytes) => bytes.length + 1
  | .lit _ => 1
  | .nil => 1
  | .ptr d => uptoBulk d + 1
  | .slice elems spare => uptoBulkAll elems + uptoBulkAll spare + 1
  | .agg parts => uptoBulkAll parts + 1
  | .iface _ d => uptoBulk d + 1
  | .map entries => uptoBulkEntries entries + 1
  | .held _ => 1
def uptoBulkAll {H : Type} : List (DataW H) → Nat
  | [] => 0
  | d :: r => uptoBulk d + uptoBulkAll r
def uptoBulkEntries {H : Type} : List (Lit × DataW H) → Nat
  | [] => 0
  | x :: r => uptoBulkEntry x + uptoBulkEntries r
def uptoBulkEntry {H : Type} : Lit × DataW H → Nat
  | (.string bytes, d) => bytes.length + uptoBulk d + 1
  | (_, d) => uptoBulk d + 1
 end
def uptoSmall : (H : Type) → List (DataW H) → Bool := fun _ ds => decide (uptoBulkAll ds ≤ 1048576)
def OpenSpec.upto (s : _root_.Go.ChangeSpec) : _root_.Go.OpenSpec := { _root_.Go.OpenSpec.ofChange s with cond := some uptoSmall }

/-- 'laws.FnValidBands', WHERE WHAT IT READS IS OF BULK AT MOST 1048576: true; the input reads as it did. -/
def fnValidBandsUptoRow : OpenClaim := { program := "yteeehgicegmbjaa", sum := "74f1b5f8e4b896036ba277542ca1085e249abd4c16dd41240943c06fd7d716d9", func := "loop.example/promotionengine/laws.FnValidBands", spec := "fnValidBands", apart := false, narrowed := true }
def FnValidBandsUptoSaid : Prop := fnValidBandsUptoRow.holds Try.pinned (OpenSpec.upto fnValidBandsSpec)

/-- 'laws.FnExactValidBands', WHERE WHAT IT READS IS OF BULK AT MOST 1048576: true; the input reads as it did. -/
def fnExactValidBandsUptoRow : OpenClaim := { program := "yteeehgicegmbjaa", sum := "74f1b5f8e4b896036ba277542ca1085e249abd4c16dd41240943c06fd7d716d9", func := "loop.example/promotionengine/laws.FnExactValidBands", spec := "fnExactValidBands", apart := false, narrowed := true }
def FnExactValidBandsUptoSaid : Prop := fnExactValidBandsUptoRow.holds Try.pinned (OpenSpec.upto fnExactValidBandsSpec)

/-- 'laws.FnExactParcelPrice', WHERE WHAT IT READS IS OF BULK AT MOST 1048576: true; the input reads as it did. -/
def fnExactParcelPriceUptoRow : OpenClaim := { program := "yteeehgicegmbjaa", sum := "74f1b5f8e4b896036ba277542ca1085e249abd4c16dd41240943c06fd7d716d9", func := "loop.example/promotionengine/laws.FnExactParcelPrice", spec := "fnExactParcelPrice", apart := false, narrowed := true }
def FnExactParcelPriceUptoSaid : Prop := fnExactParcelPriceUptoRow.holds Try.pinned (OpenSpec.upto fnExactParcelPriceSpec)

/-- 'laws.FnParcelPrice', WHERE WHAT IT READS IS OF BULK AT MOST 1048576: true; the input reads as it did. -/
def fnParcelPriceUptoRow : OpenClaim := { program := "yteeehgicegmbjaa", sum := "74f1b5f8e4b896036ba277542ca1085e249abd4c16dd41240943c06fd7d716d9", func := "loop.example/promotionengine/laws.FnParcelPrice", spec := "fnParcelPrice", apart := false, narrowed := true }
def FnParcelPriceUptoSaid : Prop := fnParcelPriceUptoRow.holds Try.pinned (OpenSpec.upto fnParcelPriceSpec)

/-- 'laws.FnParcelPriceBand', WHERE WHAT IT READS IS OF BULK AT MOST 1048576: true; the input reads as it did. -/
def fnParcelPriceBandUptoRow : OpenClaim := { program := "yteeehgicegmbjaa", sum := "74f1b5f8e4b896036ba277542ca1085e249abd4c16dd41240943c06fd7d716d9", func := "loop.example/promotionengine/laws.FnParcelPriceBand", spec := "fnParcelPriceBand", apart := false, narrowed := true }
def FnParcelPriceBandUptoSaid : Prop := fnParcelPriceBandUptoRow.holds Try.pinned (OpenSpec.upto fnParcelPriceBandSpec)

/-- 'laws.FnExactShippingOf', WHERE WHAT IT READS IS OF BULK AT MOST 1048576: true; the input reads as it did. -/
def fnExactShippingOfUptoRow : OpenClaim := { program := "yteeehgicegmbjaa", sum := "74f1b5f8e4b896036ba277542ca1085e249abd4c16dd41240943c06fd7d716d9", func := "loop.example/promotionengine/laws.FnExactShippingOf", spec := "fnExactShippingOf", apart := false, narrowed := true }
def FnExactShippingOfUptoSaid : Prop := fnExactShippingOfUptoRow.holds Try.pinned (OpenSpec.upto fnExactShippingOfSpec)

/-- 'laws.FnShippingOf', WHERE WHAT IT READS IS OF BULK AT MOST 1048576: true; the input reads as it did. -/
def fnShippingOfUptoRow : OpenClaim := { program := "yteeehgicegmbjaa", sum := "74f1b5f8e4b896036ba277542ca1085e249abd4c16dd41240943c06fd7d716d9", func := "loop.example/promotionengine/laws.FnShippingOf", spec := "fnShippingOf", apart := false, narrowed := true }
def FnShippingOfUptoSaid : Prop := fnShippingOfUptoRow.holds Try.pinned (OpenSpec.upto fnShippingOfSpec)

/-- 'laws.FnShippingOfMore', WHERE WHAT IT READS IS OF BULK AT MOST 1048576: true; the input reads as it did. -/
def fnShippingOfMoreUptoRow : OpenClaim := { program := "yteeehgicegmbjaa", sum := "74f1b5f8e4b896036ba277542ca1085e249abd4c16dd41240943c06fd7d716d9", func := "loop.example/promotionengine/laws.FnShippingOfMore", spec := "fnShippingOfMore", apart := false, narrowed := true }
def FnShippingOfMoreUptoSaid : Prop := fnShippingOfMoreUptoRow.holds Try.pinned (OpenSpec.upto fnShippingOfMoreSpec)

/-- 'laws.FnParcelsFor', WHERE WHAT IT READS IS OF BULK AT MOST 1048576: true; the input reads as it did. -/
def fnParcelsForUptoRow : OpenClaim := { program := "yteeehgicegmbjaa", sum := "74f1b5f8e4b896036ba277542ca1085e249abd4c16dd41240943c06fd7d716d9", func := "loop.example/promotionengine/laws.FnParcelsFor", spec := "fnParcelsFor", apart := false, narrowed := true }
def FnParcelsForUptoSaid : Prop := fnParcelsForUptoRow.holds Try.pinned (OpenSpec.upto fnParcelsForSpec)

/-- 'laws.FnParcelsForFull', WHERE WHAT IT READS IS OF BULK AT MOST 1048576: true; the input reads as it did. -/
def fnParcelsForFullUptoRow : OpenClaim := { program := "yteeehgicegmbjaa", sum := "74f1b5f8e4b896036ba277542ca1085e249abd4c16dd41240943c06fd7d716d9", func := "loop.example/promotionengine/laws.FnParcelsForFull", spec := "fnParcelsForFull", apart := false, narrowed := true }
def FnParcelsForFullUptoSaid : Prop := fnParcelsForFullUptoRow.holds Try.pinned (OpenSpec.upto fnParcelsForFullSpec)

/-- 'laws.FnParcelsForOne', WHERE WHAT IT READS IS OF BULK AT MOST 1048576: true; the input reads as it did. -/
def fnParcelsForOneUptoRow : OpenClaim := { program := "yteeehgicegmbjaa", sum := "74f1b5f8e4b896036ba277542ca1085e249abd4c16dd41240943c06fd7d716d9", func := "loop.example/promotionengine/laws.FnParcelsForOne", spec := "fnParcelsForOne", apart := false, narrowed := true }
def FnParcelsForOneUptoSaid : Prop := fnParcelsForOneUptoRow.holds Try.pinned (OpenSpec.upto fnParcelsForOneSpec)

/-- 'laws.FnExactParcelsFor', WHERE WHAT IT READS IS OF BULK AT MOST 1048576: true; the input reads as it did. -/
def fnExactParcelsForUptoRow : OpenClaim := { program := "yteeehgicegmbjaa", sum := "74f1b5f8e4b896036ba277542ca1085e249abd4c16dd41240943c06fd7d716d9", func := "loop.example/promotionengine/laws.FnExactParcelsFor", spec := "fnExactParcelsFor", apart := false, narrowed := true }
def FnExactParcelsForUptoSaid : Prop := fnExactParcelsForUptoRow.holds Try.pinned (OpenSpec.upto fnExactParcelsForSpec)

end Rows
end Go.Proofs.Yteeehgicegmbjaa
