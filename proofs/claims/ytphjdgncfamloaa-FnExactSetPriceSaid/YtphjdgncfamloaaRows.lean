/-
  No cell of these rows narrows 'for every input' (looked for: loops, veiled, ifaces, maps, wideKeys, modest, calm, conditions, laid).
  DERIVED. THE GIVEN ROWS OF THIS SEAT. 10 by the template 'for every input the law returns true; each argument reads behind the call as it read before'; 0 by the template 'total and deterministic' (their statements: YtphjdgncfamloaaTotals.lean).
  GIVEN WITH THE SEED: the statements are not yours to turn. If you find one false, say at which input.
  Laid BY PROGRAM, IN A SANDBOX (cutbox-rows.mjs): the forced cells as the released guide's own fill.sh prints them over the translation a49b5465ce972dfc… (all of the seat's roots in one cut). By AI agents, Wed Nov 11 2026. No macro, syntax, notation, axiom, sorry.
-/
import Derived.Test.YtphjdgncfamloaaChecked
import GoSem.Claim
import GoSem.ClaimJoined
import GoSem.ClaimMapViews
import Derived.JoinedTies
import Derived.KernelRfl
namespace Go.Proofs.Ytphjdgncfamloaa
/- THE CELL 'sum', in the pinned program and in every row, IS THE sha256 OF THE DUMP (.gsa) THAT YtphjdgncfamloaaProg.lean LOADS. Nothing in Lean hashes anything: it is a label: what it is worth is what the hold of that sum in a sandbox is worth. -/
noncomputable def Try.pinned : Pinned := { name := "ytphjdgncfamloaa", sum := "a49b5465ce972dfcb3e8229fcd6c65d6e444d3cbd90e4af105f63c40fe9a5d65", checked := Try.checked }
namespace Rows
def none {H : Type} : Left H := { results := [], args := [] }

/-- 'laws.FnValidPrices': WHATEVER THE INPUT: true; the input reads as it did. -/
def fnValidPricesSpec : ChangeSpec := { name := "fnValidPrices", fn := fun _ => fun
  | [d] => { results := [.lit (.bool true)], args := [d] }
  | _ => none }
def fnValidPricesRow : OpenClaim := { program := "ytphjdgncfamloaa", sum := "a49b5465ce972dfcb3e8229fcd6c65d6e444d3cbd90e4af105f63c40fe9a5d65", func := "loop.example/promotionengine/laws.FnValidPrices", spec := "fnValidPrices", apart := false }
def FnValidPricesSaid : Prop := fnValidPricesRow.holds Try.pinned (OpenSpec.ofChange fnValidPricesSpec)

/-- ITS FALSE NEIGHBOUR: 'it returns false'. Refute it at one input. -/
def fnValidPricesWrong : ChangeSpec := { name := "fnValidPrices", fn := fun _ => fun
  | [d] => { results := [.lit (.bool false)], args := [d] }
  | _ => none }
def FnValidPricesWrongFalsely : Prop := fnValidPricesRow.holds Try.pinned (OpenSpec.ofChange fnValidPricesWrong)

/-- 'laws.FnExactValidPrices': WHATEVER THE INPUT: true; the input reads as it did. -/
def fnExactValidPricesSpec : ChangeSpec := { name := "fnExactValidPrices", fn := fun _ => fun
  | [d] => { results := [.lit (.bool true)], args := [d] }
  | _ => none }
def fnExactValidPricesRow : OpenClaim := { program := "ytphjdgncfamloaa", sum := "a49b5465ce972dfcb3e8229fcd6c65d6e444d3cbd90e4af105f63c40fe9a5d65", func := "loop.example/promotionengine/laws.FnExactValidPrices", spec := "fnExactValidPrices", apart := false }
def FnExactValidPricesSaid : Prop := fnExactValidPricesRow.holds Try.pinned (OpenSpec.ofChange fnExactValidPricesSpec)

/-- ITS FALSE NEIGHBOUR: 'it returns false'. Refute it at one input. -/
def fnExactValidPricesWrong : ChangeSpec := { name := "fnExactValidPrices", fn := fun _ => fun
  | [d] => { results := [.lit (.bool false)], args := [d] }
  | _ => none }
def FnExactValidPricesWrongFalsely : Prop := fnExactValidPricesRow.holds Try.pinned (OpenSpec.ofChange fnExactValidPricesWrong)

/-- 'laws.FnExactPriceOn': WHATEVER THE INPUT: true; the input reads as it did. -/
def fnExactPriceOnSpec : ChangeSpec := { name := "fnExactPriceOn", fn := fun _ => fun
  | [d1, d2] => { results := [.lit (.bool true)], args := [d1, d2] }
  | _ => none }
def fnExactPriceOnRow : OpenClaim := { program := "ytphjdgncfamloaa", sum := "a49b5465ce972dfcb3e8229fcd6c65d6e444d3cbd90e4af105f63c40fe9a5d65", func := "loop.example/promotionengine/laws.FnExactPriceOn", spec := "fnExactPriceOn", apart := false }
def FnExactPriceOnSaid : Prop := fnExactPriceOnRow.holds Try.pinned (OpenSpec.ofChange fnExactPriceOnSpec)

/-- ITS FALSE NEIGHBOUR: 'it returns false'. Refute it at one input. -/
def fnExactPriceOnWrong : ChangeSpec := { name := "fnExactPriceOn", fn := fun _ => fun
  | [d1, d2] => { results := [.lit (.bool false)], args := [d1, d2] }
  | _ => none }
def FnExactPriceOnWrongFalsely : Prop := fnExactPriceOnRow.holds Try.pinned (OpenSpec.ofChange fnExactPriceOnWrong)

/-- 'laws.FnPriceOn': WHATEVER THE INPUT: true; the input reads as it did. -/
def fnPriceOnSpec : ChangeSpec := { name := "fnPriceOn", fn := fun _ => fun
  | [d] => { results := [.lit (.bool true)], args := [d] }
  | _ => none }
def fnPriceOnRow : OpenClaim := { program := "ytphjdgncfamloaa", sum := "a49b5465ce972dfcb3e8229fcd6c65d6e444d3cbd90e4af105f63c40fe9a5d65", func := "loop.example/promotionengine/laws.FnPriceOn", spec := "fnPriceOn", apart := false }
def FnPriceOnSaid : Prop := fnPriceOnRow.holds Try.pinned (OpenSpec.ofChange fnPriceOnSpec)

/-- ITS FALSE NEIGHBOUR: 'it returns false'. Refute it at one input. -/
def fnPriceOnWrong : ChangeSpec := { name := "fnPriceOn", fn := fun _ => fun
  | [d] => { results := [.lit (.bool false)], args := [d] }
  | _ => none }
def FnPriceOnWrongFalsely : Prop := fnPriceOnRow.holds Try.pinned (OpenSpec.ofChange fnPriceOnWrong)

/-- 'laws.FnPriceOnLater': WHATEVER THE INPUT: true; the input reads as it did. -/
def fnPriceOnLaterSpec : ChangeSpec := { name := "fnPriceOnLater", fn := fun _ => fun
  | [d] => { results := [.lit (.bool true)], args := [d] }
  | _ => none }
def fnPriceOnLaterRow : OpenClaim := { program := "ytphjdgncfamloaa", sum := "a49b5465ce972dfcb3e8229fcd6c65d6e444d3cbd90e4af105f63c40fe9a5d65", func := "loop.example/promotionengine/laws.FnPriceOnLater", spec := "fnPriceOnLater", apart := false }
def FnPriceOnLaterSaid : Prop := fnPriceOnLaterRow.holds Try.pinned (OpenSpec.ofChange fnPriceOnLaterSpec)

/-- ITS FALSE NEIGHBOUR: 'it returns false'. Refute it at one input. -/
def fnPriceOnLaterWrong : ChangeSpec := { name := "fnPriceOnLater", fn := fun _ => fun
  | [d] => { results := [.lit (.bool false)], args := [d] }
  | _ => none }
def FnPriceOnLaterWrongFalsely : Prop := fnPriceOnLaterRow.holds Try.pinned (OpenSpec.ofChange fnPriceOnLaterWrong)

/-- 'laws.FnSetPriceTwice': WHATEVER THE INPUT: true; the input reads as it did. -/
def fnSetPriceTwiceSpec : ChangeSpec := { name := "fnSetPriceTwice", fn := fun _ => fun
  | [d] => { results := [.lit (.bool true)], args := [d] }
  | _ => none }
def fnSetPriceTwiceRow : OpenClaim := { program := "ytphjdgncfamloaa", sum := "a49b5465ce972dfcb3e8229fcd6c65d6e444d3cbd90e4af105f63c40fe9a5d65", func := "loop.example/promotionengine/laws.FnSetPriceTwice", spec := "fnSetPriceTwice", apart := false }
def FnSetPriceTwiceSaid : Prop := fnSetPriceTwiceRow.holds Try.pinned (OpenSpec.ofChange fnSetPriceTwiceSpec)

/-- ITS FALSE NEIGHBOUR: 'it returns false'. Refute it at one input. -/
def fnSetPriceTwiceWrong : ChangeSpec := { name := "fnSetPriceTwice", fn := fun _ => fun
  | [d] => { results := [.lit (.bool false)], args := [d] }
  | _ => none }
def FnSetPriceTwiceWrongFalsely : Prop := fnSetPriceTwiceRow.holds Try.pinned (OpenSpec.ofChange fnSetPriceTwiceWrong)

/-- 'laws.FnExactLowestBefore': WHATEVER THE INPUT: true; the input reads as it did. -/
def fnExactLowestBeforeSpec : ChangeSpec := { name := "fnExactLowestBefore", fn := fun _ => fun
  | [d1, d2] => { results := [.lit (.bool true)], args := [d1, d2] }
  | _ => none }
def fnExactLowestBeforeRow : OpenClaim := { program := "ytphjdgncfamloaa", sum := "a49b5465ce972dfcb3e8229fcd6c65d6e444d3cbd90e4af105f63c40fe9a5d65", func := "loop.example/promotionengine/laws.FnExactLowestBefore", spec := "fnExactLowestBefore", apart := false }
def FnExactLowestBeforeSaid : Prop := fnExactLowestBeforeRow.holds Try.pinned (OpenSpec.ofChange fnExactLowestBeforeSpec)

/-- ITS FALSE NEIGHBOUR: 'it returns false'. Refute it at one input. -/
def fnExactLowestBeforeWrong : ChangeSpec := { name := "fnExactLowestBefore", fn := fun _ => fun
  | [d1, d2] => { results := [.lit (.bool false)], args := [d1, d2] }
  | _ => none }
def FnExactLowestBeforeWrongFalsely : Prop := fnExactLowestBeforeRow.holds Try.pinned (OpenSpec.ofChange fnExactLowestBeforeWrong)

/-- 'laws.FnExactSetPrice': WHATEVER THE INPUT: true; the input reads as it did. -/
def fnExactSetPriceSpec : ChangeSpec := { name := "fnExactSetPrice", fn := fun _ => fun
  | [d1, d2, d3] => { results := [.lit (.bool true)], args := [d1, d2, d3] }
  | _ => none }
def fnExactSetPriceRow : OpenClaim := { program := "ytphjdgncfamloaa", sum := "a49b5465ce972dfcb3e8229fcd6c65d6e444d3cbd90e4af105f63c40fe9a5d65", func := "loop.example/promotionengine/laws.FnExactSetPrice", spec := "fnExactSetPrice", apart := false }
def FnExactSetPriceSaid : Prop := fnExactSetPriceRow.holds Try.pinned (OpenSpec.ofChange fnExactSetPriceSpec)

/-- ITS FALSE NEIGHBOUR: 'it returns false'. Refute it at one input. -/
def fnExactSetPriceWrong : ChangeSpec := { name := "fnExactSetPrice", fn := fun _ => fun
  | [d1, d2, d3] => { results := [.lit (.bool false)], args := [d1, d2, d3] }
  | _ => none }
def FnExactSetPriceWrongFalsely : Prop := fnExactSetPriceRow.holds Try.pinned (OpenSpec.ofChange fnExactSetPriceWrong)

/-- 'laws.FnExactMayAnnounce': WHATEVER THE INPUT: true; the input reads as it did. -/
def fnExactMayAnnounceSpec : ChangeSpec := { name := "fnExactMayAnnounce", fn := fun _ => fun
  | [d1, d2] => { results := [.lit (.bool true)], args := [d1, d2] }
  | _ => none }
def fnExactMayAnnounceRow : OpenClaim := { program := "ytphjdgncfamloaa", sum := "a49b5465ce972dfcb3e8229fcd6c65d6e444d3cbd90e4af105f63c40fe9a5d65", func := "loop.example/promotionengine/laws.FnExactMayAnnounce", spec := "fnExactMayAnnounce", apart := false }
def FnExactMayAnnounceSaid : Prop := fnExactMayAnnounceRow.holds Try.pinned (OpenSpec.ofChange fnExactMayAnnounceSpec)

/-- ITS FALSE NEIGHBOUR: 'it returns false'. Refute it at one input. -/
def fnExactMayAnnounceWrong : ChangeSpec := { name := "fnExactMayAnnounce", fn := fun _ => fun
  | [d1, d2] => { results := [.lit (.bool false)], args := [d1, d2] }
  | _ => none }
def FnExactMayAnnounceWrongFalsely : Prop := fnExactMayAnnounceRow.holds Try.pinned (OpenSpec.ofChange fnExactMayAnnounceWrong)

/-- 'laws.FnLowestBefore': WHATEVER THE INPUT: true; the input reads as it did. -/
def fnLowestBeforeSpec : ChangeSpec := { name := "fnLowestBefore", fn := fun _ => fun
  | [d] => { results := [.lit (.bool true)], args := [d] }
  | _ => none }
def fnLowestBeforeRow : OpenClaim := { program := "ytphjdgncfamloaa", sum := "a49b5465ce972dfcb3e8229fcd6c65d6e444d3cbd90e4af105f63c40fe9a5d65", func := "loop.example/promotionengine/laws.FnLowestBefore", spec := "fnLowestBefore", apart := false }
def FnLowestBeforeSaid : Prop := fnLowestBeforeRow.holds Try.pinned (OpenSpec.ofChange fnLowestBeforeSpec)

/-- ITS FALSE NEIGHBOUR: 'it returns false'. Refute it at one input. -/
def fnLowestBeforeWrong : ChangeSpec := { name := "fnLowestBefore", fn := fun _ => fun
  | [d] => { results := [.lit (.bool false)], args := [d] }
  | _ => none }
def FnLowestBeforeWrongFalsely : Prop := fnLowestBeforeRow.holds Try.pinned (OpenSpec.ofChange fnLowestBeforeWrong)

/- THE SECOND FORM. 'bulk': how many values and letters a reading holds, each counted each time it is reached (what is shared counts as often as it is met; a slice's spare places count too). A statement '..UptoSaid' is the law's where the arguments, and the package variables that the reading takes, are together of bulk at most 1048576: NARROWER than '..Said'. Prove '..Said' where nothing that the law and all that it calls make is longer than what came in: it says more and counts as full. Else prove '..UptoSaid'. A law counts once. -/
mutual
def uptoBulk {H : Type} : DataW H → Nat
  | .lit (.string bytes) => bytes.length + 1
  | .lit _ => 1
  | .nil => 1
  | .ptr d => uptoBulk d + 1
  | .slice elems spare => uptoBulkAll elems + uptoBulkAll spare + 1
  | .agg parts => uptoBulkAll parts + 1
  | .iface _ d => uptoBulk d + 1
  | .map entries => uptoBulkEntries entries + 1
  | .held _ => 1
def uptoBulkAll {H : Type} : List (DataW H) → Nat
  | [] => 0
  | d :: r => uptoBulk d + uptoBulkAll r
def uptoBulkEntries {H : Type} : List (Lit × DataW H) → Nat
  | [] => 0
  | x :: r => uptoBulkEntry x + uptoBulkEntries r
def uptoBulkEntry {H : Type} : Lit × DataW H → Nat
  | (.string bytes, d) => bytes.length + uptoBulk d + 1
  | (_, d) => uptoBulk d + 1
 end
def uptoSmall : (H : Type) → List (DataW H) → Bool := fun _ ds => decide (uptoBulkAll ds ≤ 1048576)
def OpenSpec.upto (s : _root_.Go.ChangeSpec) : _root_.Go.OpenSpec := { _root_.Go.OpenSpec.ofChange s with cond := some uptoSmall }

/-- 'laws.FnValidPrices', WHERE WHAT IT READS IS OF BULK AT MOST 1048576: true; the input reads as it did. -/
def fnValidPricesUptoRow : OpenClaim := { program := "ytphjdgncfamloaa", sum := "a49b5465ce972dfcb3e8229fcd6c65d6e444d3cbd90e4af105f63c40fe9a5d65", func := "loop.example/promotionengine/laws.FnValidPrices", spec := "fnValidPrices", apart := false, narrowed := true }
def FnValidPricesUptoSaid : Prop := fnValidPricesUptoRow.holds Try.pinned (OpenSpec.upto fnValidPricesSpec)

/-- 'laws.FnExactValidPrices', WHERE WHAT IT READS IS OF BULK AT MOST 1048576: true; the input reads as it did. -/
def fnExactValidPricesUptoRow : OpenClaim := { program := "ytphjdgncfamloaa", sum := "a49b5465ce972dfcb3e8229fcd6c65d6e444d3cbd90e4af105f63c40fe9a5d65", func := "loop.example/promotionengine/laws.FnExactValidPrices", spec := "fnExactValidPrices", apart := false, narrowed := true }
def FnExactValidPricesUptoSaid : Prop := fnExactValidPricesUptoRow.holds Try.pinned (OpenSpec.upto fnExactValidPricesSpec)

/-- 'laws.FnExactPriceOn', WHERE WHAT IT READS IS OF BULK AT MOST 1048576: true; the input reads as it did. -/
def fnExactPriceOnUptoRow : OpenClaim := { program := "ytphjdgncfamloaa", sum := "a49b5465ce972dfcb3e8229fcd6c65d6e444d3cbd90e4af105f63c40fe9a5d65", func := "loop.example/promotionengine/laws.FnExactPriceOn", spec := "fnExactPriceOn", apart := false, narrowed := true }
def FnExactPriceOnUptoSaid : Prop := fnExactPriceOnUptoRow.holds Try.pinned (OpenSpec.upto fnExactPriceOnSpec)

/-- 'laws.FnPriceOn', WHERE WHAT IT READS IS OF BULK AT MOST 1048576: true; the input reads as it did. -/
def fnPriceOnUptoRow : OpenClaim := { program := "ytphjdgncfamloaa", sum := "a49b5465ce972dfcb3e8229fcd6c65d6e444d3cbd90e4af105f63c40fe9a5d65", func := "loop.example/promotionengine/laws.FnPriceOn", spec := "fnPriceOn", apart := false, narrowed := true }
def FnPriceOnUptoSaid : Prop := fnPriceOnUptoRow.holds Try.pinned (OpenSpec.upto fnPriceOnSpec)

/-- 'laws.FnPriceOnLater', WHERE WHAT IT READS IS OF BULK AT MOST 1048576: true; the input reads as it did. -/
def fnPriceOnLaterUptoRow : OpenClaim := { program := "ytphjdgncfamloaa", sum := "a49b5465ce972dfcb3e8229fcd6c65d6e444d3cbd90e4af105f63c40fe9a5d65", func := "loop.example/promotionengine/laws.FnPriceOnLater", spec := "fnPriceOnLater", apart := false, narrowed := true }
def FnPriceOnLaterUptoSaid : Prop := fnPriceOnLaterUptoRow.holds Try.pinned (OpenSpec.upto fnPriceOnLaterSpec)

/-- 'laws.FnSetPriceTwice', WHERE WHAT IT READS IS OF BULK AT MOST 1048576: true; the input reads as it did. -/
def fnSetPriceTwiceUptoRow : OpenClaim := { program := "ytphjdgncfamloaa", sum := "a49b5465ce972dfcb3e8229fcd6c65d6e444d3cbd90e4af105f63c40fe9a5d65", func := "loop.example/promotionengine/laws.FnSetPriceTwice", spec := "fnSetPriceTwice", apart := false, narrowed := true }
def FnSetPriceTwiceUptoSaid : Prop := fnSetPriceTwiceUptoRow.holds Try.pinned (OpenSpec.upto fnSetPriceTwiceSpec)

/-- 'laws.FnExactLowestBefore', WHERE WHAT IT READS IS OF BULK AT MOST 1048576: true; the input reads as it did. -/
def fnExactLowestBeforeUptoRow : OpenClaim := { program := "ytphjdgncfamloaa", sum := "a49b5465ce972dfcb3e8229fcd6c65d6e444d3cbd90e4af105f63c40fe9a5d65", func := "loop.example/promotionengine/laws.FnExactLowestBefore", spec := "fnExactLowestBefore", apart := false, narrowed := true }
def FnExactLowestBeforeUptoSaid : Prop := fnExactLowestBeforeUptoRow.holds Try.pinned (OpenSpec.upto fnExactLowestBeforeSpec)

/-- 'laws.FnExactSetPrice', WHERE WHAT IT READS IS OF BULK AT MOST 1048576: true; the input reads as it did. -/
def fnExactSetPriceUptoRow : OpenClaim := { program := "ytphjdgncfamloaa", sum := "a49b5465ce972dfcb3e8229fcd6c65d6e444d3cbd90e4af105f63c40fe9a5d65", func := "loop.example/promotionengine/laws.FnExactSetPrice", spec := "fnExactSetPrice", apart := false, narrowed := true }
def FnExactSetPriceUptoSaid : Prop := fnExactSetPriceUptoRow.holds Try.pinned (OpenSpec.upto fnExactSetPriceSpec)

/-- 'laws.FnExactMayAnnounce', WHERE WHAT IT READS IS OF BULK AT MOST 1048576: true; the input reads as it did. -/
def fnExactMayAnnounceUptoRow : OpenClaim := { program := "ytphjdgncfamloaa", sum := "a49b5465ce972dfcb3e8229fcd6c65d6e444d3cbd90e4af105f63c40fe9a5d65", func := "loop.example/promotionengine/laws.FnExactMayAnnounce", spec := "fnExactMayAnnounce", apart := false, narrowed := true }
def FnExactMayAnnounceUptoSaid : Prop := fnExactMayAnnounceUptoRow.holds Try.pinned (OpenSpec.upto fnExactMayAnnounceSpec)

/-- 'laws.FnLowestBefore', WHERE WHAT IT READS IS OF BULK AT MOST 1048576: true; the input reads as it did. -/
def fnLowestBeforeUptoRow : OpenClaim := { program := "ytphjdgncfamloaa", sum := "a49b5465ce972dfcb3e8229fcd6c65d6e444d3cbd90e4af105f63c40fe9a5d65", func := "loop.example/promotionengine/laws.FnLowestBefore", spec := "fnLowestBefore", apart := false, narrowed := true }
def FnLowestBeforeUptoSaid : Prop := fnLowestBeforeUptoRow.holds Try.pinned (OpenSpec.upto fnLowestBeforeSpec)

end Rows
end Go.Proofs.Ytphjdgncfamloaa
