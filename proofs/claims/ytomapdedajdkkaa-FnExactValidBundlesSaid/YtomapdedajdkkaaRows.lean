/-
  No cell of these rows narrows 'for every input' (looked for: loops, veiled, ifaces, maps, wideKeys, modest, calm, conditions, laid).
  DERIVED. THE GIVEN ROWS OF THIS SEAT. 10 by the template 'for every input the law returns true; each argument reads behind the call as it read before'; 0 by the template 'total and deterministic' (their statements: YtomapdedajdkkaaTotals.lean).
  GIVEN WITH THE SEED: the statements are not yours to turn. If you find one false, say at which input.
  Laid BY PROGRAM, IN A SANDBOX (cutbox-rows.mjs): the forced cells as the released guide's own fill.sh prints them over the translation 79b1e98487213dbd… (all of the seat's roots in one cut). By AI agents, Wed Nov 11 2026. No macro, syntax, notation, axiom, sorry.
-/
import Derived.Test.YtomapdedajdkkaaChecked
import GoSem.Claim
import GoSem.ClaimJoined
import GoSem.ClaimMapViews
import Derived.JoinedTies
import Derived.KernelRfl
namespace Go.Proofs.Ytomapdedajdkkaa
/- THE CELL 'sum', in the pinned program and in every row, IS THE sha256 OF THE DUMP (.gsa) THAT YtomapdedajdkkaaProg.lean LOADS. Nothing in Lean hashes anything: it is a label: what it is worth is what the hold of that sum in a sandbox is worth. -/
noncomputable def Try.pinned : Pinned := { name := "ytomapdedajdkkaa", sum := "79b1e98487213dbd6b09da360e84de047e36ea60ebe3d737a92ff3aad6c2869b", checked := Try.checked }
namespace Rows
def none {H : Type} : Left H := { results := [], args := [] }

/-- 'laws.FnWeightOf': WHATEVER THE INPUT: true; the input reads as it did. -/
def fnWeightOfSpec : ChangeSpec := { name := "fnWeightOf", fn := fun _ => fun
  | [d] => { results := [.lit (.bool true)], args := [d] }
  | _ => none }
def fnWeightOfRow : OpenClaim := { program := "ytomapdedajdkkaa", sum := "79b1e98487213dbd6b09da360e84de047e36ea60ebe3d737a92ff3aad6c2869b", func := "loop.example/promotionengine/laws.FnWeightOf", spec := "fnWeightOf", apart := false }
def FnWeightOfSaid : Prop := fnWeightOfRow.holds Try.pinned (OpenSpec.ofChange fnWeightOfSpec)

/-- ITS FALSE NEIGHBOUR: 'it returns false'. Refute it at one input. -/
def fnWeightOfWrong : ChangeSpec := { name := "fnWeightOf", fn := fun _ => fun
  | [d] => { results := [.lit (.bool false)], args := [d] }
  | _ => none }
def FnWeightOfWrongFalsely : Prop := fnWeightOfRow.holds Try.pinned (OpenSpec.ofChange fnWeightOfWrong)

/-- 'laws.FnExactWeightOf': WHATEVER THE INPUT: true; the input reads as it did. -/
def fnExactWeightOfSpec : ChangeSpec := { name := "fnExactWeightOf", fn := fun _ => fun
  | [d1, d2] => { results := [.lit (.bool true)], args := [d1, d2] }
  | _ => none }
def fnExactWeightOfRow : OpenClaim := { program := "ytomapdedajdkkaa", sum := "79b1e98487213dbd6b09da360e84de047e36ea60ebe3d737a92ff3aad6c2869b", func := "loop.example/promotionengine/laws.FnExactWeightOf", spec := "fnExactWeightOf", apart := false }
def FnExactWeightOfSaid : Prop := fnExactWeightOfRow.holds Try.pinned (OpenSpec.ofChange fnExactWeightOfSpec)

/-- ITS FALSE NEIGHBOUR: 'it returns false'. Refute it at one input. -/
def fnExactWeightOfWrong : ChangeSpec := { name := "fnExactWeightOf", fn := fun _ => fun
  | [d1, d2] => { results := [.lit (.bool false)], args := [d1, d2] }
  | _ => none }
def FnExactWeightOfWrongFalsely : Prop := fnExactWeightOfRow.holds Try.pinned (OpenSpec.ofChange fnExactWeightOfWrong)

/-- 'laws.FnWeightOfAdd': WHATEVER THE INPUT: true; the input reads as it did. -/
def fnWeightOfAddSpec : ChangeSpec := { name := "fnWeightOfAdd", fn := fun _ => fun
  | [d] => { results := [.lit (.bool true)], args := [d] }
  | _ => none }
def fnWeightOfAddRow : OpenClaim := { program := "ytomapdedajdkkaa", sum := "79b1e98487213dbd6b09da360e84de047e36ea60ebe3d737a92ff3aad6c2869b", func := "loop.example/promotionengine/laws.FnWeightOfAdd", spec := "fnWeightOfAdd", apart := false }
def FnWeightOfAddSaid : Prop := fnWeightOfAddRow.holds Try.pinned (OpenSpec.ofChange fnWeightOfAddSpec)

/-- ITS FALSE NEIGHBOUR: 'it returns false'. Refute it at one input. -/
def fnWeightOfAddWrong : ChangeSpec := { name := "fnWeightOfAdd", fn := fun _ => fun
  | [d] => { results := [.lit (.bool false)], args := [d] }
  | _ => none }
def FnWeightOfAddWrongFalsely : Prop := fnWeightOfAddRow.holds Try.pinned (OpenSpec.ofChange fnWeightOfAddWrong)

/-- 'laws.FnValidBundles': WHATEVER THE INPUT: true; the input reads as it did. -/
def fnValidBundlesSpec : ChangeSpec := { name := "fnValidBundles", fn := fun _ => fun
  | [d] => { results := [.lit (.bool true)], args := [d] }
  | _ => none }
def fnValidBundlesRow : OpenClaim := { program := "ytomapdedajdkkaa", sum := "79b1e98487213dbd6b09da360e84de047e36ea60ebe3d737a92ff3aad6c2869b", func := "loop.example/promotionengine/laws.FnValidBundles", spec := "fnValidBundles", apart := false }
def FnValidBundlesSaid : Prop := fnValidBundlesRow.holds Try.pinned (OpenSpec.ofChange fnValidBundlesSpec)

/-- ITS FALSE NEIGHBOUR: 'it returns false'. Refute it at one input. -/
def fnValidBundlesWrong : ChangeSpec := { name := "fnValidBundles", fn := fun _ => fun
  | [d] => { results := [.lit (.bool false)], args := [d] }
  | _ => none }
def FnValidBundlesWrongFalsely : Prop := fnValidBundlesRow.holds Try.pinned (OpenSpec.ofChange fnValidBundlesWrong)

/-- 'laws.FnGainOf': WHATEVER THE INPUT: true; the input reads as it did. -/
def fnGainOfSpec : ChangeSpec := { name := "fnGainOf", fn := fun _ => fun
  | [d] => { results := [.lit (.bool true)], args := [d] }
  | _ => none }
def fnGainOfRow : OpenClaim := { program := "ytomapdedajdkkaa", sum := "79b1e98487213dbd6b09da360e84de047e36ea60ebe3d737a92ff3aad6c2869b", func := "loop.example/promotionengine/laws.FnGainOf", spec := "fnGainOf", apart := false }
def FnGainOfSaid : Prop := fnGainOfRow.holds Try.pinned (OpenSpec.ofChange fnGainOfSpec)

/-- ITS FALSE NEIGHBOUR: 'it returns false'. Refute it at one input. -/
def fnGainOfWrong : ChangeSpec := { name := "fnGainOf", fn := fun _ => fun
  | [d] => { results := [.lit (.bool false)], args := [d] }
  | _ => none }
def FnGainOfWrongFalsely : Prop := fnGainOfRow.holds Try.pinned (OpenSpec.ofChange fnGainOfWrong)

/-- 'laws.FnGainOfPrice': WHATEVER THE INPUT: true; the input reads as it did. -/
def fnGainOfPriceSpec : ChangeSpec := { name := "fnGainOfPrice", fn := fun _ => fun
  | [d] => { results := [.lit (.bool true)], args := [d] }
  | _ => none }
def fnGainOfPriceRow : OpenClaim := { program := "ytomapdedajdkkaa", sum := "79b1e98487213dbd6b09da360e84de047e36ea60ebe3d737a92ff3aad6c2869b", func := "loop.example/promotionengine/laws.FnGainOfPrice", spec := "fnGainOfPrice", apart := false }
def FnGainOfPriceSaid : Prop := fnGainOfPriceRow.holds Try.pinned (OpenSpec.ofChange fnGainOfPriceSpec)

/-- ITS FALSE NEIGHBOUR: 'it returns false'. Refute it at one input. -/
def fnGainOfPriceWrong : ChangeSpec := { name := "fnGainOfPrice", fn := fun _ => fun
  | [d] => { results := [.lit (.bool false)], args := [d] }
  | _ => none }
def FnGainOfPriceWrongFalsely : Prop := fnGainOfPriceRow.holds Try.pinned (OpenSpec.ofChange fnGainOfPriceWrong)

/-- 'laws.FnTimesIn': WHATEVER THE INPUT: true; the input reads as it did. -/
def fnTimesInSpec : ChangeSpec := { name := "fnTimesIn", fn := fun _ => fun
  | [d] => { results := [.lit (.bool true)], args := [d] }
  | _ => none }
def fnTimesInRow : OpenClaim := { program := "ytomapdedajdkkaa", sum := "79b1e98487213dbd6b09da360e84de047e36ea60ebe3d737a92ff3aad6c2869b", func := "loop.example/promotionengine/laws.FnTimesIn", spec := "fnTimesIn", apart := false }
def FnTimesInSaid : Prop := fnTimesInRow.holds Try.pinned (OpenSpec.ofChange fnTimesInSpec)

/-- ITS FALSE NEIGHBOUR: 'it returns false'. Refute it at one input. -/
def fnTimesInWrong : ChangeSpec := { name := "fnTimesIn", fn := fun _ => fun
  | [d] => { results := [.lit (.bool false)], args := [d] }
  | _ => none }
def FnTimesInWrongFalsely : Prop := fnTimesInRow.holds Try.pinned (OpenSpec.ofChange fnTimesInWrong)

/-- 'laws.FnExactTimesIn': WHATEVER THE INPUT: true; the input reads as it did. -/
def fnExactTimesInSpec : ChangeSpec := { name := "fnExactTimesIn", fn := fun _ => fun
  | [d1, d2, d3] => { results := [.lit (.bool true)], args := [d1, d2, d3] }
  | _ => none }
def fnExactTimesInRow : OpenClaim := { program := "ytomapdedajdkkaa", sum := "79b1e98487213dbd6b09da360e84de047e36ea60ebe3d737a92ff3aad6c2869b", func := "loop.example/promotionengine/laws.FnExactTimesIn", spec := "fnExactTimesIn", apart := false }
def FnExactTimesInSaid : Prop := fnExactTimesInRow.holds Try.pinned (OpenSpec.ofChange fnExactTimesInSpec)

/-- ITS FALSE NEIGHBOUR: 'it returns false'. Refute it at one input. -/
def fnExactTimesInWrong : ChangeSpec := { name := "fnExactTimesIn", fn := fun _ => fun
  | [d1, d2, d3] => { results := [.lit (.bool false)], args := [d1, d2, d3] }
  | _ => none }
def FnExactTimesInWrongFalsely : Prop := fnExactTimesInRow.holds Try.pinned (OpenSpec.ofChange fnExactTimesInWrong)

/-- 'laws.FnTimesInAdd': WHATEVER THE INPUT: true; the input reads as it did. -/
def fnTimesInAddSpec : ChangeSpec := { name := "fnTimesInAdd", fn := fun _ => fun
  | [d] => { results := [.lit (.bool true)], args := [d] }
  | _ => none }
def fnTimesInAddRow : OpenClaim := { program := "ytomapdedajdkkaa", sum := "79b1e98487213dbd6b09da360e84de047e36ea60ebe3d737a92ff3aad6c2869b", func := "loop.example/promotionengine/laws.FnTimesInAdd", spec := "fnTimesInAdd", apart := false }
def FnTimesInAddSaid : Prop := fnTimesInAddRow.holds Try.pinned (OpenSpec.ofChange fnTimesInAddSpec)

/-- ITS FALSE NEIGHBOUR: 'it returns false'. Refute it at one input. -/
def fnTimesInAddWrong : ChangeSpec := { name := "fnTimesInAdd", fn := fun _ => fun
  | [d] => { results := [.lit (.bool false)], args := [d] }
  | _ => none }
def FnTimesInAddWrongFalsely : Prop := fnTimesInAddRow.holds Try.pinned (OpenSpec.ofChange fnTimesInAddWrong)

/-- 'laws.FnExactValidBundles': WHATEVER THE INPUT: true; the input reads as it did. -/
def fnExactValidBundlesSpec : ChangeSpec := { name := "fnExactValidBundles", fn := fun _ => fun
  | [d1, d2] => { results := [.lit (.bool true)], args := [d1, d2] }
  | _ => none }
def fnExactValidBundlesRow : OpenClaim := { program := "ytomapdedajdkkaa", sum := "79b1e98487213dbd6b09da360e84de047e36ea60ebe3d737a92ff3aad6c2869b", func := "loop.example/promotionengine/laws.FnExactValidBundles", spec := "fnExactValidBundles", apart := false }
def FnExactValidBundlesSaid : Prop := fnExactValidBundlesRow.holds Try.pinned (OpenSpec.ofChange fnExactValidBundlesSpec)

/-- ITS FALSE NEIGHBOUR: 'it returns false'. Refute it at one input. -/
def fnExactValidBundlesWrong : ChangeSpec := { name := "fnExactValidBundles", fn := fun _ => fun
  | [d1, d2] => { results := [.lit (.bool false)], args := [d1, d2] }
  | _ => none }
def FnExactValidBundlesWrongFalsely : Prop := fnExactValidBundlesRow.holds Try.pinned (OpenSpec.ofChange fnExactValidBundlesWrong)

/- THE SECOND FORM. 'bulk': how many values and letters a reading holds, each counted each time it is reached (what is shared counts as often as it is met; a slice's spare places count too). A statement '..UptoSaid' is the law's where the arguments, and the package variables that the reading takes, are together of bulk at most 1048576: NARROWER than '..Said'. Prove '..Said' where nothing that the law and all that it calls make is longer than what came in: it says more and counts as full. Else prove '..UptoSaid'. A law counts once. -/
mutual
def uptoBulk {H : Type} : DataW H → Nat
  | .lit (.string bytes) => bytes.length + 1
  | .lit _ => 1
  | .nil => 1
  | .ptr d => uptoBulk d + 1
  | .slice elems spare => uptoBulkAll elems + uptoBulkAll spare + 1
  | .agg parts => uptoBulkAll parts + 1
  | .iface _ d => uptoBulk d + 1
  | .map entries => uptoBulkEntries entries + 1
  | .held _ => 1
def uptoBulkAll {H : Type} : List (DataW H) → Nat
  | [] => 0
  | d :: r => uptoBulk d + uptoBulkAll r
def uptoBulkEntries {H : Type} : List (Lit × DataW H) → Nat
  | [] => 0
  | x :: r => uptoBulkEntry x + uptoBulkEntries r
def uptoBulkEntry {H : Type} : Lit × DataW H → Nat
  | (.string bytes, d) => bytes.length + uptoBulk d + 1
  | (_, d) => uptoBulk d + 1
 end
def uptoSmall : (H : Type) → List (DataW H) → Bool := fun _ ds => decide (uptoBulkAll ds ≤ 1048576)
def OpenSpec.upto (s : _root_.Go.ChangeSpec) : _root_.Go.OpenSpec := { _root_.Go.OpenSpec.ofChange s with cond := some uptoSmall }

/-- 'laws.FnWeightOf', WHERE WHAT IT READS IS OF BULK AT MOST 1048576: true; the input reads as it did. -/
def fnWeightOfUptoRow : OpenClaim := { program := "ytomapdedajdkkaa", sum := "79b1e98487213dbd6b09da360e84de047e36ea60ebe3d737a92ff3aad6c2869b", func := "loop.example/promotionengine/laws.FnWeightOf", spec := "fnWeightOf", apart := false, narrowed := true }
def FnWeightOfUptoSaid : Prop := fnWeightOfUptoRow.holds Try.pinned (OpenSpec.upto fnWeightOfSpec)

/-- 'laws.FnExactWeightOf', WHERE WHAT IT READS IS OF BULK AT MOST 1048576: true; the input reads as it did. -/
def fnExactWeightOfUptoRow : OpenClaim := { program := "ytomapdedajdkkaa", sum := "79b1e98487213dbd6b09da360e84de047e36ea60ebe3d737a92ff3aad6c2869b", func := "loop.example/promotionengine/laws.FnExactWeightOf", spec := "fnExactWeightOf", apart := false, narrowed := true }
def FnExactWeightOfUptoSaid : Prop := fnExactWeightOfUptoRow.holds Try.pinned (OpenSpec.upto fnExactWeightOfSpec)

/-- 'laws.FnWeightOfAdd', WHERE WHAT IT READS IS OF BULK AT MOST 1048576: true; the input reads as it did. -/
def fnWeightOfAddUptoRow : OpenClaim := { program := "ytomapdedajdkkaa", sum := "79b1e98487213dbd6b09da360e84de047e36ea60ebe3d737a92ff3aad6c2869b", func := "loop.example/promotionengine/laws.FnWeightOfAdd", spec := "fnWeightOfAdd", apart := false, narrowed := true }
def FnWeightOfAddUptoSaid : Prop := fnWeightOfAddUptoRow.holds Try.pinned (OpenSpec.upto fnWeightOfAddSpec)

/-- 'laws.FnValidBundles', WHERE WHAT IT READS IS OF BULK AT MOST 1048576: true; the input reads as it did. -/
def fnValidBundlesUptoRow : OpenClaim := { program := "ytomapdedajdkkaa", sum := "79b1e98487213dbd6b09da360e84de047e36ea60ebe3d737a92ff3aad6c2869b", func := "loop.example/promotionengine/laws.FnValidBundles", spec := "fnValidBundles", apart := false, narrowed := true }
def FnValidBundlesUptoSaid : Prop := fnValidBundlesUptoRow.holds Try.pinned (OpenSpec.upto fnValidBundlesSpec)

/-- 'laws.FnGainOf', WHERE WHAT IT READS IS OF BULK AT MOST 1048576: true; the input reads as it did. -/
def fnGainOfUptoRow : OpenClaim := { program := "ytomapdedajdkkaa", sum := "79b1e98487213dbd6b09da360e84de047e36ea60ebe3d737a92ff3aad6c2869b", func := "loop.example/promotionengine/laws.FnGainOf", spec := "fnGainOf", apart := false, narrowed := true }
def FnGainOfUptoSaid : Prop := fnGainOfUptoRow.holds Try.pinned (OpenSpec.upto fnGainOfSpec)

/-- 'laws.FnGainOfPrice', WHERE WHAT IT READS IS OF BULK AT MOST 1048576: true; the input reads as it did. -/
def fnGainOfPriceUptoRow : OpenClaim := { program := "ytomapdedajdkkaa", sum := "79b1e98487213dbd6b09da360e84de047e36ea60ebe3d737a92ff3aad6c2869b", func := "loop.example/promotionengine/laws.FnGainOfPrice", spec := "fnGainOfPrice", apart := false, narrowed := true }
def FnGainOfPriceUptoSaid : Prop := fnGainOfPriceUptoRow.holds Try.pinned (OpenSpec.upto fnGainOfPriceSpec)

/-- 'laws.FnTimesIn', WHERE WHAT IT READS IS OF BULK AT MOST 1048576: true; the input reads as it did. -/
def fnTimesInUptoRow : OpenClaim := { program := "ytomapdedajdkkaa", sum := "79b1e98487213dbd6b09da360e84de047e36ea60ebe3d737a92ff3aad6c2869b", func := "loop.example/promotionengine/laws.FnTimesIn", spec := "fnTimesIn", apart := false, narrowed := true }
def FnTimesInUptoSaid : Prop := fnTimesInUptoRow.holds Try.pinned (OpenSpec.upto fnTimesInSpec)

/-- 'laws.FnExactTimesIn', WHERE WHAT IT READS IS OF BULK AT MOST 1048576: true; the input reads as it did. -/
def fnExactTimesInUptoRow : OpenClaim := { program := "ytomapdedajdkkaa", sum := "79b1e98487213dbd6b09da360e84de047e36ea60ebe3d737a92ff3aad6c2869b", func := "loop.example/promotionengine/laws.FnExactTimesIn", spec := "fnExactTimesIn", apart := false, narrowed := true }
def FnExactTimesInUptoSaid : Prop := fnExactTimesInUptoRow.holds Try.pinned (OpenSpec.upto fnExactTimesInSpec)

/-- 'laws.FnTimesInAdd', WHERE WHAT IT READS IS OF BULK AT MOST 1048576: true; the input reads as it did. -/
def fnTimesInAddUptoRow : OpenClaim := { program := "ytomapdedajdkkaa", sum := "79b1e98487213dbd6b09da360e84de047e36ea60ebe3d737a92ff3aad6c2869b", func := "loop.example/promotionengine/laws.FnTimesInAdd", spec := "fnTimesInAdd", apart := false, narrowed := true }
def FnTimesInAddUptoSaid : Prop := fnTimesInAddUptoRow.holds Try.pinned (OpenSpec.upto fnTimesInAddSpec)

/-- 'laws.FnExactValidBundles', WHERE WHAT IT READS IS OF BULK AT MOST 1048576: true; the input reads as it did. -/
def fnExactValidBundlesUptoRow : OpenClaim := { program := "ytomapdedajdkkaa", sum := "79b1e98487213dbd6b09da360e84de047e36ea60ebe3d737a92ff3aad6c2869b", func := "loop.example/promotionengine/laws.FnExactValidBundles", spec := "fnExactValidBundles", apart := false, narrowed := true }
def FnExactValidBundlesUptoSaid : Prop := fnExactValidBundlesUptoRow.holds Try.pinned (OpenSpec.upto fnExactValidBundlesSpec)

end Rows
end Go.Proofs.Ytomapdedajdkkaa
