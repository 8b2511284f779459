/-
  No cell of these rows narrows 'for every input' (looked for: loops, veiled, ifaces, maps, wideKeys, modest, calm, conditions, laid).
  DERIVED. THE GIVEN ROWS OF THIS SEAT. 9 by the template 'for every input the law returns true; each argument reads behind the call as it read before'; 0 by the template 'total and deterministic' (their statements: YtomapdedajdkkabTotals.lean).
  GIVEN WITH THE SEED: the statements are not yours to turn. If you find one false, say at which input.
  Laid BY PROGRAM, IN A SANDBOX (cutbox-rows.mjs): the forced cells as the released guide's own fill.sh prints them over the translation b003e067a774916d… (all of the seat's roots in one cut). By AI agents, Wed Nov 11 2026. No macro, syntax, notation, axiom, sorry.
-/
import Derived.Test.YtomapdedajdkkabChecked
import GoSem.Claim
import GoSem.ClaimJoined
import GoSem.ClaimMapViews
import Derived.JoinedTies
import Derived.KernelRfl
namespace Go.Proofs.Ytomapdedajdkkab
/- THE CELL 'sum', in the pinned program and in every row, IS THE sha256 OF THE DUMP (.gsa) THAT YtomapdedajdkkabProg.lean LOADS. Nothing in Lean hashes anything: it is a label: what it is worth is what the hold of that sum in a sandbox is worth. -/
noncomputable def Try.pinned : Pinned := { name := "ytomapdedajdkkab", sum := "b003e067a774916da20c445bfe48a195e48ec7acd10f9acf14302fdeecd814a2", checked := Try.checked }
namespace Rows
def none {H : Type} : Left H := { results := [], args := [] }

/-- 'laws.FnExactGainOf': WHATEVER THE INPUT: true; the input reads as it did. -/
def fnExactGainOfSpec : ChangeSpec := { name := "fnExactGainOf", fn := fun _ => fun
  | [d1, d2] => { results := [.lit (.bool true)], args := [d1, d2] }
  | _ => none }
def fnExactGainOfRow : OpenClaim := { program := "ytomapdedajdkkab", sum := "b003e067a774916da20c445bfe48a195e48ec7acd10f9acf14302fdeecd814a2", func := "loop.example/promotionengine/laws.FnExactGainOf", spec := "fnExactGainOf", apart := false }
def FnExactGainOfSaid : Prop := fnExactGainOfRow.holds Try.pinned (OpenSpec.ofChange fnExactGainOfSpec)

/-- ITS FALSE NEIGHBOUR: 'it returns false'. Refute it at one input. -/
def fnExactGainOfWrong : ChangeSpec := { name := "fnExactGainOf", fn := fun _ => fun
  | [d1, d2] => { results := [.lit (.bool false)], args := [d1, d2] }
  | _ => none }
def FnExactGainOfWrongFalsely : Prop := fnExactGainOfRow.holds Try.pinned (OpenSpec.ofChange fnExactGainOfWrong)

/-- 'laws.FnBestBundles': WHATEVER THE INPUT: true; the input reads as it did. -/
def fnBestBundlesSpec : ChangeSpec := { name := "fnBestBundles", fn := fun _ => fun
  | [d] => { results := [.lit (.bool true)], args := [d] }
  | _ => none }
def fnBestBundlesRow : OpenClaim := { program := "ytomapdedajdkkab", sum := "b003e067a774916da20c445bfe48a195e48ec7acd10f9acf14302fdeecd814a2", func := "loop.example/promotionengine/laws.FnBestBundles", spec := "fnBestBundles", unfollowed := true, recurses := true, apart := false }
def FnBestBundlesSaid : Prop := fnBestBundlesRow.holds Try.pinned (OpenSpec.ofChange fnBestBundlesSpec)

/-- ITS FALSE NEIGHBOUR: 'it returns false'. Refute it at one input. -/
def fnBestBundlesWrong : ChangeSpec := { name := "fnBestBundles", fn := fun _ => fun
  | [d] => { results := [.lit (.bool false)], args := [d] }
  | _ => none }
def FnBestBundlesWrongFalsely : Prop := fnBestBundlesRow.holds Try.pinned (OpenSpec.ofChange fnBestBundlesWrong)

/-- 'laws.FnBestBundlesMore': WHATEVER THE INPUT: true; the input reads as it did. -/
def fnBestBundlesMoreSpec : ChangeSpec := { name := "fnBestBundlesMore", fn := fun _ => fun
  | [d] => { results := [.lit (.bool true)], args := [d] }
  | _ => none }
def fnBestBundlesMoreRow : OpenClaim := { program := "ytomapdedajdkkab", sum := "b003e067a774916da20c445bfe48a195e48ec7acd10f9acf14302fdeecd814a2", func := "loop.example/promotionengine/laws.FnBestBundlesMore", spec := "fnBestBundlesMore", unfollowed := true, recurses := true, apart := false }
def FnBestBundlesMoreSaid : Prop := fnBestBundlesMoreRow.holds Try.pinned (OpenSpec.ofChange fnBestBundlesMoreSpec)

/-- ITS FALSE NEIGHBOUR: 'it returns false'. Refute it at one input. -/
def fnBestBundlesMoreWrong : ChangeSpec := { name := "fnBestBundlesMore", fn := fun _ => fun
  | [d] => { results := [.lit (.bool false)], args := [d] }
  | _ => none }
def FnBestBundlesMoreWrongFalsely : Prop := fnBestBundlesMoreRow.holds Try.pinned (OpenSpec.ofChange fnBestBundlesMoreWrong)

/-- 'laws.FnBestBundlesGain': WHATEVER THE INPUT: true; the input reads as it did. -/
def fnBestBundlesGainSpec : ChangeSpec := { name := "fnBestBundlesGain", fn := fun _ => fun
  | [d] => { results := [.lit (.bool true)], args := [d] }
  | _ => none }
def fnBestBundlesGainRow : OpenClaim := { program := "ytomapdedajdkkab", sum := "b003e067a774916da20c445bfe48a195e48ec7acd10f9acf14302fdeecd814a2", func := "loop.example/promotionengine/laws.FnBestBundlesGain", spec := "fnBestBundlesGain", unfollowed := true, recurses := true, apart := false }
def FnBestBundlesGainSaid : Prop := fnBestBundlesGainRow.holds Try.pinned (OpenSpec.ofChange fnBestBundlesGainSpec)

/-- ITS FALSE NEIGHBOUR: 'it returns false'. Refute it at one input. -/
def fnBestBundlesGainWrong : ChangeSpec := { name := "fnBestBundlesGain", fn := fun _ => fun
  | [d] => { results := [.lit (.bool false)], args := [d] }
  | _ => none }
def FnBestBundlesGainWrongFalsely : Prop := fnBestBundlesGainRow.holds Try.pinned (OpenSpec.ofChange fnBestBundlesGainWrong)

/-- 'laws.FnBestBundlesOne': WHATEVER THE INPUT: true; the input reads as it did. -/
def fnBestBundlesOneSpec : ChangeSpec := { name := "fnBestBundlesOne", fn := fun _ => fun
  | [d] => { results := [.lit (.bool true)], args := [d] }
  | _ => none }
def fnBestBundlesOneRow : OpenClaim := { program := "ytomapdedajdkkab", sum := "b003e067a774916da20c445bfe48a195e48ec7acd10f9acf14302fdeecd814a2", func := "loop.example/promotionengine/laws.FnBestBundlesOne", spec := "fnBestBundlesOne", unfollowed := true, recurses := true, apart := false }
def FnBestBundlesOneSaid : Prop := fnBestBundlesOneRow.holds Try.pinned (OpenSpec.ofChange fnBestBundlesOneSpec)

/-- ITS FALSE NEIGHBOUR: 'it returns false'. Refute it at one input. -/
def fnBestBundlesOneWrong : ChangeSpec := { name := "fnBestBundlesOne", fn := fun _ => fun
  | [d] => { results := [.lit (.bool false)], args := [d] }
  | _ => none }
def FnBestBundlesOneWrongFalsely : Prop := fnBestBundlesOneRow.holds Try.pinned (OpenSpec.ofChange fnBestBundlesOneWrong)

/-- 'laws.FnBestBundlesEmpty': WHATEVER THE INPUT: true; the input reads as it did. -/
def fnBestBundlesEmptySpec : ChangeSpec := { name := "fnBestBundlesEmpty", fn := fun _ => fun
  | [d] => { results := [.lit (.bool true)], args := [d] }
  | _ => none }
def fnBestBundlesEmptyRow : OpenClaim := { program := "ytomapdedajdkkab", sum := "b003e067a774916da20c445bfe48a195e48ec7acd10f9acf14302fdeecd814a2", func := "loop.example/promotionengine/laws.FnBestBundlesEmpty", spec := "fnBestBundlesEmpty", unfollowed := true, recurses := true, apart := false }
def FnBestBundlesEmptySaid : Prop := fnBestBundlesEmptyRow.holds Try.pinned (OpenSpec.ofChange fnBestBundlesEmptySpec)

/-- ITS FALSE NEIGHBOUR: 'it returns false'. Refute it at one input. -/
def fnBestBundlesEmptyWrong : ChangeSpec := { name := "fnBestBundlesEmpty", fn := fun _ => fun
  | [d] => { results := [.lit (.bool false)], args := [d] }
  | _ => none }
def FnBestBundlesEmptyWrongFalsely : Prop := fnBestBundlesEmptyRow.holds Try.pinned (OpenSpec.ofChange fnBestBundlesEmptyWrong)

/-- 'laws.FnExactBestBundles': WHATEVER THE INPUT: true; the input reads as it did. -/
def fnExactBestBundlesSpec : ChangeSpec := { name := "fnExactBestBundles", fn := fun _ => fun
  | [d1, d2, d3] => { results := [.lit (.bool true)], args := [d1, d2, d3] }
  | _ => none }
def fnExactBestBundlesRow : OpenClaim := { program := "ytomapdedajdkkab", sum := "b003e067a774916da20c445bfe48a195e48ec7acd10f9acf14302fdeecd814a2", func := "loop.example/promotionengine/laws.FnExactBestBundles", spec := "fnExactBestBundles", unfollowed := true, recurses := true, apart := false }
def FnExactBestBundlesSaid : Prop := fnExactBestBundlesRow.holds Try.pinned (OpenSpec.ofChange fnExactBestBundlesSpec)

/-- ITS FALSE NEIGHBOUR: 'it returns false'. Refute it at one input. -/
def fnExactBestBundlesWrong : ChangeSpec := { name := "fnExactBestBundles", fn := fun _ => fun
  | [d1, d2, d3] => { results := [.lit (.bool false)], args := [d1, d2, d3] }
  | _ => none }
def FnExactBestBundlesWrongFalsely : Prop := fnExactBestBundlesRow.holds Try.pinned (OpenSpec.ofChange fnExactBestBundlesWrong)

/-- 'laws.FnExactHoldCart': WHATEVER THE INPUT: true; the input reads as it did. -/
def fnExactHoldCartSpec : ChangeSpec := { name := "fnExactHoldCart", fn := fun _ => fun
  | [d1, d2] => { results := [.lit (.bool true)], args := [d1, d2] }
  | _ => none }
def fnExactHoldCartRow : OpenClaim := { program := "ytomapdedajdkkab", sum := "b003e067a774916da20c445bfe48a195e48ec7acd10f9acf14302fdeecd814a2", func := "loop.example/promotionengine/laws.FnExactHoldCart", spec := "fnExactHoldCart", apart := false }
def FnExactHoldCartSaid : Prop := fnExactHoldCartRow.holds Try.pinned (OpenSpec.ofChange fnExactHoldCartSpec)

/-- ITS FALSE NEIGHBOUR: 'it returns false'. Refute it at one input. -/
def fnExactHoldCartWrong : ChangeSpec := { name := "fnExactHoldCart", fn := fun _ => fun
  | [d1, d2] => { results := [.lit (.bool false)], args := [d1, d2] }
  | _ => none }
def FnExactHoldCartWrongFalsely : Prop := fnExactHoldCartRow.holds Try.pinned (OpenSpec.ofChange fnExactHoldCartWrong)

/-- 'laws.FnExactSellCart': WHATEVER THE INPUT: true; the input reads as it did. -/
def fnExactSellCartSpec : ChangeSpec := { name := "fnExactSellCart", fn := fun _ => fun
  | [d1, d2] => { results := [.lit (.bool true)], args := [d1, d2] }
  | _ => none }
def fnExactSellCartRow : OpenClaim := { program := "ytomapdedajdkkab", sum := "b003e067a774916da20c445bfe48a195e48ec7acd10f9acf14302fdeecd814a2", func := "loop.example/promotionengine/laws.FnExactSellCart", spec := "fnExactSellCart", apart := false }
def FnExactSellCartSaid : Prop := fnExactSellCartRow.holds Try.pinned (OpenSpec.ofChange fnExactSellCartSpec)

/-- ITS FALSE NEIGHBOUR: 'it returns false'. Refute it at one input. -/
def fnExactSellCartWrong : ChangeSpec := { name := "fnExactSellCart", fn := fun _ => fun
  | [d1, d2] => { results := [.lit (.bool false)], args := [d1, d2] }
  | _ => none }
def FnExactSellCartWrongFalsely : Prop := fnExactSellCartRow.holds Try.pinned (OpenSpec.ofChange fnExactSellCartWrong)

/- THE SECOND FORM. 'bulk': how many values and letters a reading holds, each counted each time it is reached (what is shared counts as often as it is met; a slice's spare places count too). A statement '..UptoSaid' is the law's where the arguments, and the package variables that the reading takes, are together of bulk at most 1048576: NARROWER than '..Said'. Prove '..Said' where nothing that the law and all that it calls make is longer than what came in: it says more and counts as full. Else prove '..UptoSaid'. A law counts once. -/
mutual
def uptoBulk {H : Type} : DataW H → Nat
  | .lit (.string bytes) => bytes.length + 1
  | .lit _ => 1
  | .nil => 1
  | .ptr d => uptoBulk d + 1
  | .slice elems spare => uptoBulkAll elems + uptoBulkAll spare + 1
  | .agg parts => uptoBulkAll parts + 1
  | .iface _ d => uptoBulk d + 1
  | .map entries => uptoBulkEntries entries + 1
  | .held _ => 1
def uptoBulkAll {H : Type} : List (DataW H) → Nat
  | [] => 0
  | d :: r => uptoBulk d + uptoBulkAll r
def uptoBulkEntries {H : Type} : List (Lit × DataW H) → Nat
  | [] => 0
  | x :: r => uptoBulkEntry x + uptoBulkEntries r
def uptoBulkEntry {H : Type} : Lit × DataW H → Nat
  | (.string bytes, d) => bytes.length + uptoBulk d + 1
  | (_, d) => uptoBulk d + 1
 end
def uptoSmall : (H : Type) → List (DataW H) → Bool := fun _ ds => decide (uptoBulkAll ds ≤ 1048576)
def OpenSpec.upto (s : _root_.Go.ChangeSpec) : _root_.Go.OpenSpec := { _root_.Go.OpenSpec.ofChange s with cond := some uptoSmall }

/-- 'laws.FnExactGainOf', WHERE WHAT IT READS IS OF BULK AT MOST 1048576: true; the input reads as it did. -/
def fnExactGainOfUptoRow : OpenClaim := { program := "ytomapdedajdkkab", sum := "b003e067a774916da20c445bfe48a195e48ec7acd10f9acf14302fdeecd814a2", func := "loop.example/promotionengine/laws.FnExactGainOf", spec := "fnExactGainOf", apart := false, narrowed := true }
def FnExactGainOfUptoSaid : Prop := fnExactGainOfUptoRow.holds Try.pinned (OpenSpec.upto fnExactGainOfSpec)

/-- 'laws.FnBestBundles', WHERE WHAT IT READS IS OF BULK AT MOST 1048576: true; the input reads as it did. -/
def fnBestBundlesUptoRow : OpenClaim := { program := "ytomapdedajdkkab", sum := "b003e067a774916da20c445bfe48a195e48ec7acd10f9acf14302fdeecd814a2", func := "loop.example/promotionengine/laws.FnBestBundles", spec := "fnBestBundles", unfollowed := true, recurses := true, apart := false, narrowed := true }
def FnBestBundlesUptoSaid : Prop := fnBestBundlesUptoRow.holds Try.pinned (OpenSpec.upto fnBestBundlesSpec)

/-- 'laws.FnBestBundlesMore', WHERE WHAT IT READS IS OF BULK AT MOST 1048576: true; the input reads as it did. -/
def fnBestBundlesMoreUptoRow : OpenClaim := { program := "ytomapdedajdkkab", sum := "b003e067a774916da20c445bfe48a195e48ec7acd10f9acf14302fdeecd814a2", func := "loop.example/promotionengine/laws.FnBestBundlesMore", spec := "fnBestBundlesMore", unfollowed := true, recurses := true, apart := false, narrowed := true }
def FnBestBundlesMoreUptoSaid : Prop := fnBestBundlesMoreUptoRow.holds Try.pinned (OpenSpec.upto fnBestBundlesMoreSpec)

/-- 'laws.FnBestBundlesGain', WHERE WHAT IT READS IS OF BULK AT MOST 1048576: true; the input reads as it did. -/
def fnBestBundlesGainUptoRow : OpenClaim := { program := "ytomapdedajdkkab", sum := "b003e067a774916da20c445bfe48a195e48ec7acd10f9acf14302fdeecd814a2", func := "loop.example/promotionengine/laws.FnBestBundlesGain", spec := "fnBestBundlesGain", unfollowed := true, recurses := true, apart := false, narrowed := true }
def FnBestBundlesGainUptoSaid : Prop := fnBestBundlesGainUptoRow.holds Try.pinned (OpenSpec.upto fnBestBundlesGainSpec)

/-- 'laws.FnBestBundlesOne', WHERE WHAT IT READS IS OF BULK AT MOST 1048576: true; the input reads as it did. -/
def fnBestBundlesOneUptoRow : OpenClaim := { program := "ytomapdedajdkkab", sum := "b003e067a774916da20c445bfe48a195e48ec7acd10f9acf14302fdeecd814a2", func := "loop.example/promotionengine/laws.FnBestBundlesOne", spec := "fnBestBundlesOne", unfollowed := true, recurses := true, apart := false, narrowed := true }
def FnBestBundlesOneUptoSaid : Prop := fnBestBundlesOneUptoRow.holds Try.pinned (OpenSpec.upto fnBestBundlesOneSpec)

/-- 'laws.FnBestBundlesEmpty', WHERE WHAT IT READS IS OF BULK AT MOST 1048576: true; the input reads as it did. -/
def fnBestBundlesEmptyUptoRow : OpenClaim := { program := "ytomapdedajdkkab", sum := "b003e067a774916da20c445bfe48a195e48ec7acd10f9acf14302fdeecd814a2", func := "loop.example/promotionengine/laws.FnBestBundlesEmpty", spec := "fnBestBundlesEmpty", unfollowed := true, recurses := true, apart := false, narrowed := true }
def FnBestBundlesEmptyUptoSaid : Prop := fnBestBundlesEmptyUptoRow.holds Try.pinned (OpenSpec.upto fnBestBundlesEmptySpec)

/-- 'laws.FnExactBestBundles', WHERE WHAT IT READS IS OF BULK AT MOST 1048576: true; the input reads as it did. -/
def fnExactBestBundlesUptoRow : OpenClaim := { program := "ytomapdedajdkkab", sum := "b003e067a774916da20c445bfe48a195e48ec7acd10f9acf14302fdeecd814a2", func := "loop.example/promotionengine/laws.FnExactBestBundles", spec := "fnExactBestBundles", unfollowed := true, recurses := true, apart := false, narrowed := true }
def FnExactBestBundlesUptoSaid : Prop := fnExactBestBundlesUptoRow.holds Try.pinned (OpenSpec.upto fnExactBestBundlesSpec)

/-- 'laws.FnExactHoldCart', WHERE WHAT IT READS IS OF BULK AT MOST 1048576: true; the input reads as it did. -/
def fnExactHoldCartUptoRow : OpenClaim := { program := "ytomapdedajdkkab", sum := "b003e067a774916da20c445bfe48a195e48ec7acd10f9acf14302fdeecd814a2", func := "loop.example/promotionengine/laws.FnExactHoldCart", spec := "fnExactHoldCart", apart := false, narrowed := true }
def FnExactHoldCartUptoSaid : Prop := fnExactHoldCartUptoRow.holds Try.pinned (OpenSpec.upto fnExactHoldCartSpec)

/-- 'laws.FnExactSellCart', WHERE WHAT IT READS IS OF BULK AT MOST 1048576: true; the input reads as it did. -/
def fnExactSellCartUptoRow : OpenClaim := { program := "ytomapdedajdkkab", sum := "b003e067a774916da20c445bfe48a195e48ec7acd10f9acf14302fdeecd814a2", func := "loop.example/promotionengine/laws.FnExactSellCart", spec := "fnExactSellCart", apart := false, narrowed := true }
def FnExactSellCartUptoSaid : Prop := fnExactSellCartUptoRow.holds Try.pinned (OpenSpec.upto fnExactSellCartSpec)

end Rows
end Go.Proofs.Ytomapdedajdkkab
