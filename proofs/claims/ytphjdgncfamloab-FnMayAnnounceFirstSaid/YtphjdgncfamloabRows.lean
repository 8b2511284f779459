/-
  No cell of these rows narrows 'for every input' (looked for: loops, veiled, ifaces, maps, wideKeys, modest, calm, conditions, laid).
  DERIVED. THE GIVEN ROWS OF THIS SEAT. 9 by the template 'for every input the law returns true; each argument reads behind the call as it read before'; 0 by the template 'total and deterministic' (their statements: YtphjdgncfamloabTotals.lean).
  GIVEN WITH THE SEED: the statements are not yours to turn. If you find one false, say at which input.
  Laid BY PROGRAM, IN A SANDBOX (cutbox-rows.mjs): the forced cells as the released guide's own fill.sh prints them over the translation d4e58f95dbab4bd4… (all of the seat's roots in one cut). By AI agents, Wed Nov 11 2026. No macro, syntax, notation, axiom, sorry.
-/
import Derived.Test.YtphjdgncfamloabChecked
import GoSem.Claim
import GoSem.ClaimJoined
import GoSem.ClaimMapViews
import Derived.JoinedTies
import Derived.KernelRfl
namespace Go.Proofs.Ytphjdgncfamloab
/- THE CELL 'sum', in the pinned program and in every row, IS THE sha256 OF THE DUMP (.gsa) THAT YtphjdgncfamloabProg.lean LOADS. Nothing in Lean hashes anything: it is a label: what it is worth is what the hold of that sum in a sandbox is worth. -/
noncomputable def Try.pinned : Pinned := { name := "ytphjdgncfamloab", sum := "d4e58f95dbab4bd48b1ca9dc93306fd3436f1f789f76eee03d24d6617afda15a", checked := Try.checked }
namespace Rows
def none {H : Type} : Left H := { results := [], args := [] }

/-- 'laws.FnLowestBeforeNext': WHATEVER THE INPUT: true; the input reads as it did. -/
def fnLowestBeforeNextSpec : ChangeSpec := { name := "fnLowestBeforeNext", fn := fun _ => fun
  | [d] => { results := [.lit (.bool true)], args := [d] }
  | _ => none }
def fnLowestBeforeNextRow : OpenClaim := { program := "ytphjdgncfamloab", sum := "d4e58f95dbab4bd48b1ca9dc93306fd3436f1f789f76eee03d24d6617afda15a", func := "loop.example/promotionengine/laws.FnLowestBeforeNext", spec := "fnLowestBeforeNext", apart := false }
def FnLowestBeforeNextSaid : Prop := fnLowestBeforeNextRow.holds Try.pinned (OpenSpec.ofChange fnLowestBeforeNextSpec)

/-- ITS FALSE NEIGHBOUR: 'it returns false'. Refute it at one input. -/
def fnLowestBeforeNextWrong : ChangeSpec := { name := "fnLowestBeforeNext", fn := fun _ => fun
  | [d] => { results := [.lit (.bool false)], args := [d] }
  | _ => none }
def FnLowestBeforeNextWrongFalsely : Prop := fnLowestBeforeNextRow.holds Try.pinned (OpenSpec.ofChange fnLowestBeforeNextWrong)

/-- 'laws.FnSetPrice': WHATEVER THE INPUT: true; the input reads as it did. -/
def fnSetPriceSpec : ChangeSpec := { name := "fnSetPrice", fn := fun _ => fun
  | [d] => { results := [.lit (.bool true)], args := [d] }
  | _ => none }
def fnSetPriceRow : OpenClaim := { program := "ytphjdgncfamloab", sum := "d4e58f95dbab4bd48b1ca9dc93306fd3436f1f789f76eee03d24d6617afda15a", func := "loop.example/promotionengine/laws.FnSetPrice", spec := "fnSetPrice", apart := false }
def FnSetPriceSaid : Prop := fnSetPriceRow.holds Try.pinned (OpenSpec.ofChange fnSetPriceSpec)

/-- ITS FALSE NEIGHBOUR: 'it returns false'. Refute it at one input. -/
def fnSetPriceWrong : ChangeSpec := { name := "fnSetPrice", fn := fun _ => fun
  | [d] => { results := [.lit (.bool false)], args := [d] }
  | _ => none }
def FnSetPriceWrongFalsely : Prop := fnSetPriceRow.holds Try.pinned (OpenSpec.ofChange fnSetPriceWrong)

/-- 'laws.FnMayAnnounceFirst': WHATEVER THE INPUT: true; the input reads as it did. -/
def fnMayAnnounceFirstSpec : ChangeSpec := { name := "fnMayAnnounceFirst", fn := fun _ => fun
  | [d] => { results := [.lit (.bool true)], args := [d] }
  | _ => none }
def fnMayAnnounceFirstRow : OpenClaim := { program := "ytphjdgncfamloab", sum := "d4e58f95dbab4bd48b1ca9dc93306fd3436f1f789f76eee03d24d6617afda15a", func := "loop.example/promotionengine/laws.FnMayAnnounceFirst", spec := "fnMayAnnounceFirst", apart := false }
def FnMayAnnounceFirstSaid : Prop := fnMayAnnounceFirstRow.holds Try.pinned (OpenSpec.ofChange fnMayAnnounceFirstSpec)

/-- ITS FALSE NEIGHBOUR: 'it returns false'. Refute it at one input. -/
def fnMayAnnounceFirstWrong : ChangeSpec := { name := "fnMayAnnounceFirst", fn := fun _ => fun
  | [d] => { results := [.lit (.bool false)], args := [d] }
  | _ => none }
def FnMayAnnounceFirstWrongFalsely : Prop := fnMayAnnounceFirstRow.holds Try.pinned (OpenSpec.ofChange fnMayAnnounceFirstWrong)

/-- 'laws.FnExactReducedBy': WHATEVER THE INPUT: true; the input reads as it did. -/
def fnExactReducedBySpec : ChangeSpec := { name := "fnExactReducedBy", fn := fun _ => fun
  | [d1, d2] => { results := [.lit (.bool true)], args := [d1, d2] }
  | _ => none }
def fnExactReducedByRow : OpenClaim := { program := "ytphjdgncfamloab", sum := "d4e58f95dbab4bd48b1ca9dc93306fd3436f1f789f76eee03d24d6617afda15a", func := "loop.example/promotionengine/laws.FnExactReducedBy", spec := "fnExactReducedBy", apart := false }
def FnExactReducedBySaid : Prop := fnExactReducedByRow.holds Try.pinned (OpenSpec.ofChange fnExactReducedBySpec)

/-- ITS FALSE NEIGHBOUR: 'it returns false'. Refute it at one input. -/
def fnExactReducedByWrong : ChangeSpec := { name := "fnExactReducedBy", fn := fun _ => fun
  | [d1, d2] => { results := [.lit (.bool false)], args := [d1, d2] }
  | _ => none }
def FnExactReducedByWrongFalsely : Prop := fnExactReducedByRow.holds Try.pinned (OpenSpec.ofChange fnExactReducedByWrong)

/-- 'laws.FnMayAnnounce': WHATEVER THE INPUT: true; the input reads as it did. -/
def fnMayAnnounceSpec : ChangeSpec := { name := "fnMayAnnounce", fn := fun _ => fun
  | [d] => { results := [.lit (.bool true)], args := [d] }
  | _ => none }
def fnMayAnnounceRow : OpenClaim := { program := "ytphjdgncfamloab", sum := "d4e58f95dbab4bd48b1ca9dc93306fd3436f1f789f76eee03d24d6617afda15a", func := "loop.example/promotionengine/laws.FnMayAnnounce", spec := "fnMayAnnounce", apart := false }
def FnMayAnnounceSaid : Prop := fnMayAnnounceRow.holds Try.pinned (OpenSpec.ofChange fnMayAnnounceSpec)

/-- ITS FALSE NEIGHBOUR: 'it returns false'. Refute it at one input. -/
def fnMayAnnounceWrong : ChangeSpec := { name := "fnMayAnnounce", fn := fun _ => fun
  | [d] => { results := [.lit (.bool false)], args := [d] }
  | _ => none }
def FnMayAnnounceWrongFalsely : Prop := fnMayAnnounceRow.holds Try.pinned (OpenSpec.ofChange fnMayAnnounceWrong)

/-- 'laws.FnLowestBeforeSet': WHATEVER THE INPUT: true; the input reads as it did. -/
def fnLowestBeforeSetSpec : ChangeSpec := { name := "fnLowestBeforeSet", fn := fun _ => fun
  | [d] => { results := [.lit (.bool true)], args := [d] }
  | _ => none }
def fnLowestBeforeSetRow : OpenClaim := { program := "ytphjdgncfamloab", sum := "d4e58f95dbab4bd48b1ca9dc93306fd3436f1f789f76eee03d24d6617afda15a", func := "loop.example/promotionengine/laws.FnLowestBeforeSet", spec := "fnLowestBeforeSet", apart := false }
def FnLowestBeforeSetSaid : Prop := fnLowestBeforeSetRow.holds Try.pinned (OpenSpec.ofChange fnLowestBeforeSetSpec)

/-- ITS FALSE NEIGHBOUR: 'it returns false'. Refute it at one input. -/
def fnLowestBeforeSetWrong : ChangeSpec := { name := "fnLowestBeforeSet", fn := fun _ => fun
  | [d] => { results := [.lit (.bool false)], args := [d] }
  | _ => none }
def FnLowestBeforeSetWrongFalsely : Prop := fnLowestBeforeSetRow.holds Try.pinned (OpenSpec.ofChange fnLowestBeforeSetWrong)

/-- 'laws.FnMayAnnounceSet': WHATEVER THE INPUT: true; the input reads as it did. -/
def fnMayAnnounceSetSpec : ChangeSpec := { name := "fnMayAnnounceSet", fn := fun _ => fun
  | [d] => { results := [.lit (.bool true)], args := [d] }
  | _ => none }
def fnMayAnnounceSetRow : OpenClaim := { program := "ytphjdgncfamloab", sum := "d4e58f95dbab4bd48b1ca9dc93306fd3436f1f789f76eee03d24d6617afda15a", func := "loop.example/promotionengine/laws.FnMayAnnounceSet", spec := "fnMayAnnounceSet", apart := false }
def FnMayAnnounceSetSaid : Prop := fnMayAnnounceSetRow.holds Try.pinned (OpenSpec.ofChange fnMayAnnounceSetSpec)

/-- ITS FALSE NEIGHBOUR: 'it returns false'. Refute it at one input. -/
def fnMayAnnounceSetWrong : ChangeSpec := { name := "fnMayAnnounceSet", fn := fun _ => fun
  | [d] => { results := [.lit (.bool false)], args := [d] }
  | _ => none }
def FnMayAnnounceSetWrongFalsely : Prop := fnMayAnnounceSetRow.holds Try.pinned (OpenSpec.ofChange fnMayAnnounceSetWrong)

/-- 'laws.FnReducedBy': WHATEVER THE INPUT: true; the input reads as it did. -/
def fnReducedBySpec : ChangeSpec := { name := "fnReducedBy", fn := fun _ => fun
  | [d] => { results := [.lit (.bool true)], args := [d] }
  | _ => none }
def fnReducedByRow : OpenClaim := { program := "ytphjdgncfamloab", sum := "d4e58f95dbab4bd48b1ca9dc93306fd3436f1f789f76eee03d24d6617afda15a", func := "loop.example/promotionengine/laws.FnReducedBy", spec := "fnReducedBy", apart := false }
def FnReducedBySaid : Prop := fnReducedByRow.holds Try.pinned (OpenSpec.ofChange fnReducedBySpec)

/-- ITS FALSE NEIGHBOUR: 'it returns false'. Refute it at one input. -/
def fnReducedByWrong : ChangeSpec := { name := "fnReducedBy", fn := fun _ => fun
  | [d] => { results := [.lit (.bool false)], args := [d] }
  | _ => none }
def FnReducedByWrongFalsely : Prop := fnReducedByRow.holds Try.pinned (OpenSpec.ofChange fnReducedByWrong)

/-- 'laws.FnReducedByMore': WHATEVER THE INPUT: true; the input reads as it did. -/
def fnReducedByMoreSpec : ChangeSpec := { name := "fnReducedByMore", fn := fun _ => fun
  | [d] => { results := [.lit (.bool true)], args := [d] }
  | _ => none }
def fnReducedByMoreRow : OpenClaim := { program := "ytphjdgncfamloab", sum := "d4e58f95dbab4bd48b1ca9dc93306fd3436f1f789f76eee03d24d6617afda15a", func := "loop.example/promotionengine/laws.FnReducedByMore", spec := "fnReducedByMore", apart := false }
def FnReducedByMoreSaid : Prop := fnReducedByMoreRow.holds Try.pinned (OpenSpec.ofChange fnReducedByMoreSpec)

/-- ITS FALSE NEIGHBOUR: 'it returns false'. Refute it at one input. -/
def fnReducedByMoreWrong : ChangeSpec := { name := "fnReducedByMore", fn := fun _ => fun
  | [d] => { results := [.lit (.bool false)], args := [d] }
  | _ => none }
def FnReducedByMoreWrongFalsely : Prop := fnReducedByMoreRow.holds Try.pinned (OpenSpec.ofChange fnReducedByMoreWrong)

/- THE SECOND FORM. 'bulk': how many values and letters a reading holds, each counted each time it is reached (what is shared counts as often as it is met; a slice's spare places count too). A statement '..UptoSaid' is the law's where the arguments, and the package variables that the reading takes, are together of bulk at most 1048576: NARROWER than '..Said'. Prove '..Said' where nothing that the law and all that it calls make is longer than what came in: it says more and counts as full. Else prove '..UptoSaid'. A law counts once. -/
mutual
def uptoBulk {H : Type} : DataW H → Nat
  | .lit (.string bytes) => bytes.length + 1
  | .lit _ => 1
  | .nil => 1
  | .ptr d => uptoBulk d + 1
  | .slice elems spare => uptoBulkAll elems + uptoBulkAll spare + 1
  | .agg parts => uptoBulkAll parts + 1
  | .iface _ d => uptoBulk d + 1
  | .map entries => uptoBulkEntries entries + 1
  | .held _ => 1
def uptoBulkAll {H : Type} : List (DataW H) → Nat
  | [] => 0
  | d :: r => uptoBulk d + uptoBulkAll r
def uptoBulkEntries {H : Type} : List (Lit × DataW H) → Nat
  | [] => 0
  | x :: r => uptoBulkEntry x + uptoBulkEntries r
def uptoBulkEntry {H : Type} : Lit × DataW H → Nat
  | (.string bytes, d) => bytes.length + uptoBulk d + 1
  | (_, d) => uptoBulk d + 1
 end
def uptoSmall : (H : Type) → List (DataW H) → Bool := fun _ ds => decide (uptoBulkAll ds ≤ 1048576)
def OpenSpec.upto (s : _root_.Go.ChangeSpec) : _root_.Go.OpenSpec := { _root_.Go.OpenSpec.ofChange s with cond := some uptoSmall }

/-- 'laws.FnLowestBeforeNext', WHERE WHAT IT READS IS OF BULK AT MOST 1048576: true; the input reads as it did. -/
def fnLowestBeforeNextUptoRow : OpenClaim := { program := "ytphjdgncfamloab", sum := "d4e58f95dbab4bd48b1ca9dc93306fd3436f1f789f76eee03d24d6617afda15a", func := "loop.example/promotionengine/laws.FnLowestBeforeNext", spec := "fnLowestBeforeNext", apart := false, narrowed := true }
def FnLowestBeforeNextUptoSaid : Prop := fnLowestBeforeNextUptoRow.holds Try.pinned (OpenSpec.upto fnLowestBeforeNextSpec)

/-- 'laws.FnSetPrice', WHERE WHAT IT READS IS OF BULK AT MOST 1048576: true; the input reads as it did. -/
def fnSetPriceUptoRow : OpenClaim := { program := "ytphjdgncfamloab", sum := "d4e58f95dbab4bd48b1ca9dc93306fd3436f1f789f76eee03d24d6617afda15a", func := "loop.example/promotionengine/laws.FnSetPrice", spec := "fnSetPrice", apart := false, narrowed := true }
def FnSetPriceUptoSaid : Prop := fnSetPriceUptoRow.holds Try.pinned (OpenSpec.upto fnSetPriceSpec)

/-- 'laws.FnMayAnnounceFirst', WHERE WHAT IT READS IS OF BULK AT MOST 1048576: true; the input reads as it did. -/
def fnMayAnnounceFirstUptoRow : OpenClaim := { program := "ytphjdgncfamloab", sum := "d4e58f95dbab4bd48b1ca9dc93306fd3436f1f789f76eee03d24d6617afda15a", func := "loop.example/promotionengine/laws.FnMayAnnounceFirst", spec := "fnMayAnnounceFirst", apart := false, narrowed := true }
def FnMayAnnounceFirstUptoSaid : Prop := fnMayAnnounceFirstUptoRow.holds Try.pinned (OpenSpec.upto fnMayAnnounceFirstSpec)

/-- 'laws.FnExactReducedBy', WHERE WHAT IT READS IS OF BULK AT MOST 1048576: true; the input reads as it did. -/
def fnExactReducedByUptoRow : OpenClaim := { program := "ytphjdgncfamloab", sum := "d4e58f95dbab4bd48b1ca9dc93306fd3436f1f789f76eee03d24d6617afda15a", func := "loop.example/promotionengine/laws.FnExactReducedBy", spec := "fnExactReducedBy", apart := false, narrowed := true }
def FnExactReducedByUptoSaid : Prop := fnExactReducedByUptoRow.holds Try.pinned (OpenSpec.upto fnExactReducedBySpec)

/-- 'laws.FnMayAnnounce', WHERE WHAT IT READS IS OF BULK AT MOST 1048576: true; the input reads as it did. -/
def fnMayAnnounceUptoRow : OpenClaim := { program := "ytphjdgncfamloab", sum := "d4e58f95dbab4bd48b1ca9dc93306fd3436f1f789f76eee03d24d6617afda15a", func := "loop.example/promotionengine/laws.FnMayAnnounce", spec := "fnMayAnnounce", apart := false, narrowed := true }
def FnMayAnnounceUptoSaid : Prop := fnMayAnnounceUptoRow.holds Try.pinned (OpenSpec.upto fnMayAnnounceSpec)

/-- 'laws.FnLowestBeforeSet', WHERE WHAT IT READS IS OF BULK AT MOST 1048576: true; the input reads as it did. -/
def fnLowestBeforeSetUptoRow : OpenClaim := { program := "ytphjdgncfamloab", sum := "d4e58f95dbab4bd48b1ca9dc93306fd3436f1f789f76eee03d24d6617afda15a", func := "loop.example/promotionengine/laws.FnLowestBeforeSet", spec := "fnLowestBeforeSet", apart := false, narrowed := true }
def FnLowestBeforeSetUptoSaid : Prop := fnLowestBeforeSetUptoRow.holds Try.pinned (OpenSpec.upto fnLowestBeforeSetSpec)

/-- 'laws.FnMayAnnounceSet', WHERE WHAT IT READS IS OF BULK AT MOST 1048576: true; the input reads as it did. -/
def fnMayAnnounceSetUptoRow : OpenClaim := { program := "ytphjdgncfamloab", sum := "d4e58f95dbab4bd48b1ca9dc93306fd3436f1f789f76eee03d24d6617afda15a", func := "loop.example/promotionengine/laws.FnMayAnnounceSet", spec := "fnMayAnnounceSet", apart := false, narrowed := true }
def FnMayAnnounceSetUptoSaid : Prop := fnMayAnnounceSetUptoRow.holds Try.pinned (OpenSpec.upto fnMayAnnounceSetSpec)

/-- 'laws.FnReducedBy', WHERE WHAT IT READS IS OF BULK AT MOST 1048576: true; the input reads as it did. -/
def fnReducedByUptoRow : OpenClaim := { program := "ytphjdgncfamloab", sum := "d4e58f95dbab4bd48b1ca9dc93306fd3436f1f789f76eee03d24d6617afda15a", func := "loop.example/promotionengine/laws.FnReducedBy", spec := "fnReducedBy", apart := false, narrowed := true }
def FnReducedByUptoSaid : Prop := fnReducedByUptoRow.holds Try.pinned (OpenSpec.upto fnReducedBySpec)

/-- 'laws.FnReducedByMore', WHERE WHAT IT READS IS OF BULK AT MOST 1048576: true; the input reads as it did. -/
def fnReducedByMoreUptoRow : OpenClaim := { program := "ytphjdgncfamloab", sum := "d4e58f95dbab4bd48b1ca9dc93306fd3436f1f789f76eee03d24d6617afda15a", func := "loop.example/promotionengine/laws.FnReducedByMore", spec := "fnReducedByMore", apart := false, narrowed := true }
def FnReducedByMoreUptoSaid : Prop := fnReducedByMoreUptoRow.holds Try.pinned (OpenSpec.upto fnReducedByMoreSpec)

end Rows
end Go.Proofs.Ytphjdgncfamloab
