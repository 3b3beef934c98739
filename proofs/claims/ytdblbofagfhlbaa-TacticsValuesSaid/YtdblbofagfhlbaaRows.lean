/-
  No cell of these rows narrows 'for every input' (looked for: loops, veiled, ifaces, maps, wideKeys, modest, calm, conditions, laid).
  DERIVED. THE GIVEN ROWS OF THIS SEAT. 9 by the template 'for every input the law returns true; each argument reads behind the call as it read before'; 0 by the template 'total and deterministic' (their statements: YtdblbofagfhlbaaTotals.lean).
  GIVEN WITH THE SEED: the statements are not yours to turn. If you find one false, say at which input.
  Laid BY PROGRAM, IN A SANDBOX (cutbox-rows.mjs): the forced cells as the released guide's own fill.sh prints them over the translation 5aeb0904501fb861… (all of the seat's roots in one cut). By AI agents, Wed Nov 11 2026. No macro, syntax, notation, axiom, sorry.
-/
import Derived.Test.YtdblbofagfhlbaaChecked
import GoSem.Claim
import GoSem.ClaimJoined
import GoSem.ClaimMapViews
import Derived.JoinedTies
import Derived.KernelRfl
namespace Go.Proofs.Ytdblbofagfhlbaa
/- THE CELL 'sum', in the pinned program and in every row, IS THE sha256 OF THE DUMP (.gsa) THAT YtdblbofagfhlbaaProg.lean LOADS. Nothing in Lean hashes anything: it is a label: what it is worth is what the hold of that sum in a sandbox is worth. -/
noncomputable def Try.pinned : Pinned := { name := "ytdblbofagfhlbaa", sum := "5aeb0904501fb8618a75af5a6e3ed86ee2112ca8aff86ed9e16ef50ef0588429", checked := Try.checked }
namespace Rows
def none {H : Type} : Left H := { results := [], args := [] }

/-- 'roquetlaw09.TacticsRecord': WHATEVER THE INPUT: true; the input reads as it did. -/
def tacticsRecordSpec : ChangeSpec := { name := "tacticsRecord", fn := fun _ => fun
  | [d1, d2, d3, d4] => { results := [.lit (.bool true)], args := [d1, d2, d3, d4] }
  | _ => none }
def tacticsRecordRow : OpenClaim := { program := "ytdblbofagfhlbaa", sum := "5aeb0904501fb8618a75af5a6e3ed86ee2112ca8aff86ed9e16ef50ef0588429", func := "roquet/roquetlaw09.TacticsRecord", spec := "tacticsRecord", unfollowed := true, recurses := true, plainKeys := false, apart := false }
def TacticsRecordSaid : Prop := tacticsRecordRow.holds Try.pinned (OpenSpec.ofChange tacticsRecordSpec)

/-- ITS FALSE NEIGHBOUR: 'it returns false'. Refute it at one input. -/
def tacticsRecordWrong : ChangeSpec := { name := "tacticsRecord", fn := fun _ => fun
  | [d1, d2, d3, d4] => { results := [.lit (.bool false)], args := [d1, d2, d3, d4] }
  | _ => none }
def TacticsRecordWrongFalsely : Prop := tacticsRecordRow.holds Try.pinned (OpenSpec.ofChange tacticsRecordWrong)

/-- 'roquetlaw09.TacticsBounds': WHATEVER THE INPUT: true; the input reads as it did. -/
def tacticsBoundsSpec : ChangeSpec := { name := "tacticsBounds", fn := fun _ => fun
  | [d1, d2, d3] => { results := [.lit (.bool true)], args := [d1, d2, d3] }
  | _ => none }
def tacticsBoundsRow : OpenClaim := { program := "ytdblbofagfhlbaa", sum := "5aeb0904501fb8618a75af5a6e3ed86ee2112ca8aff86ed9e16ef50ef0588429", func := "roquet/roquetlaw09.TacticsBounds", spec := "tacticsBounds", unfollowed := true, recurses := true, plainKeys := false, apart := false }
def TacticsBoundsSaid : Prop := tacticsBoundsRow.holds Try.pinned (OpenSpec.ofChange tacticsBoundsSpec)

/-- ITS FALSE NEIGHBOUR: 'it returns false'. Refute it at one input. -/
def tacticsBoundsWrong : ChangeSpec := { name := "tacticsBounds", fn := fun _ => fun
  | [d1, d2, d3] => { results := [.lit (.bool false)], args := [d1, d2, d3] }
  | _ => none }
def TacticsBoundsWrongFalsely : Prop := tacticsBoundsRow.holds Try.pinned (OpenSpec.ofChange tacticsBoundsWrong)

/-- 'roquetlaw09.TacticsLeast': WHATEVER THE INPUT: true; the input reads as it did. -/
def tacticsLeastSpec : ChangeSpec := { name := "tacticsLeast", fn := fun _ => fun
  | [d1, d2] => { results := [.lit (.bool true)], args := [d1, d2] }
  | _ => none }
def tacticsLeastRow : OpenClaim := { program := "ytdblbofagfhlbaa", sum := "5aeb0904501fb8618a75af5a6e3ed86ee2112ca8aff86ed9e16ef50ef0588429", func := "roquet/roquetlaw09.TacticsLeast", spec := "tacticsLeast", unfollowed := true, recurses := true, plainKeys := false, apart := false }
def TacticsLeastSaid : Prop := tacticsLeastRow.holds Try.pinned (OpenSpec.ofChange tacticsLeastSpec)

/-- ITS FALSE NEIGHBOUR: 'it returns false'. Refute it at one input. -/
def tacticsLeastWrong : ChangeSpec := { name := "tacticsLeast", fn := fun _ => fun
  | [d1, d2] => { results := [.lit (.bool false)], args := [d1, d2] }
  | _ => none }
def TacticsLeastWrongFalsely : Prop := tacticsLeastRow.holds Try.pinned (OpenSpec.ofChange tacticsLeastWrong)

/-- 'roquetlaw09.TacticsChances': WHATEVER THE INPUT: true; the input reads as it did. -/
def tacticsChancesSpec : ChangeSpec := { name := "tacticsChances", fn := fun _ => fun
  | [d1, d2, d3, d4] => { results := [.lit (.bool true)], args := [d1, d2, d3, d4] }
  | _ => none }
def tacticsChancesRow : OpenClaim := { program := "ytdblbofagfhlbaa", sum := "5aeb0904501fb8618a75af5a6e3ed86ee2112ca8aff86ed9e16ef50ef0588429", func := "roquet/roquetlaw09.TacticsChances", spec := "tacticsChances", unfollowed := true, recurses := true, plainKeys := false, apart := false }
def TacticsChancesSaid : Prop := tacticsChancesRow.holds Try.pinned (OpenSpec.ofChange tacticsChancesSpec)

/-- ITS FALSE NEIGHBOUR: 'it returns false'. Refute it at one input. -/
def tacticsChancesWrong : ChangeSpec := { name := "tacticsChances", fn := fun _ => fun
  | [d1, d2, d3, d4] => { results := [.lit (.bool false)], args := [d1, d2, d3, d4] }
  | _ => none }
def TacticsChancesWrongFalsely : Prop := tacticsChancesRow.holds Try.pinned (OpenSpec.ofChange tacticsChancesWrong)

/-- 'roquetlaw09.TacticsLists': WHATEVER THE INPUT: true; the input reads as it did. -/
def tacticsListsSpec : ChangeSpec := { name := "tacticsLists", fn := fun _ => fun
  | [d1, d2, d3] => { results := [.lit (.bool true)], args := [d1, d2, d3] }
  | _ => none }
def tacticsListsRow : OpenClaim := { program := "ytdblbofagfhlbaa", sum := "5aeb0904501fb8618a75af5a6e3ed86ee2112ca8aff86ed9e16ef50ef0588429", func := "roquet/roquetlaw09.TacticsLists", spec := "tacticsLists", unfollowed := true, recurses := true, plainKeys := false, apart := false }
def TacticsListsSaid : Prop := tacticsListsRow.holds Try.pinned (OpenSpec.ofChange tacticsListsSpec)

/-- ITS FALSE NEIGHBOUR: 'it returns false'. Refute it at one input. -/
def tacticsListsWrong : ChangeSpec := { name := "tacticsLists", fn := fun _ => fun
  | [d1, d2, d3] => { results := [.lit (.bool false)], args := [d1, d2, d3] }
  | _ => none }
def TacticsListsWrongFalsely : Prop := tacticsListsRow.holds Try.pinned (OpenSpec.ofChange tacticsListsWrong)

/-- 'roquetlaw09.TacticsValues': WHATEVER THE INPUT: true; the input reads as it did. -/
def tacticsValuesSpec : ChangeSpec := { name := "tacticsValues", fn := fun _ => fun
  | [d1, d2, d3] => { results := [.lit (.bool true)], args := [d1, d2, d3] }
  | _ => none }
def tacticsValuesRow : OpenClaim := { program := "ytdblbofagfhlbaa", sum := "5aeb0904501fb8618a75af5a6e3ed86ee2112ca8aff86ed9e16ef50ef0588429", func := "roquet/roquetlaw09.TacticsValues", spec := "tacticsValues", unfollowed := true, recurses := true, plainKeys := false, apart := false }
def TacticsValuesSaid : Prop := tacticsValuesRow.holds Try.pinned (OpenSpec.ofChange tacticsValuesSpec)

/-- ITS FALSE NEIGHBOUR: 'it returns false'. Refute it at one input. -/
def tacticsValuesWrong : ChangeSpec := { name := "tacticsValues", fn := fun _ => fun
  | [d1, d2, d3] => { results := [.lit (.bool false)], args := [d1, d2, d3] }
  | _ => none }
def TacticsValuesWrongFalsely : Prop := tacticsValuesRow.holds Try.pinned (OpenSpec.ofChange tacticsValuesWrong)

/-- 'roquetlaw09.TacticsActs': WHATEVER THE INPUT: true; the input reads as it did. -/
def tacticsActsSpec : ChangeSpec := { name := "tacticsActs", fn := fun _ => fun
  | [d1, d2, d3, d4, d5] => { results := [.lit (.bool true)], args := [d1, d2, d3, d4, d5] }
  | _ => none }
def tacticsActsRow : OpenClaim := { program := "ytdblbofagfhlbaa", sum := "5aeb0904501fb8618a75af5a6e3ed86ee2112ca8aff86ed9e16ef50ef0588429", func := "roquet/roquetlaw09.TacticsActs", spec := "tacticsActs", unfollowed := true, recurses := true, plainKeys := false, apart := false }
def TacticsActsSaid : Prop := tacticsActsRow.holds Try.pinned (OpenSpec.ofChange tacticsActsSpec)

/-- ITS FALSE NEIGHBOUR: 'it returns false'. Refute it at one input. -/
def tacticsActsWrong : ChangeSpec := { name := "tacticsActs", fn := fun _ => fun
  | [d1, d2, d3, d4, d5] => { results := [.lit (.bool false)], args := [d1, d2, d3, d4, d5] }
  | _ => none }
def TacticsActsWrongFalsely : Prop := tacticsActsRow.holds Try.pinned (OpenSpec.ofChange tacticsActsWrong)

/-- 'roquetlaw09.TacticsPlans': WHATEVER THE INPUT: true; the input reads as it did. -/
def tacticsPlansSpec : ChangeSpec := { name := "tacticsPlans", fn := fun _ => fun
  | [d1, d2] => { results := [.lit (.bool true)], args := [d1, d2] }
  | _ => none }
def tacticsPlansRow : OpenClaim := { program := "ytdblbofagfhlbaa", sum := "5aeb0904501fb8618a75af5a6e3ed86ee2112ca8aff86ed9e16ef50ef0588429", func := "roquet/roquetlaw09.TacticsPlans", spec := "tacticsPlans", unfollowed := true, recurses := true, plainKeys := false, apart := false }
def TacticsPlansSaid : Prop := tacticsPlansRow.holds Try.pinned (OpenSpec.ofChange tacticsPlansSpec)

/-- ITS FALSE NEIGHBOUR: 'it returns false'. Refute it at one input. -/
def tacticsPlansWrong : ChangeSpec := { name := "tacticsPlans", fn := fun _ => fun
  | [d1, d2] => { results := [.lit (.bool false)], args := [d1, d2] }
  | _ => none }
def TacticsPlansWrongFalsely : Prop := tacticsPlansRow.holds Try.pinned (OpenSpec.ofChange tacticsPlansWrong)

/-- 'roquetlaw09.TacticsBest': WHATEVER THE INPUT: true; the input reads as it did. -/
def tacticsBestSpec : ChangeSpec := { name := "tacticsBest", fn := fun _ => fun
  | [d1, d2] => { results := [.lit (.bool true)], args := [d1, d2] }
  | _ => none }
def tacticsBestRow : OpenClaim := { program := "ytdblbofagfhlbaa", sum := "5aeb0904501fb8618a75af5a6e3ed86ee2112ca8aff86ed9e16ef50ef0588429", func := "roquet/roquetlaw09.TacticsBest", spec := "tacticsBest", unfollowed := true, recurses := true, plainKeys := false, apart := false }
def TacticsBestSaid : Prop := tacticsBestRow.holds Try.pinned (OpenSpec.ofChange tacticsBestSpec)

/-- ITS FALSE NEIGHBOUR: 'it returns false'. Refute it at one input. -/
def tacticsBestWrong : ChangeSpec := { name := "tacticsBest", fn := fun _ => fun
  | [d1, d2] => { results := [.lit (.bool false)], args := [d1, d2] }
  | _ => none }
def TacticsBestWrongFalsely : Prop := tacticsBestRow.holds Try.pinned (OpenSpec.ofChange tacticsBestWrong)

/- THE SECOND FORM. 'bulk': how many values and letters a reading holds, each counted each time it is reached (what is shared counts as often as it is met; a slice's spare places count too). A statement '..UptoSaid' is the law's where the arguments, and the package variables that the reading takes, are together of bulk at most 1048576: NARROWER than '..Said'. Prove '..Said' where nothing that the law and all that it calls make is longer than what came in: it says more and counts as full. Else prove '..UptoSaid'. A law counts once. -/
mutual
def uptoBulk {H : Type} : DataW H → Nat
  | .lit (.string bytes) => bytes.length + 1
  | .lit _ => 1
  | .nil => 1
  | .ptr d => uptoBulk d + 1
  | .slice elems spare => uptoBulkAll elems + uptoBulkAll spare + 1
  | .agg parts => uptoBulkAll parts + 1
  | .iface _ d => uptoBulk d + 1
  | .map entries => uptoBulkEntries entries + 1
  | .held _ => 1
def uptoBulkAll {H : Type} : List (DataW H) → Nat
  | [] => 0
  | d :: r => uptoBulk d + uptoBulkAll r
def uptoBulkEntries {H : Type} : List (Lit × DataW H) → Nat
  | [] => 0
  | x :: r => uptoBulkEntry x + uptoBulkEntries r
def uptoBulkEntry {H : Type} : Lit × DataW H → Nat
  | (.string bytes, d) => bytes.length + uptoBulk d + 1
  | (_, d) => uptoBulk d + 1
 end
def uptoSmall : (H : Type) → List (DataW H) → Bool := fun _ ds => decide (uptoBulkAll ds ≤ 1048576)
def OpenSpec.upto (s : _root_.Go.ChangeSpec) : _root_.Go.OpenSpec := { _root_.Go.OpenSpec.ofChange s with cond := some uptoSmall }

/-- 'roquetlaw09.TacticsRecord', WHERE WHAT IT READS IS OF BULK AT MOST 1048576: true; the input reads as it did. -/
def tacticsRecordUptoRow : OpenClaim := { program := "ytdblbofagfhlbaa", sum := "5aeb0904501fb8618a75af5a6e3ed86ee2112ca8aff86ed9e16ef50ef0588429", func := "roquet/roquetlaw09.TacticsRecord", spec := "tacticsRecord", unfollowed := true, recurses := true, plainKeys := false, apart := false, narrowed := true }
def TacticsRecordUptoSaid : Prop := tacticsRecordUptoRow.holds Try.pinned (OpenSpec.upto tacticsRecordSpec)

/-- 'roquetlaw09.TacticsBounds', WHERE WHAT IT READS IS OF BULK AT MOST 1048576: true; the input reads as it did. -/
def tacticsBoundsUptoRow : OpenClaim := { program := "ytdblbofagfhlbaa", sum := "5aeb0904501fb8618a75af5a6e3ed86ee2112ca8aff86ed9e16ef50ef0588429", func := "roquet/roquetlaw09.TacticsBounds", spec := "tacticsBounds", unfollowed := true, recurses := true, plainKeys := false, apart := false, narrowed := true }
def TacticsBoundsUptoSaid : Prop := tacticsBoundsUptoRow.holds Try.pinned (OpenSpec.upto tacticsBoundsSpec)

/-- 'roquetlaw09.TacticsLeast', WHERE WHAT IT READS IS OF BULK AT MOST 1048576: true; the input reads as it did. -/
def tacticsLeastUptoRow : OpenClaim := { program := "ytdblbofagfhlbaa", sum := "5aeb0904501fb8618a75af5a6e3ed86ee2112ca8aff86ed9e16ef50ef0588429", func := "roquet/roquetlaw09.TacticsLeast", spec := "tacticsLeast", unfollowed := true, recurses := true, plainKeys := false, apart := false, narrowed := true }
def TacticsLeastUptoSaid : Prop := tacticsLeastUptoRow.holds Try.pinned (OpenSpec.upto tacticsLeastSpec)

/-- 'roquetlaw09.TacticsChances', WHERE WHAT IT READS IS OF BULK AT MOST 1048576: true; the input reads as it did. -/
def tacticsChancesUptoRow : OpenClaim := { program := "ytdblbofagfhlbaa", sum := "5aeb0904501fb8618a75af5a6e3ed86ee2112ca8aff86ed9e16ef50ef0588429", func := "roquet/roquetlaw09.TacticsChances", spec := "tacticsChances", unfollowed := true, recurses := true, plainKeys := false, apart := false, narrowed := true }
def TacticsChancesUptoSaid : Prop := tacticsChancesUptoRow.holds Try.pinned (OpenSpec.upto tacticsChancesSpec)

/-- 'roquetlaw09.TacticsLists', WHERE WHAT IT READS IS OF BULK AT MOST 1048576: true; the input reads as it did. -/
def tacticsListsUptoRow : OpenClaim := { program := "ytdblbofagfhlbaa", sum := "5aeb0904501fb8618a75af5a6e3ed86ee2112ca8aff86ed9e16ef50ef0588429", func := "roquet/roquetlaw09.TacticsLists", spec := "tacticsLists", unfollowed := true, recurses := true, plainKeys := false, apart := false, narrowed := true }
def TacticsListsUptoSaid : Prop := tacticsListsUptoRow.holds Try.pinned (OpenSpec.upto tacticsListsSpec)

/-- 'roquetlaw09.TacticsValues', WHERE WHAT IT READS IS OF BULK AT MOST 1048576: true; the input reads as it did. -/
def tacticsValuesUptoRow : OpenClaim := { program := "ytdblbofagfhlbaa", sum := "5aeb0904501fb8618a75af5a6e3ed86ee2112ca8aff86ed9e16ef50ef0588429", func := "roquet/roquetlaw09.TacticsValues", spec := "tacticsValues", unfollowed := true, recurses := true, plainKeys := false, apart := false, narrowed := true }
def TacticsValuesUptoSaid : Prop := tacticsValuesUptoRow.holds Try.pinned (OpenSpec.upto tacticsValuesSpec)

/-- 'roquetlaw09.TacticsActs', WHERE WHAT IT READS IS OF BULK AT MOST 1048576: true; the input reads as it did. -/
def tacticsActsUptoRow : OpenClaim := { program := "ytdblbofagfhlbaa", sum := "5aeb0904501fb8618a75af5a6e3ed86ee2112ca8aff86ed9e16ef50ef0588429", func := "roquet/roquetlaw09.TacticsActs", spec := "tacticsActs", unfollowed := true, recurses := true, plainKeys := false, apart := false, narrowed := true }
def TacticsActsUptoSaid : Prop := tacticsActsUptoRow.holds Try.pinned (OpenSpec.upto tacticsActsSpec)

/-- 'roquetlaw09.TacticsPlans', WHERE WHAT IT READS IS OF BULK AT MOST 1048576: true; the input reads as it did. -/
def tacticsPlansUptoRow : OpenClaim := { program := "ytdblbofagfhlbaa", sum := "5aeb0904501fb8618a75af5a6e3ed86ee2112ca8aff86ed9e16ef50ef0588429", func := "roquet/roquetlaw09.TacticsPlans", spec := "tacticsPlans", unfollowed := true, recurses := true, plainKeys := false, apart := false, narrowed := true }
def TacticsPlansUptoSaid : Prop := tacticsPlansUptoRow.holds Try.pinned (OpenSpec.upto tacticsPlansSpec)

/-- 'roquetlaw09.TacticsBest', WHERE WHAT IT READS IS OF BULK AT MOST 1048576: true; the input reads as it did. -/
def tacticsBestUptoRow : OpenClaim := { program := "ytdblbofagfhlbaa", sum := "5aeb0904501fb8618a75af5a6e3ed86ee2112ca8aff86ed9e16ef50ef0588429", func := "roquet/roquetlaw09.TacticsBest", spec := "tacticsBest", unfollowed := true, recurses := true, plainKeys := false, apart := false, narrowed := true }
def TacticsBestUptoSaid : Prop := tacticsBestUptoRow.holds Try.pinned (OpenSpec.upto tacticsBestSpec)

end Rows
end Go.Proofs.Ytdblbofagfhlbaa
