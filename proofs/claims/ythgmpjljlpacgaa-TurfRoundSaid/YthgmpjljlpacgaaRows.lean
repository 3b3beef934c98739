/-
  No cell of these rows narrows 'for every input' (looked for: loops, veiled, ifaces, maps, wideKeys, modest, calm, conditions, laid).
  DERIVED. THE GIVEN ROWS OF THIS SEAT. 10 by the template 'for every input the law returns true; each argument reads behind the call as it read before'; 0 by the template 'total and deterministic' (their statements: YthgmpjljlpacgaaTotals.lean).
  GIVEN WITH THE SEED: the statements are not yours to turn. If you find one false, say at which input.
  Laid BY PROGRAM, IN A SANDBOX (cutbox-rows.mjs): the forced cells as the released guide's own fill.sh prints them over the translation b3d0669fa9b0d3c2… (all of the seat's roots in one cut). By AI agents, Wed Nov 11 2026. No macro, syntax, notation, axiom, sorry.
-/
import Derived.Test.YthgmpjljlpacgaaChecked
import GoSem.Claim
import GoSem.ClaimJoined
import GoSem.ClaimMapViews
import Derived.JoinedTies
import Derived.KernelRfl
namespace Go.Proofs.Ythgmpjljlpacgaa
/- THE CELL 'sum', in the pinned program and in every row, IS THE sha256 OF THE DUMP (.gsa) THAT YthgmpjljlpacgaaProg.lean LOADS. Nothing in Lean hashes anything: it is a label: what it is worth is what the hold of that sum in a sandbox is worth. -/
noncomputable def Try.pinned : Pinned := { name := "ythgmpjljlpacgaa", sum := "b3d0669fa9b0d3c226952c8e257b1f50c93802d9c1c3de7d565b327142b4978d", checked := Try.checked }
namespace Rows
def none {H : Type} : Left H := { results := [], args := [] }

/-- 'roquetlaw01.TurfParts': WHATEVER THE INPUT: true; the input reads as it did. -/
def turfPartsSpec : ChangeSpec := { name := "turfParts", fn := fun _ => fun
  | [d1, d2, d3] => { results := [.lit (.bool true)], args := [d1, d2, d3] }
  | _ => none }
def turfPartsRow : OpenClaim := { program := "ythgmpjljlpacgaa", sum := "b3d0669fa9b0d3c226952c8e257b1f50c93802d9c1c3de7d565b327142b4978d", func := "roquet/roquetlaw01.TurfParts", spec := "turfParts", apart := false }
def TurfPartsSaid : Prop := turfPartsRow.holds Try.pinned (OpenSpec.ofChange turfPartsSpec)

/-- ITS FALSE NEIGHBOUR: 'it returns false'. Refute it at one input. -/
def turfPartsWrong : ChangeSpec := { name := "turfParts", fn := fun _ => fun
  | [d1, d2, d3] => { results := [.lit (.bool false)], args := [d1, d2, d3] }
  | _ => none }
def TurfPartsWrongFalsely : Prop := turfPartsRow.holds Try.pinned (OpenSpec.ofChange turfPartsWrong)

/-- 'roquetlaw01.TurfContact': WHATEVER THE INPUT: true; the input reads as it did. -/
def turfContactSpec : ChangeSpec := { name := "turfContact", fn := fun _ => fun
  | [d1, d2, d3, d4, d5, d6, d7] => { results := [.lit (.bool true)], args := [d1, d2, d3, d4, d5, d6, d7] }
  | _ => none }
def turfContactRow : OpenClaim := { program := "ythgmpjljlpacgaa", sum := "b3d0669fa9b0d3c226952c8e257b1f50c93802d9c1c3de7d565b327142b4978d", func := "roquet/roquetlaw01.TurfContact", spec := "turfContact", apart := false }
def TurfContactSaid : Prop := turfContactRow.holds Try.pinned (OpenSpec.ofChange turfContactSpec)

/-- ITS FALSE NEIGHBOUR: 'it returns false'. Refute it at one input. -/
def turfContactWrong : ChangeSpec := { name := "turfContact", fn := fun _ => fun
  | [d1, d2, d3, d4, d5, d6, d7] => { results := [.lit (.bool false)], args := [d1, d2, d3, d4, d5, d6, d7] }
  | _ => none }
def TurfContactWrongFalsely : Prop := turfContactRow.holds Try.pinned (OpenSpec.ofChange turfContactWrong)

/-- 'roquetlaw01.TurfTowards': WHATEVER THE INPUT: true; the input reads as it did. -/
def turfTowardsSpec : ChangeSpec := { name := "turfTowards", fn := fun _ => fun
  | [d1, d2, d3, d4] => { results := [.lit (.bool true)], args := [d1, d2, d3, d4] }
  | _ => none }
def turfTowardsRow : OpenClaim := { program := "ythgmpjljlpacgaa", sum := "b3d0669fa9b0d3c226952c8e257b1f50c93802d9c1c3de7d565b327142b4978d", func := "roquet/roquetlaw01.TurfTowards", spec := "turfTowards", apart := false }
def TurfTowardsSaid : Prop := turfTowardsRow.holds Try.pinned (OpenSpec.ofChange turfTowardsSpec)

/-- ITS FALSE NEIGHBOUR: 'it returns false'. Refute it at one input. -/
def turfTowardsWrong : ChangeSpec := { name := "turfTowards", fn := fun _ => fun
  | [d1, d2, d3, d4] => { results := [.lit (.bool false)], args := [d1, d2, d3, d4] }
  | _ => none }
def TurfTowardsWrongFalsely : Prop := turfTowardsRow.holds Try.pinned (OpenSpec.ofChange turfTowardsWrong)

/-- 'roquetlaw01.TurfMoves': WHATEVER THE INPUT: true; the input reads as it did. -/
def turfMovesSpec : ChangeSpec := { name := "turfMoves", fn := fun _ => fun
  | [d1, d2, d3, d4, d5, d6, d7] => { results := [.lit (.bool true)], args := [d1, d2, d3, d4, d5, d6, d7] }
  | _ => none }
def turfMovesRow : OpenClaim := { program := "ythgmpjljlpacgaa", sum := "b3d0669fa9b0d3c226952c8e257b1f50c93802d9c1c3de7d565b327142b4978d", func := "roquet/roquetlaw01.TurfMoves", spec := "turfMoves", apart := false }
def TurfMovesSaid : Prop := turfMovesRow.holds Try.pinned (OpenSpec.ofChange turfMovesSpec)

/-- ITS FALSE NEIGHBOUR: 'it returns false'. Refute it at one input. -/
def turfMovesWrong : ChangeSpec := { name := "turfMoves", fn := fun _ => fun
  | [d1, d2, d3, d4, d5, d6, d7] => { results := [.lit (.bool false)], args := [d1, d2, d3, d4, d5, d6, d7] }
  | _ => none }
def TurfMovesWrongFalsely : Prop := turfMovesRow.holds Try.pinned (OpenSpec.ofChange turfMovesWrong)

/-- 'roquetlaw01.TurfNumbers': WHATEVER THE INPUT: true; the input reads as it did. -/
def turfNumbersSpec : ChangeSpec := { name := "turfNumbers", fn := fun _ => fun
  | [d1, d2, d3, d4] => { results := [.lit (.bool true)], args := [d1, d2, d3, d4] }
  | _ => none }
def turfNumbersRow : OpenClaim := { program := "ythgmpjljlpacgaa", sum := "b3d0669fa9b0d3c226952c8e257b1f50c93802d9c1c3de7d565b327142b4978d", func := "roquet/roquetlaw01.TurfNumbers", spec := "turfNumbers", apart := false }
def TurfNumbersSaid : Prop := turfNumbersRow.holds Try.pinned (OpenSpec.ofChange turfNumbersSpec)

/-- ITS FALSE NEIGHBOUR: 'it returns false'. Refute it at one input. -/
def turfNumbersWrong : ChangeSpec := { name := "turfNumbers", fn := fun _ => fun
  | [d1, d2, d3, d4] => { results := [.lit (.bool false)], args := [d1, d2, d3, d4] }
  | _ => none }
def TurfNumbersWrongFalsely : Prop := turfNumbersRow.holds Try.pinned (OpenSpec.ofChange turfNumbersWrong)

/-- 'roquetlaw01.TurfRoots': WHATEVER THE INPUT: true; the input reads as it did. -/
def turfRootsSpec : ChangeSpec := { name := "turfRoots", fn := fun _ => fun
  | [d1, d2, d3, d4, d5, d6, d7, d8, d9] => { results := [.lit (.bool true)], args := [d1, d2, d3, d4, d5, d6, d7, d8, d9] }
  | _ => none }
def turfRootsRow : OpenClaim := { program := "ythgmpjljlpacgaa", sum := "b3d0669fa9b0d3c226952c8e257b1f50c93802d9c1c3de7d565b327142b4978d", func := "roquet/roquetlaw01.TurfRoots", spec := "turfRoots", apart := false }
def TurfRootsSaid : Prop := turfRootsRow.holds Try.pinned (OpenSpec.ofChange turfRootsSpec)

/-- ITS FALSE NEIGHBOUR: 'it returns false'. Refute it at one input. -/
def turfRootsWrong : ChangeSpec := { name := "turfRoots", fn := fun _ => fun
  | [d1, d2, d3, d4, d5, d6, d7, d8, d9] => { results := [.lit (.bool false)], args := [d1, d2, d3, d4, d5, d6, d7, d8, d9] }
  | _ => none }
def TurfRootsWrongFalsely : Prop := turfRootsRow.holds Try.pinned (OpenSpec.ofChange turfRootsWrong)

/-- 'roquetlaw01.TurfNear': WHATEVER THE INPUT: true; the input reads as it did. -/
def turfNearSpec : ChangeSpec := { name := "turfNear", fn := fun _ => fun
  | [d1, d2, d3, d4, d5, d6, d7] => { results := [.lit (.bool true)], args := [d1, d2, d3, d4, d5, d6, d7] }
  | _ => none }
def turfNearRow : OpenClaim := { program := "ythgmpjljlpacgaa", sum := "b3d0669fa9b0d3c226952c8e257b1f50c93802d9c1c3de7d565b327142b4978d", func := "roquet/roquetlaw01.TurfNear", spec := "turfNear", apart := false }
def TurfNearSaid : Prop := turfNearRow.holds Try.pinned (OpenSpec.ofChange turfNearSpec)

/-- ITS FALSE NEIGHBOUR: 'it returns false'. Refute it at one input. -/
def turfNearWrong : ChangeSpec := { name := "turfNear", fn := fun _ => fun
  | [d1, d2, d3, d4, d5, d6, d7] => { results := [.lit (.bool false)], args := [d1, d2, d3, d4, d5, d6, d7] }
  | _ => none }
def TurfNearWrongFalsely : Prop := turfNearRow.holds Try.pinned (OpenSpec.ofChange turfNearWrong)

/-- 'roquetlaw01.TurfRings': WHATEVER THE INPUT: true; the input reads as it did. -/
def turfRingsSpec : ChangeSpec := { name := "turfRings", fn := fun _ => fun
  | [d1, d2, d3] => { results := [.lit (.bool true)], args := [d1, d2, d3] }
  | _ => none }
def turfRingsRow : OpenClaim := { program := "ythgmpjljlpacgaa", sum := "b3d0669fa9b0d3c226952c8e257b1f50c93802d9c1c3de7d565b327142b4978d", func := "roquet/roquetlaw01.TurfRings", spec := "turfRings", unfollowed := true, recurses := true, apart := false }
def TurfRingsSaid : Prop := turfRingsRow.holds Try.pinned (OpenSpec.ofChange turfRingsSpec)

/-- ITS FALSE NEIGHBOUR: 'it returns false'. Refute it at one input. -/
def turfRingsWrong : ChangeSpec := { name := "turfRings", fn := fun _ => fun
  | [d1, d2, d3] => { results := [.lit (.bool false)], args := [d1, d2, d3] }
  | _ => none }
def TurfRingsWrongFalsely : Prop := turfRingsRow.holds Try.pinned (OpenSpec.ofChange turfRingsWrong)

/-- 'roquetlaw01.TurfSegments': WHATEVER THE INPUT: true; the input reads as it did. -/
def turfSegmentsSpec : ChangeSpec := { name := "turfSegments", fn := fun _ => fun
  | [d1, d2, d3, d4, d5, d6] => { results := [.lit (.bool true)], args := [d1, d2, d3, d4, d5, d6] }
  | _ => none }
def turfSegmentsRow : OpenClaim := { program := "ythgmpjljlpacgaa", sum := "b3d0669fa9b0d3c226952c8e257b1f50c93802d9c1c3de7d565b327142b4978d", func := "roquet/roquetlaw01.TurfSegments", spec := "turfSegments", apart := false }
def TurfSegmentsSaid : Prop := turfSegmentsRow.holds Try.pinned (OpenSpec.ofChange turfSegmentsSpec)

/-- ITS FALSE NEIGHBOUR: 'it returns false'. Refute it at one input. -/
def turfSegmentsWrong : ChangeSpec := { name := "turfSegments", fn := fun _ => fun
  | [d1, d2, d3, d4, d5, d6] => { results := [.lit (.bool false)], args := [d1, d2, d3, d4, d5, d6] }
  | _ => none }
def TurfSegmentsWrongFalsely : Prop := turfSegmentsRow.holds Try.pinned (OpenSpec.ofChange turfSegmentsWrong)

/-- 'roquetlaw01.TurfRound': WHATEVER THE INPUT: true; the input reads as it did. -/
def turfRoundSpec : ChangeSpec := { name := "turfRound", fn := fun _ => fun
  | [d1, d2, d3, d4, d5] => { results := [.lit (.bool true)], args := [d1, d2, d3, d4, d5] }
  | _ => none }
def turfRoundRow : OpenClaim := { program := "ythgmpjljlpacgaa", sum := "b3d0669fa9b0d3c226952c8e257b1f50c93802d9c1c3de7d565b327142b4978d", func := "roquet/roquetlaw01.TurfRound", spec := "turfRound", unfollowed := true, recurses := true, apart := false }
def TurfRoundSaid : Prop := turfRoundRow.holds Try.pinned (OpenSpec.ofChange turfRoundSpec)

/-- ITS FALSE NEIGHBOUR: 'it returns false'. Refute it at one input. -/
def turfRoundWrong : ChangeSpec := { name := "turfRound", fn := fun _ => fun
  | [d1, d2, d3, d4, d5] => { results := [.lit (.bool false)], args := [d1, d2, d3, d4, d5] }
  | _ => none }
def TurfRoundWrongFalsely : Prop := turfRoundRow.holds Try.pinned (OpenSpec.ofChange turfRoundWrong)

/- THE SECOND FORM. 'bulk': how many values and letters a reading holds, each counted each time it is reached (what is shared counts as often as it is met; a slice's spare places count too). A statement '..UptoSaid' is the law's where the arguments, and the package variables that the reading takes, are together of bulk at most 1048576: NARROWER than '..Said'. Prove '..Said' where nothing that the law and all that it calls make is longer than what came in: it says more and counts as full. Else prove '..UptoSaid'. A law counts once. -/
mutual
def uptoBulk {H : Type} : DataW H → Nat
  | .lit (.string bytes) => bytes.length + 1
  | .lit _ => 1
  | .nil => 1
  | .ptr d => uptoBulk d + 1
  | .slice elems spare => uptoBulkAll elems + uptoBulkAll spare + 1
  | .agg parts => uptoBulkAll parts + 1
  | .iface _ d => uptoBulk d + 1
  | .map entries => uptoBulkEntries entries + 1
  | .held _ => 1
def uptoBulkAll {H : Type} : List (DataW H) → Nat
  | [] => 0
  | d :: r => uptoBulk d + uptoBulkAll r
def uptoBulkEntries {H : Type} : List (Lit × DataW H) → Nat
  | [] => 0
  | x :: r => uptoBulkEntry x + uptoBulkEntries r
def uptoBulkEntry {H : Type} : Lit × DataW H → Nat
  | (.string bytes, d) => bytes.length + uptoBulk d + 1
  | (_, d) => uptoBulk d + 1
 end
def uptoSmall : (H : Type) → List (DataW H) → Bool := fun _ ds => decide (uptoBulkAll ds ≤ 1048576)
def OpenSpec.upto (s : _root_.Go.ChangeSpec) : _root_.Go.OpenSpec := { _root_.Go.OpenSpec.ofChange s with cond := some uptoSmall }

/-- 'roquetlaw01.TurfParts', WHERE WHAT IT READS IS OF BULK AT MOST 1048576: true; the input reads as it did. -/
def turfPartsUptoRow : OpenClaim := { program := "ythgmpjljlpacgaa", sum := "b3d0669fa9b0d3c226952c8e257b1f50c93802d9c1c3de7d565b327142b4978d", func := "roquet/roquetlaw01.TurfParts", spec := "turfParts", apart := false, narrowed := true }
def TurfPartsUptoSaid : Prop := turfPartsUptoRow.holds Try.pinned (OpenSpec.upto turfPartsSpec)

/-- 'roquetlaw01.TurfContact', WHERE WHAT IT READS IS OF BULK AT MOST 1048576: true; the input reads as it did. -/
def turfContactUptoRow : OpenClaim := { program := "ythgmpjljlpacgaa", sum := "b3d0669fa9b0d3c226952c8e257b1f50c93802d9c1c3de7d565b327142b4978d", func := "roquet/roquetlaw01.TurfContact", spec := "turfContact", apart := false, narrowed := true }
def TurfContactUptoSaid : Prop := turfContactUptoRow.holds Try.pinned (OpenSpec.upto turfContactSpec)

/-- 'roquetlaw01.TurfTowards', WHERE WHAT IT READS IS OF BULK AT MOST 1048576: true; the input reads as it did. -/
def turfTowardsUptoRow : OpenClaim := { program := "ythgmpjljlpacgaa", sum := "b3d0669fa9b0d3c226952c8e257b1f50c93802d9c1c3de7d565b327142b4978d", func := "roquet/roquetlaw01.TurfTowards", spec := "turfTowards", apart := false, narrowed := true }
def TurfTowardsUptoSaid : Prop := turfTowardsUptoRow.holds Try.pinned (OpenSpec.upto turfTowardsSpec)

/-- 'roquetlaw01.TurfMoves', WHERE WHAT IT READS IS OF BULK AT MOST 1048576: true; the input reads as it did. -/
def turfMovesUptoRow : OpenClaim := { program := "ythgmpjljlpacgaa", sum := "b3d0669fa9b0d3c226952c8e257b1f50c93802d9c1c3de7d565b327142b4978d", func := "roquet/roquetlaw01.TurfMoves", spec := "turfMoves", apart := false, narrowed := true }
def TurfMovesUptoSaid : Prop := turfMovesUptoRow.holds Try.pinned (OpenSpec.upto turfMovesSpec)

/-- 'roquetlaw01.TurfNumbers', WHERE WHAT IT READS IS OF BULK AT MOST 1048576: true; the input reads as it did. -/
def turfNumbersUptoRow : OpenClaim := { program := "ythgmpjljlpacgaa", sum := "b3d0669fa9b0d3c226952c8e257b1f50c93802d9c1c3de7d565b327142b4978d", func := "roquet/roquetlaw01.TurfNumbers", spec := "turfNumbers", apart := false, narrowed := true }
def TurfNumbersUptoSaid : Prop := turfNumbersUptoRow.holds Try.pinned (OpenSpec.upto turfNumbersSpec)

/-- 'roquetlaw01.TurfRoots', WHERE WHAT IT READS IS OF BULK AT MOST 1048576: true; the input reads as it did. -/
def turfRootsUptoRow : OpenClaim := { program := "ythgmpjljlpacgaa", sum := "b3d0669fa9b0d3c226952c8e257b1f50c93802d9c1c3de7d565b327142b4978d", func := "roquet/roquetlaw01.TurfRoots", spec := "turfRoots", apart := false, narrowed := true }
def TurfRootsUptoSaid : Prop := turfRootsUptoRow.holds Try.pinned (OpenSpec.upto turfRootsSpec)

/-- 'roquetlaw01.TurfNear', WHERE WHAT IT READS IS OF BULK AT MOST 1048576: true; the input reads as it did. -/
def turfNearUptoRow : OpenClaim := { program := "ythgmpjljlpacgaa", sum := "b3d0669fa9b0d3c226952c8e257b1f50c93802d9c1c3de7d565b327142b4978d", func := "roquet/roquetlaw01.TurfNear", spec := "turfNear", apart := false, narrowed := true }
def TurfNearUptoSaid : Prop := turfNearUptoRow.holds Try.pinned (OpenSpec.upto turfNearSpec)

/-- 'roquetlaw01.TurfRings', WHERE WHAT IT READS IS OF BULK AT MOST 1048576: true; the input reads as it did. -/
def turfRingsUptoRow : OpenClaim := { program := "ythgmpjljlpacgaa", sum := "b3d0669fa9b0d3c226952c8e257b1f50c93802d9c1c3de7d565b327142b4978d", func := "roquet/roquetlaw01.TurfRings", spec := "turfRings", unfollowed := true, recurses := true, apart := false, narrowed := true }
def TurfRingsUptoSaid : Prop := turfRingsUptoRow.holds Try.pinned (OpenSpec.upto turfRingsSpec)

/-- 'roquetlaw01.TurfSegments', WHERE WHAT IT READS IS OF BULK AT MOST 1048576: true; the input reads as it did. -/
def turfSegmentsUptoRow : OpenClaim := { program := "ythgmpjljlpacgaa", sum := "b3d0669fa9b0d3c226952c8e257b1f50c93802d9c1c3de7d565b327142b4978d", func := "roquet/roquetlaw01.TurfSegments", spec := "turfSegments", apart := false, narrowed := true }
def TurfSegmentsUptoSaid : Prop := turfSegmentsUptoRow.holds Try.pinned (OpenSpec.upto turfSegmentsSpec)

/-- 'roquetlaw01.TurfRound', WHERE WHAT IT READS IS OF BULK AT MOST 1048576: true; the input reads as it did. -/
def turfRoundUptoRow : OpenClaim := { program := "ythgmpjljlpacgaa", sum := "b3d0669fa9b0d3c226952c8e257b1f50c93802d9c1c3de7d565b327142b4978d", func := "roquet/roquetlaw01.TurfRound", spec := "turfRound", unfollowed := true, recurses := true, apart := false, narrowed := true }
def TurfRoundUptoSaid : Prop := turfRoundUptoRow.holds Try.pinned (OpenSpec.upto turfRoundSpec)

end Rows
end Go.Proofs.Ythgmpjljlpacgaa
