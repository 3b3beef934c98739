/-
  No cell of these rows narrows 'for every input' (looked for: loops, veiled, ifaces, maps, wideKeys, modest, calm, conditions, laid).
  DERIVED. THE GIVEN ROWS OF THIS SEAT. 6 by the template 'for every input the law returns true; each argument reads behind the call as it read before'; 0 by the template 'total and deterministic' (their statements: YtcfanlgpkefogaaGreatTotals.lean).
  GIVEN WITH THE SEED: the statements are not yours to turn. If you find one false, say at which input.
  Laid BY PROGRAM, IN A SANDBOX (cutbox-rows.mjs): the forced cells as the released guide's own fill.sh prints them over the translation 016660536d7750d6… (all of the seat's roots in one cut). By AI agents, Wed Nov 11 2026. No macro, syntax, notation, axiom, sorry.
-/
import Derived.Test.YtcfanlgpkefogaaGreatChecked
import GoSem.Claim
import GoSem.ClaimJoined
import GoSem.ClaimMapViews
import Derived.JoinedTies
import Derived.KernelRfl
namespace Go.Proofs.YtcfanlgpkefogaaGreat
/- THE CELL 'sum', in the pinned program and in every row, IS THE sha256 OF THE DUMP (.gsa) THAT YtcfanlgpkefogaaGreatProg.lean LOADS. Nothing in Lean hashes anything: it is a label: what it is worth is what the hold of that sum in a sandbox is worth. -/
noncomputable def Tryz.pinned : Pinned := { name := "ytcfanlgpkefogaagreat", sum := "016660536d7750d65d32e622b081d8d06b4583174043e97ed79c2622166083aa", checked := Tryz.checked }
namespace Rows
def none {H : Type} : Left H := { results := [], args := [] }

/-- 'roquettop.TopConserved': WHATEVER THE INPUT: true; the input reads as it did. -/
def topConservedSpec : ChangeSpec := { name := "topConserved", fn := fun _ => fun
  | [d1, d2, d3, d4] => { results := [.lit (.bool true)], args := [d1, d2, d3, d4] }
  | _ => none }
def topConservedRow : OpenClaim := { program := "ytcfanlgpkefogaagreat", sum := "016660536d7750d65d32e622b081d8d06b4583174043e97ed79c2622166083aa", func := "roquet/roquettop.TopConserved", spec := "topConserved", unfollowed := true, recurses := true, apart := false }
def TopConservedSaid : Prop := topConservedRow.holds Tryz.pinned (OpenSpec.ofChange topConservedSpec)

/-- ITS FALSE NEIGHBOUR: 'it returns false'. Refute it at one input. -/
def topConservedWrong : ChangeSpec := { name := "topConserved", fn := fun _ => fun
  | [d1, d2, d3, d4] => { results := [.lit (.bool false)], args := [d1, d2, d3, d4] }
  | _ => none }
def TopConservedWrongFalsely : Prop := topConservedRow.holds Tryz.pinned (OpenSpec.ofChange topConservedWrong)

/-- 'roquettop.TopTired': WHATEVER THE INPUT: true; the input reads as it did. -/
def topTiredSpec : ChangeSpec := { name := "topTired", fn := fun _ => fun
  | [d1, d2, d3, d4, d5] => { results := [.lit (.bool true)], args := [d1, d2, d3, d4, d5] }
  | _ => none }
def topTiredRow : OpenClaim := { program := "ytcfanlgpkefogaagreat", sum := "016660536d7750d65d32e622b081d8d06b4583174043e97ed79c2622166083aa", func := "roquet/roquettop.TopTired", spec := "topTired", unfollowed := true, recurses := true, apart := false }
def TopTiredSaid : Prop := topTiredRow.holds Tryz.pinned (OpenSpec.ofChange topTiredSpec)

/-- ITS FALSE NEIGHBOUR: 'it returns false'. Refute it at one input. -/
def topTiredWrong : ChangeSpec := { name := "topTired", fn := fun _ => fun
  | [d1, d2, d3, d4, d5] => { results := [.lit (.bool false)], args := [d1, d2, d3, d4, d5] }
  | _ => none }
def TopTiredWrongFalsely : Prop := topTiredRow.holds Tryz.pinned (OpenSpec.ofChange topTiredWrong)

/-- 'roquettop.TopGrass': WHATEVER THE INPUT: true; the input reads as it did. -/
def topGrassSpec : ChangeSpec := { name := "topGrass", fn := fun _ => fun
  | [d1, d2, d3, d4, d5] => { results := [.lit (.bool true)], args := [d1, d2, d3, d4, d5] }
  | _ => none }
def topGrassRow : OpenClaim := { program := "ytcfanlgpkefogaagreat", sum := "016660536d7750d65d32e622b081d8d06b4583174043e97ed79c2622166083aa", func := "roquet/roquettop.TopGrass", spec := "topGrass", unfollowed := true, recurses := true, apart := false }
def TopGrassSaid : Prop := topGrassRow.holds Tryz.pinned (OpenSpec.ofChange topGrassSpec)

/-- ITS FALSE NEIGHBOUR: 'it returns false'. Refute it at one input. -/
def topGrassWrong : ChangeSpec := { name := "topGrass", fn := fun _ => fun
  | [d1, d2, d3, d4, d5] => { results := [.lit (.bool false)], args := [d1, d2, d3, d4, d5] }
  | _ => none }
def TopGrassWrongFalsely : Prop := topGrassRow.holds Tryz.pinned (OpenSpec.ofChange topGrassWrong)

/-- 'roquettop.TopHindered': WHATEVER THE INPUT: true; the input reads as it did. -/
def topHinderedSpec : ChangeSpec := { name := "topHindered", fn := fun _ => fun
  | [d1, d2, d3, d4] => { results := [.lit (.bool true)], args := [d1, d2, d3, d4] }
  | _ => none }
def topHinderedRow : OpenClaim := { program := "ytcfanlgpkefogaagreat", sum := "016660536d7750d65d32e622b081d8d06b4583174043e97ed79c2622166083aa", func := "roquet/roquettop.TopHindered", spec := "topHindered", unfollowed := true, recurses := true, apart := false }
def TopHinderedSaid : Prop := topHinderedRow.holds Tryz.pinned (OpenSpec.ofChange topHinderedSpec)

/-- ITS FALSE NEIGHBOUR: 'it returns false'. Refute it at one input. -/
def topHinderedWrong : ChangeSpec := { name := "topHindered", fn := fun _ => fun
  | [d1, d2, d3, d4] => { results := [.lit (.bool false)], args := [d1, d2, d3, d4] }
  | _ => none }
def TopHinderedWrongFalsely : Prop := topHinderedRow.holds Tryz.pinned (OpenSpec.ofChange topHinderedWrong)

/-- 'roquettop.TopThrough': WHATEVER THE INPUT: true; the input reads as it did. -/
def topThroughSpec : ChangeSpec := { name := "topThrough", fn := fun _ => fun
  | [d1, d2, d3, d4, d5] => { results := [.lit (.bool true)], args := [d1, d2, d3, d4, d5] }
  | _ => none }
def topThroughRow : OpenClaim := { program := "ytcfanlgpkefogaagreat", sum := "016660536d7750d65d32e622b081d8d06b4583174043e97ed79c2622166083aa", func := "roquet/roquettop.TopThrough", spec := "topThrough", unfollowed := true, recurses := true, apart := false }
def TopThroughSaid : Prop := topThroughRow.holds Tryz.pinned (OpenSpec.ofChange topThroughSpec)

/-- ITS FALSE NEIGHBOUR: 'it returns false'. Refute it at one input. -/
def topThroughWrong : ChangeSpec := { name := "topThrough", fn := fun _ => fun
  | [d1, d2, d3, d4, d5] => { results := [.lit (.bool false)], args := [d1, d2, d3, d4, d5] }
  | _ => none }
def TopThroughWrongFalsely : Prop := topThroughRow.holds Tryz.pinned (OpenSpec.ofChange topThroughWrong)

/-- 'roquettop.TopReturned': WHATEVER THE INPUT: true; the input reads as it did. -/
def topReturnedSpec : ChangeSpec := { name := "topReturned", fn := fun _ => fun
  | [d1, d2, d3] => { results := [.lit (.bool true)], args := [d1, d2, d3] }
  | _ => none }
def topReturnedRow : OpenClaim := { program := "ytcfanlgpkefogaagreat", sum := "016660536d7750d65d32e622b081d8d06b4583174043e97ed79c2622166083aa", func := "roquet/roquettop.TopReturned", spec := "topReturned", unfollowed := true, recurses := true, apart := false }
def TopReturnedSaid : Prop := topReturnedRow.holds Tryz.pinned (OpenSpec.ofChange topReturnedSpec)

/-- ITS FALSE NEIGHBOUR: 'it returns false'. Refute it at one input. -/
def topReturnedWrong : ChangeSpec := { name := "topReturned", fn := fun _ => fun
  | [d1, d2, d3] => { results := [.lit (.bool false)], args := [d1, d2, d3] }
  | _ => none }
def TopReturnedWrongFalsely : Prop := topReturnedRow.holds Tryz.pinned (OpenSpec.ofChange topReturnedWrong)

/- THE SECOND FORM. 'bulk': how many values and letters a reading holds, each counted each time it is reached (what is shared counts as often as it is met; a slice's spare places count too). A statement '..UptoSaid' is the law's where the arguments, and the package variables that the reading takes, are together of bulk at most 1048576: NARROWER than '..Said'. Prove '..Said' where nothing that the law and all that it calls make is longer than what came in: it says more and counts as full. Else prove '..UptoSaid'. A law counts once. -/
mutual
def uptoBulk {H : Type} : DataW H → Nat
  | .lit (.string bytes) => bytes.length + 1
  | .lit _ => 1
  | .nil => 1
  | .ptr d => uptoBulk d + 1
  | .slice elems spare => uptoBulkAll elems + uptoBulkAll spare + 1
  | .agg parts => uptoBulkAll parts + 1
  | .iface _ d => uptoBulk d + 1
  | .map entries => uptoBulkEntries entries + 1
  | .held _ => 1
def uptoBulkAll {H : Type} : List (DataW H) → Nat
  | [] => 0
  | d :: r => uptoBulk d + uptoBulkAll r
def uptoBulkEntries {H : Type} : List (Lit × DataW H) → Nat
  | [] => 0
  | x :: r => uptoBulkEntry x + uptoBulkEntries r
def uptoBulkEntry {H : Type} : Lit × DataW H → Nat
  | (.string bytes, d) => bytes.length + uptoBulk d + 1
  | (_, d) => uptoBulk d + 1
 end
def uptoSmall : (H : Type) → List (DataW H) → Bool := fun _ ds => decide (uptoBulkAll ds ≤ 1048576)
def OpenSpec.upto (s : _root_.Go.ChangeSpec) : _root_.Go.OpenSpec := { _root_.Go.OpenSpec.ofChange s with cond := some uptoSmall }

/-- 'roquettop.TopConserved', WHERE WHAT IT READS IS OF BULK AT MOST 1048576: true; the input reads as it did. -/
def topConservedUptoRow : OpenClaim := { program := "ytcfanlgpkefogaagreat", sum := "016660536d7750d65d32e622b081d8d06b4583174043e97ed79c2622166083aa", func := "roquet/roquettop.TopConserved", spec := "topConserved", unfollowed := true, recurses := true, apart := false, narrowed := true }
def TopConservedUptoSaid : Prop := topConservedUptoRow.holds Tryz.pinned (OpenSpec.upto topConservedSpec)

/-- 'roquettop.TopTired', WHERE WHAT IT READS IS OF BULK AT MOST 1048576: true; the input reads as it did. -/
def topTiredUptoRow : OpenClaim := { program := "ytcfanlgpkefogaagreat", sum := "016660536d7750d65d32e622b081d8d06b4583174043e97ed79c2622166083aa", func := "roquet/roquettop.TopTired", spec := "topTired", unfollowed := true, recurses := true, apart := false, narrowed := true }
def TopTiredUptoSaid : Prop := topTiredUptoRow.holds Tryz.pinned (OpenSpec.upto topTiredSpec)

/-- 'roquettop.TopGrass', WHERE WHAT IT READS IS OF BULK AT MOST 1048576: true; the input reads as it did. -/
def topGrassUptoRow : OpenClaim := { program := "ytcfanlgpkefogaagreat", sum := "016660536d7750d65d32e622b081d8d06b4583174043e97ed79c2622166083aa", func := "roquet/roquettop.TopGrass", spec := "topGrass", unfollowed := true, recurses := true, apart := false, narrowed := true }
def TopGrassUptoSaid : Prop := topGrassUptoRow.holds Tryz.pinned (OpenSpec.upto topGrassSpec)

/-- 'roquettop.TopHindered', WHERE WHAT IT READS IS OF BULK AT MOST 1048576: true; the input reads as it did. -/
def topHinderedUptoRow : OpenClaim := { program := "ytcfanlgpkefogaagreat", sum := "016660536d7750d65d32e622b081d8d06b4583174043e97ed79c2622166083aa", func := "roquet/roquettop.TopHindered", spec := "topHindered", unfollowed := true, recurses := true, apart := false, narrowed := true }
def TopHinderedUptoSaid : Prop := topHinderedUptoRow.holds Tryz.pinned (OpenSpec.upto topHinderedSpec)

/-- 'roquettop.TopThrough', WHERE WHAT IT READS IS OF BULK AT MOST 1048576: true; the input reads as it did. -/
def topThroughUptoRow : OpenClaim := { program := "ytcfanlgpkefogaagreat", sum := "016660536d7750d65d32e622b081d8d06b4583174043e97ed79c2622166083aa", func := "roquet/roquettop.TopThrough", spec := "topThrough", unfollowed := true, recurses := true, apart := false, narrowed := true }
def TopThroughUptoSaid : Prop := topThroughUptoRow.holds Tryz.pinned (OpenSpec.upto topThroughSpec)

/-- 'roquettop.TopReturned', WHERE WHAT IT READS IS OF BULK AT MOST 1048576: true; the input reads as it did. -/
def topReturnedUptoRow : OpenClaim := { program := "ytcfanlgpkefogaagreat", sum := "016660536d7750d65d32e622b081d8d06b4583174043e97ed79c2622166083aa", func := "roquet/roquettop.TopReturned", spec := "topReturned", unfollowed := true, recurses := true, apart := false, narrowed := true }
def TopReturnedUptoSaid : Prop := topReturnedUptoRow.holds Tryz.pinned (OpenSpec.upto topReturnedSpec)

end Rows
end Go.Proofs.YtcfanlgpkefogaaGreat
