/-
  No cell of these rows narrows 'for every input' (looked for: loops, veiled, ifaces, maps, wideKeys, modest, calm, conditions, laid).
  DERIVED. THE GIVEN ROWS OF THIS SEAT. 5 by the template 'for every input the law returns true; each argument reads behind the call as it read before'; 0 by the template 'total and deterministic' (their statements: YtlangijnealfjaaGreatTotals.lean).
  GIVEN WITH THE SEED: the statements are not yours to turn. If you find one false, say at which input.
  Laid BY PROGRAM, IN A SANDBOX (cutbox-rows.mjs): the forced cells as the released guide's own fill.sh prints them over the translation 5790ea88772052a9… (all of the seat's roots in one cut). By AI agents, Wed Nov 11 2026. No macro, syntax, notation, axiom, sorry.
-/
import Derived.Test.YtlangijnealfjaaGreatChecked
import GoSem.Claim
import GoSem.ClaimJoined
import GoSem.ClaimMapViews
import Derived.JoinedTies
import Derived.KernelRfl
namespace Go.Proofs.YtlangijnealfjaaGreat
/- THE CELL 'sum', in the pinned program and in every row, IS THE sha256 OF THE DUMP (.gsa) THAT YtlangijnealfjaaGreatProg.lean LOADS. Nothing in Lean hashes anything: it is a label: what it is worth is what the hold of that sum in a sandbox is worth. -/
noncomputable def Tryz.pinned : Pinned := { name := "ytlangijnealfjaagreat", sum := "5790ea88772052a9387116c82fd8e41b75d902c3340a9a33c72fe52ebd84e61a", checked := Tryz.checked }
namespace Rows
def none {H : Type} : Left H := { results := [], args := [] }

/-- 'roquettop.TopSighted': WHATEVER THE INPUT: true; the input reads as it did. -/
def topSightedSpec : ChangeSpec := { name := "topSighted", fn := fun _ => fun
  | [d1, d2, d3, d4] => { results := [.lit (.bool true)], args := [d1, d2, d3, d4] }
  | _ => none }
def topSightedRow : OpenClaim := { program := "ytlangijnealfjaagreat", sum := "5790ea88772052a9387116c82fd8e41b75d902c3340a9a33c72fe52ebd84e61a", func := "roquet/roquettop.TopSighted", spec := "topSighted", unfollowed := true, recurses := true, apart := false }
def TopSightedSaid : Prop := topSightedRow.holds Tryz.pinned (OpenSpec.ofChange topSightedSpec)

/-- ITS FALSE NEIGHBOUR: 'it returns false'. Refute it at one input. -/
def topSightedWrong : ChangeSpec := { name := "topSighted", fn := fun _ => fun
  | [d1, d2, d3, d4] => { results := [.lit (.bool false)], args := [d1, d2, d3, d4] }
  | _ => none }
def TopSightedWrongFalsely : Prop := topSightedRow.holds Tryz.pinned (OpenSpec.ofChange topSightedWrong)

/-- 'roquettop.TopSeen': WHATEVER THE INPUT: true; the input reads as it did. -/
def topSeenSpec : ChangeSpec := { name := "topSeen", fn := fun _ => fun
  | [d1, d2, d3, d4] => { results := [.lit (.bool true)], args := [d1, d2, d3, d4] }
  | _ => none }
def topSeenRow : OpenClaim := { program := "ytlangijnealfjaagreat", sum := "5790ea88772052a9387116c82fd8e41b75d902c3340a9a33c72fe52ebd84e61a", func := "roquet/roquettop.TopSeen", spec := "topSeen", unfollowed := true, recurses := true, apart := false }
def TopSeenSaid : Prop := topSeenRow.holds Tryz.pinned (OpenSpec.ofChange topSeenSpec)

/-- ITS FALSE NEIGHBOUR: 'it returns false'. Refute it at one input. -/
def topSeenWrong : ChangeSpec := { name := "topSeen", fn := fun _ => fun
  | [d1, d2, d3, d4] => { results := [.lit (.bool false)], args := [d1, d2, d3, d4] }
  | _ => none }
def TopSeenWrongFalsely : Prop := topSeenRow.holds Tryz.pinned (OpenSpec.ofChange topSeenWrong)

/-- 'roquettop.TopLaidDown': WHATEVER THE INPUT: true; the input reads as it did. -/
def topLaidDownSpec : ChangeSpec := { name := "topLaidDown", fn := fun _ => fun
  | [d] => { results := [.lit (.bool true)], args := [d] }
  | _ => none }
def topLaidDownRow : OpenClaim := { program := "ytlangijnealfjaagreat", sum := "5790ea88772052a9387116c82fd8e41b75d902c3340a9a33c72fe52ebd84e61a", func := "roquet/roquettop.TopLaidDown", spec := "topLaidDown", unfollowed := true, recurses := true, apart := false }
def TopLaidDownSaid : Prop := topLaidDownRow.holds Tryz.pinned (OpenSpec.ofChange topLaidDownSpec)

/-- ITS FALSE NEIGHBOUR: 'it returns false'. Refute it at one input. -/
def topLaidDownWrong : ChangeSpec := { name := "topLaidDown", fn := fun _ => fun
  | [d] => { results := [.lit (.bool false)], args := [d] }
  | _ => none }
def TopLaidDownWrongFalsely : Prop := topLaidDownRow.holds Tryz.pinned (OpenSpec.ofChange topLaidDownWrong)

/-- 'roquettop.TopWitnessed': WHATEVER THE INPUT: true; the input reads as it did. -/
def topWitnessedSpec : ChangeSpec := { name := "topWitnessed", fn := fun _ => fun
  | [d1, d2, d3, d4] => { results := [.lit (.bool true)], args := [d1, d2, d3, d4] }
  | _ => none }
def topWitnessedRow : OpenClaim := { program := "ytlangijnealfjaagreat", sum := "5790ea88772052a9387116c82fd8e41b75d902c3340a9a33c72fe52ebd84e61a", func := "roquet/roquettop.TopWitnessed", spec := "topWitnessed", unfollowed := true, recurses := true, apart := false }
def TopWitnessedSaid : Prop := topWitnessedRow.holds Tryz.pinned (OpenSpec.ofChange topWitnessedSpec)

/-- ITS FALSE NEIGHBOUR: 'it returns false'. Refute it at one input. -/
def topWitnessedWrong : ChangeSpec := { name := "topWitnessed", fn := fun _ => fun
  | [d1, d2, d3, d4] => { results := [.lit (.bool false)], args := [d1, d2, d3, d4] }
  | _ => none }
def TopWitnessedWrongFalsely : Prop := topWitnessedRow.holds Tryz.pinned (OpenSpec.ofChange topWitnessedWrong)

/-- 'roquettop.TopFaulted': WHATEVER THE INPUT: true; the input reads as it did. -/
def topFaultedSpec : ChangeSpec := { name := "topFaulted", fn := fun _ => fun
  | [d1, d2, d3, d4, d5, d6] => { results := [.lit (.bool true)], args := [d1, d2, d3, d4, d5, d6] }
  | _ => none }
def topFaultedRow : OpenClaim := { program := "ytlangijnealfjaagreat", sum := "5790ea88772052a9387116c82fd8e41b75d902c3340a9a33c72fe52ebd84e61a", func := "roquet/roquettop.TopFaulted", spec := "topFaulted", unfollowed := true, recurses := true, apart := false }
def TopFaultedSaid : Prop := topFaultedRow.holds Tryz.pinned (OpenSpec.ofChange topFaultedSpec)

/-- ITS FALSE NEIGHBOUR: 'it returns false'. Refute it at one input. -/
def topFaultedWrong : ChangeSpec := { name := "topFaulted", fn := fun _ => fun
  | [d1, d2, d3, d4, d5, d6] => { results := [.lit (.bool false)], args := [d1, d2, d3, d4, d5, d6] }
  | _ => none }
def TopFaultedWrongFalsely : Prop := topFaultedRow.holds Tryz.pinned (OpenSpec.ofChange topFaultedWrong)

/- THE SECOND FORM. 'bulk': how many values and letters a reading holds, each counted each time it is reached (what is shared counts as often as it is met; a slice's spare places count too). A statement '..UptoSaid' is the law's where the arguments, and the package variables that the reading takes, are together of bulk at most 1048576: NARROWER than '..Said'. Prove '..Said' where nothing that the law and all that it calls make is longer than what came in: it says more and counts as full. Else prove '..UptoSaid'. A law counts once. -/
mutual
def uptoBulk {H : Type} : DataW H → Nat
  | .lit (.string bytes) => bytes.length + 1
  | .lit _ => 1
  | .nil => 1
  | .ptr d => uptoBulk d + 1
  | .slice elems spare => uptoBulkAll elems + uptoBulkAll spare + 1
  | .agg parts => uptoBulkAll parts + 1
  | .iface _ d => uptoBulk d + 1
  | .map entries => uptoBulkEntries entries + 1
  | .held _ => 1
def uptoBulkAll {H : Type} : List (DataW H) → Nat
  | [] => 0
  | d :: r => uptoBulk d + uptoBulkAll r
def uptoBulkEntries {H : Type} : List (Lit × DataW H) → Nat
  | [] => 0
  | x :: r => uptoBulkEntry x + uptoBulkEntries r
def uptoBulkEntry {H : Type} : Lit × DataW H → Nat
  | (.string bytes, d) => bytes.length + uptoBulk d + 1
  | (_, d) => uptoBulk d + 1
 end
def uptoSmall : (H : Type) → List (DataW H) → Bool := fun _ ds => decide (uptoBulkAll ds ≤ 1048576)
def OpenSpec.upto (s : _root_.Go.ChangeSpec) : _root_.Go.OpenSpec := { _root_.Go.OpenSpec.ofChange s with cond := some uptoSmall }

/-- 'roquettop.TopSighted', WHERE WHAT IT READS IS OF BULK AT MOST 1048576: true; the input reads as it did. -/
def topSightedUptoRow : OpenClaim := { program := "ytlangijnealfjaagreat", sum := "5790ea88772052a9387116c82fd8e41b75d902c3340a9a33c72fe52ebd84e61a", func := "roquet/roquettop.TopSighted", spec := "topSighted", unfollowed := true, recurses := true, apart := false, narrowed := true }
def TopSightedUptoSaid : Prop := topSightedUptoRow.holds Tryz.pinned (OpenSpec.upto topSightedSpec)

/-- 'roquettop.TopSeen', WHERE WHAT IT READS IS OF BULK AT MOST 1048576: true; the input reads as it did. -/
def topSeenUptoRow : OpenClaim := { program := "ytlangijnealfjaagreat", sum := "5790ea88772052a9387116c82fd8e41b75d902c3340a9a33c72fe52ebd84e61a", func := "roquet/roquettop.TopSeen", spec := "topSeen", unfollowed := true, recurses := true, apart := false, narrowed := true }
def TopSeenUptoSaid : Prop := topSeenUptoRow.holds Tryz.pinned (OpenSpec.upto topSeenSpec)

/-- 'roquettop.TopLaidDown', WHERE WHAT IT READS IS OF BULK AT MOST 1048576: true; the input reads as it did. -/
def topLaidDownUptoRow : OpenClaim := { program := "ytlangijnealfjaagreat", sum := "5790ea88772052a9387116c82fd8e41b75d902c3340a9a33c72fe52ebd84e61a", func := "roquet/roquettop.TopLaidDown", spec := "topLaidDown", unfollowed := true, recurses := true, apart := false, narrowed := true }
def TopLaidDownUptoSaid : Prop := topLaidDownUptoRow.holds Tryz.pinned (OpenSpec.upto topLaidDownSpec)

/-- 'roquettop.TopWitnessed', WHERE WHAT IT READS IS OF BULK AT MOST 1048576: true; the input reads as it did. -/
def topWitnessedUptoRow : OpenClaim := { program := "ytlangijnealfjaagreat", sum := "5790ea88772052a9387116c82fd8e41b75d902c3340a9a33c72fe52ebd84e61a", func := "roquet/roquettop.TopWitnessed", spec := "topWitnessed", unfollowed := true, recurses := true, apart := false, narrowed := true }
def TopWitnessedUptoSaid : Prop := topWitnessedUptoRow.holds Tryz.pinned (OpenSpec.upto topWitnessedSpec)

/-- 'roquettop.TopFaulted', WHERE WHAT IT READS IS OF BULK AT MOST 1048576: true; the input reads as it did. -/
def topFaultedUptoRow : OpenClaim := { program := "ytlangijnealfjaagreat", sum := "5790ea88772052a9387116c82fd8e41b75d902c3340a9a33c72fe52ebd84e61a", func := "roquet/roquettop.TopFaulted", spec := "topFaulted", unfollowed := true, recurses := true, apart := false, narrowed := true }
def TopFaultedUptoSaid : Prop := topFaultedUptoRow.holds Tryz.pinned (OpenSpec.upto topFaultedSpec)

end Rows
end Go.Proofs.YtlangijnealfjaaGreat
